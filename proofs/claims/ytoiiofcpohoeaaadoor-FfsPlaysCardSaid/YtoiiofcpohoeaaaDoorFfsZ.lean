/- walk and All of package ffs: all numbers, rising. -/
import Derived.Test.YtoiiofcpohoeaaaDoorFfsY
import Derived.Test.YtoiiofcpohoeaaaDoorRange
namespace Go.Proofs.YtoiiofcpohoeaaaDoor
open Go.RowKit Go.Shelf
attribute [local go_sem] Oper.semAt_some

theorem next_split (m : List Int) (hs : m.Pairwise (· < ·)) (pre post : List Int) (x : Int) (h : m = pre ++ x :: post) (i : Int) (h1 : ∀ z ∈ pre, z < i) (h2 : i ≤ x) : nextL m i = x := by
  subst h
  unfold nextL
  have : (pre ++ x :: post).find? (fun y => decide (i ≤ y)) = some x := by
    rw [List.find?_append]
    have hp : pre.find? (fun y => decide (i ≤ y)) = none := by
      rw [List.find?_eq_none]; intro z hz; have := h1 z hz; simp; omega
    rw [hp]; simp [h2]
  rw [this]; rfl
theorem next_end (m : List Int) (i : Int) (h : ∀ z ∈ m, z < i) : nextL m i = -1 := by
  unfold nextL
  have : m.find? (fun y => decide (i ≤ y)) = none := by
    rw [List.find?_eq_none]; intro z hz; have := h z hz; simp; omega
  rw [this]; rfl

theorem next_head {k : Nat} (m : List Int) (h : ∀ z ∈ m, 0 ≤ z ∧ z < ((64 ^ k : Nat) : Int)) : nextL m 0 = m.head?.getD (-1) := by
  cases m with
  | nil => rfl
  | cons a r => have := (h a (by simp)).1; simp [nextL, this]
theorem next_after (m : List Int) (hs : m.Pairwise (· < ·)) (pre post : List Int) (x : Int) (h : m = pre ++ x :: post) : nextL m (x + 1) = post.head?.getD (-1) := by
  have hs' := hs
  rw [h] at hs'
  obtain ⟨_, h2, h3⟩ := List.pairwise_append.1 hs'
  have h4 := List.pairwise_cons.1 h2
  cases post with
  | nil =>
    refine next_end m _ (fun z hz => ?_)
    rw [h] at hz
    rcases List.mem_append.1 hz with hz | hz
    · have := h3 z hz x (by simp); omega
    · simp at hz; omega
  | cons y r =>
    refine next_split m hs (pre ++ [x]) r y (by rw [h]; simp) _ (fun z hz => ?_) (by have := h4.1 y (by simp); omega)
    rcases List.mem_append.1 hz with hz | hz
    · have := h3 z hz x (by simp); omega
    · simp at hz; omega

def wmeas (i : Int) : Nat := if i < 0 then 0 else (1000000 - i).toNat
theorem wm_neg : wmeas (-1) = 0 := rfl
theorem wm_nat (z : Nat) : wmeas (z : Int) = 1000000 - z := by unfold wmeas; rw [if_neg (by omega)]; omega

set_option maxRecDepth 100000 in
set_option maxHeartbeats 2000000 in
theorem fWalk (p k bl : Nat) (B : Nat → Nat) (L : Lv) (m : List Int) (w : World) (h : FSet w p k bl B L m.length) (ok : Ok k L m) (k3 : k ≤ 3) (hT : Tab w) (S : Nat → Prop) (hS : ∀ b, Fp p bl B k b → ¬ S b) (hS0 : ¬ S 0) :
    Tells Tryd.prog 22 (fun y => #[.pointer (some ⟨p, 0, none⟩)] ++ #[y] ++ #[]) (fun x : Int => #[.int .i64 x]) m S w := by
  intro l J W hkp hJ hY h0
  have hfs : ∀ W, Kp S w W → FSet W p k bl B L m.length ∧ Tab W := fun W hk => ⟨h.kp hk hS, hT.kp hk hS0⟩
  refine callsIn_of_wp Tryd.func22 rfl trivial ?_ rfl
  simp only [Tryd.ntmps22, List.size_toArray, List.length_cons, List.length_nil, Nat.reduceAdd, Nat.reduceSub, Array.replicate_succ, Array.replicate_zero, List.push_toArray, List.append_toArray, List.nil_append, List.cons_append]
  have hlen := fLen p k bl B L m.length W (hfs W hkp).1
  obtain ⟨cap, c0⟩ := (hfs W hkp).1.c0
  have HL := Lib.hid hlen; clear hlen
  have hzero : m = [] ∨ ((m.length : Int) == 0) = false := by
    cases m with
    | nil => exact .inl rfl
    | cons a r => right; simp; omega
  rcases hzero with rfl | hz
  · gi_wp2_with (refine ⟨trivial, rfl, ?_⟩; gi_at_call 17; refine (callsIn_wide.2 HL.out).mono ?_; rintro e w' ⟨rfl, rfl⟩)
    refine bodyPost_ret (results_none rfl _ _ _) rfl ?_
    exact ⟨⟨_, rfl⟩, h0, hkp⟩
  · have k1 := ok.k1
    have hab := fun (W : World) (hk : Kp S w W) (i : Nat) (hi : i ≤ 9223372036854775807) => fAbove p k bl B L m.length m W (hfs W hk).1 ok k3 (hfs W hk).2 (k - 1) i (by omega) hi
    simp only [ok.above] at hab
    rw [show ((k - 1 : Nat) : Int) = (k : Int) - 1 from by omega] at hab
    have hab0 := hab W hkp 0 (by omega)
    rw [show ((0 : Nat) : Int) = 0 from rfl] at hab0
    have H0 := Lib.hid hab0
    have HA := Lib.hid hab
    have HY := Lib.hid hY
    have HJ := Lib.hid hJ
    have HF := Lib.hid hfs
    have HM := Lib.hid ok.mem
    have HS := Lib.hid ok.sorted
    clear hab hab0 hY hJ hfs h ok
    gi_wp2_with (refine ⟨trivial, rfl, ?_⟩; first | (gi_at_call 17; refine (callsIn_wide.2 HL.out).mono ?_; rintro e w' ⟨rfl, rfl⟩) | (gi_at_call 21; refine (callsIn_wide.2 H0.out).mono ?_; rintro e w' ⟨rfl, rfl⟩))
    gi_loopw [5] (fun s5 wr => ∃ (pre post : List Int) (q : Int), Hid (m = pre ++ post) ∧ s5 = .int .i64 q ∧ Hid (q = post.head?.getD (-1)) ∧ Hid (J pre wr) ∧ Hid (Kp S w wr)) (fun s5 _ => wmeas (intOf s5))
    case atStart => exact ⟨[], m, _, rfl, rfl, next_head m HM.out, h0, hkp⟩
    case round =>
      obtain ⟨pre, post, q, hm, rfl, hq, hj, hk⟩ := hrel
      cases post with
      | nil =>
        obtain rfl : q = -1 := hq.out
        clear hq
        gi_wp2
        go_end0
        have := hm.out
        rw [List.append_nil] at this
        exact ⟨⟨_, rfl⟩, by rw [this]; exact hj.out, hk.out⟩
      | cons x post =>
        obtain rfl : q = x := hq.out
        clear hq
        have hx := HM.out q (by rw [hm.out]; simp)
        obtain ⟨z, rfl⟩ : ∃ z : Nat, q = z := ⟨q.toNat, by omega⟩
        have hz6 : z < 262144 := by have := pow64 (k - 1) (by omega); have e : 64 ^ k = 64 ^ (k - 1) * 64 := by rw [← Nat.pow_succ]; congr 1; omega
                                    omega
        clear hx
        obtain ⟨f1, t1, a1, b1, hy1, hR1⟩ := HY.out pre z post wr hm.out hj.out hk.out
        have HR := Lib.hid hR1
        clear hR1
        gi_wp2
        refine ⟨rfl, (HR.out).mono ?_⟩
        rintro e W1 ⟨rfl, hJ1, hk1⟩
        have hab := HA.out W1 hk1 (z + 1) (by omega)
        rw [show ((z + 1 : Nat) : Int) = (z : Int) + 1 from by omega] at hab
        have HB := Lib.hid hab
        clear hab hy1
        have hnx : nextL m ((z : Int) + 1) = post.head?.getD (-1) := next_after m HS.out pre post z hm.out
        rw [hnx] at HB
        have hv : post.head?.getD (-1) = -1 ∨ ∃ y : Nat, post.head?.getD (-1) = y ∧ z < y ∧ y < 262144 := by
          have hs := HS.out
          have hmm := HM.out
          rw [hm.out] at hs hmm
          cases post with
          | nil => exact .inl rfl
          | cons y r =>
            right
            have h1 := (List.pairwise_cons.1 (List.pairwise_append.1 hs).2.1).1 y (by simp)
            have h2 := hmm y (by simp)
            have := pow64 (k - 1) (by omega); have e : 64 ^ k = 64 ^ (k - 1) * 64 := by rw [← Nat.pow_succ]; congr 1; omega
            exact ⟨y.toNat, by simp; omega, by omega, by omega⟩
        have HN := Lib.hid hnx
        clear hnx
        generalize hr : post.head?.getD (-1) = r at *
        have HRR := Lib.hid hr; clear hr
        have HV := Lib.hid hv; clear hv
        have hj1 := Lib.hid hJ1
        have hkk := Lib.hid hk1
        clear hJ1 hk1
        gi_wp2_with (refine ⟨trivial, rfl, ?_⟩; gi_at_call 21; refine (callsIn_wide.2 HB.out).mono ?_; rintro e w' ⟨rfl, rfl⟩)
        go_roundw
        case rel => exact ⟨pre ++ [(z : Int)], post, r, by rw [hm.out]; simp [Hid], rfl, HRR.out.symm, hj1.out, hkk.out⟩
        case measure =>
          rcases HV.out with h | ⟨y, h, h1, h2⟩
          · subst h; show wmeas (-1) < wmeas (z : Int); rw [wm_neg, wm_nat]; omega
          · subst h; show wmeas (y : Int) < wmeas (z : Int); rw [wm_nat, wm_nat]; omega

def AllI (w : World) (pre : List Int) (W : World) : Prop := ∃ v, Blk W w.heap.size [v] 29 ∧ W.ownsRow (w.heap.size + 1) 3 1 v pre.length (ints pre)

set_option maxRecDepth 100000 in
set_option maxHeartbeats 2000000 in
theorem fAll (p k bl : Nat) (B : Nat → Nat) (L : Lv) (m : List Int) (w : World) (h : FSet w p k bl B L m.length) (ok : Ok k L m) (k3 : k ≤ 3) (hT : Tab w) (hm : m.length ≤ 1000000) :
    Calls Tryd.prog 20 #[.pointer (some ⟨p, 0, none⟩)] w fun e w' => ∃ v, e = .returned v ∧ w'.ownsRow w.heap.size 3 1 v m.length (ints m) ∧ Kp none' w w' := by
  refine (callsIn_wide (n := 0)).1 ?_
  refine callsIn_of_wp_marks Tryd.func20 rfl trivial ?_ rfl
  simp only [Tryd.ntmps20, List.size_toArray, List.length_cons, List.length_nil, Nat.reduceAdd, Nat.reduceSub, Array.replicate_succ, Array.replicate_zero, List.push_toArray, List.append_toArray, List.nil_append, List.cons_append]
  gi_wp2
  have hb0 : 0 < w.heap.size := World.block_lt_of_cell? w ⟨0, 0, none⟩ (hT 0 (by decide))
  have hw := fWalk p k bl B L m (w.alloc (.cells #[.slice none 0 0] 29)) (h.old ((Kp.refl _ _).alloc _)) ok k3 (hT.kp ((Kp.refl none' _).alloc _) id) (fun b => w.heap.size ≤ b) (fun b hb hs => by have := h.lt hb; omega) (by omega)
  refine wp_range (first := #[.pointer (some ⟨p, 0, none⟩)]) (captured := #[]) rfl (enters_of Tryd.func22 (by kernel_rfl) rfl) (fun b hb => by simp at hb; omega) hw (fun _ => rfl)
    (AllI w) (fun pre A B ⟨v, h1, h2⟩ k => ⟨v, h1.nc k, own_nc h2 k⟩) ⟨_, Blk.new _ [_] _, World.ownsRow_nil _ _ _ _⟩ (fun x => { tmps := #[.pointer (some ⟨p, 0, none⟩), undef, .slice none 0 0, .pointer (some ⟨w.heap.size, 0, none⟩), .int .i64 x, .pointer (some ⟨p, 0, none⟩), .func (.func 22) #[.pointer (some ⟨p, 0, none⟩)] #[], .int .i64 x, undef, undef, undef, undef, undef], defers := [] }) ?assign ?body ?done
  case assign =>
    intro l x W K hK
    gi_wp2
    exact hK
  case body =>
    rintro l pre x post W hmm ⟨v, hblk, hown⟩ hkp
    have hlen : pre.length < 1000000 := by
      have := congrArg List.length hmm; simp at this; omega
    have c0 := hblk.cell 0 rfl
    have hlt := hblk.lt
    have hsz := hkp.size
    simp at hsz
    have HM := Lib.hid hmm; clear hmm
    gi_wp2_with (gi_at_builtin; refine wpIn_app1 ti (.tmp 8) (.tmp 10) rfl rfl (w.heap.size + 1) (hown.alloc _) [.int .i64 x] rfl rfl rfl (heap_new _ _) rfl (by omega) (by omega) (by simp; omega) ?_)
    intro g cap w1 hown1 hgrow
    have hblk1 := (hblk.alloc (.cells #[.int .i64 x] 3)).grown hgrow (fun e => by have := (own_block hown e.symm).1; omega)
    have d0 := hblk1.cell 0 rfl
    have f0 := hblk1.fz 0
    have hko := (KeepsOthers.alloc W (.cells #[.int .i64 x] 3)).trans (own_cells (hown.alloc (.cells #[.int .i64 x] 3)) hgrow)
    have hkp1 := (hkp.alloc (.cells #[.int .i64 x] 3)).grown hgrow (fun b e => .inl (by have := (own_block hown e).1; show w.heap.size ≤ b; omega))
    gi_wp2
    refine ⟨⟨_, hblk1.set 0 _, ?_⟩, hkp1.set (p := ⟨w.heap.size, 0, none⟩) (.inl (Nat.le_refl _)) _, hko.trans (KeepsOthers.setCell _ _ _)⟩
    have h2 := ownsRow_setCell_below hown1 (a := ⟨w.heap.size, 0, none⟩) (Nat.lt_succ_self _) (.slice (some ⟨g, 0, none⟩) (pre.length + 1) cap)
    rw [ints_snoc]
    simpa using h2
  case done =>
    rintro D W ⟨v, hblk, hown⟩ hkp hD hK
    have c0 := hblk.cell 0 rfl
    gi_wp2
    refine ⟨by simp, .inl ⟨_, _, rfl, run_takeDeferred hK, ?_⟩⟩
    refine ⟨_, results_tmp rfl _ _ _, ?_⟩
    refine ⟨v, rfl, own_nc (own_base hown (by omega)) (NC.put _ hK rfl), ?_⟩
    have hk2 : Kp (fun b => w.heap.size ≤ b) w (W.putObj D (.deferred none)) := (((Kp.refl _ _).alloc _).then hkp (fun _ _ h => h)).put (.inl (by simp at hD; omega)) _
    exact hk2.mono (fun b hb h => by omega)

end Go.Proofs.YtoiiofcpohoeaaaDoor
