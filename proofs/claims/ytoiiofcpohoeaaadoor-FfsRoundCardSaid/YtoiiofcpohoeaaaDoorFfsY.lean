/- What New, From and All of package ffs compute. -/
import Derived.Test.YtoiiofcpohoeaaaDoorFfsX
namespace Go.Proofs.YtoiiofcpohoeaaaDoor
open Go.RowKit

theorem find_max (m : List Int) (i : Int) (h : ∀ z ∈ m, 0 ≤ z) : m.find? (fun y => decide (max i 0 ≤ y)) = m.find? (fun y => decide (i ≤ y)) := by
  induction m with
  | nil => rfl
  | cons a r ih =>
    have ha := h a (by simp)
    have : decide (max i 0 ≤ a) = decide (i ≤ a) := by rw [decide_eq_decide]; omega
    simp only [List.find?_cons, this, ih (fun z hz => h z (by simp [hz]))]
theorem from_hit (m : List Int) (i : Int) (h : ∀ z ∈ m, 0 ≤ z) (hr : 0 ≤ nextL m (max i 0)) : fromL m i = (nextL m (max i 0), true) := by
  unfold nextL at *
  rw [find_max m i h] at *
  unfold fromL
  cases hf : m.find? (fun y => decide (i ≤ y)) with
  | none => rw [hf] at hr; simp at hr
  | some y => rfl
theorem from_miss (m : List Int) (i : Int) (h : ∀ z ∈ m, 0 ≤ z) (hm : m ≠ []) (hr : nextL m (max i 0) < 0) : fromL m i = (nextL m 0, true) := by
  unfold nextL at *
  rw [find_max m i h] at *
  unfold fromL
  cases hf : m.find? (fun y => decide (i ≤ y)) with
  | some y =>
    rw [hf] at hr
    have := h y (List.mem_of_find?_eq_some hf)
    simp at hr; omega
  | none =>
    cases m with
    | nil => exact absurd rfl hm
    | cons a r => simp [h a (by simp)]

set_option maxHeartbeats 1000000 in
theorem fFrom0 (p k bl : Nat) (B : Nat → Nat) (L : Lv) (i : Int) (w : World) (h : FSet w p k bl B L 0) :
    Calls Tryd.prog 14 #[.pointer (some ⟨p, 0, none⟩), .int .i64 i] w fun e w' => e = .returned (.tuple #[.int .i64 0, .bool false]) ∧ w = w' := by
  have hl := fLen p k bl B L 0 w h
  clear h
  go_enter Tryd.func14, Tryd.ntmps14
  go_wp2_with fail
  refine hl.mono ?_
  rintro e w' ⟨rfl, rfl⟩
  go_wp2
  go_ret2
  exact ⟨rfl, rfl⟩

set_option maxHeartbeats 1000000 in
theorem fFrom (p k bl : Nat) (B : Nat → Nat) (L : Lv) (m : List Int) (i : Int) (w : World) (h : FSet w p k bl B L m.length) (ok : Ok k L m) (k3 : k ≤ 3) (hT : Tab w) (hi : i ≤ 9223372036854775807) :
    Calls Tryd.prog 14 #[.pointer (some ⟨p, 0, none⟩), .int .i64 i] w fun e w' => e = .returned (.tuple #[.int .i64 (fromL m i).1, .bool (fromL m i).2]) ∧ w = w' := by
  by_cases hm : m = []
  · subst hm
    exact fFrom0 p k bl B L i w h
  · have k1 := ok.k1
    have hlen := fLen p k bl B L m.length w h
    have hab := fAbove p k bl B L m.length m w h ok k3 hT (k - 1)
    have h1 := hab (max i 0).toNat (by omega) (by omega)
    have h2 := hab 0 (by omega) (by omega)
    rw [ok.above, show (((max i 0).toNat : Nat) : Int) = max i 0 from by omega] at h1
    rw [ok.above] at h2
    have hpos : ∀ z ∈ m, 0 ≤ z := fun z hz => (ok.mem z hz).1
    have ha := from_hit m i hpos
    have hb := from_miss m i hpos hm
    obtain ⟨cap, c0⟩ := h.c0
    have hz : ((m.length : Int) == 0) = false := by
      have : m.length ≠ 0 := by simpa using hm
      simp; omega
    have ek : (((k - 1 : Nat) : Int)) = (k : Int) - 1 := by omega
    rw [ek] at h1 h2
    generalize hr1 : nextL m (max i 0) = r1 at *
    have hr2 : nextL m ((0 : Nat) : Int) = nextL m 0 := rfl
    rw [hr2] at h2
    rw [show ((0 : Nat) : Int) = 0 from rfl] at h2
    generalize nextL m 0 = r2 at *
    have H1 := Lib.hid h1; have H2 := Lib.hid h2; have HL := Lib.hid hlen
    have HA := Lib.hid ha; have HB := Lib.hid hb
    clear h ok hab h1 h2 hlen ha hb ek hr1 hr2
    have hmx : (i < 0 ∧ max i 0 = 0) ∨ (¬ i < 0 ∧ max i 0 = i) := by omega
    have fin1 : 0 ≤ r1 → fromL m i = (r1, true) := HA.out
    have fin2 : r1 < 0 → fromL m i = (r2, true) := HB.out
    clear HA HB hpos
    generalize fromL m i = fr at *
    have F1 := Lib.hid fin1; have F2 := Lib.hid fin2
    clear fin1 fin2 hm
    rcases hmx with ⟨hneg, hmx⟩ | ⟨hneg, hmx⟩
    all_goals
      rw [hmx] at H1
      clear hmx
      by_cases hr : 0 ≤ r1
      · have F := Lib.hid (F1.out hr)
        go_enter Tryd.func14, Tryd.ntmps14
        go_wp2_with fail
        refine (HL.out).mono ?_
        rintro e w' ⟨rfl, rfl⟩
        go_wp2_with fail
        refine (H1.out).mono ?_
        rintro e w' ⟨rfl, rfl⟩
        go_wp2
        go_ret2
        exact ⟨by rw [F.out]; rfl, rfl⟩
      · have F := Lib.hid (F2.out (by omega))
        go_enter Tryd.func14, Tryd.ntmps14
        go_wp2_with fail
        refine (HL.out).mono ?_
        rintro e w' ⟨rfl, rfl⟩
        go_wp2_with fail
        refine (H1.out).mono ?_
        rintro e w' ⟨rfl, rfl⟩
        go_wp2_with fail
        refine (H2.out).mono ?_
        rintro e w' ⟨rfl, rfl⟩
        go_wp2
        go_ret2
        exact ⟨by rw [F.out]; rfl, rfl⟩

theorem tss : SlT Tryd.prog 45 48 (.slice none 0 0) 1 24 := ⟨Tryd.underlying45, by kernel_rfl, rfl, by decide⟩
theorem infou : (Tryd.prog.info? 49).map (fun i => (i.zero, i.size, i.bytes)) = some (some (.int .u64 0), 1, 8) := by kernel_rfl
def lvz : Lv := fun j => List.replicate (64 ^ j) 0

set_option maxHeartbeats 1000000 in
theorem fNewNo (levels : Int) (w : World) (h : levels < 1 ∨ 3 < levels) :
    Calls Tryd.prog 6 #[.int .i64 levels] w fun e w' => e = .returned (.tuple #[.pointer none, .int .i64 23]) ∧ w = w' := by
  rcases h with h | h
  · go_enter Tryd.func6, Tryd.ntmps6
    go_wp2
    go_ret2
    exact ⟨rfl, rfl⟩
  · have h1 : ¬ levels < 1 := by omega
    go_enter Tryd.func6, Tryd.ntmps6
    go_wp2
    go_ret2
    exact ⟨rfl, rfl⟩

structure Newing (w wr : World) (v : Value) (j : Nat) (B : Nat → Nat) : Prop where
  own : wr.ownsRow (w.heap.size + 1) 48 1 v j ((List.range j).map (fun i => Value.slice (some ⟨B i, 0, none⟩) (64 ^ i) (64 ^ i)))
  blk : Blk wr w.heap.size [v, .int .i64 0] 47
  rows : ∀ i, i < j → Blk wr (B i) (wd (lvz i)) 49 ∧ w.heap.size ≤ B i
  kp : Kp none' w wr


theorem Newing.step {w wr Z w1 : World} {ao : Option Addr} {cap j : Nat} {B : Nat → Nat} (h : Newing w wr (.slice ao j cap) j B) (hz : Kp none' wr Z) (hM : Blk Z wr.heap.size (wd (lvz j)) 49) {g cap1 : Nat}
    (hown : w1.ownsRow (w.heap.size + 1) 48 1 (.slice (some ⟨g, 0, none⟩) (j + 1) cap1) (j + 1) ((List.range j).map (fun i => Value.slice (some ⟨B i, 0, none⟩) (64 ^ i) (64 ^ i)) ++ [.slice (some ⟨wr.heap.size, 0, none⟩) (64 ^ j) (64 ^ j)]))
    (hg : Z.grownBy w1 (Value.slice ao j cap).ownBlock) :
    Newing w (w1.setCell ⟨w.heap.size, 0, none⟩ (.slice (some ⟨g, 0, none⟩) (j + 1) cap1)) (.slice (some ⟨g, 0, none⟩) (j + 1) cap1) (j + 1) (fun i => if i = j then wr.heap.size else B i) := by
  have hlt := h.blk.lt
  have hrow : ∀ b, b < wr.heap.size → (Value.slice ao j cap).ownBlock = some b → w.heap.size + 1 ≤ b := fun b _ e => (own_block h.own e).1
  have hk1 : Kp none' w w1 := (h.kp.trans hz).grown hg (fun b e => .inr (by have := (own_block h.own e).1; omega))
  have hne : ∀ b cs t, Blk wr b cs t → t ≠ 48 → Blk w1 b cs t := fun b cs t hb ht => by
    refine (hb.kp hz id).grown hg (fun e => ?_)
    obtain ⟨_, h2⟩ := h.own
    rcases h2 with ⟨e2, _⟩ | ⟨g', cap', cur, e2, _, hh, _⟩
    · rw [e2] at e; simp [Value.ownBlock] at e
    · rw [e2] at e; simp [Value.ownBlock] at e
      subst e
      have := hb.is.symm.trans hh
      simp at this; exact ht this.2
  have hwd : ∀ i, i < j → Blk w1 (B i) (wd (lvz i)) 49 := fun i hi => hne _ _ _ (h.rows i hi).1 (by decide)
  have hnew : Blk w1 wr.heap.size (wd (lvz j)) 49 := hM.grown hg (fun e => by have := (own_block h.own e.symm).2; omega)
  have hblk := hne _ _ _ h.blk (by decide)
  have hneB : ∀ b, Blk w1 b (wd (lvz j)) 49 → b ≠ w.heap.size := fun b hb e => by subst e; have := (hb.inj hblk).2; simp at this
  refine ⟨?_, hblk.set 0 _, fun i hi => ?_, hk1.set (.inr (Nat.le_refl _)) _⟩
  · have e : (List.range (j + 1)).map (fun i => Value.slice (some ⟨if i = j then wr.heap.size else B i, 0, none⟩) (64 ^ i) (64 ^ i)) = (List.range j).map (fun i => Value.slice (some ⟨B i, 0, none⟩) (64 ^ i) (64 ^ i)) ++ [.slice (some ⟨wr.heap.size, 0, none⟩) (64 ^ j) (64 ^ j)] := by
      rw [List.range_succ, List.map_append]
      congr 1
      · apply List.map_congr_left
        intro i hi
        rw [if_neg (by have := List.mem_range.1 hi; omega)]
      · simp
    rw [e]
    exact ownsRow_setCell_below hown (by simp) _
  · by_cases e : i = j
    · subst e
      rw [if_pos rfl]
      exact ⟨hnew.setNe (a := ⟨w.heap.size, 0, none⟩) (show wr.heap.size ≠ w.heap.size by have := h.blk.lt; omega) _, by omega⟩
    · rw [if_neg e]
      have hb := hwd i (by omega)
      refine ⟨hb.setNe (fun e => ?_) _, (h.rows i (by omega)).2⟩
      have e' : B i = w.heap.size := e
      rw [e'] at hb
      have := (hb.inj hblk).2; simp at this

theorem Newing.done {w wr : World} {ao : Option Addr} {cap k : Nat} {B : Nat → Nat} (h : Newing w wr (.slice ao k cap) k B) (k1 : 1 ≤ k) : ∃ bl, FSet wr w.heap.size k bl B lvz 0 ∧ (∀ b, Fp w.heap.size bl B k b → w.heap.size ≤ b) ∧ ao = some ⟨bl, 0, none⟩ := by
  obtain ⟨h1, h2⟩ := h.own
  rcases h2 with ⟨_, e⟩ | ⟨g, cap', cur, e2, hg, hh, hn, hm, hs, ht⟩
  · omega
  · simp at e2
    obtain ⟨rfl, rfl⟩ := e2
    refine ⟨g, ⟨⟨_, h.blk⟩, ⟨cur.toList.drop k, ?_⟩, fun j hj => (h.rows j hj).1⟩, fun b hb => ?_, rfl⟩
    · constructor
      have e : ((List.range k).map (fun j => Value.slice (some ⟨B j, 0, none⟩) (lvz j).length (lvz j).length)) = cur.toList.take k := by
        rw [Nat.mul_one] at ht; rw [ht]; simp [lvz]
      rw [e, List.take_append_drop]; simpa using hh
    · rcases hb with rfl | rfl | ⟨j, hj, rfl⟩
      · omega
      · omega
      · exact (h.rows j hj).2

set_option maxHeartbeats 2000000 in
theorem fNew (k : Nat) (w : World) (k1 : 1 ≤ k) (k3 : k ≤ 3) :
    Calls Tryd.prog 6 #[.int .i64 k] w fun e w' => ∃ p bl B, e = .returned (.tuple #[.pointer (some ⟨p, 0, none⟩), .int .i64 0]) ∧ FSet w' p k bl B lvz 0 ∧ (∀ b, Fp p bl B k b → w.heap.size ≤ b) ∧ Kp none' w w' := by
  go_enter Tryd.func6, Tryd.ntmps6
  go_wp2
  go_loopw [5] (fun s5 wr => ∃ (j : Nat) (v : Value) (B : Nat → Nat), j ≤ k ∧ s5 = .int .i64 ((64 ^ j : Nat) : Int) ∧ Hid (Newing w wr v j B)) (fun s5 _ => 262144 - (intOf s5).toNat)
  case atStart => exact ⟨0, .slice none 0 0, fun _ => 0, Nat.zero_le _, rfl, World.ownsRow_nil _ _ _ _, Blk.new _ _ _, fun i h => absurd h (Nat.not_lt_zero _), (Kp.refl _ _).alloc _⟩
  case round =>
    obtain ⟨j, v, B, hj, rfl, hnew⟩ := hrel
    obtain ⟨ao, cap, rfl⟩ := own_shape hnew.out.own
    have c0 := hnew.out.blk.cell 0 rfl
    by_cases hlt : j < k
    · have hp : 64 ^ j ≤ 4096 := pow64 j (by omega)
      have hp0 : 1 ≤ 64 ^ j := Nat.pow_pos (by decide)
      have hmk := run_make_row' (P := Tryd.prog) 48 49 (.int .u64 0) 8 Tryd.underlying48 infou rfl .i64 .i64 (64 ^ j) (by omega) (by omega)
      rw [made1] at hmk
      have hz := hnew.out.kp.size
      have hsz := hnew.out.blk.lt
      have fz := hnew.out.blk.fz 0
      generalize hM : 64 ^ j = M at *
      go_wp2
      have hb1 : (j + 1) * 24 ≤ 140737488355328 := by omega
      go_region_law ((refine step_app1 tss (.tmp 27) (.tmp 30) rfl rfl (w.heap.size + 1) (v := .slice ao j cap) (((hnew.out.own.alloc _).alloc _).drew) [.slice (some ⟨wr.heap.size, 0, none⟩) M M] rfl rfl rfl (fr := (0, 0)) (heap_new2 _ _ _ (by simp)) rfl hb1 (by omega) (by simp; omega) ?_); intro g cap1 w1 hown1 hgrow; have hblk1 := ((((hnew.out.blk.alloc _).alloc _).drew).grown hgrow (fun e => by have := (own_block hnew.out.own e.symm).1; omega)); have d0 := hblk1.cell 0 rfl; have f0 := hblk1.fz 0)
      all_goals
        subst hM
        have hst := hnew.out.step (w1 := w1) (cap1 := cap1) (g := g) (Z := ((wr.alloc (.cells (Array.replicate (64 ^ j) (.int .u64 0)) 49)).alloc (.cells #[.slice (some ⟨wr.heap.size, 0, none⟩) (64 ^ j) (64 ^ j)] 48)).drew) ((((Kp.refl _ _).alloc _).alloc _).drew) (Blk.drew (Blk.alloc ⟨by rw [heap_new]; simp [wd, lvz]⟩ _)) hown1 hgrow
        have HST := Lib.hid hst
        clear hst hown1 hgrow hblk1 d0 f0 hmk
        have hpn : ((64 ^ (j + 1) : Nat) : Int) = ((64 ^ j : Nat) : Int) * 64 := by rw [Nat.pow_succ]; simp
        have HPN := Lib.hid hpn; clear hpn
        generalize hM : 64 ^ j = M at *
        have HM := Lib.hid hM; clear hM
        go_wp2
        go_roundw
        case rel => exact ⟨j + 1, _, _, by omega, by rw [HPN.out], HST.out⟩
        case measure => simp only [intOf]; rw [HM.out]; omega
    · obtain rfl : j = k := by omega
      obtain ⟨bl, hf, hfp, _⟩ := hnew.out.done k1
      have HF := Lib.hid hf
      have HK := Lib.hid hnew.out.kp
      clear hf
      go_wp2
      go_ret2
      exact ⟨_, bl, B, rfl, HF.out, hfp, HK.out⟩

end Go.Proofs.YtoiiofcpohoeaaaDoor
