/- The document's answer of layer 15, walked: Find, Put. -/
import Derived.Test.YthnlggecjdifnaaFlowSInt
import Derived.Test.YthnlggecjdifnaaAppSl
namespace Go.Proofs.Ythnlggecjdifnaa
set_option linter.unusedVariables false
set_option linter.unusedSimpArgs false
open Go.RowKit flowInt

theorem take_snocE {α : Type} (l : List α) (k : Nat) (h : k < l.length) {y : α} (hy : l[k] = y) : l.take (k + 1) = l.take k ++ [y] := by
  rw [List.take_succ_eq_append_getElem h, hy]
def enE (p : Nat × Int) : List Value := [.int .u32 p.1, .int .i64 p.2]
theorem enE_len (p : Nat × Int) : (enE p).length = 2 := rfl
theorem enE_one (l : List (Nat × Int)) : (l.flatMap enE).all (·.oneCell') = true := by
  rw [List.all_eq_true]
  intro v hv
  obtain ⟨p, _, hp⟩ := List.mem_flatMap.1 hv
  simp [enE] at hp
  rcases hp with rfl | rfl <;> rfl
theorem tEs : SlT Try.prog 28 39 (.agg #[.int .u32 0, .int .i64 0]) 2 16 := ⟨Try.underlying28, by kernel_rfl, rfl, by decide⟩
def Rr (w : World) (B0 : Nat) (v : Value) (l : List (Nat × Int)) : Prop := w.ownsRow B0 39 2 v l.length (l.flatMap enE)
theorem Rr.get {w : World} {B0 : Nat} {v : Value} {l : List (Nat × Int)} (h : Rr w B0 v l) (i : Nat) (p : Nat × Int) (hp : l[i]? = some p) :
    ∃ g cap, v = .slice (some ⟨g, 0, none⟩) l.length cap ∧ w.cell? ⟨g, i * 2, none⟩ = some (.int .u32 p.1) ∧ w.cell? ⟨g, i * 2 + 1, none⟩ = some (.int .i64 p.2) := by
  have hi := (List.getElem?_eq_some_iff.1 hp).1
  obtain ⟨g, cap, rfl, _⟩ := own_shape1 h (by omega)
  have hh : ∀ k u, k < 2 → (enE p)[k]? = some u → w.cell? ⟨g, i * 2 + k, none⟩ = some u := fun k u hk hu => by
    refine own_cell h _ ?_
    rw [flat_get enE 2 enE_len _ _ _ hk, hp]; exact hu
  exact ⟨g, cap, rfl, hh 0 _ (by omega) rfl, hh 1 _ (by omega) rfl⟩
def posE (l : List (Nat × Int)) (x : Nat) : Int := if x ∈ l.map (·.1) then ((l.map (·.1)).idxOf x : Nat) else -1
theorem posE_no {l : List (Nat × Int)} {x : Nat} (h : x ∉ l.map (·.1)) : posE l x = -1 := by unfold posE; rw [if_neg h]
theorem posE_at {l : List (Nat × Int)} {x : Nat} (k : Nat) (p : Nat × Int) (hk : l[k]? = some p) (h : p.1 = x) (hn : x ∉ (l.take k).map (·.1)) : posE l x = k := by
  have hkl := (List.getElem?_eq_some_iff.1 hk).1
  have e : l.map (·.1) = (l.take k).map (·.1) ++ x :: (l.drop (k + 1)).map (·.1) := by
    have e2 : l = l.take k ++ l[k] :: l.drop (k + 1) := by rw [List.getElem_cons_drop, List.take_append_drop]
    have e3 : l[k] = p := (List.getElem?_eq_some_iff.1 hk).2
    rw [e3] at e2
    conv => lhs; rw [e2]
    rw [List.map_append, List.map_cons, h]
  unfold posE
  rw [if_pos (by rw [e]; simp), e, List.idxOf_append, if_neg hn]
  simp; omega
theorem posE_get {l : List (Nat × Int)} {x : Nat} (h : x ∈ l.map (·.1)) : ∃ (k : Nat) (y : Int), posE l x = k ∧ l[k]? = some (x, y) := by
  have hk : (l.map (·.1)).idxOf x < l.length := by have := List.idxOf_lt_length_iff.2 h; simpa using this
  have he : (l.map (·.1))[(l.map (·.1)).idxOf x]'(List.idxOf_lt_length_iff.2 h) = x := List.getElem_idxOf _
  simp only [List.getElem_map] at he
  refine ⟨(l.map (·.1)).idxOf x, (l[(l.map (·.1)).idxOf x]'hk).2, ?_, ?_⟩
  · unfold posE; rw [if_pos h]
  · rw [List.getElem?_eq_getElem hk]; exact congrArg some (Prod.ext he rfl)
set_option maxRecDepth 100000 in
set_option maxHeartbeats 2000000 in
theorem rFindE (w : World) (B0 : Nat) (v : Value) (l : List (Nat × Int)) (h : Rr w B0 v l) (x : Nat) (hl : l.length ≤ 5000) :
    Calls Try.prog 9 #[v, .int .u32 x] w fun e w' => e = .returned (.int .i64 (posE l x)) ∧ w = w' := by
  have hcell := fun i p (hp : l[i]? = some p) => h.get i p hp
  obtain ⟨ao, cap, rfl⟩ := own_shape h
  have HC := Lib.hid hcell
  clear hcell h
  go_enter Try.func9, Try.ntmps9
  go_wp2
  go_loop [5] (fun s5 => ∃ k : Nat, k ≤ l.length ∧ s5 = .int .i64 k ∧ Hid (x ∉ (l.take k).map (·.1))) (fun s5 => l.length - (intOf s5).toNat)
  case atStart => exact ⟨0, Nat.zero_le _, rfl, by simp [Hid]⟩
  case round =>
    obtain ⟨k, hk, rfl, hno⟩ := hrel
    by_cases hlt : k < l.length
    · obtain ⟨y, hy⟩ : ∃ y, l[k]? = some y := ⟨_, List.getElem?_eq_some_iff.2 ⟨hlt, rfl⟩⟩
      obtain ⟨g, cap', e, ce0, ce1⟩ := HC.out k y hy
      obtain rfl : ao = some ⟨g, 0, none⟩ := by cases e; rfl
      clear e
      have HY := Lib.hid hy
      have HT := Lib.hid (take_snocE l k hlt ((List.getElem?_eq_some_iff.1 hy).2))
      clear hy
      by_cases hx : y.1 = x
      · have hx' : ((y.1 : Int) == (x : Int)) = true := by rw [beq_iff_eq]; omega
        have HX := Lib.hid hx; clear hx
        go_wp2
        go_ret
        exact ⟨ret_int (posE_at k y HY.out HX.out hno.out).symm, rfl⟩
      · have hx' : ((y.1 : Int) == (x : Int)) = false := by rw [beq_eq_false_iff_ne]; omega
        have HX := Lib.hid hx; clear hx
        go_wp2
        go_round
        case rel =>
          refine ⟨k + 1, by omega, by go_num, ?_⟩
          unfold Hid
          rw [HT.out, List.map_append]
          intro hm
          rcases List.mem_append.1 hm with hm | hm
          · exact hno.out hm
          · simp at hm; exact HX.out hm.symm
        case measure => simp [intOf]; omega
    · go_wp2
      go_ret
      exact ⟨ret_int (posE_no (by have := hno.out; rw [List.take_of_length_le (by omega)] at this; exact this)).symm, rfl⟩
/-- The entry put ahead of the first with a greater number. -/
def insF (id : Nat) (x : Int) : List (Nat × Int) → List (Nat × Int)
  | [] => [(id, x)]
  | e :: r => if id < e.1 then (id, x) :: e :: r else e :: insF id x r
theorem insF_len (id : Nat) (x : Int) (l : List (Nat × Int)) : (insF id x l).length = l.length + 1 := by
  induction l with
  | nil => rfl
  | cons e r ih => unfold insF; split <;> simp [ih]
def restP (pb : Bool) (id : Nat) (x : Int) (r : List (Nat × Int)) : List (Nat × Int) := match pb with | true => r | false => insF id x r
structure PutI (w wr : World) (id : Nat) (x : Int) (l O : List (Nat × Int)) (i : Nat) (pb : Bool) (o : Value) : Prop where
  own : Rr wr w.heap.size o O
  kp : Kp none' w wr
  eq : O ++ restP pb id x (l.drop i) = insF id x l
theorem PutI.len {w wr : World} {id : Nat} {x : Int} {l O : List (Nat × Int)} {i : Nat} {pb : Bool} {o : Value} (h : PutI w wr id x l O i pb o) : O.length ≤ l.length + 1 := by
  have := congrArg List.length h.eq
  rw [List.length_append, insF_len] at this
  omega
theorem PutI.turn {w wr w1 : World} {id : Nat} {x : Int} {l O : List (Nat × Int)} {i : Nat} {o : Value} {y : Nat × Int} {o' : Value} (h : PutI w wr id x l O i false o) (hd : l.drop i = y :: l.drop (i + 1)) (hy : id < y.1) (ho : Rr w1 w.heap.size o' (O ++ [(id, x)])) (hk : Kp none' w w1) : PutI w w1 id x l (O ++ [(id, x)]) i true o' := by
  refine ⟨ho, hk, ?_⟩
  rw [← h.eq, hd]
  simp only [restP, insF]
  rw [if_pos hy, List.append_assoc]; rfl
theorem PutI.next {w wr w1 : World} {id : Nat} {x : Int} {l O : List (Nat × Int)} {i : Nat} {pb : Bool} {o : Value} {y : Nat × Int} {o' : Value} (h : PutI w wr id x l O i pb o) (hd : l.drop i = y :: l.drop (i + 1)) (hy : pb = false → ¬ id < y.1) (ho : Rr w1 w.heap.size o' (O ++ [y])) (hk : Kp none' w w1) : PutI w w1 id x l (O ++ [y]) (i + 1) pb o' := by
  refine ⟨ho, hk, ?_⟩
  rw [← h.eq, hd, List.append_assoc]
  cases pb with
  | true => rfl
  | false => simp only [restP, insF]; rw [if_neg (hy rfl)]; rfl
theorem rr_snoc {w : World} {B0 : Nat} {v : Value} {O : List (Nat × Int)} {p : Nat × Int} (h : w.ownsRow B0 39 2 v (O.length + 1) (O.flatMap enE ++ enE p)) : Rr w B0 v (O ++ [p]) := by
  unfold Rr; rw [List.length_append, List.flatMap_append]; simpa using h
set_option maxRecDepth 100000 in
set_option maxHeartbeats 4000000 in
theorem rPutThere (w : World) (B0 : Nat) (v : Value) (l : List (Nat × Int)) (h : Rr w B0 v l) (room : Int) (id : Nat) (x : Int) (hl : l.length ≤ 5000) (hid : id ∈ l.map (·.1)) :
    Calls Try.prog 14 #[v, .int .i64 room, .int .u32 id, .int .i64 x] w fun e w' => e = .returned (.tuple #[v, .int .i64 8]) ∧ w = w' := by
  have hf := rFindE w B0 v l h id hl
  obtain ⟨k, y, hk, _⟩ := posE_get hid
  rw [hk] at hf
  obtain ⟨ao, cap, rfl⟩ := own_shape h
  have HF := Lib.hid hf
  clear hf h hk hid
  go_enter Try.func14, Try.ntmps14
  go_wp2_with (go_at_call 9; refine HF.out.mono ?_; rintro e w' ⟨rfl, rfl⟩)
  go_ret2
  exact ⟨rfl, rfl⟩
set_option maxRecDepth 100000 in
set_option maxHeartbeats 4000000 in
theorem rPutFull (w : World) (B0 : Nat) (v : Value) (l : List (Nat × Int)) (h : Rr w B0 v l) (room : Nat) (id : Nat) (x : Int) (hl : l.length ≤ 5000) (hid : id ∉ l.map (·.1)) (hr : room ≤ l.length) :
    Calls Try.prog 14 #[v, .int .i64 room, .int .u32 id, .int .i64 x] w fun e w' => e = .returned (.tuple #[v, .int .i64 20]) ∧ w = w' := by
  have hf := rFindE w B0 v l h id hl
  rw [posE_no hid] at hf
  obtain ⟨ao, cap, rfl⟩ := own_shape h
  have HF := Lib.hid hf
  have hri : (room : Int) ≤ (l.length : Int) := by omega
  clear hf h hid
  go_enter Try.func14, Try.ntmps14
  go_wp2_with (go_at_call 9; refine HF.out.mono ?_; rintro e w' ⟨rfl, rfl⟩)
  go_ret2
  exact ⟨rfl, rfl⟩
set_option maxRecDepth 100000 in
set_option maxHeartbeats 8000000 in
theorem rPutNew (w : World) (B0 : Nat) (v : Value) (l : List (Nat × Int)) (h : Rr w B0 v l) (room : Nat) (id : Nat) (x : Int) (hl : l.length ≤ 5000) (hid : id ∉ l.map (·.1)) (hr : l.length < room) :
    Calls Try.prog 14 #[v, .int .i64 room, .int .u32 id, .int .i64 x] w fun e w' => ∃ v', e = .returned (.tuple #[v', .int .i64 0]) ∧ Rr w' w.heap.size v' (insF id x l) ∧ Kp none' w w' := by
  have hf := rFindE w B0 v l h id hl
  rw [posE_no hid] at hf
  have hcell := fun i p (hp : l[i]? = some p) => h.get i p hp
  obtain ⟨ao, cap, rfl⟩ := own_shape h
  have HF := Lib.hid hf
  have HC := Lib.hid hcell
  have hrd : decide (room ≤ l.length) = false := by simp; omega
  have hri : decide ((room : Int) ≤ (l.length : Int)) = false := by simp; omega
  clear hf h hid hcell hr
  have HI0 : Hid (PutI w w id x l [] 0 false (.slice none 0 0)) := ⟨World.ownsRow_nil _ _ _ _, Kp.refl _ _, rfl⟩
  go_enter Try.func14, Try.ntmps14
  go_wp2_with (go_at_call 9; refine HF.out.mono ?_; rintro e w' ⟨rfl, rfl⟩)
  go_loopw [10, 11, 12] (fun o pb0 i0 wr => ∃ (i : Nat) (pb : Bool) (O : List (Nat × Int)) (o1 : Value), o1 = o ∧ pb0 = .bool pb ∧ i0 = .int .i64 i ∧ i ≤ l.length ∧ Hid (PutI w wr id x l O i pb o1)) (fun _ _ i0 _ => l.length - (intOf i0).toNat)
  case atStart => exact ⟨0, false, [], _, rfl, rfl, rfl, Nat.zero_le _, HI0.out⟩
  case round =>
    clear HI0
    obtain ⟨i, pb, O, o, rfl, rfl, rfl, hi, HI⟩ := hrel
    by_cases hlt : i < l.length
    · obtain ⟨y, hy⟩ : ∃ y, l[i]? = some y := ⟨_, List.getElem?_eq_some_iff.2 ⟨hlt, rfl⟩⟩
      obtain ⟨g, cap', e, ce0, ce1⟩ := HC.out i y hy
      obtain rfl : ao = some ⟨g, 0, none⟩ := by cases e; rfl
      clear e
      have hii : (i : Int) < l.length := by omega
      have d0 := HI.out.kp.cell ce0 (fun h => h)
      have d1 := HI.out.kp.cell ce1 (fun h => h)
      have HD : Hid (l.drop i = y :: l.drop (i + 1)) := by
        show _ = _
        rw [List.drop_eq_getElem_cons hlt]; rw [(List.getElem?_eq_some_iff.1 hy).2]
      clear hy
      obtain ⟨y1, y2⟩ := y
      cases pb with
      | false =>
        by_cases hy : id < y1
        · have hyi : (id : Int) < (y1 : Int) := by omega
          have HY := Lib.hid hy
          clear hy
          obtain ⟨OL, hOL⟩ : ∃ n, O.length = n := ⟨_, rfl⟩
          have hol : OL ≤ l.length + 1 := by rw [← hOL]; exact HI.out.len
          have hown := HI.out.own
          unfold Rr at hown
          rw [hOL] at hown
          have hws := HI.out.kp.size
          go_wp2_with (at_builtin; refine wp_app1 tEs (.tmp 40) (.tmp 44) rfl rfl w.heap.size (hown.alloc _) (enE (id, x)) rfl rfl rfl (heap_new _ _) rfl (by omega) (by omega) (by simp; omega) ?_)
          intro g1 cap1 w1 hown1 hgr1
          have HI1 := Lib.hid (HI.out.turn HD.out HY.out (rr_snoc (by rw [hOL]; exact hown1)) ((HI.out.kp.alloc _).grown hgr1 (fun b e => .inr (own_block hown e).1)))
          have e0 := HI1.out.kp.cell ce0 (fun h => h)
          have e1 := HI1.out.kp.cell ce1 (fun h => h)
          clear hown hown1 hgr1 HI hws d0 d1 hol
          have hon : (O ++ [(id, x)]).length = OL + 1 := by rw [List.length_append, hOL]; rfl
          generalize O ++ [(id, x)] = O1 at HI1 hon
          clear hOL
          obtain ⟨O, rfl⟩ : ∃ O, O = O1 := ⟨_, rfl⟩
          have HI := HI1
          have HNY := Lib.hid (fun w1 o' => HI.out.next (w1 := w1) (o' := o') HD.out (fun h => by cases h))
          clear HI1
          obtain ⟨OL, hOL⟩ : ∃ n, O.length = n := ⟨_, rfl⟩
          have hol : OL ≤ l.length + 1 := by rw [← hOL]; exact HI.out.len
          have hown := HI.out.own
          unfold Rr at hown
          rw [hOL] at hown
          have hws := HI.out.kp.size
          go_wp2_with (at_builtin; refine wp_app1 tEs (.tmp 46) (.tmp 51) rfl rfl w.heap.size (hown.alloc _) (enE (y1, y2)) rfl rfl rfl (heap_new _ _) rfl (by omega) (by omega) (by simp; omega) ?_)
          intro g2 cap2 w2 hown2 hgr2
          have HI2 := Lib.hid (HNY.out _ _ (rr_snoc (by rw [hOL]; exact hown2)) ((HI.out.kp.alloc _).grown hgr2 (fun b e => .inr (own_block hown e).1)))
          clear hown hown2 hgr2 HI hws HNY
          go_wp2
          go_roundw
          case rel => exact ⟨i + 1, _, _, _, rfl, rfl, by go_num, by omega, by rw [← hOL] at HI2 ⊢; exact HI2.out⟩
          case measure => simp [intOf]; omega
        · have hyi : ¬ (id : Int) < (y1 : Int) := by omega
          have HNY := Lib.hid (fun w1 o' => HI.out.next (w1 := w1) (o' := o') HD.out (fun _ => hy))
          clear hy
          obtain ⟨OL, hOL⟩ : ∃ n, O.length = n := ⟨_, rfl⟩
          have hol : OL ≤ l.length + 1 := by rw [← hOL]; exact HI.out.len
          have hown := HI.out.own
          unfold Rr at hown
          rw [hOL] at hown
          have hws := HI.out.kp.size
          go_wp2_with (at_builtin; refine wp_app1 tEs (.tmp 46) (.tmp 51) rfl rfl w.heap.size (hown.alloc _) (enE (y1, y2)) rfl rfl rfl (heap_new _ _) rfl (by omega) (by omega) (by simp; omega) ?_)
          intro g2 cap2 w2 hown2 hgr2
          have HI2 := Lib.hid (HNY.out _ _ (rr_snoc (by rw [hOL]; exact hown2)) ((HI.out.kp.alloc _).grown hgr2 (fun b e => .inr (own_block hown e).1)))
          clear hown hown2 hgr2 HI hws HNY
          go_wp2
          go_roundw
          case rel => exact ⟨i + 1, _, _, _, rfl, rfl, by go_num, by omega, by rw [← hOL] at HI2 ⊢; exact HI2.out⟩
          case measure => simp [intOf]; omega
      | true =>
        have HNY := Lib.hid (fun w1 o' => HI.out.next (w1 := w1) (o' := o') HD.out (fun h => by cases h))
        obtain ⟨OL, hOL⟩ : ∃ n, O.length = n := ⟨_, rfl⟩
        have hol : OL ≤ l.length + 1 := by rw [← hOL]; exact HI.out.len
        have hown := HI.out.own
        unfold Rr at hown
        rw [hOL] at hown
        have hws := HI.out.kp.size
        go_wp2_with (at_builtin; refine wp_app1 tEs (.tmp 46) (.tmp 51) rfl rfl w.heap.size (hown.alloc _) (enE (y1, y2)) rfl rfl rfl (heap_new _ _) rfl (by omega) (by omega) (by simp; omega) ?_)
        intro g2 cap2 w2 hown2 hgr2
        have HI2 := Lib.hid (HNY.out _ _ (rr_snoc (by rw [hOL]; exact hown2)) ((HI.out.kp.alloc _).grown hgr2 (fun b e => .inr (own_block hown e).1)))
        clear hown hown2 hgr2 HI hws HNY
        go_wp2
        go_roundw
        case rel => exact ⟨i + 1, _, _, _, rfl, rfl, by go_num, by omega, by rw [← hOL] at HI2 ⊢; exact HI2.out⟩
        case measure => simp [intOf]; omega
    · obtain rfl : i = l.length := by omega
      have heq := HI.out.eq
      rw [List.drop_length] at heq
      cases pb with
      | false =>
        have HEQ := Lib.hid (show O ++ [(id, x)] = insF id x l from heq)
        obtain ⟨OL, hOL⟩ : ∃ n, O.length = n := ⟨_, rfl⟩
        have hol : OL ≤ l.length + 1 := by rw [← hOL]; exact HI.out.len
        have hown := HI.out.own
        unfold Rr at hown
        rw [hOL] at hown
        have hws := HI.out.kp.size
        clear heq
        go_wp2_with (at_builtin; refine wp_app1 tEs (.tmp 55) (.tmp 59) rfl rfl w.heap.size (hown.alloc _) (enE (id, x)) rfl rfl rfl (heap_new _ _) rfl (by omega) (by omega) (by simp; omega) ?_)
        intro g1 cap1 w1 hown1 hgr1
        have HR := Lib.hid (rr_snoc (O := O) (p := (id, x)) (by rw [hOL]; exact hown1))
        have HK := Lib.hid ((HI.out.kp.alloc _).grown hgr1 (fun b e => .inr (own_block hown e).1))
        rw [HEQ.out] at HR
        clear hown hown1 hgr1 HI
        go_wp2
        go_ret2
        exact ⟨_, rfl, HR.out, HK.out⟩
      | true =>
        have HEQ := Lib.hid (show O ++ [] = insF id x l from heq)
        rw [List.append_nil] at HEQ
        clear heq
        go_wp2
        go_ret2
        exact ⟨_, rfl, by rw [← HEQ.out]; exact HI.out.own, HI.out.kp⟩
end Go.Proofs.Ythnlggecjdifnaa
