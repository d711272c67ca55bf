/- The library's sort at uint32: two, three, nine things ordered, and the pivot chosen. -/
import Derived.Test.YthnlggecjdifnaaSoRUint32
import Derived.Test.YthnlggecjdifnaaKept
namespace Go.Proofs.Ythnlggecjdifnaa.sortUint32
set_option linter.unusedVariables false
set_option linter.unusedSimpArgs false
open Go.RowKit Go.Sort Go.Proofs.Ythnlggecjdifnaa
theorem lessK (x y : Nat) (W : World) : Calls Try.prog 42 #[en x, en y] W fun e w' => e = .returned (.bool (ltn x y)) ∧ Kp none' W w' :=
  (less x y W).mono fun e w' ⟨h1, h2⟩ => ⟨h1, h2 ▸ Kp.refl _ _⟩
/-- The row stands, and the count of swaps lies in sb. -/
structure Sw (blk off : Nat) (d : Array Nat) (sb s : Nat) (w W : World) : Prop where
  row : Holds en W blk off d
  cnt : Blk W sb [.int .i64 (s : Int)] 3
  kp : Kp (fun b => b = sb) w W
theorem Sw.next {blk off sb s s' : Nat} {d : Array Nat} {w W W' : World} (h : Sw blk off d sb s w W) (k : Sw blk off d sb s' W W') : Sw blk off d sb s' w W' := ⟨k.row, k.cnt, h.kp.trans k.kp⟩
set_option maxRecDepth 100000 in
set_option maxHeartbeats 4000000 in
theorem order2U (blk off cap a b sb s : Nat) (d : Array Nat) (w W : World) (h : Sw blk off d sb s w W) (hne : sb ≠ blk) (hbl : blk < W.heap.size) (ha : a < d.size) (hb : b < d.size) (hsz : d.size < 2305843009213693952) (hs : s < 1000) :
    Calls Try.prog 53 #[.slice (some ⟨blk, off, none⟩) d.size cap, .int .i64 a, .int .i64 b, .pointer (some ⟨sb, 0, none⟩)] W fun e w' =>
      e = .returned (.tuple #[.int .i64 ((order2 ltn d a b s).1 : Nat), .int .i64 ((order2 ltn d a b s).2.1 : Nat)]) ∧ Sw blk off d sb (order2 ltn d a b s).2.2 W w' := by
  obtain ⟨G, hG⟩ : ∃ G : Nat → Nat, ∀ t, G t = d[t]! := ⟨fun t => d[t]!, fun _ => rfl⟩
  have x0 : W.cell? ⟨blk, off + a, none⟩ = some (en (G a)) := by rw [hG]; exact (h.row a ha).1
  have x1 : W.cell? ⟨blk, off + b, none⟩ = some (en (G b)) := by rw [hG]; exact (h.row b hb).1
  have c0 := h.cnt.cell 0 rfl
  have f0 := h.cnt.fz 0
  have HS := Lib.hid h
  have HL := Lib.hid (fun W => lessK (G b) (G a) W)
  have hai : (a : Int) < d.size := by omega
  have hbi : (b : Int) < d.size := by omega
  have ho : order2 ltn d a b s = if ltn (G b) (G a) then (b, a, s + 1) else (a, b, s) := by unfold order2; rw [hG, hG]
  rw [ho]
  clear h hG ho
  cases hl : ltn (G b) (G a) with
  | true =>
    rw [hl] at HL
    simp only [if_true]
    clear hl
    go_enter Try.func53, Try.ntmps53
    go_wp2_with fail
    refine wp_region_kept2 [] [0, 1, 2, 3, 4, 5, 6, 7] 8 (by kernel_rfl) (by kernel_rfl) (fun c a d u w h => by cases d <;> exact h) ?_
    simp only [pick, List.getElem?_cons_succ, List.getElem?_cons_zero, List.drop_succ_cons, List.drop_zero]
    show wpKL _ _ _ _ _ _
    repeat (first
      | (refine wpKL_op (by exact rfl) (by as_aux_lemma => intro W hK; have e0 := hK.cell x0 (fun x => x); have e1 := hK.cell x1 (fun x => x); go_simp; exact rfl) ?_; simp only [Act.put, List.setIfInBounds_toArray, List.set_cons_succ, List.set_cons_zero])
      | (refine wpKL_off (by exact rfl) ?_; simp only [Act.put, List.setIfInBounds_toArray, List.set_cons_succ, List.set_cons_zero])
      | (refine wpKL_call (by exact rfl) (by as_aux_lemma => intro W; go_simp; exact ⟨rfl, rfl⟩) (by intro W hK; with_reducible first | exact HL.out W) ?_; simp only [Act.put, List.setIfInBounds_toArray, List.set_cons_succ, List.set_cons_zero]))
    show ∀ W, _ → wpList _ _ _ _ _ _
    intro W2 hK2
    have HK2 := Lib.hid hK2
    clear hK2
    go_wp2_with fail
    refine (HL.out W2).mono ?_
    rintro e w3 ⟨rfl, k3⟩
    have k4 := HK2.out.trans k3
    have hb3 := HS.out.cnt.kp k4 id
    have e0 := hb3.cell 0 rfl
    have g0 := hb3.fz 0
    have HB3 := Lib.hid hb3
    have HK4 := Lib.hid k4
    clear k3 k4 hb3 x0 x1 c0 f0
    go_wp2_with fail
    go_ret2
    refine ⟨rfl, holds_block HS.out.row ?_, ?_, (HK4.out.mono (T := fun b => b = sb) (fun _ _ x => x.elim)).set (p := ⟨sb, 0, none⟩) (.inl rfl) _⟩
    · exact (Below.heap_setCell _ _ _ _ (fun e => hne e.symm)).trans (HK4.out.block blk hbl id)
    · exact HB3.out.set 0 _
  | false =>
    rw [hl] at HL
    simp only [Bool.false_eq_true, if_false]
    clear hl
    go_enter Try.func53, Try.ntmps53
    go_wp2_with fail
    refine wp_region_kept2 [] [0, 1, 2, 3, 4, 5, 6, 7] 8 (by kernel_rfl) (by kernel_rfl) (fun c a d u w h => by cases d <;> exact h) ?_
    simp only [pick, List.getElem?_cons_succ, List.getElem?_cons_zero, List.drop_succ_cons, List.drop_zero]
    show wpKL _ _ _ _ _ _
    repeat (first
      | (refine wpKL_op (by exact rfl) (by as_aux_lemma => intro W hK; have e0 := hK.cell x0 (fun x => x); have e1 := hK.cell x1 (fun x => x); go_simp; exact rfl) ?_; simp only [Act.put, List.setIfInBounds_toArray, List.set_cons_succ, List.set_cons_zero])
      | (refine wpKL_off (by exact rfl) ?_; simp only [Act.put, List.setIfInBounds_toArray, List.set_cons_succ, List.set_cons_zero])
      | (refine wpKL_call (by exact rfl) (by as_aux_lemma => intro W; go_simp; exact ⟨rfl, rfl⟩) (by intro W hK; with_reducible first | exact HL.out W) ?_; simp only [Act.put, List.setIfInBounds_toArray, List.set_cons_succ, List.set_cons_zero]))
    show ∀ W, _ → wpList _ _ _ _ _ _
    intro W2 hK2
    have HK2 := Lib.hid hK2
    clear hK2
    go_wp2_with fail
    refine (HL.out W2).mono ?_
    rintro e w3 ⟨rfl, k3⟩
    have k4 := HK2.out.trans k3
    have HK4 := Lib.hid k4
    clear k3 k4 x0 x1 c0 f0
    go_wp2_with fail
    go_ret2
    exact ⟨rfl, holds_block HS.out.row (HK4.out.block blk hbl id), HS.out.cnt.kp HK4.out id, HK4.out.mono (fun _ _ x => x.elim)⟩
theorem order2_lt {d : Array Nat} {a b s n : Nat} (ha : a < n) (hb : b < n) : (order2 ltn d a b s).1 < n ∧ (order2 ltn d a b s).2.1 < n ∧ (order2 ltn d a b s).2.2 ≤ s + 1 := by
  unfold order2; split <;> simp only <;> omega
set_option maxRecDepth 100000 in
set_option maxHeartbeats 4000000 in
theorem medianU (blk off cap a b c sb s : Nat) (d : Array Nat) (w W : World) (h : Sw blk off d sb s w W) (hne : sb ≠ blk) (hbl : blk < W.heap.size) (ha : a < d.size) (hb : b < d.size) (hc : c < d.size) (hsz : d.size < 2305843009213693952) (hs : s < 900) :
    Calls Try.prog 51 #[.slice (some ⟨blk, off, none⟩) d.size cap, .int .i64 a, .int .i64 b, .int .i64 c, .pointer (some ⟨sb, 0, none⟩)] W fun e w' =>
      e = .returned (.int .i64 ((median ltn d a b c s).1 : Nat)) ∧ Sw blk off d sb (median ltn d a b c s).2 W w' := by
  obtain ⟨⟨a1, b1, s1⟩, h1⟩ : ∃ r, order2 ltn d a b s = r := ⟨_, rfl⟩
  have l1 := order2_lt (d := d) (s := s) ha hb
  obtain ⟨⟨b2, c2, s2⟩, h2⟩ : ∃ r, order2 ltn d b1 c s1 = r := ⟨_, rfl⟩
  rw [h1] at l1
  simp only at l1
  have l2 := order2_lt (d := d) (s := s1) l1.2.1 hc
  obtain ⟨⟨a3, b3, s3⟩, h3⟩ : ∃ r, order2 ltn d a1 b2 s2 = r := ⟨_, rfl⟩
  rw [h2] at l2
  simp only at l2
  have l3 := order2_lt (d := d) (s := s2) l1.1 l2.1
  rw [h3] at l3
  simp only at l3
  have hm : median ltn d a b c s = (b3, s3) := by unfold median; simp only [h1, h2, h3]
  rw [hm]
  have C1 := order2U blk off cap a b sb s d w W h hne hbl ha hb hsz (by omega)
  rw [h1] at C1
  have C2 := fun W' (hS : Sw blk off d sb s1 W W') => order2U blk off cap b1 c sb s1 d W W' hS hne (Nat.lt_of_lt_of_le hbl hS.kp.size) l1.2.1 hc hsz (by omega)
  simp only [h2] at C2
  have C3 := fun W' (hS : Sw blk off d sb s2 W W') => order2U blk off cap a1 b2 sb s2 d W W' hS hne (Nat.lt_of_lt_of_le hbl hS.kp.size) l1.1 l2.1 hsz (by omega)
  simp only [h3] at C3
  have HC1 := Lib.hid C1; have HC2 := Lib.hid C2; have HC3 := Lib.hid C3
  clear h1 h2 h3 hm C1 C2 C3 h l1 l2 l3
  go_enter Try.func51, Try.ntmps51
  go_wp2_with fail
  refine (HC1.out).mono ?_
  rintro e w1 ⟨rfl, q1⟩
  have Q1 := Lib.hid q1
  clear q1
  go_wp2_with fail
  refine (HC2.out _ Q1.out).mono ?_
  rintro e w2 ⟨rfl, q2⟩
  have Q2 := Lib.hid (Q1.out.next q2)
  clear q2
  go_wp2_with fail
  refine (HC3.out _ Q2.out).mono ?_
  rintro e w3 ⟨rfl, q3⟩
  have Q3 := Lib.hid (Q2.out.next q3)
  clear q3
  go_wp2_with fail
  go_ret
  exact ⟨rfl, Q3.out⟩
theorem median_lt {d : Array Nat} {a b c s n : Nat} (ha : a < n) (hb : b < n) (hc : c < n) : (median ltn d a b c s).1 < n ∧ (median ltn d a b c s).2 ≤ s + 3 := by
  unfold median
  have l1 := order2_lt (d := d) (s := s) ha hb
  have l2 := order2_lt (d := d) (s := (order2 ltn d a b s).2.2) l1.2.1 hc
  have l3 := order2_lt (d := d) (s := (order2 ltn d (order2 ltn d a b s).2.1 c (order2 ltn d a b s).2.2).2.2) l1.1 l2.1
  simp only
  exact ⟨l3.2.1, by omega⟩
set_option maxHeartbeats 1000000 in
theorem adjacentU (blk off cap a sb s : Nat) (d : Array Nat) (w W : World) (h : Sw blk off d sb s w W) (hne : sb ≠ blk) (hbl : blk < W.heap.size) (h1 : 1 ≤ a) (ha : a + 1 < d.size) (hsz : d.size < 2305843009213693952) (hs : s < 900) :
    Calls Try.prog 50 #[.slice (some ⟨blk, off, none⟩) d.size cap, .int .i64 a, .pointer (some ⟨sb, 0, none⟩)] W fun e w' =>
      e = .returned (.int .i64 ((medianAdjacent ltn d a s).1 : Nat)) ∧ Sw blk off d sb (medianAdjacent ltn d a s).2 W w' := by
  have C := medianU blk off cap (a - 1) a (a + 1) sb s d w W h hne hbl (by omega) (by omega) ha hsz hs
  rw [show ((a - 1 : Nat) : Int) = (a : Int) - 1 by omega, show ((a + 1 : Nat) : Int) = (a : Int) + 1 by omega] at C
  have HC := Lib.hid C
  unfold medianAdjacent
  clear C h
  go_enter Try.func50, Try.ntmps50
  go_wp2_with fail
  refine (HC.out).mono ?_
  rintro e w1 ⟨rfl, q1⟩
  have Q1 := Lib.hid q1
  clear q1
  go_wp2_with fail
  go_ret
  exact ⟨rfl, Q1.out⟩
end Go.Proofs.Ythnlggecjdifnaa.sortUint32
