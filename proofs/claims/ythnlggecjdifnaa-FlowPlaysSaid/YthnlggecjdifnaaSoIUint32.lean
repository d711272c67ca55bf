/- The library's sort at uint32: the pivot chosen. -/
import Derived.Test.YthnlggecjdifnaaSoHUint32
namespace Go.Proofs.Ythnlggecjdifnaa.sortUint32
set_option linter.unusedVariables false
set_option linter.unusedSimpArgs false
open Go.RowKit Go.Sort Go.Proofs.Ythnlggecjdifnaa
def hintI : Hint → Int | .unknown => 0 | .increasing => 1 | .decreasing => 2
theorem adjacent_lt {d : Array Nat} {a s n : Nat} (h1 : 1 ≤ a) (ha : a + 1 < n) : (medianAdjacent ltn d a s).1 < n ∧ (medianAdjacent ltn d a s).2 ≤ s + 3 := by
  unfold medianAdjacent; exact median_lt (by omega) (by omega) ha
set_option maxRecDepth 100000 in
set_option maxHeartbeats 4000000 in
theorem choosePivotU (blk off cap a b : Nat) (d : Array Nat) (w : World) (hH : Holds en w blk off d) (hbl : blk < w.heap.size) (h12 : 12 < b - a) (hb : b ≤ d.size) (hsz : d.size < 2305843009213693952) :
    Calls Try.prog 39 #[.slice (some ⟨blk, off, none⟩) d.size cap, .int .i64 a, .int .i64 b] w fun e w' =>
      e = .returned (.tuple #[.int .i64 ((choosePivot ltn d a b).1 : Nat), .int .i64 (hintI (choosePivot ltn d a b).2)]) ∧ Kp none' w w' := by
  obtain ⟨l, hl⟩ : ∃ l, b - a = l := ⟨_, rfl⟩
  have hlI : (b : Int) - (a : Int) = (l : Int) := by omega
  obtain ⟨q, hq⟩ : ∃ q, l / 4 = q := ⟨_, rfl⟩
  have hqI : (l : Int).tdiv 4 = (q : Int) := by rw [Int.tdiv_eq_ediv_of_nonneg (by omega)]; omega
  have hq3 : 3 ≤ q := by omega
  have hqb : a + q * 3 + 1 < d.size := by omega
  obtain ⟨i, hi⟩ : ∃ i, a + q = i := ⟨_, rfl⟩
  obtain ⟨j, hj⟩ : ∃ j, a + q * 2 = j := ⟨_, rfl⟩
  obtain ⟨k, hk⟩ : ∃ k, a + q * 3 = k := ⟨_, rfl⟩
  have hiI : (a : Int) + (q : Int) = (i : Int) := by omega
  have hjI : (a : Int) + (q : Int) * 2 = (j : Int) := by omega
  have hkI : (a : Int) + (q : Int) * 3 = (k : Int) := by omega
  have hcell := (Kp.refl none' w).alloc (.cells #[.int .i64 0] 3)
  have hsw : Sw blk off d w.heap.size 0 (w.alloc (.cells #[.int .i64 0] 3)) (w.alloc (.cells #[.int .i64 0] 3)) := ⟨holds_block hH (hcell.block blk hbl id), Blk.new w _ _, Kp.refl _ _⟩
  have HSW := Lib.hid hsw
  have HKA := Lib.hid hcell
  have hne : w.heap.size ≠ blk := by omega
  have hbl2 : blk < (w.alloc (.cells #[.int .i64 0] 3)).heap.size := by simp; omega
  have hqm : (q : Int) ≤ 2305843009213693952 := by omega
  have hcp0 : choosePivot ltn d a b = (let r : Nat × Nat := if l ≥ 50 then median ltn d (medianAdjacent ltn d i 0).1 (medianAdjacent ltn d j (medianAdjacent ltn d i 0).2).1 (medianAdjacent ltn d k (medianAdjacent ltn d j (medianAdjacent ltn d i 0).2).2).1 (medianAdjacent ltn d k (medianAdjacent ltn d j (medianAdjacent ltn d i 0).2).2).2 else median ltn d i j k 0
      (r.1, if r.2 = 0 then .increasing else if r.2 = 12 then .decreasing else .unknown)) := by
    unfold choosePivot
    simp only [hl, hq, Nat.mul_one, hi, hj, hk]
    rw [if_pos (by omega)]
  by_cases h50 : 50 ≤ l
  · have h50I : (50 : Int) ≤ (l : Int) := by omega
    obtain ⟨⟨i1, s1⟩, h1⟩ : ∃ r, medianAdjacent ltn d i 0 = r := ⟨_, rfl⟩
    have l1 := adjacent_lt (d := d) (a := i) (s := 0) (n := d.size) (by omega) (by omega)
    rw [h1] at l1
    simp only at l1
    obtain ⟨⟨j1, s2⟩, h2⟩ : ∃ r, medianAdjacent ltn d j s1 = r := ⟨_, rfl⟩
    have l2 := adjacent_lt (d := d) (a := j) (s := s1) (n := d.size) (by omega) (by omega)
    rw [h2] at l2
    simp only at l2
    obtain ⟨⟨k1, s3⟩, h3⟩ : ∃ r, medianAdjacent ltn d k s2 = r := ⟨_, rfl⟩
    have l3 := adjacent_lt (d := d) (a := k) (s := s2) (n := d.size) (by omega) (by omega)
    rw [h3] at l3
    simp only at l3
    obtain ⟨⟨jF, sF⟩, h4⟩ : ∃ r, median ltn d i1 j1 k1 s3 = r := ⟨_, rfl⟩
    have hcp : choosePivot ltn d a b = (jF, if sF = 0 then .increasing else if sF = 12 then .decreasing else .unknown) := by
      rw [hcp0, if_pos h50]; simp only [h1, h2, h3, h4]
    have C1 := adjacentU blk off cap i w.heap.size 0 d _ _ hsw hne hbl2 (by omega) (by omega) hsz (by omega)
    rw [h1] at C1
    have C2 := fun W' (hS : Sw blk off d w.heap.size s1 (w.alloc (.cells #[.int .i64 0] 3)) W') => adjacentU blk off cap j w.heap.size s1 d _ W' hS hne (Nat.lt_of_lt_of_le hbl2 hS.kp.size) (by omega) (by omega) hsz (by omega)
    simp only [h2] at C2
    have C3 := fun W' (hS : Sw blk off d w.heap.size s2 (w.alloc (.cells #[.int .i64 0] 3)) W') => adjacentU blk off cap k w.heap.size s2 d _ W' hS hne (Nat.lt_of_lt_of_le hbl2 hS.kp.size) (by omega) (by omega) hsz (by omega)
    simp only [h3] at C3
    have C4 := fun W' (hS : Sw blk off d w.heap.size s3 (w.alloc (.cells #[.int .i64 0] 3)) W') => medianU blk off cap i1 j1 k1 w.heap.size s3 d _ W' hS hne (Nat.lt_of_lt_of_le hbl2 hS.kp.size) l1.1 l2.1 l3.1 hsz (by omega)
    simp only [h4] at C4
    have HC1 := Lib.hid C1; have HC2 := Lib.hid C2; have HC3 := Lib.hid C3; have HC4 := Lib.hid C4
    have HCP := Lib.hid hcp
    clear h1 h2 h3 h4 C1 C2 C3 C4 hcp hcp0 hsw hcell hH hi hj hk hq hl l1 l2 l3 h50
    go_enter Try.func39, Try.ntmps39
    go_wp2_with fail
    refine (HC1.out).mono ?_
    rintro e w1 ⟨rfl, q1⟩
    have Q1 := Lib.hid q1
    clear q1
    go_wp2_with fail
    refine (HC2.out _ Q1.out).mono ?_
    rintro e w2 ⟨rfl, q2⟩
    have Q2 := Lib.hid (Q1.out.next q2)
    clear q2
    go_wp2_with fail
    refine (HC3.out _ Q2.out).mono ?_
    rintro e w3 ⟨rfl, q3⟩
    have Q3 := Lib.hid (Q2.out.next q3)
    clear q3
    go_wp2_with fail
    refine (HC4.out _ Q3.out).mono ?_
    rintro e w4 ⟨rfl, q4⟩
    have q5 := Q3.out.next q4
    have c0 := q5.cnt.cell 0 rfl
    have QK : Hid (Kp none' w w4) := HKA.out.then q5.kp (fun i hi x => by omega)
    have hcp := HCP.out
    clear q4 q5
    by_cases hs0 : sF = 0
    · subst hs0
      have HR : Hid (choosePivot ltn d a b = (jF, .increasing)) := by show _ = _; rw [hcp]; rfl
      clear hcp
      go_wp2_with fail
      go_ret2
      exact ⟨by rw [HR.out]; rfl, QK.out⟩
    · have hsb : ((sF : Int) == 0) = false := by rw [beq_eq_false_iff_ne]; omega
      by_cases hs12 : sF = 12
      · subst hs12
        have HR : Hid (choosePivot ltn d a b = (jF, .decreasing)) := by show _ = _; rw [hcp]; rfl
        clear hcp hs0
        go_wp2_with fail
        go_ret2
        exact ⟨by rw [HR.out]; rfl, QK.out⟩
      · have hs12b : ((sF : Int) == 12) = false := by rw [beq_eq_false_iff_ne]; omega
        have HR : Hid (choosePivot ltn d a b = (jF, .unknown)) := by show _ = _; rw [hcp, if_neg hs0, if_neg hs12]
        clear hcp hs0 hs12
        go_wp2_with fail
        go_ret2
        exact ⟨by rw [HR.out]; rfl, QK.out⟩
  · have h50I : (l : Int) < 50 := by omega
    obtain ⟨⟨jF, sF⟩, h4⟩ : ∃ r, median ltn d i j k 0 = r := ⟨_, rfl⟩
    have hcp : choosePivot ltn d a b = (jF, if sF = 0 then .increasing else if sF = 12 then .decreasing else .unknown) := by
      rw [hcp0, if_neg h50]; simp only [h4]
    have C4 := medianU blk off cap i j k w.heap.size 0 d _ _ hsw hne hbl2 (by omega) (by omega) (by omega) hsz (by omega)
    rw [h4] at C4
    have HC4 := Lib.hid C4
    have HCP := Lib.hid hcp
    clear h4 C4 hcp hcp0 hsw hcell hH hi hj hk hq hl h50
    go_enter Try.func39, Try.ntmps39
    go_wp2_with fail
    refine (HC4.out).mono ?_
    rintro e w4 ⟨rfl, q5⟩
    have c0 := q5.cnt.cell 0 rfl
    have QK : Hid (Kp none' w w4) := HKA.out.then q5.kp (fun i hi x => by omega)
    have hcp := HCP.out
    clear q5
    by_cases hs0 : sF = 0
    · subst hs0
      have HR : Hid (choosePivot ltn d a b = (jF, .increasing)) := by show _ = _; rw [hcp]; rfl
      clear hcp
      go_wp2_with fail
      go_ret2
      exact ⟨by rw [HR.out]; rfl, QK.out⟩
    · have hsb : ((sF : Int) == 0) = false := by rw [beq_eq_false_iff_ne]; omega
      by_cases hs12 : sF = 12
      · subst hs12
        have HR : Hid (choosePivot ltn d a b = (jF, .decreasing)) := by show _ = _; rw [hcp]; rfl
        clear hcp hs0
        go_wp2_with fail
        go_ret2
        exact ⟨by rw [HR.out]; rfl, QK.out⟩
      · have hs12b : ((sF : Int) == 12) = false := by rw [beq_eq_false_iff_ne]; omega
        have HR : Hid (choosePivot ltn d a b = (jF, .unknown)) := by show _ = _; rw [hcp, if_neg hs0, if_neg hs12]
        clear hcp hs0 hs12
        go_wp2_with fail
        go_ret2
        exact ⟨by rw [HR.out]; rfl, QK.out⟩
end Go.Proofs.Ythnlggecjdifnaa.sortUint32
