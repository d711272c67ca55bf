/- The library's sort at uint32: one round of pdqsort, in plain Lean: what its stages leave, and what is left to do. -/
import Derived.Test.YthnlggecjdifnaaSoAUint32
namespace Go.Proofs.Ythnlggecjdifnaa.sortUint32
set_option linter.unusedVariables false
set_option linter.unusedSimpArgs false
open Go.RowKit Go.Sort Go.Proofs.Ythnlggecjdifnaa
structure Opened (dk : Array Nat) (a b lim : Nat) (wb wp : Bool) (D1 D2 D3 : Array Nat) (L C1 PV : Nat) (C2 HT : Hint) (dn : Bool) : Prop where
  brk : wb = false → D1 = breakPatterns dk a b ∧ L = lim - 1
  nob : wb = true → D1 = dk ∧ L = lim
  liml : L ≤ lim
  piv : choosePivot ltn D1 a b = (C1, C2)
  dec : C2 = .decreasing → D2 = reverseRange D1 a b ∧ PV = (b - 1) - (C1 - a) ∧ HT = .increasing
  ndec : C2 ≠ .decreasing → D2 = D1 ∧ PV = C1 ∧ HT = C2
  par : (wb && wp && decide (HT = .increasing)) = true → partialInsertionSort ltn D2 a b = (D3, dn)
  nop : (wb && wp && decide (HT = .increasing)) = false → D3 = D2 ∧ dn = false
  s1 : D1.size = dk.size
  s2 : D2.size = dk.size
  s3 : D3.size = dk.size
  c1 : a ≤ C1 ∧ C1 < b
  pv : a ≤ PV ∧ PV < b
  done : dn = true → pdq ltn dk a b lim wb wp = D3
  peq : dn = false → (decide (a > 0) && !ltn D3[a - 1]! D3[PV]!) = true → ∀ mid D4, partitionEqual ltn D3 a b PV = (mid, D4) →
    a < mid ∧ mid ≤ b ∧ D4.size = dk.size ∧ Below ltn mid b D4 ∧ pdq ltn dk a b lim wb wp = pdq ltn D4 mid b L wb wp
  prt : dn = false → (decide (a > 0) && !ltn D3[a - 1]! D3[PV]!) = false → ∀ mid ap D4, partition ltn D3 a b PV = (mid, ap, D4) →
    a ≤ mid ∧ mid < b ∧ D4.size = dk.size ∧ Below ltn a mid D4 ∧ Below ltn (mid + 1) b D4 ∧
    (mid - a < b - mid → ∃ E, E = pdq ltn D4 a mid L true true ∧ E.size = dk.size ∧ Below ltn (mid + 1) b E ∧ pdq ltn dk a b lim wb wp = pdq ltn E (mid + 1) b L (decide (mid - a ≥ (b - a) / 8)) ap) ∧
    (¬ mid - a < b - mid → ∃ E, E = pdq ltn D4 (mid + 1) b L true true ∧ E.size = dk.size ∧ Below ltn a mid E ∧ pdq ltn dk a b lim wb wp = pdq ltn E a mid L (decide (b - mid ≥ (b - a) / 8)) ap)
theorem opened {dk : Array Nat} {a b lim : Nat} {wb wp : Bool} (h12 : ¬ b - a ≤ 12) (hl : ¬ lim = 0) (hb : b ≤ dk.size) (hB : Below ltn a b dk) :
    ∃ D1 D2 D3 L C1 PV C2 HT dn, Opened dk a b lim wb wp D1 D2 D3 L C1 PV C2 HT dn := by
  obtain ⟨s1, B1, c1, s2, B2, pv, s3, B3⟩ := rd_facts (limit := lim) (wb := wb) (wp := wp) ltn_swo partialInsertionSort_holds reverseRange_holds (show a < b by omega) hb hB
  refine ⟨(rd ltn dk a b lim wb wp).d1, (rd ltn dk a b lim wb wp).d2, (rd ltn dk a b lim wb wp).pi.1, (rd ltn dk a b lim wb wp).lim, (rd ltn dk a b lim wb wp).c.1, (rd ltn dk a b lim wb wp).pivot, (rd ltn dk a b lim wb wp).c.2, (rd ltn dk a b lim wb wp).hint, (rd ltn dk a b lim wb wp).pi.2,
    { brk := fun h => by subst h; exact ⟨rfl, rfl⟩
      nob := fun h => by subst h; exact ⟨rfl, rfl⟩
      liml := rd_lim_le
      piv := rfl
      dec := fun h => rd_dec h
      ndec := fun h => rd_not h
      par := fun h => (rd_pi_yes h).symm
      nop := fun h => by rw [rd_pi_no h]; exact ⟨rfl, rfl⟩
      s1 := s1, s2 := s2, s3 := s3, c1 := c1, pv := pv
      done := fun h => pdq_done h12 hl h
      peq := fun h h2 mid D4 hx => ?_
      prt := fun h h2 mid ap D4 hx => ?_ }⟩
  · have h2' := h2
    simp only [Bool.and_eq_true, decide_eq_true_eq, Bool.not_eq_true'] at h2'
    obtain ⟨r1, r2, r3, r4, _⟩ := round_eq ltn_swo (partitionEqual_holds ltn) h2'.1 pv.1 pv.2 (by rw [s3]; exact hb) B3 h2'.2 hx
    exact ⟨r1, r2, r3.trans s3, r4, by rw [pdq_eq h12 hl h h2 (by rw [hx]; exact ⟨r1, r2⟩), hx]⟩
  · obtain ⟨r1, r2, r3, r4, r5, r6, r7⟩ := round_part ltn_swo (partition_holds ltn) pv.1 pv.2 (by rw [s3]; exact hb) B3 hx
    have hd4 : D4.size = dk.size := r3.trans s3
    refine ⟨r1, r2, hd4, r4, r5, fun h4 => ?_, fun h4 => ?_⟩
    · obtain ⟨pL, sL⟩ := pdq_sorts ltn ltn_swo D4 a mid (rd ltn dk a b lim wb wp).lim true true (by omega) (by omega) r4
      exact ⟨_, rfl, pL.1.trans hd4, (r6 _ pL sL).1, by rw [pdq_left h12 hl h h2 (by rw [hx]; exact ⟨r1, r2⟩) (by rw [hx]; exact h4), hx]⟩
    · obtain ⟨pL, sL⟩ := pdq_sorts ltn ltn_swo D4 (mid + 1) b (rd ltn dk a b lim wb wp).lim true true (by omega) (by omega) r5
      exact ⟨_, rfl, pL.1.trans hd4, (r7 _ pL sL).1, by rw [pdq_right h12 hl h h2 (by rw [hx]; exact ⟨r1, r2⟩) (by rw [hx]; exact h4), hx]⟩
end Go.Proofs.Ythnlggecjdifnaa.sortUint32
