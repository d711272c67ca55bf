/- The library's sort at uint32: the heap sort. -/
import Derived.Test.YthnlggecjdifnaaSoEUint32
namespace Go.Proofs.Ythnlggecjdifnaa.sortUint32
set_option linter.unusedVariables false
set_option linter.unusedSimpArgs false
open Go.RowKit Go.Sort Go.Proofs.Ythnlggecjdifnaa
theorem sd_size (H F : Nat) : ∀ (m r : Nat) (d : Array Nat), H - r ≤ m → (siftDown ltn H F r d).size = d.size := by
  intro m
  induction m with
  | zero => intro r d h; rw [sd_end ltn d (by omega)]
  | succ m ih =>
    intro r d h
    by_cases h0 : H ≤ 2 * r + 1
    · rw [sd_end ltn d h0]
    · by_cases hr : 2 * r + 2 < H ∧ ltn d[F + (2 * r + 1)]! d[F + (2 * r + 2)]! = true
      · cases h3 : ltn d[F + r]! d[F + (2 * r + 2)]! with
        | false => rw [sd_right_stop ltn d hr.1 hr.2 h3]
        | true => rw [sd_right_go ltn d hr.1 hr.2 h3, ih _ _ (by omega), size_swp]
      · have hl : 2 * r + 2 < H → ltn d[F + (2 * r + 1)]! d[F + (2 * r + 2)]! = false := fun h => by
          cases h4 : ltn d[F + (2 * r + 1)]! d[F + (2 * r + 2)]! with
          | false => rfl
          | true => exact absurd ⟨h, h4⟩ hr
        cases h3 : ltn d[F + r]! d[F + (2 * r + 1)]! with
        | false => rw [sd_left_stop ltn d (by omega) hl h3]
        | true => rw [sd_left_go ltn d (by omega) hl h3, ih _ _ (by omega), size_swp]
end Go.Proofs.Ythnlggecjdifnaa.sortUint32
