/- Operations compared. -/
import Derived.Test.YthgpmpmnihijnaaDoorOp5
import Derived.Laws.StructEq
namespace Go.Proofs.YthgpmpmnihijnaaDoor
set_option linter.unusedVariables false
set_option linter.unusedSimpArgs false
open Go.RowKit
theorem eqIn (o p : OpR) (w : World) : (Op.equalIn 10000 40 (.agg (enO o).toArray) (.agg (enO p).toArray)).run Tryd.prog w = .ok (decide (o = p)) w := by
  unfold enO
  go_simp
  by_cases h : o = p
  · subst h; simp
  · rw [decide_eq_false h]
    rw [← OpR.ext_iff'] at h
    split
    · split
      · split
        · split
          · split
            · exact absurd ⟨by assumption, by omega, by omega, by omega, by omega⟩ h
            · rfl
          · rfl
        · rfl
      · rfl
    · rfl
theorem eqlOp (o p : OpR) (w : World) : (binOp .eql 40 (.agg (enO o).toArray) (.agg (enO p).toArray)).run Tryd.prog w = .ok (.bool (decide (o = p))) w := by
  rw [run_eql_struct, eqIn]; rfl
theorem neqOp (o p : OpR) (w : World) : (binOp .neq 40 (.agg (enO o).toArray) (.agg (enO p).toArray)).run Tryd.prog w = .ok (.bool (!decide (o = p))) w := by
  rw [run_neq_struct, eqIn]; rfl
end Go.Proofs.YthgpmpmnihijnaaDoor
