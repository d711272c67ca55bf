/- Lists taken one by one. -/
import Derived.Test.YtacgabagfdlpeaaGreatDoorProg
import Derived.Test.YtacgabagfdlpeaaGreatDoorStrs
import Derived.BigQuiet
import Derived.Deep.QuietTactic
namespace Go.Proofs.YtacgabagfdlpeaaGreatDoor
set_option linter.unusedVariables false
set_option linter.unusedSimpArgs false
theorem take_snoc' {α : Type} (l : List α) (k : Nat) (h : k < l.length) {y : α} (hy : l[k] = y) : l.take (k + 1) = l.take k ++ [y] := by
  rw [List.take_succ_eq_append_getElem h, hy]
end Go.Proofs.YtacgabagfdlpeaaGreatDoor
