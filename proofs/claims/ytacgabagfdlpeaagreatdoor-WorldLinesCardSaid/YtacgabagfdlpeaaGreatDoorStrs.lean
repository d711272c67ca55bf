/- The cells of texts. -/
import Derived.Test.YtacgabagfdlpeaaGreatDoorProg
import Derived.Test.YtacgabagfdlpeaaGreatDoorStr
namespace Go.Proofs.YtacgabagfdlpeaaGreatDoor
set_option linter.unusedVariables false
set_option linter.unusedSimpArgs false
open Go.RowKit
/-- The cells of texts. -/
def strs (l : List ByteArray) : List Value := l.map Value.string
theorem strs_get (l : List ByteArray) (k : Nat) (h : k < l.length) : (strs l)[k]? = some (.string (l[k]'h)) := by simp [strs, h]
theorem strs_len (l : List ByteArray) : (strs l).length = l.length := by simp [strs]
theorem strs_snoc (l : List ByteArray) (x : ByteArray) : strs (l ++ [x]) = strs l ++ [.string x] := by simp [strs]
theorem tStr : SlT Tryz.prog 39 9 (.string ByteArray.empty) 1 16 := ⟨Tryz.underlying39, by kernel_rfl, rfl, by decide⟩
end Go.Proofs.YtacgabagfdlpeaaGreatDoor
