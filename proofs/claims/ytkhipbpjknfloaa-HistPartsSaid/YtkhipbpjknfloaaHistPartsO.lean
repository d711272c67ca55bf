/- Layer 38: lists of numbers in arguments. -/
import Derived.Test.YtkhipbpjknfloaaHistO
import Derived.Test.YtkhipbpjknfloaaHistPartsW
import Derived.ProofKit
import Derived.OpenShut
import Derived.ChangeMaps5
namespace Go.Proofs.Ytkhipbpjknfloaa
set_option linter.unusedVariables false
set_option linter.unusedSimpArgs false
open Go.ChangeShapes Go.WideShapes Go.ChangeAt Go.RowKit
set_option maxRecDepth 100000
section
variable {H : Type} {enc : TypeId × Value → H} {w : World} {base : Nat} {spare : Nat → Bool} {held : Bool}
theorem openN (n : Nat) (cs : List Value) (x : DataW H × List MemPlace) (h : DataW.trod enc Try.prog w base spare held n 35 cs = some x) : ∃ a : Nat, a < 18446744073709551616 ∧ cs = enN a := by
  obtain ⟨i, e, _, w0⟩ := DataW.trod_int Try.underlying35 h
  have b := bounds_u64 w0
  obtain ⟨f, rfl⟩ : ∃ z : Nat, i = z := ⟨i.toNat, by omega⟩
  exact ⟨f, by omega, e⟩
end
end Go.Proofs.Ytkhipbpjknfloaa
