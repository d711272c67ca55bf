/- Layer 24: a byte in an argument. -/
import Derived.Test.YtkkgpaabbgdfmaaDoorCfY
namespace Go.Proofs.YtkkgpaabbgdfmaaDoor
set_option linter.unusedVariables false
set_option linter.unusedSimpArgs false
open Go.ChangeShapes Go.WideShapes Go.ChangeAt Go.RowKit
theorem bnd8 {i : Int} (h : (Lit.int .u8 i).wf = true) : 0 ≤ i ∧ i < 256 := by
  simp [Lit.wf, IntKind.min, IntKind.max, IntKind.signed, IntKind.bits] at h
  omega
set_option maxRecDepth 100000 in
theorem openByte {H : Type} {enc : TypeId × Value → H} {w : World} {r : Reach} {b0 base : Nat} {spare : Nat → Bool} {held : Bool} {v : Value} {d : DataW H} {ps : List MemPlace} (hval : Value.okWide Tryd.prog w r b0 5 v)
    (h : DataW.Trod enc Tryd.prog w base spare held 5 v d ps) : ∃ x : Nat, v = .int .u8 x ∧ x < 256 := by
  obtain ⟨i, rfl, rfl, rfl, wi⟩ := open_int Tryd.underlying5 hval h
  have h2 := bnd8 wi
  obtain ⟨a, rfl⟩ : ∃ a : Nat, i = a := ⟨i.toNat, by omega⟩
  exact ⟨a, rfl, by omega⟩
end Go.Proofs.YtkkgpaabbgdfmaaDoor
