/- Numbers and acts of layer 15 in arguments. -/
import Derived.Test.YtkhipbpjknfloaaOpen
import Derived.Test.YtkhipbpjknfloaaFlowStaysW
import Derived.ProofKit
import Derived.OpenShut
import Derived.Lib.SmallJoins
namespace Go.Proofs.Ytkhipbpjknfloaa
set_option linter.unusedVariables false
set_option linter.unusedSimpArgs false
open Go.ChangeShapes Go.WideShapes Go.ChangeAt Go.RowKit Go.Joins
set_option maxRecDepth 100000
theorem cellsU32 : Try.prog.cellsOf 22 = 1 := by kernel_rfl
theorem cellsAct15 : Try.prog.cellsOf 24 = 3 := by kernel_rfl
section
variable {H : Type} {enc : TypeId × Value → H} {w : World} {base : Nat} {spare : Nat → Bool} {held : Bool}
theorem bounds8 {i : Int} (h : (Lit.int .u8 i).wf = true) : 0 ≤ i ∧ i < 256 := by
  simp [Lit.wf, IntKind.min, IntKind.max, IntKind.signed, IntKind.bits] at h
  omega
theorem bounds32 {i : Int} (h : (Lit.int .u32 i).wf = true) : 0 ≤ i ∧ i < 4294967296 := by
  simp [Lit.wf, IntKind.min, IntKind.max, IntKind.signed, IntKind.bits] at h
  omega
theorem openU32n (n : Nat) (cs : List Value) (x : DataW H × List MemPlace) (h : DataW.trod enc Try.prog w base spare held n 22 cs = some x) : ∃ a : Nat, a < 4294967296 ∧ cs = enU32n a := by
  obtain ⟨i1, e1, _, w1⟩ := DataW.trod_int Try.underlying22 h
  have := bounds32 w1
  exact ⟨i1.toNat, by omega, by rw [e1]; simp [enU32n]; omega⟩
/-- An act: its kind, its number, its thing. -/
theorem openAct15 {r : Reach} {b0 : Nat} {v : Value} {d : DataW H} {p : List MemPlace} (hv : Value.okWide Try.prog w r b0 24 v) (h : DataW.Trod enc Try.prog w base spare held 24 v d p) :
    ∃ (k id : Nat) (x : Int), v = .agg #[.int .u8 k, .int .u32 id, .int .i64 x] ∧ k < 256 ∧ id < 4294967296 ∧ -9223372036854775808 ≤ x ∧ x ≤ 9223372036854775807 := by
  obtain ⟨v0, v1, v2, y0, y1, y2, n, rfl, _, _, h0, h1, h2⟩ := open_agg3 Try.underlying24 (by kernel_rfl) cellsAct15 hv h
  obtain ⟨i0, e0, _, w0⟩ := DataW.trod_int Try.underlying5 h0
  obtain ⟨i1, e1, _, w1⟩ := DataW.trod_int Try.underlying22 h1
  obtain ⟨i2, e2, _, w2⟩ := DataW.trod_int Try.underlying3 h2
  simp at e0 e1 e2
  subst e0 e1 e2
  have b0 := bounds8 w0
  have b1 := bounds32 w1
  obtain ⟨k, rfl⟩ : ∃ a : Nat, i0 = a := ⟨i0.toNat, by omega⟩
  obtain ⟨a, rfl⟩ : ∃ a : Nat, i1 = a := ⟨i1.toNat, by omega⟩
  exact ⟨k, a, i2, rfl, by omega, by omega, bounds_i64 w2⟩
end
end Go.Proofs.Ytkhipbpjknfloaa
