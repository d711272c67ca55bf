/- How a record in an argument reads. -/
import Derived.Test.YthjapdjglifopaaTrW
import Derived.Test.YthjapdjglifopaaOpen
import Derived.ProofKit
import Derived.OpenShut
namespace Go.Proofs.Ythjapdjglifopaa
set_option linter.unusedVariables false
set_option linter.unusedSimpArgs false
open Go.ChangeShapes Go.WideShapes Go.ChangeAt Go.RowKit
theorem cellsInt : Try.prog.cellsOf 3 = 1 := by kernel_rfl
theorem cellsU64 : Try.prog.cellsOf 30 = 1 := by kernel_rfl
theorem cellsU32 : Try.prog.cellsOf 43 = 1 := by kernel_rfl
theorem cellsErrno : Try.prog.cellsOf 51 = 1 := by kernel_rfl
theorem cellsRec : Try.prog.cellsOf 53 = 6 := by kernel_rfl
instance : Inhabited Rec := ⟨⟨0, 0, 0, 0, 0, 0⟩⟩
theorem openRec {H : Type} {enc : TypeId × Value → H} {w : World} {base : Nat} {spare : Nat → Bool} {held : Bool} (n : Nat) (cs : List Value) (x : DataW H × List MemPlace) (h : DataW.trod enc Try.prog w base spare held n 53 cs = some x) : ∃ a : Rec, a.goes ∧ cs = enR a := by
  obtain ⟨hlen, hf⟩ := flat_fields Try.underlying53 cellsRec (by decide) (by intro f hf; simp at hf; rcases hf with rfl | rfl | rfl | rfl | rfl | rfl; (exact cellsU64); (exact cellsInt); (exact cellsU32); (exact cellsU32); (exact cellsU64); exact cellsErrno) h
  match cs, hlen with
  | [c0, c1, c2, c3, c4, c5], _ =>
    obtain ⟨n0, y0, h0⟩ := hf 0 _ c0 rfl rfl
    obtain ⟨n1, y1, h1⟩ := hf 1 _ c1 rfl rfl
    obtain ⟨n2, y2, h2⟩ := hf 2 _ c2 rfl rfl
    obtain ⟨n3, y3, h3⟩ := hf 3 _ c3 rfl rfl
    obtain ⟨n4, y4, h4⟩ := hf 4 _ c4 rfl rfl
    obtain ⟨n5, y5, h5⟩ := hf 5 _ c5 rfl rfl
    obtain ⟨i0, e0, _, w0⟩ := DataW.trod_int Try.underlying30 h0
    obtain ⟨i1, e1, _, w1⟩ := DataW.trod_int Try.underlying3 h1
    obtain ⟨i2, e2, _, w2⟩ := DataW.trod_int Try.underlying43 h2
    obtain ⟨i3, e3, _, w3⟩ := DataW.trod_int Try.underlying43 h3
    obtain ⟨i4, e4, _, w4⟩ := DataW.trod_int Try.underlying30 h4
    obtain ⟨i5, e5, _, w5⟩ := DataW.trod_int Try.underlying51 h5
    simp at e0 e1 e2 e3 e4 e5
    subst e0 e1 e2 e3 e4 e5
    have b0 := bounds_u64 w0
    have b2 := bounds_u32 w2
    have b3 := bounds_u32 w3
    have b4 := bounds_u64 w4
    obtain ⟨t, rfl⟩ : ∃ z : Nat, i0 = z := ⟨i0.toNat, by omega⟩
    obtain ⟨f, rfl⟩ : ∃ z : Nat, i2 = z := ⟨i2.toNat, by omega⟩
    obtain ⟨i, rfl⟩ : ∃ z : Nat, i3 = z := ⟨i3.toNat, by omega⟩
    obtain ⟨m, rfl⟩ : ∃ z : Nat, i4 = z := ⟨i4.toNat, by omega⟩
    exact ⟨⟨t, i1, f, i, m, i5⟩, ⟨⟨by show t < _; omega, by show f < _; omega, by show i < _; omega, by show m < _; omega⟩, bounds_i64 w1, bounds_i64 w5⟩, rfl⟩
end Go.Proofs.Ythjapdjglifopaa
