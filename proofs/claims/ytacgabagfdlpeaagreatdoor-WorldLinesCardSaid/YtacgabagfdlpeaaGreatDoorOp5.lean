/- Operations: their cells, and how they read in an argument. -/
import Derived.Test.YtacgabagfdlpeaaGreatDoorProg
import Derived.Test.YtacgabagfdlpeaaGreatDoorOpen
import Derived.ProofKit
import Derived.OpenShut
namespace Go.Proofs.YtacgabagfdlpeaaGreatDoor
set_option linter.unusedVariables false
set_option linter.unusedSimpArgs false
open Go.ChangeShapes Go.WideShapes Go.ChangeAt Go.RowKit

structure OpR where
  kind : Int
  flow : Nat
  id : Nat
  len : Nat
  ticks : Nat
def enO (o : OpR) : List Value := [.int .i64 o.kind, .int .u32 o.flow, .int .u32 o.id, .int .u64 o.len, .int .u64 o.ticks]
theorem enO_len (o : OpR) : (enO o).length = 5 := rfl
structure OpR.ok (o : OpR) : Prop where
  kind : -9223372036854775808 ≤ o.kind ∧ o.kind ≤ 9223372036854775807
  flow : o.flow < 4294967296
  id : o.id < 4294967296
  len : o.len < 18446744073709551616
  ticks : o.ticks < 18446744073709551616
instance : Inhabited OpR := ⟨⟨0, 0, 0, 0, 0⟩⟩
theorem OpR.ext_iff' (o p : OpR) : (o.kind = p.kind ∧ o.flow = p.flow ∧ o.id = p.id ∧ o.len = p.len ∧ o.ticks = p.ticks) ↔ o = p := by
  obtain ⟨a, b, c, d, e⟩ := o
  obtain ⟨a', b', c', d', e'⟩ := p
  simp only [OpR.mk.injEq]
instance : DecidableEq OpR := fun o p => decidable_of_iff _ (OpR.ext_iff' o p)

theorem cellsI : Tryz.prog.cellsOf 3 = 1 := by kernel_rfl
theorem cellsW : Tryz.prog.cellsOf 24 = 1 := by kernel_rfl
theorem cellsH : Tryz.prog.cellsOf 23 = 1 := by kernel_rfl
theorem cellsOp : Tryz.prog.cellsOf 91 = 5 := by kernel_rfl
section
variable {H : Type} {enc : TypeId × Value → H} {w : World} {base : Nat} {spare : Nat → Bool} {held : Bool}
theorem openOp (n : Nat) (cs : List Value) (x : DataW H × List MemPlace) (h : DataW.trod enc Tryz.prog w base spare held n 91 cs = some x) : ∃ a : OpR, a.ok ∧ cs = enO a := by
  obtain ⟨hlen, hf⟩ := flat_fields Tryz.underlying91 cellsOp (by decide) (by intro f hf; simp at hf; rcases hf with rfl | rfl | rfl | rfl | rfl; (exact cellsI); (exact cellsH); (exact cellsH); (exact cellsW); exact cellsW) h
  match cs, hlen with
  | [c0, c1, c2, c3, c4], _ =>
    obtain ⟨n0, y0, h0⟩ := hf 0 _ c0 rfl rfl
    obtain ⟨n1, y1, h1⟩ := hf 1 _ c1 rfl rfl
    obtain ⟨n2, y2, h2⟩ := hf 2 _ c2 rfl rfl
    obtain ⟨n3, y3, h3⟩ := hf 3 _ c3 rfl rfl
    obtain ⟨n4, y4, h4⟩ := hf 4 _ c4 rfl rfl
    obtain ⟨i0, e0, _, w0⟩ := DataW.trod_int Tryz.underlying3 h0
    obtain ⟨i1, e1, _, w1⟩ := DataW.trod_int Tryz.underlying23 h1
    obtain ⟨i2, e2, _, w2⟩ := DataW.trod_int Tryz.underlying23 h2
    obtain ⟨i3, e3, _, w3⟩ := DataW.trod_int Tryz.underlying24 h3
    obtain ⟨i4, e4, _, w4⟩ := DataW.trod_int Tryz.underlying24 h4
    simp at e0 e1 e2 e3 e4
    subst e0 e1 e2 e3 e4
    have b1 := bounds_u32 w1
    have b2 := bounds_u32 w2
    have b3 := bounds_u64 w3
    have b4 := bounds_u64 w4
    obtain ⟨f, rfl⟩ : ∃ z : Nat, i1 = z := ⟨i1.toNat, by omega⟩
    obtain ⟨i, rfl⟩ : ∃ z : Nat, i2 = z := ⟨i2.toNat, by omega⟩
    obtain ⟨m, rfl⟩ : ∃ z : Nat, i3 = z := ⟨i3.toNat, by omega⟩
    obtain ⟨k, rfl⟩ : ∃ z : Nat, i4 = z := ⟨i4.toNat, by omega⟩
    exact ⟨⟨i0, f, i, m, k⟩, ⟨bounds_i64 w0, by show f < _; omega, by show i < _; omega, by show m < _; omega, by show k < _; omega⟩, rfl⟩

end
end Go.Proofs.YtacgabagfdlpeaaGreatDoor
