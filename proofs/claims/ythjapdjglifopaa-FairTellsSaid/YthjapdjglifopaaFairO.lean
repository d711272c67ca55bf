/- Flows, and pairs of numbers: their cells, and how they read in an argument. -/
import Derived.Test.YthjapdjglifopaaFairP
namespace Go.Proofs.Ythjapdjglifopaa
set_option linter.unusedVariables false
set_option linter.unusedSimpArgs false
open Go.ChangeShapes Go.WideShapes Go.ChangeAt Go.RowKit
set_option maxRecDepth 100000

theorem cellsFl : Try.prog.cellsOf 72 = 5 := by kernel_rfl
section
variable {H : Type} {enc : TypeId × Value → H} {w : World} {base : Nat} {spare : Nat → Bool} {held : Bool}
theorem openFlow (n : Nat) (cs : List Value) (x : DataW H × List MemPlace) (h : DataW.trod enc Try.prog w base spare held n 72 cs = some x) : ∃ a : FlR, a.ok ∧ cs = enFl a := by
  obtain ⟨hlen, hf⟩ := flat_fields Try.underlying72 cellsFl (by decide) (by intro f hf; simp at hf; rcases hf with rfl | rfl | rfl | rfl | rfl; (exact cellsH); (exact cellsW); (exact cellsW); (exact cellsW); exact cellsW) h
  match cs, hlen with
  | [c0, c1, c2, c3, c4], _ =>
    obtain ⟨n0, y0, h0⟩ := hf 0 _ c0 rfl rfl
    obtain ⟨n1, y1, h1⟩ := hf 1 _ c1 rfl rfl
    obtain ⟨n2, y2, h2⟩ := hf 2 _ c2 rfl rfl
    obtain ⟨n3, y3, h3⟩ := hf 3 _ c3 rfl rfl
    obtain ⟨n4, y4, h4⟩ := hf 4 _ c4 rfl rfl
    obtain ⟨i0, e0, _, w0⟩ := DataW.trod_int Try.underlying43 h0
    obtain ⟨i1, e1, _, w1⟩ := DataW.trod_int Try.underlying30 h1
    obtain ⟨i2, e2, _, w2⟩ := DataW.trod_int Try.underlying30 h2
    obtain ⟨i3, e3, _, w3⟩ := DataW.trod_int Try.underlying30 h3
    obtain ⟨i4, e4, _, w4⟩ := DataW.trod_int Try.underlying30 h4
    simp at e0 e1 e2 e3 e4
    subst e0 e1 e2 e3 e4
    have b0 := bounds_u32 w0
    have b1 := bounds_u64 w1
    have b2 := bounds_u64 w2
    have b3 := bounds_u64 w3
    have b4 := bounds_u64 w4
    obtain ⟨f, rfl⟩ : ∃ z : Nat, i0 = z := ⟨i0.toNat, by omega⟩
    obtain ⟨g, rfl⟩ : ∃ z : Nat, i1 = z := ⟨i1.toNat, by omega⟩
    obtain ⟨i, rfl⟩ : ∃ z : Nat, i2 = z := ⟨i2.toNat, by omega⟩
    obtain ⟨m, rfl⟩ : ∃ z : Nat, i3 = z := ⟨i3.toNat, by omega⟩
    obtain ⟨k, rfl⟩ : ∃ z : Nat, i4 = z := ⟨i4.toNat, by omega⟩
    exact ⟨⟨f, g, i, m, k⟩, ⟨by show f < _; omega, by show g < _; omega, by show i < _; omega, by show m < _; omega, by show k < _; omega⟩, rfl⟩
set_option maxRecDepth 100000 in
theorem open_two {t e : TypeId} (ht : Try.prog.underlying t = some (.array 2 e)) (he : Try.prog.underlying e = some (.int .i64)) (hc : Try.prog.cellsOf t = 2) (hce : Try.prog.cellsOf e = 1) {r : Reach} {b0 : Nat} {v : Value} {d : DataW H} {p : List MemPlace} (hv : Value.okWide Try.prog w r b0 t v) (h : DataW.Trod enc Try.prog w base spare held t v d p) :
    ∃ f g : Int, v = .agg #[.int .i64 f, .int .i64 g] := by
  unfold Value.okWide at hv
  rw [ht] at hv
  obtain ⟨cs, rfl, hs, _⟩ := hv
  obtain ⟨fuel, hf⟩ := h
  obtain ⟨zs, m', _, _, _, hz, ha⟩ := DataW.trod_array ht hf
  have g0 := ha 0 (by omega)
  have g1 := ha 1 (by omega)
  obtain ⟨y0, e0⟩ := some_at hz (show 0 < 2 by omega)
  obtain ⟨y1, e1⟩ := some_at hz (show 1 < 2 by omega)
  rw [hce, e0] at g0
  rw [hce, e1] at g1
  obtain ⟨i0, a0, _⟩ := int_at he g0
  obtain ⟨i1, a1, _⟩ := int_at he g1
  rw [hc] at hs
  refine ⟨i0, i1, congrArg Value.agg ?_⟩
  apply Array.ext
  · rw [hs]; rfl
  · intro i h1 h2
    simp only [Value.cells] at a0 a1
    have : i = 0 ∨ i = 1 := by omega
    rcases this with rfl | rfl
    · simpa [h1] using a0
    · simpa [h1] using a1
end
end Go.Proofs.Ythjapdjglifopaa
