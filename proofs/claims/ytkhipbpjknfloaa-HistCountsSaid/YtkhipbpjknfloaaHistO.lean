/- Layer 38: what is added, and pairs of numbers, in arguments. -/
import Derived.Test.YtkhipbpjknfloaaOpen
import Derived.Test.YtkhipbpjknfloaaHistMergesW
import Derived.ProofKit
import Derived.OpenShut
import Derived.ChangeMaps5
namespace Go.Proofs.Ytkhipbpjknfloaa
set_option linter.unusedVariables false
set_option linter.unusedSimpArgs false
open Go.ChangeShapes Go.WideShapes Go.ChangeAt Go.RowKit
set_option maxRecDepth 100000
theorem cellsTm : Try.prog.cellsOf 62 = 2 := by kernel_rfl
theorem cellsU64 : Try.prog.cellsOf 35 = 1 := by kernel_rfl
theorem cellsB8 : Try.prog.cellsOf 5 = 1 := by kernel_rfl
section
variable {H : Type} {enc : TypeId × Value → H} {w : World} {base : Nat} {spare : Nat → Bool} {held : Bool}
theorem bnd8 {i : Int} (h : (Lit.int .u8 i).wf = true) : 0 ≤ i ∧ i < 256 := by
  simp [Lit.wf, IntKind.min, IntKind.max, IntKind.signed, IntKind.bits] at h
  omega
theorem openTm (n : Nat) (cs : List Value) (x : DataW H × List MemPlace) (h : DataW.trod enc Try.prog w base spare held n 62 cs = some x) : ∃ a : Ad, (a.1 < 18446744073709551616 ∧ a.2 < 18446744073709551616) ∧ cs = enAd a := by
  obtain ⟨hlen, hf⟩ := flat_fields Try.underlying62 cellsTm (by decide) (by intro f hf; simp at hf; rcases hf with rfl | rfl <;> exact cellsU64) h
  match cs, hlen with
  | [c0, c1], _ =>
    obtain ⟨n0, y0, h0⟩ := hf 0 _ c0 rfl rfl
    obtain ⟨n1, y1, h1⟩ := hf 1 _ c1 rfl rfl
    obtain ⟨i0, e0, _, w0⟩ := DataW.trod_int Try.underlying35 h0
    obtain ⟨i1, e1, _, w1⟩ := DataW.trod_int Try.underlying35 h1
    simp at e0 e1
    subst e0 e1
    have b0 := bounds_u64 w0
    have b1 := bounds_u64 w1
    obtain ⟨f, rfl⟩ : ∃ z : Nat, i0 = z := ⟨i0.toNat, by omega⟩
    obtain ⟨g, rfl⟩ : ∃ z : Nat, i1 = z := ⟨i1.toNat, by omega⟩
    exact ⟨(f, g), ⟨by show f < _; omega, by show g < _; omega⟩, rfl⟩
theorem at_of_take {cs : List Value} {o : Nat} {v : Value} (h : (cs.drop o).take 1 = [v]) : cs[o]? = some v := by
  have : ((cs.drop o).take 1)[0]? = some v := by rw [h]; rfl
  rw [List.getElem?_take, if_pos (by omega), List.getElem?_drop] at this
  simpa using this
theorem some_at {α : Type} {xs : List α} {i n : Nat} (h : xs.length = n) (hi : i < n) : ∃ y, xs[i]? = some y := ⟨xs[i]'(by omega), List.getElem?_eq_getElem _⟩
theorem int_at {k : IntKind} {t : TypeId} (ht : Try.prog.underlying t = some (.int k)) {m o : Nat} {cs : List Value} {y : DataW H × List MemPlace} (h : DataW.trod enc Try.prog w base spare held m t ((cs.drop o).take 1) = some y) : ∃ i, cs[o]? = some (.int k i) ∧ (Lit.int k i).wf = true := by
  obtain ⟨i, e, _, w0⟩ := DataW.trod_int ht h
  exact ⟨i, at_of_take e, w0⟩
/-- An array of two numbers of one kind. -/
theorem open_twoK {q : IntKind} {t e : TypeId} (ht : Try.prog.underlying t = some (.array 2 e)) (he : Try.prog.underlying e = some (.int q)) (hc : Try.prog.cellsOf t = 2) (hce : Try.prog.cellsOf e = 1) {r : Reach} {b0 : Nat} {v : Value} {d : DataW H} {p : List MemPlace} (hv : Value.okWide Try.prog w r b0 t v) (h : DataW.Trod enc Try.prog w base spare held t v d p) :
    ∃ f g : Int, v = .agg #[.int q f, .int q g] ∧ (Lit.int q f).wf = true ∧ (Lit.int q g).wf = true := by
  unfold Value.okWide at hv
  rw [ht] at hv
  obtain ⟨cs, rfl, hs, _⟩ := hv
  obtain ⟨fuel, hf⟩ := h
  obtain ⟨zs, m', _, _, _, hz, ha⟩ := DataW.trod_array ht hf
  have g0 := ha 0 (by omega)
  have g1 := ha 1 (by omega)
  obtain ⟨y0, e0⟩ := some_at hz (show 0 < 2 by omega)
  obtain ⟨y1, e1⟩ := some_at hz (show 1 < 2 by omega)
  rw [hce, e0] at g0
  rw [hce, e1] at g1
  obtain ⟨i0, a0, w0⟩ := int_at he g0
  obtain ⟨i1, a1, w1⟩ := int_at he g1
  rw [hc] at hs
  refine ⟨i0, i1, congrArg Value.agg ?_, w0, w1⟩
  apply Array.ext
  · rw [hs]; rfl
  · intro i h1 h2
    simp only [Value.cells] at a0 a1
    have : i = 0 ∨ i = 1 := by omega
    rcases this with rfl | rfl
    · simpa [h1] using a0
    · simpa [h1] using a1
end
end Go.Proofs.Ytkhipbpjknfloaa
