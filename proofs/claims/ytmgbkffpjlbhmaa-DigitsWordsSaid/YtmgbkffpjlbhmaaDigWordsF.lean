/- DigitsWords (layer 3): for every line and every list of texts the law returns true and both read as before. No further condition. -/
import Derived.Test.YtmgbkffpjlbhmaaRows
import Derived.WalkKit
import Derived.ProofKit
import Derived.OpenShut
import Derived.ChangeMaps5
import Derived.Test.YtmgbkffpjlbhmaaOpen
import Derived.Test.YtmgbkffpjlbhmaaDigWordsW
namespace Go.Proofs.Ytmgbkffpjlbhmaa.digitsWords
set_option linter.unusedVariables false
set_option linter.unusedSimpArgs false
open Go.ChangeShapes Go.WideShapes Go.ChangeAt Go.RowKit Go.Proofs.Ytmgbkffpjlbhmaa Go.ChangeMaps

theorem own : ownKnob Try.prog.godebug = none := by kernel_rfl

theorem cellsStr : Try.prog.cellsOf 9 = 1 := by kernel_rfl
theorem openStr {H : Type} {enc : TypeId × Value → H} {w : World} {base : Nat} {spare : Nat → Bool} {held : Bool} (n : Nat) (cs : List Value) (x : DataW H × List MemPlace) (h : DataW.trod enc Try.prog w base spare held n 9 cs = some x) : ∃ a : ByteArray, a.size ≤ maxLen ∧ cs = [Value.string a] := by
  obtain ⟨s', h, hx, hs⟩ := DataW.trod_string Try.underlying9 h
  exact ⟨s', hs, h⟩
theorem flat_strs (l : List ByteArray) : l.flatMap (fun a => [Value.string a]) = strs l := by
  induction l with
  | nil => rfl
  | cons a r ih => rw [List.flatMap_cons, ih]; rfl
theorem slice_cap {H : Type} {enc : TypeId × Value → H} {P : Program} {w : World} {base : Nat} {spare : Nat → Bool} {held : Bool} {t e : TypeId} {fuel : Nat} {v : Value} {x : DataW H × List MemPlace} (ht : P.underlying t = some (.slice e)) (h : DataW.trod enc P w base spare held fuel t v.cells.toList = some x) :
    ∀ ao n c, v = .slice ao n c → n ≤ c := by
  rintro ao n c rfl
  rcases Go.Deep.open_slice ht h with ⟨h0, _⟩ | ⟨a, len, cap, m, n', D, Pl, h0, hb, hl, _⟩
  · simp [Value.cells] at h0; omega
  · simp [Value.cells] at h0
    obtain ⟨_, rfl, rfl⟩ := h0
    exact hl

set_option maxRecDepth 100000 in
theorem lifted (os : Os) (started : os.Started) (H : Type) (enc : TypeId × Value → H) :
    ReturnsInHanded {} Try.checked os 5 .any (Rows.digitsWordsSpec.pre6 enc Try.prog Try.f5 Rows.digitsWordsRow.domain false) (Rows.digitsWordsSpec.post enc Try.prog Try.f5 false true false false) := by
  refine returnsInHanded_of_change (C := Try.checked) own started (by kernel_rfl) Try.func5
    (ChangeSpec.witness6 (enc := enc) (C := Try.checked) false ⟨#[], #[.string ByteArray.empty, .slice none 0 0], []⟩ 8 (by kernel_rfl) (by kernel_rfl) (by kernel_rfl) (by kernel_rfl)) ?_
  intro W base args ds gs before hval0 hW hcnd _
  have hval : ∀ (j : Nat) t v, Try.f5.params[j]? = some t → args[j]? = some v → Value.okWide Try.prog W .any base t v := hval0
  have hW' := hW
  obtain ⟨p, q, hA0, hV, rfl, hfz, hnd⟩ := hW
  have hA : DataW.TrodAll enc Try.prog W 0 (fun _ => true) true Try.f5.params.toList args.toList ds p := hA0
  rw [Try.params5] at hA hval
  obtain ⟨v0, vs0, d0, ds0, p0, q0, hargs, rfl, rfl, h0, r0⟩ := trodAll_cons hA
  obtain ⟨v1, vs1, d1, ds1, p1, q1, rfl, rfl, rfl, h1, r1⟩ := trodAll_cons r0
  obtain ⟨rfl, rfl, rfl⟩ := trodAll_nil r1
  obtain rfl : args = #[v0, v1] := by cases args; simp_all
  obtain ⟨s0, rfl, rfl, rfl, w0⟩ := open_string Try.underlying9 (hval 0 9 v0 rfl rfl) h0
  obtain ⟨sp, len, cap, rfl⟩ := okWide_slice Try.underlying32 (hval 1 32 v1 rfl rfl)
  obtain ⟨fuel, hf1⟩ := h1
  obtain ⟨v, l, hv, hok, hsl⟩ := open_flat Try.underlying32 cellsStr (by decide) (fun a : ByteArray => [Value.string a]) (fun a => a.size ≤ maxLen) (fun _ => rfl) openStr hf1
  obtain rfl : v = .slice sp len cap := by simp [Value.cells] at hv; exact hv.symm
  have hcap := slice_cap Try.underlying32 hf1
  rw [flat_strs] at hsl
  clear hA0 hval0
  refine (words03 s0 l _ W (by unfold maxLen at w0; omega) hsl hcap (fun x hx => by have := hok x hx; unfold maxLen at this; omega)).mono fun e W' ⟨he, hk⟩ => ?_
  subst he
  exact ⟨_, rfl, law_post 4 Try.underlying4 rfl (by kernel_rfl) (by rw [Try.params5]; intro t ht; simp at ht; rcases ht with rfl | rfl; all_goals exact ⟨by kernel_rfl, of_decide_eq_true (by kernel_rfl)⟩) rfl hW' rfl (hk.below (Nat.le_refl _) (fun _ _ h => h))⟩

theorem over : Rows.digitsWordsRow.holds Try.pinned (OpenSpec.ofChange Rows.digitsWordsSpec) :=
  OpenClaim.holds_of_wide 5 Try.f5 rfl rfl rfl rfl rfl rfl rfl ⟨rfl, rfl, rfl, rfl, rfl⟩ rfl rfl rfl rfl rfl (by kernel_rfl) Try.func5 (by kernel_rfl)
    (of_decide_eq_true (by kernel_rfl)) (by unfold Func.isWrapper; first | (rw [if_pos (by decide +kernel)]; kernel_rfl) | (rw [if_neg (by decide +kernel)]; exact ⟨rfl, rfl⟩))
    (fun os started H enc _ => lifted os started H enc)

theorem proved : Rows.DigitsWordsSaid :=
  over
#print axioms proved
end Go.Proofs.Ytmgbkffpjlbhmaa.digitsWords
