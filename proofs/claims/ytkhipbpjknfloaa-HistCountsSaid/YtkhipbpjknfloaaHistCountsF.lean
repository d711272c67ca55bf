/- HistCounts (layer 38): for any fine bits, any list of numbers added and any part the law returns true and its arguments read as before. No further condition. -/
import Derived.Test.YtkhipbpjknfloaaRows
import Derived.WalkKit
import Derived.ProofKit
import Derived.OpenShut
import Derived.ChangeMaps5
import Derived.Test.YtkhipbpjknfloaaOpen
import Derived.Test.YtkhipbpjknfloaaHistCountsW
import Derived.Test.YtkhipbpjknfloaaHistO
namespace Go.Proofs.Ytkhipbpjknfloaa.histCounts
set_option linter.unusedVariables false
set_option linter.unusedSimpArgs false
open Go.ChangeShapes Go.WideShapes Go.ChangeAt Go.RowKit Go.Proofs.Ytkhipbpjknfloaa Go.ChangeMaps
set_option linter.unusedVariables false

theorem own : ownKnob Try.prog.godebug = none := by kernel_rfl

set_option maxRecDepth 100000 in
set_option maxHeartbeats 4000000 in
theorem lifted (os : Os) (started : os.Started) (H : Type) (enc : TypeId × Value → H) :
    ReturnsInHanded {} Try.checked os 9 .any (Rows.histCountsSpec.pre6 enc Try.prog Try.f9 Rows.histCountsRow.domain false) (Rows.histCountsSpec.post enc Try.prog Try.f9 false true false false) := by
  refine returnsInHanded_of_change (C := Try.checked) own started (by kernel_rfl) Try.func9
    (ChangeSpec.witness6 (enc := enc) (C := Try.checked) false ⟨#[], #[.int .u8 0, .slice none 0 0, .agg #[.int .u64 0, .int .u64 0]], []⟩ 8 (by kernel_rfl) (by kernel_rfl) (by kernel_rfl) (by kernel_rfl)) ?_
  intro W base args ds gs before hval0 hW hcnd _
  have hval : ∀ (j : Nat) t v, Try.f9.params[j]? = some t → args[j]? = some v → Value.okWide Try.prog W .any base t v := hval0
  have hW' := hW
  obtain ⟨p, q, hA0, hV, rfl, hfz, hnd⟩ := hW
  have hA : DataW.TrodAll enc Try.prog W 0 (fun _ => true) true Try.f9.params.toList args.toList ds p := hA0
  rw [Try.params9] at hA hval
  obtain ⟨v0, vs0, d0, ds0, p0, q0, hargs, rfl, rfl, h0, r0⟩ := trodAll_cons hA
  obtain ⟨v1, vs1, d1, ds1, p1, q1, rfl, rfl, rfl, h1, r1⟩ := trodAll_cons r0
  obtain ⟨v2, vs2, d2, ds2, p2, q2, rfl, rfl, rfl, h2, r2⟩ := trodAll_cons r1
  obtain ⟨rfl, rfl, rfl⟩ := trodAll_nil r2
  obtain rfl : args = #[v0, v1, v2] := by cases args; simp_all
  obtain ⟨s1, len1, cap1, rfl⟩ := okWide_slice Try.underlying60 (hval 1 60 v1 rfl rfl)
  obtain ⟨fuel1, hf1⟩ := h1
  obtain ⟨v1, l1, hv1, hok1, hsl1⟩ := open_flat Try.underlying60 cellsTm (by decide) enAd (fun a => a.1 < 18446744073709551616 ∧ a.2 < 18446744073709551616) enAd_len openTm hf1
  obtain rfl : v1 = .slice s1 len1 cap1 := by simp [Value.cells] at hv1; exact hv1.symm
  obtain ⟨x0, y0, rfl, wx, wy⟩ := open_twoK Try.underlying77 Try.underlying35 (by kernel_rfl) cellsU64 (hval 2 77 v2 rfl rfl) h2
  obtain ⟨a0, rfl, rfl, rfl, w0⟩ := open_int Try.underlying5 (hval 0 5 v0 rfl rfl) h0
  clear hA0 hval0
  obtain ⟨a0, rfl, ha0⟩ : ∃ z : Nat, a0 = z ∧ z < 256 := ⟨a0.toNat, by have := bnd8 w0; omega, by have := bnd8 w0; omega⟩
  obtain ⟨x0, rfl, hx0⟩ : ∃ z : Nat, x0 = z ∧ z < 18446744073709551616 := ⟨x0.toNat, by have := bounds_u64 wx; omega, by have := bounds_u64 wx; omega⟩
  obtain ⟨y0, rfl, hy0⟩ : ∃ z : Nat, y0 = z ∧ z < 18446744073709551616 := ⟨y0.toNat, by have := bounds_u64 wy; omega, by have := bounds_u64 wy; omega⟩
  refine (countsLaw a0 x0 y0 ha0 hx0 hy0 l1 hok1 _ W hsl1).mono fun e W' ⟨he, hk⟩ => ?_
  subst he
  exact ⟨_, rfl, law_post 4 Try.underlying4 rfl (by kernel_rfl) (by rw [Try.params9]; intro t ht; simp at ht; rcases ht with rfl | rfl | rfl; all_goals exact ⟨by kernel_rfl, of_decide_eq_true (by kernel_rfl)⟩) rfl hW' rfl (hk.below (Nat.le_refl _) (fun b hb h => by omega))⟩

theorem over : Rows.histCountsRow.holds Try.pinned (OpenSpec.ofChange Rows.histCountsSpec) :=
  OpenClaim.holds_of_wide 9 Try.f9 rfl rfl rfl rfl rfl rfl rfl ⟨rfl, rfl, rfl, rfl, rfl⟩ rfl rfl rfl rfl rfl (by kernel_rfl) Try.func9 (by kernel_rfl)
    (of_decide_eq_true (by kernel_rfl)) (by unfold Func.isWrapper; first | (rw [if_pos (by decide +kernel)]; kernel_rfl) | (rw [if_neg (by decide +kernel)]; exact ⟨rfl, rfl⟩))
    (fun os started H enc _ => lifted os started H enc)

theorem proved : Rows.HistCountsSaid :=
  over
#print axioms proved
end Go.Proofs.Ytkhipbpjknfloaa.histCounts
