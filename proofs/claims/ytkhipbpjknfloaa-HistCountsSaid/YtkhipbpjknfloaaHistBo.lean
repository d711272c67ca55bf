/- Layer 38: Part and the document's Part answer alike. -/
import Derived.Test.YtkhipbpjknfloaaHistRp
namespace Go.Proofs.Ytkhipbpjknfloaa
set_option linter.unusedVariables false
set_option linter.unusedSimpArgs false
open Go.RowKit Go.Maps Go.Shelf
attribute [local go_sem] Oper.semAt_some
theorem split_ex (rs : List RwN) (k : Nat) (h0 : 0 < k) (h : k ≤ sumC rs) : ∃ pre r post, rs = pre ++ r :: post ∧ sumC pre < k ∧ k ≤ sumC pre + r.2.2 := by
  induction rs using snoc_ind with
  | h0 => exact absurd h (by show ¬ k ≤ 0; omega)
  | h1 rs r ih =>
    rw [sumC_snoc] at h
    by_cases h1 : k ≤ sumC rs
    · obtain ⟨pre, x, post, rfl, h2, h3⟩ := ih h1
      exact ⟨pre, x, post ++ [r], by simp, h2, h3⟩
    · exact ⟨rs, r, [], rfl, by omega, h⟩
set_option maxRecDepth 100000 in
set_option maxHeartbeats 2000000 in
theorem rPartNo (rs : List RwN) (all num den : Nat) (hrs : ∀ r ∈ rs, r.2.2 < 18446744073709551616) (hall : sumR rs = all) (hno : all = 0 ∨ den = 0 ∨ den < num) (v : Value) (w : World) (h : Sl w v rs.length 3 (rs.flatMap enRw)) :
    Calls Try.prog 36 #[v, .int .u64 num, .int .u64 den] w fun e w' => e = .returned (.tuple #[.agg (enRw (0, 0, 0)).toArray, .bool false]) ∧ Kp none' w w' := by
  obtain ⟨ao, acap, rfl⟩ : ∃ ao cap, v = .slice ao rs.length cap := by obtain ⟨ao, cap, rfl, _⟩ := h.is; exact ⟨_, _, rfl⟩
  have w0 := (Kp.refl none' w).alloc (.cells (enRw (0, 0, 0)).toArray 78)
  have HB0 := Lib.hid (Blk.new w (enRw (0, 0, 0)) 78)
  have HC := rCountN rs hrs _ _ (h.old w0)
  rw [hall] at HC
  have HC := Lib.hid HC
  have hone := one3 (0, 0, 0)
  have hcase : (((all : Int) == 0) = true) ∨ (((all : Int) == 0) = false ∧ ((den : Int) == 0) = true) ∨ (((all : Int) == 0) = false ∧ ((den : Int) == 0) = false ∧ (den : Int) < num) := by
    by_cases h1 : all = 0
    · exact .inl (by rw [beq_iff_eq]; omega)
    · have e1 : ((all : Int) == 0) = false := by rw [beq_eq_false_iff_ne]; omega
      by_cases h2 : den = 0
      · exact .inr (.inl ⟨e1, by rw [beq_iff_eq]; omega⟩)
      · exact .inr (.inr ⟨e1, by rw [beq_eq_false_iff_ne]; omega, by omega⟩)
  have W0 := Lib.hid w0
  clear hall h hno w0
  go_enter Try.func36, Try.ntmps36
  go_wp2_with fail
  refine HC.out.mono ?_
  rintro e w1 ⟨rfl, k1⟩
  have HB1 := Lib.hid (HB0.out.nc (NC.of_kp k1))
  have K1 := Lib.hid (W0.out.trans k1)
  have hb1 := HB1.out
  have c0 := hb1.cell 0 rfl
  have c1 := hb1.cell 1 rfl
  have c2 := hb1.cell 2 rfl
  have f0 := hb1.fz 0
  have f1 := hb1.fz 1
  have f2 := hb1.fz 2
  clear k1 HC hb1
  rcases hcase with h1 | ⟨h1, h2⟩ | ⟨h1, h2, h3⟩
  all_goals
    go_wp2_with (refine wp_set_row rfl 78 (.tmp 6) (.tmp 25) rfl HB1.out (enRw (0, 0, 0)) rfl rfl infoRr rfl hone ?_; intro W2 hB2 hO2 hK2)
    exact ret_row2 rfl hB2 _ Try.underlying78 rfl infoRr rfl ⟨rfl, hK2 _ _ K1.out (.inr (Nat.le_refl _))⟩
/-- Both answer alike. -/
theorem partBoth (f num den : Nat) (hf : f ≤ 8) (l : List Ad) (hl : l.length ≤ 1000000) (hl64 : ∀ e ∈ l, e.1 < 18446744073709551616) (hd : den < 18446744073709551616) : ∃ (r : RwN) (b : Bool),
    (∀ w B0 hb, Hs w B0 hb f l → Calls Try.prog 35 #[.pointer (some ⟨hb, 0, none⟩), .int .u64 num, .int .u64 den] w fun e w' => e = .returned (.tuple #[.agg (enRw r).toArray, .bool b]) ∧ Kp none' w w') ∧
    (∀ v w, Sl w v (rowsN f l).length 3 ((rowsN f l).flatMap enRw) → Calls Try.prog 36 #[v, .int .u64 num, .int .u64 den] w fun e w' => e = .returned (.tuple #[.agg (enRw r).toArray, .bool b]) ∧ Kp none' w w') := by
  have hrs : ∀ r ∈ rowsN f l, r.2.2 < 18446744073709551616 := fun r h => row_cnt h
  by_cases hno : sumR (rowsN f l) = 0 ∨ den = 0 ∨ den < num
  · exact ⟨(0, 0, 0), false, fun w B0 hb h => hPartNo h hf hl hl64 rfl hno, fun v w h => rPartNo _ _ num den hrs rfl hno v w h⟩
  · have ha0 : 0 < sumR (rowsN f l) := by omega
    have hd0 : 0 < den := by omega
    have hn : num ≤ den := by omega
    obtain ⟨hk1, hk2⟩ := kG_le ha0 hd0 hn
    obtain ⟨pre, r, post, h1, h2, h3⟩ := split_ex (rowsN f l) _ hk1 (Nat.le_trans hk2 (sumR_le _))
    refine ⟨r, true, fun w B0 hb h => (hPartG h hf hl hl64 rfl ha0 (sumR_lt _) hd0 hd hn).mono ?_, fun v w h => (rPartN _ _ num den hrs rfl ha0 hd0 hd hn v w h).mono ?_⟩
    · rintro e w' ⟨pre', r', post', g1, g2, g3, ge, gk⟩
      rw [split_one h1 g1 h2 h3 g2 g3]; exact ⟨ge, gk⟩
    · rintro e w' ⟨pre', r', post', g1, g2, g3, ge, gk⟩
      rw [split_one h1 g1 h2 h3 g2 g3]; exact ⟨ge, gk⟩
end Go.Proofs.Ytkhipbpjknfloaa
