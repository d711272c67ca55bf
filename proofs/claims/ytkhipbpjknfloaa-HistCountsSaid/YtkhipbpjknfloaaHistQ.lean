/- Layer 38: the document's Under and Count; sat.Under and sat.MulDiv in full. -/
import Derived.Test.YtkhipbpjknfloaaMulW
import Derived.Test.YtkhipbpjknfloaaHistU
import Derived.Test.YtkhipbpjknfloaaDivW
namespace Go.Proofs.Ytkhipbpjknfloaa
set_option linter.unusedVariables false
set_option linter.unusedSimpArgs false
open Go.RowKit Go.Maps Go.Shelf
theorem wide_lt {a b : Nat} (ha : a < 18446744073709551616) (hb : b < 18446744073709551616) : a * b < 340282366920938463463374607431768211456 :=
  Nat.lt_of_le_of_lt (Nat.mul_le_mul (show a ≤ 18446744073709551615 by omega) (show b ≤ 18446744073709551615 by omega)) (by decide)
set_option maxRecDepth 100000 in
set_option maxHeartbeats 1000000 in
theorem rUnderN (a b c d p q : Nat) (ha : a < 18446744073709551616) (hb : b < 18446744073709551616) (hc : c < 18446744073709551616) (hd : d < 18446744073709551616) (hp : a * b = p) (hq : c * d = q) (w : World) :
    Calls Try.prog 60 #[.int .u64 a, .int .u64 b, .int .u64 c, .int .u64 d] w fun e w' => e = .returned (.bool (decide (p < q))) ∧ Kp none' w w' := by
  have h1 := rTimesN a b ha hb
  have h2 := rTimesN c d hc hd
  have h3 := rLessN (a * b) (c * d) (wide_lt ha hb) (wide_lt hc hd)
  rw [hp] at h1 h3
  rw [hq] at h2 h3
  have H1 := Lib.hid h1; have H2 := Lib.hid h2; have H3 := Lib.hid h3
  clear h1 h2 h3 hp hq
  go_enter Try.func60, Try.ntmps60
  go_wp2_with fail
  refine (H1.out _).mono ?_
  rintro e w1 ⟨rfl, k1⟩
  go_wp2_with fail
  refine (H2.out _).mono ?_
  rintro e w2 ⟨rfl, k2⟩
  go_wp2_with fail
  refine (H3.out _).mono ?_
  rintro e w3 ⟨rfl, k3⟩
  have K := Lib.hid ((k1.trans k2).trans k3)
  clear k1 k2 k3
  go_wp2
  go_ret
  exact ⟨rfl, K.out⟩
set_option maxRecDepth 100000 in
set_option maxHeartbeats 1000000 in
theorem gUnder (a b c d p q : Nat) (ha : a < 18446744073709551616) (hb : b < 18446744073709551616) (hc : c < 18446744073709551616) (hd : d < 18446744073709551616) (hp : a * b = p) (hq : c * d = q) (w : World) :
    Calls Try.prog 76 #[.int .u64 a, .int .u64 b, .int .u64 c, .int .u64 d] w fun e w' => e = .returned (.bool (decide (p < q))) ∧ Kp none' w w' := by
  have h1 := Try.bits_Mul64 a b ha hb w
  have h2 := Try.bits_Mul64 c d hc hd w
  rw [hp] at h1
  rw [hq] at h2
  obtain ⟨ph, hph⟩ : ∃ x, p / 18446744073709551616 = x := ⟨_, rfl⟩
  obtain ⟨pl, hpl⟩ : ∃ x, p % 18446744073709551616 = x := ⟨_, rfl⟩
  obtain ⟨qh, hqh⟩ : ∃ x, q / 18446744073709551616 = x := ⟨_, rfl⟩
  obtain ⟨ql, hql⟩ : ∃ x, q % 18446744073709551616 = x := ⟨_, rfl⟩
  rw [hph, hpl] at h1
  rw [hqh, hql] at h2
  have H1 := Lib.hid h1; have H2 := Lib.hid h2
  have hcase : (ph < qh ∧ p < q) ∨ (ph = qh ∧ pl < ql ∧ p < q) ∨ (ph = qh ∧ ¬ pl < ql ∧ ¬ p < q) ∨ (qh < ph ∧ ¬ p < q) := by omega
  clear h1 h2 hp hq hph hpl hqh hql
  rcases hcase with ⟨x1, x2⟩ | ⟨rfl, x1, x2⟩ | ⟨rfl, x1, x2⟩ | ⟨x1, x2⟩
  · rw [decide_eq_true x2]
    have y1 : (ph : Int) < qh := by omega
    go_enter Try.func76, Try.ntmps76
    go_wp2_with fail
    refine H1.out.mono ?_
    rintro e w' ⟨rfl, rfl⟩
    go_wp2_with fail
    refine H2.out.mono ?_
    rintro e w' ⟨rfl, rfl⟩
    go_wp2
    go_ret
    exact ⟨rfl, Kp.refl _ _⟩
  · rw [decide_eq_true x2]
    have y1 : (pl : Int) < ql := by omega
    have y2 : ¬ (ph : Int) < ph := by omega
    go_enter Try.func76, Try.ntmps76
    go_wp2_with fail
    refine H1.out.mono ?_
    rintro e w' ⟨rfl, rfl⟩
    go_wp2_with fail
    refine H2.out.mono ?_
    rintro e w' ⟨rfl, rfl⟩
    go_wp2
    go_ret
    exact ⟨rfl, Kp.refl _ _⟩
  · rw [decide_eq_false x2]
    have y1 : ¬ (pl : Int) < ql := by omega
    have y2 : ¬ (ph : Int) < ph := by omega
    go_enter Try.func76, Try.ntmps76
    go_wp2_with fail
    refine H1.out.mono ?_
    rintro e w' ⟨rfl, rfl⟩
    go_wp2_with fail
    refine H2.out.mono ?_
    rintro e w' ⟨rfl, rfl⟩
    go_wp2
    go_ret
    exact ⟨rfl, Kp.refl _ _⟩
  · rw [decide_eq_false x2]
    have y1 : ¬ (ph : Int) < qh := by omega
    have y2 : ((ph : Int) == qh) = false := by rw [beq_eq_false_iff_ne]; omega
    go_enter Try.func76, Try.ntmps76
    go_wp2_with fail
    refine H1.out.mono ?_
    rintro e w' ⟨rfl, rfl⟩
    go_wp2_with fail
    refine H2.out.mono ?_
    rintro e w' ⟨rfl, rfl⟩
    go_wp2
    go_ret
    have y3 : decide (ph < qh) = false := decide_eq_false (by omega)
    exact ⟨by show Ending.returned (Value.bool (decide (ph < qh))) = _; rw [y3], Kp.refl _ _⟩
set_option maxRecDepth 100000 in
set_option maxHeartbeats 1000000 in
/-- sat.MulDiv where the quotient is none too great. -/
theorem gMulDiv (a b c p Q : Nat) (ha : a < 18446744073709551616) (hb : b < 18446744073709551616) (hc : c < 18446744073709551616) (h0 : 0 < c) (hp : a * b = p) (hQ : p / c = Q) (hQb : p < 18446744073709551616 * c) (w : World) :
    Calls Try.prog 75 #[.int .u64 a, .int .u64 b, .int .u64 c] w fun e w' => e = .returned (.int .u64 (Q : Nat)) ∧ Kp none' w w' := by
  have h1 := Try.bits_Mul64 a b ha hb w
  rw [hp] at h1
  obtain ⟨ph, hph⟩ : ∃ x, p / 18446744073709551616 = x := ⟨_, rfl⟩
  obtain ⟨pl, hpl⟩ : ∃ x, p % 18446744073709551616 = x := ⟨_, rfl⟩
  rw [hph, hpl] at h1
  have H1 := Lib.hid h1
  have hlt : ph < c := by rw [← hph]; exact Nat.div_lt_of_lt_mul hQb
  have hplb : pl < 18446744073709551616 := by omega
  have hpp : ph * 18446744073709551616 + pl = p := by omega
  have y1 : ¬ (c : Int) ≤ ph := by omega
  by_cases hz : ph = 0
  · subst hz
    have hD := pDiv0 pl c h0 (by omega) (by omega) w
    rw [show pl / c = Q by rw [← hQ]; congr 1; omega] at hD
    have HD := Lib.hid hD
    clear h1 hD hp hph hpl hQ hQb hpp
    go_enter Try.func75, Try.ntmps75
    go_wp2_with fail
    refine H1.out.mono ?_
    rintro e w' ⟨rfl, rfl⟩
    go_wp2_with fail
    refine HD.out.mono ?_
    rintro e w' ⟨rfl, k⟩
    go_wp2
    go_ret
    exact ⟨rfl, k⟩
  · have hD := dDiv64 ph pl c (by omega) hlt hplb hc w
    rw [hpp, hQ] at hD
    have HD := Lib.hid hD
    clear h1 hD hp hph hpl hQ hQb hpp
    go_enter Try.func75, Try.ntmps75
    go_wp2_with fail
    refine H1.out.mono ?_
    rintro e w' ⟨rfl, rfl⟩
    go_wp2_with fail
    refine HD.out.mono ?_
    rintro e w' ⟨⟨q, r, rfl, rfl⟩, rfl⟩
    go_wp2
    go_ret
    exact ⟨rfl, Kp.refl _ _⟩
/-- The place of a part among all numbers. -/
def kG (all num den : Nat) : Nat := max (if all * num / den * den < all * num then all * num / den + 1 else all * num / den) 1
theorem kG_le {all num den : Nat} (h0 : 0 < all) (hd : 0 < den) (hn : num ≤ den) : 1 ≤ kG all num den ∧ kG all num den ≤ all := by
  have h1 : all * num ≤ all * den := Nat.mul_le_mul_left _ hn
  have h2 : all * num / den ≤ all := Nat.div_le_of_le_mul (Nat.le_trans h1 (Nat.le_of_eq (Nat.mul_comm all den)))
  unfold kG
  generalize all * num = p at *
  obtain ⟨Q, hQ⟩ : ∃ Q, p / den = Q := ⟨_, rfl⟩
  rw [hQ] at h2 ⊢
  split
  · rename_i h3
    have h4 : Q < all := by
      refine Nat.lt_of_not_le fun h5 => ?_
      have := Nat.mul_le_mul_right den h5
      omega
    omega
  · omega
set_option maxRecDepth 100000 in
set_option maxHeartbeats 1000000 in
theorem gRank (all num den : Nat) (ha : all < 18446744073709551616) (hd : den < 18446744073709551616) (h0 : 0 < all) (hd0 : 0 < den) (hn : num ≤ den) (w : World) :
    Calls Try.prog 58 #[.int .u64 all, .int .u64 num, .int .u64 den] w fun e w' => e = .returned (.int .u64 (kG all num den : Nat)) ∧ Kp none' w w' := by
  obtain ⟨p, hp⟩ : ∃ p, all * num = p := ⟨_, rfl⟩
  obtain ⟨Q, hQ⟩ : ∃ Q, p / den = Q := ⟨_, rfl⟩
  have hpd : p ≤ all * den := by rw [← hp]; exact Nat.mul_le_mul_left _ hn
  have hQa : Q ≤ all := by rw [← hQ]; exact Nat.div_le_of_le_mul (Nat.le_trans hpd (Nat.le_of_eq (Nat.mul_comm all den)))
  have hM := gMulDiv all num den p Q ha (by omega) hd hd0 hp hQ (by
    have : all * den < 18446744073709551616 * den := (Nat.mul_lt_mul_right hd0).2 ha
    omega) w
  have hkb := kG_le h0 hd0 hn
  have hk : kG all num den = max (if Q * den < p then Q + 1 else Q) 1 := by unfold kG; rw [hp, hQ]
  have hU := fun W => gUnder Q den all num (Q * den) p (by omega) hd ha (by omega) rfl hp W
  have HM := Lib.hid hM
  by_cases hlt : Q * den < p
  · rw [if_pos hlt] at hk
    simp only [decide_eq_true hlt] at hU
    have HU := Lib.hid hU
    have he : Hid (kG all num den = Q + 1) := by show _ = _; omega
    have hq1 : Q + 1 < 18446744073709551616 := by omega
    clear hM hU hp hQ hpd hk hlt hkb
    go_enter Try.func58, Try.ntmps58
    go_wp2_with fail
    refine HM.out.mono ?_
    rintro e w1 ⟨rfl, k1⟩
    have K1 := Lib.hid k1
    clear k1
    go_wp2_with fail
    refine (HU.out _).mono ?_
    rintro e w2 ⟨rfl, k2⟩
    have K2 := Lib.hid (K1.out.trans k2)
    clear k2
    go_wp2
    go_ret
    refine ⟨?_, K2.out⟩
    rw [he.out]
    first | rfl | (congr 2; omega) | (congr 2; split <;> omega) | (simp; omega)
  · rw [if_neg hlt] at hk
    simp only [decide_eq_false hlt] at hU
    have HU := Lib.hid hU
    have he : Hid (kG all num den = max Q 1) := hk
    clear hM hU hp hQ hpd hk hlt hkb
    go_enter Try.func58, Try.ntmps58
    go_wp2_with fail
    refine HM.out.mono ?_
    rintro e w1 ⟨rfl, k1⟩
    have K1 := Lib.hid k1
    clear k1
    go_wp2_with fail
    refine (HU.out _).mono ?_
    rintro e w2 ⟨rfl, k2⟩
    have K2 := Lib.hid (K1.out.trans k2)
    clear k2
    go_wp2
    go_ret
    refine ⟨?_, K2.out⟩
    rw [he.out]
    first | rfl | (congr 2; omega) | (congr 2; split <;> omega) | (simp; omega)
end Go.Proofs.Ytkhipbpjknfloaa
