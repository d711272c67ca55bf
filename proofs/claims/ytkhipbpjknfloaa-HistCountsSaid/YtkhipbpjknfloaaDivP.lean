/- Two words divided by one: Knuth's digits; plain law. Names no function of the program. -/
import Derived.Test.YtkhipbpjknfloaaHistP
namespace Go.Proofs.Ytkhipbpjknfloaa
set_option linter.unusedVariables false
set_option linter.unusedSimpArgs false
section
variable {a d n1 n0 v q qh rh : Nat}
theorem k_init (hv : v = n1 * 4294967296 + n0) (hq : q = (a * 4294967296 + d) / v) (hn : 0 < n1) (hd : d < 4294967296) : q ≤ a / n1 := by
  have h1 : q * v ≤ a * 4294967296 + d := by rw [hq]; exact Nat.div_mul_le_self _ _
  rw [hv, Nat.mul_add, ← Nat.mul_assoc] at h1
  rw [Nat.le_div_iff_mul_le hn]
  generalize q * n1 = x at *
  generalize q * n0 = y at *
  omega
theorem k_top (hv : v = n1 * 4294967296 + n0) (hav : a < v) (h0 : n0 < 4294967296) (h1 : 2147483648 ≤ n1) : a / n1 ≤ 4294967297 := by
  have : a / n1 < 4294967298 := Nat.div_lt_of_lt_mul (by omega)
  omega
theorem k_lt (hv : v = n1 * 4294967296 + n0) (hq : q = (a * 4294967296 + d) / v) (hav : a < v) (hd : d < 4294967296) : q < 4294967296 := by
  rw [hq]; exact Nat.div_lt_of_lt_mul (by omega)
theorem k_down (hv : v = n1 * 4294967296 + n0) (hq : q = (a * 4294967296 + d) / v) (hav : a < v) (hd : d < 4294967296) (he : a = qh * n1 + rh) (h : 4294967296 ≤ qh ∨ 4294967296 * rh + d < qh * n0) : q < qh := by
  rcases h with h | h
  · have := k_lt hv hq hav hd; omega
  · rw [hq]
    refine Nat.div_lt_of_lt_mul ?_
    rw [Nat.mul_comm v, hv, Nat.mul_add, ← Nat.mul_assoc]
    generalize qh * n1 = x at *
    generalize qh * n0 = y at *
    omega
theorem k_stop (hv : v = n1 * 4294967296 + n0) (hq : q = (a * 4294967296 + d) / v) (hav : a < v) (he : a = qh * n1 + rh) (hlo : q ≤ qh) (h : qh * n0 ≤ 4294967296 * rh + d) : qh = q := by
  have : qh ≤ q := by
    rw [hq, Nat.le_div_iff_mul_le (by omega), hv, Nat.mul_add, ← Nat.mul_assoc]
    generalize qh * n1 = x at *
    generalize qh * n0 = y at *
    omega
  omega
theorem k_break (hv : v = n1 * 4294967296 + n0) (hq : q = (a * 4294967296 + d) / v) (hav : a < v) (h0 : n0 < 4294967296) (he : a = qh * n1 + rh) (hlo : q ≤ qh) (hq1 : qh ≤ 4294967296) (h : 4294967296 ≤ rh) : qh = q := by
  refine k_stop hv hq hav he hlo ?_
  have : qh * n0 ≤ 4294967296 * n0 := Nat.mul_le_mul_right _ hq1
  omega
theorem k_step (he : a = qh * n1 + rh) (h : 0 < qh) : a = (qh - 1) * n1 + (rh + n1) := by
  obtain ⟨k, rfl⟩ : ∃ k, qh = k + 1 := ⟨qh - 1, by omega⟩
  rw [Nat.add_mul] at he
  simp only [Nat.add_sub_cancel]
  omega
end
/-- Two digits, one behind the other. -/
theorem k_two {A d0 v : Nat} (hv : 0 < v) : A / v * 4294967296 + (A % v * 4294967296 + d0) / v = (A * 4294967296 + d0) / v := by
  have h1 : A * 4294967296 + d0 = v * (A / v * 4294967296) + (A % v * 4294967296 + d0) := by
    have := Nat.div_add_mod A v
    rw [← Nat.mul_assoc]
    generalize v * (A / v) = x at *
    omega
  rw [h1, Nat.mul_add_div hv]
/-- Shifted up both. -/
theorem k_shift {hi lo y P Pc : Nat} (hP : 0 < P) (hPP : P * Pc = 18446744073709551616) : ((hi * P + lo / Pc) * 18446744073709551616 + lo * P % 18446744073709551616) / (y * P) = (hi * 18446744073709551616 + lo) / y := by
  have h1 : lo / Pc = lo * P / 18446744073709551616 := by
    rw [← hPP, Nat.mul_comm P Pc, Nat.mul_div_mul_right _ _ hP]
  have h2 : (hi * P + lo / Pc) * 18446744073709551616 + lo * P % 18446744073709551616 = (hi * 18446744073709551616 + lo) * P := by
    rw [h1, Nat.add_mul, Nat.add_mul, Nat.mul_right_comm hi P]
    have := Nat.div_add_mod (lo * P) 18446744073709551616
    omega
  rw [h2, Nat.mul_div_mul_right _ _ hP]
/-- The whole. -/
theorem k_all {hi lo y P Pc un32 un10 un1 un0 q1 r1 q0 : Nat} (hP : 0 < P) (hPP : P * Pc = 18446744073709551616) (hy : 0 < y) (h32 : un32 = hi * P + lo / Pc) (h10 : un10 = lo * P % 18446744073709551616)
    (e1 : un1 = un10 / 4294967296) (e0 : un0 = un10 % 4294967296) (hq1 : q1 = (un32 * 4294967296 + un1) / (y * P)) (hr1 : r1 = (un32 * 4294967296 + un1) % (y * P)) (hq0 : q0 = (r1 * 4294967296 + un0) / (y * P)) :
    q1 * 4294967296 + q0 = (hi * 18446744073709551616 + lo) / y := by
  have hv : 0 < y * P := Nat.mul_pos hy hP
  rw [hq0, hr1, hq1, k_two hv, ← k_shift (hi := hi) (lo := lo) (y := y) hP hPP, ← h32, ← h10]
  rw [show (un32 * 4294967296 + un1) * 4294967296 + un0 = un32 * 18446744073709551616 + un10 by omega]
/-- The high word of what is divided is below the divisor, shifted up. -/
theorem k_high {hi lo y P Pc : Nat} (hP : 0 < P) (hPP : P * Pc = 18446744073709551616) (hlt : hi < y) (hl : lo < 18446744073709551616) : hi * P + lo / Pc < y * P ∧ lo / Pc < P := by
  have h1 : lo / Pc < P := Nat.div_lt_of_lt_mul (by rw [Nat.mul_comm]; omega)
  have h2 : (hi + 1) * P ≤ y * P := Nat.mul_le_mul_right _ hlt
  rw [Nat.add_mul] at h2
  omega
end Go.Proofs.Ytkhipbpjknfloaa
