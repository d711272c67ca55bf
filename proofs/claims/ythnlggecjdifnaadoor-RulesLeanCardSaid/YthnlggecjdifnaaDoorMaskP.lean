/- Masks of 32 bits in plain Lean: no program in sight. -/
import Derived.Test.YthnlggecjdifnaaDoorAddrP
namespace Go.Proofs.YthnlggecjdifnaaDoor
set_option linter.unusedVariables false
set_option linter.unusedSimpArgs false

/-- The address whose first b bits are 1. -/
def maskN (b : Nat) : Nat := 2 ^ 32 - 2 ^ (32 - b)
theorem mask_shift (k : Nat) (h : k ≤ 32) : 2 ^ 32 - 2 ^ k = (2 ^ (32 - k) - 1) * 2 ^ k := by
  rw [Nat.sub_mul, ← Nat.pow_add, Nat.one_mul, show 32 - k + k = 32 by omega]
theorem mask_and (a k : Nat) (ha : a < 2 ^ 32) (h : k ≤ 32) : a &&& (2 ^ 32 - 2 ^ k) = a / 2 ^ k * 2 ^ k := by
  rw [mask_shift k h, ← Nat.shiftLeft_eq, ← Nat.shiftLeft_eq, ← Nat.shiftRight_eq_div_pow]
  apply Nat.eq_of_testBit_eq
  intro i
  rw [Nat.testBit_and, Nat.testBit_shiftLeft, Nat.testBit_shiftLeft, Nat.testBit_two_pow_sub_one, Nat.testBit_shiftRight]
  by_cases hi : k ≤ i
  · simp only [hi, decide_true, Bool.true_and]
    rw [show k + (i - k) = i by omega]
    by_cases h32 : i < 32
    · have : i - k < 32 - k := by omega
      simp [this]
    · have h1 : a.testBit i = false := Nat.testBit_lt_two_pow (Nat.lt_of_lt_of_le ha (Nat.pow_le_pow_right (by decide) (by omega)))
      simp [h1]
  · simp [hi]
theorem mask_not (a k : Nat) : a &&& (2 ^ k - 1) = a % 2 ^ k := Nat.and_two_pow_sub_one_eq_mod a k
end Go.Proofs.YthnlggecjdifnaaDoor
