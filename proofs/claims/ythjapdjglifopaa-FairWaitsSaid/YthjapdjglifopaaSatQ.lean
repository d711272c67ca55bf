/- Numbers added in pieces. Names no function of the program. -/
import Derived.Test.YthjapdjglifopaaSat
namespace Go.Proofs.Ythjapdjglifopaa
set_option linter.unusedVariables false
set_option linter.unusedSimpArgs false
theorem satN_low (a b x0 x1 y0 y1 : Nat) (h1 : a = x1 * 4294967296 + x0) (h2 : b = y1 * 4294967296 + y0) (k0 c0 k1 c1 : Nat) (h3 : x0 + y0 = k0 * 4294967296 + c0) (hc0 : c0 < 4294967296) (h4 : x1 + y1 + k0 = k1 * 4294967296 + c1) (hc1 : c1 < 4294967296) (h5 : k1 = 0) : satN a b = c1 * 4294967296 + c0 := by
  unfold satN
  have : a + b = c1 * 4294967296 + c0 := by omega
  rw [if_pos (by omega), this]
theorem satN_high (a b x0 x1 y0 y1 : Nat) (h1 : a = x1 * 4294967296 + x0) (h2 : b = y1 * 4294967296 + y0) (k0 c0 k1 c1 : Nat) (h3 : x0 + y0 = k0 * 4294967296 + c0) (h4 : x1 + y1 + k0 = k1 * 4294967296 + c1) (h5 : 0 < k1) : satN a b = 18446744073709551615 := by
  unfold satN
  rw [if_neg (by omega)]
end Go.Proofs.Ythjapdjglifopaa
