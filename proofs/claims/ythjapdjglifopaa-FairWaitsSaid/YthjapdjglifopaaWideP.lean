/- Wide numbers in pieces (plain). -/
import Derived.Test.YthjapdjglifopaaWideN
namespace Go.Proofs.Ythjapdjglifopaa
set_option linter.unusedVariables false
set_option linter.unusedSimpArgs false
open Go.RowKit Go.Shelf

theorem bor (m n d : Nat) (hm : m < 4294967296) (hn : n < 4294967296) (hd : d ≤ 1) : ∃ k c e : Nat, e ≤ 1 ∧ k ≤ 1 ∧ k + e = 1 ∧ c < 4294967296 ∧ m + e * 4294967296 = n + d + c := by
  by_cases h : m < n + d
  · exact ⟨0, m + 4294967296 - n - d, 1, by omega, by omega, by omega, by omega, by omega⟩
  · exact ⟨1, m - n - d, 0, by omega, by omega, by omega, by omega, by omega⟩
theorem borQ (m n d k c e j : Nat) (hj : j + d = 1) (hk : k + e = 1) (hc : c < 4294967296) (h : m + e * 4294967296 = n + d + c) : ((m : Int) + 4294967296 - n - (1 - (j : Int))) / 4294967296 = k ∧ ((m : Int) + 4294967296 - n - (1 - (j : Int))) % 4294967296 = c := by
  have hx : (m : Int) + 4294967296 - n - (1 - (j : Int)) = (k : Int) * 4294967296 + c := by omega
  rw [hx]; omega
theorem borQ0 (m n k c e : Nat) (hk : k + e = 1) (hc : c < 4294967296) (h : m + e * 4294967296 = n + 0 + c) : ((m : Int) + 4294967296 - n) / 4294967296 = k ∧ ((m : Int) + 4294967296 - n) % 4294967296 = c := by
  have hx : (m : Int) + 4294967296 - n = (k : Int) * 4294967296 + c := by omega
  rw [hx]; omega
theorem pieces (m : Nat) (h : m < 340282366920938463463374607431768211456) : ∃ m0 m1 m2 m3 : Nat, m = m0 + m1 * 4294967296 + m2 * 18446744073709551616 + m3 * 79228162514264337593543950336 ∧ m0 < 4294967296 ∧ m1 < 4294967296 ∧ m2 < 4294967296 ∧ m3 < 4294967296 :=
  ⟨m % 4294967296, m / 4294967296 % 4294967296, m / 18446744073709551616 % 4294967296, m / 79228162514264337593543950336 % 4294967296, by omega, by omega, by omega, by omega, by omega⟩
theorem wN_pieces (m m0 m1 m2 m3 : Nat) (h : m = m0 + m1 * 4294967296 + m2 * 18446744073709551616 + m3 * 79228162514264337593543950336) (h0 : m0 < 4294967296) (h1 : m1 < 4294967296) (h2 : m2 < 4294967296) (h3 : m3 < 4294967296) : wN m = wq m0 m1 m2 m3 := by
  have q0 : m % 4294967296 = m0 := by omega
  have q1 : m / 4294967296 % 4294967296 = m1 := by omega
  have q2 : m / 18446744073709551616 % 4294967296 = m2 := by omega
  have q3 : m / 79228162514264337593543950336 % 4294967296 = m3 := by omega
  unfold wN; rw [q0, q1, q2, q3]
theorem bor_all (m0 m1 m2 m3 n0 n1 n2 n3 c0 c1 c2 c3 d0 d1 d2 d3 : Nat) (h0 : m0 + d0 * 4294967296 = n0 + 0 + c0) (h1 : m1 + d1 * 4294967296 = n1 + d0 + c1) (h2 : m2 + d2 * 4294967296 = n2 + d1 + c2) (h3 : m3 + d3 * 4294967296 = n3 + d2 + c3) :
    m0 + m1 * 4294967296 + m2 * 18446744073709551616 + m3 * 79228162514264337593543950336 + d3 * 340282366920938463463374607431768211456 = n0 + n1 * 4294967296 + n2 * 18446744073709551616 + n3 * 79228162514264337593543950336 + (c0 + c1 * 4294967296 + c2 * 18446744073709551616 + c3 * 79228162514264337593543950336) := by omega
end Go.Proofs.Ythjapdjglifopaa
