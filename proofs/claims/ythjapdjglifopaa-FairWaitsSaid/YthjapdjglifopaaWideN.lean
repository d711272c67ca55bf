/- Walks of layer 1, the document's: wide numbers told apart, taken away, capped. -/
import Derived.Test.YthjapdjglifopaaSatR
namespace Go.Proofs.Ythjapdjglifopaa
set_option linter.unusedVariables false
set_option linter.unusedSimpArgs false
open Go.RowKit Go.Shelf

/-- A wide number's pieces. -/
def wN (n : Nat) : List Value := wq ((n % 4294967296 : Nat) : Int) ((n / 4294967296 % 4294967296 : Nat) : Int) ((n / 18446744073709551616 % 4294967296 : Nat) : Int) ((n / 79228162514264337593543950336 % 4294967296 : Nat) : Int)
def capN (d : Nat) : Nat := if d < 18446744073709551616 then d else 18446744073709551615
theorem rOfN (a : Nat) (ha : a < 18446744073709551616) (w : World) : Calls Try.prog 59 #[.int .u64 a] w fun e w' => e = .returned (.agg (wN a).toArray) ∧ Kp none' w w' := by
  refine (rWide a ha w).mono ?_
  rintro e w' ⟨rfl, k⟩
  refine ⟨?_, k⟩
  have : wq ((a : Int) % 4294967296) ((a : Int) / 4294967296) 0 0 = wN a := by
    unfold wN
    congr 1 <;> omega
  rw [this]
theorem rPlusN (m n : Nat) (h : m + n < 340282366920938463463374607431768211456) (w : World) : Calls Try.prog 58 #[.agg (wN m).toArray, .agg (wN n).toArray] w fun e w' => e = .returned (.agg (wN (m + n)).toArray) ∧ Kp none' w w' := by
  refine (rPlus (m % 4294967296) (m / 4294967296 % 4294967296) (m / 18446744073709551616 % 4294967296) (m / 79228162514264337593543950336 % 4294967296) (n % 4294967296) (n / 4294967296 % 4294967296) (n / 18446744073709551616 % 4294967296) (n / 79228162514264337593543950336 % 4294967296) (by omega) (by omega) (by omega) (by omega) (by omega) (by omega) (by omega) (by omega) w).mono ?_
  rintro e w' ⟨rfl, k⟩
  refine ⟨?_, k⟩
  obtain ⟨m0, m1, m2, m3, hm, e0, e1, e2, e3⟩ : ∃ m0 m1 m2 m3 : Nat, m = m0 + m1 * 4294967296 + m2 * 18446744073709551616 + m3 * 79228162514264337593543950336 ∧ m % 4294967296 = m0 ∧ m / 4294967296 % 4294967296 = m1 ∧ m / 18446744073709551616 % 4294967296 = m2 ∧ m / 79228162514264337593543950336 % 4294967296 = m3 := ⟨_, _, _, _, by omega, rfl, rfl, rfl, rfl⟩
  obtain ⟨n0, n1, n2, n3, hn, f0, f1, f2, f3⟩ : ∃ m0 m1 m2 m3 : Nat, n = m0 + m1 * 4294967296 + m2 * 18446744073709551616 + m3 * 79228162514264337593543950336 ∧ n % 4294967296 = m0 ∧ n / 4294967296 % 4294967296 = m1 ∧ n / 18446744073709551616 % 4294967296 = m2 ∧ n / 79228162514264337593543950336 % 4294967296 = m3 := ⟨_, _, _, _, by omega, rfl, rfl, rfl, rfl⟩
  rw [e0, e1, e2, e3, f0, f1, f2, f3]
  have a0 : m0 < 4294967296 := by omega
  have a1 : m1 < 4294967296 := by omega
  have a2 : m2 < 4294967296 := by omega
  have a3 : m3 < 4294967296 := by omega
  have b0 : n0 < 4294967296 := by omega
  have b1 : n1 < 4294967296 := by omega
  have b2 : n2 < 4294967296 := by omega
  have b3 : n3 < 4294967296 := by omega
  clear e0 e1 e2 e3 f0 f1 f2 f3
  subst hm hn
  obtain ⟨k0, c0, h0, hc0⟩ : ∃ k c : Nat, m0 + n0 = k * 4294967296 + c ∧ c < 4294967296 := ⟨(m0 + n0) / 4294967296, (m0 + n0) % 4294967296, by omega, by omega⟩
  obtain ⟨k1, c1, h1, hc1⟩ : ∃ k c : Nat, m1 + n1 + k0 = k * 4294967296 + c ∧ c < 4294967296 := ⟨(m1 + n1 + k0) / 4294967296, (m1 + n1 + k0) % 4294967296, by omega, by omega⟩
  obtain ⟨k2, c2, h2, hc2⟩ : ∃ k c : Nat, m2 + n2 + k1 = k * 4294967296 + c ∧ c < 4294967296 := ⟨(m2 + n2 + k1) / 4294967296, (m2 + n2 + k1) % 4294967296, by omega, by omega⟩
  have c3 : m3 + n3 + k2 < 4294967296 := by omega
  have g0 : ((m0 : Int) + n0) / 4294967296 = k0 := by omega
  have g0' : ((m0 : Int) + n0) % 4294967296 = c0 := by omega
  have g1 : ((m1 : Int) + n1 + k0) / 4294967296 = k1 := by omega
  have g1' : ((m1 : Int) + n1 + k0) % 4294967296 = c1 := by omega
  have g2 : ((m2 : Int) + n2 + k1) / 4294967296 = k2 := by omega
  have g2' : ((m2 : Int) + n2 + k1) % 4294967296 = c2 := by omega
  have g3 : ((m3 : Int) + n3 + k2) % 4294967296 = ((m3 + n3 + k2 : Nat) : Int) := by omega
  rw [g0, g0', g1, g1', g2, g2', g3]
  have : wq (c0 : Int) c1 c2 ((m3 + n3 + k2 : Nat) : Int) = wN (m0 + m1 * 4294967296 + m2 * 18446744073709551616 + m3 * 79228162514264337593543950336 + (n0 + n1 * 4294967296 + n2 * 18446744073709551616 + n3 * 79228162514264337593543950336)) := by
    have hs : m0 + m1 * 4294967296 + m2 * 18446744073709551616 + m3 * 79228162514264337593543950336 + (n0 + n1 * 4294967296 + n2 * 18446744073709551616 + n3 * 79228162514264337593543950336) = c0 + c1 * 4294967296 + c2 * 18446744073709551616 + (m3 + n3 + k2) * 79228162514264337593543950336 := by omega
    rw [hs]
    unfold wN
    congr 1 <;> omega
  rw [this]
set_option maxHeartbeats 2000000 in
theorem rCapN (n : Nat) (hn : n < 340282366920938463463374607431768211456) (w : World) : Calls Try.prog 46 #[.agg (wN n).toArray] w fun e w' => e = .returned (.int .u64 (capN n)) ∧ Kp none' w w' := by
  have HF : Hid (n / 18446744073709551616 % 4294967296 = 0 → n / 79228162514264337593543950336 % 4294967296 = 0 → ((capN n : Nat) : Int) = ((n / 4294967296 % 4294967296 : Nat) : Int) * 4294967296 + ((n % 4294967296 : Nat) : Int)) := by
    intro h1 h2; unfold capN; rw [if_pos (by omega)]; omega
  have HG : Hid (¬ (n / 18446744073709551616 % 4294967296 = 0 ∧ n / 79228162514264337593543950336 % 4294967296 = 0) → capN n = 18446744073709551615) := by
    intro h; unfold capN; rw [if_neg (by omega)]
  have b0 : n % 4294967296 < 4294967296 := by omega
  have b1 : n / 4294967296 % 4294967296 < 4294967296 := by omega
  unfold wN wq
  generalize n % 4294967296 = n0 at *
  generalize n / 4294967296 % 4294967296 = n1 at *
  generalize n / 18446744073709551616 % 4294967296 = n2 at *
  generalize n / 79228162514264337593543950336 % 4294967296 = n3 at *
  by_cases h2 : n2 = 0
  · subst h2
    by_cases h3 : n3 = 0
    · subst h3
      have HC := Lib.hid (HF.out rfl rfl)
      go_enter Try.func46, Try.ntmps46
      go_wp2
      go_ret
      exact ⟨by rw [HC.out]; rfl, (Kp.refl _ _).alloc _⟩
    · have hb : ((n3 : Int) != 0) = true := by rw [bne_iff_ne]; omega
      have HC := Lib.hid (HG.out (fun h => h3 h.2))
      clear h3
      go_enter Try.func46, Try.ntmps46
      go_wp2
      go_ret
      exact ⟨by rw [HC.out]; rfl, (Kp.refl _ _).alloc _⟩
  · have hb : ((n2 : Int) != 0) = true := by rw [bne_iff_ne]; omega
    have HC := Lib.hid (HG.out (fun h => h2 h.1))
    clear h2
    go_enter Try.func46, Try.ntmps46
    go_wp2
    go_ret
    exact ⟨by rw [HC.out]; rfl, (Kp.refl _ _).alloc _⟩
end Go.Proofs.Ythjapdjglifopaa
