/- Walks of layer 31: the document's prefixes. -/
import Derived.Test.YthnlggecjdifnaaDoorAddrX
namespace Go.Proofs.YthnlggecjdifnaaDoor
set_option linter.unusedVariables false
set_option linter.unusedSimpArgs false
open Go.RowKit

set_option maxHeartbeats 1000000 in
theorem rFirst (a k : Nat) (w : World) (ha : a < 4294967296) (hk : k ≤ 32) : Calls Tryd.prog 38 #[.int .u32 a, .int .i64 k] w fun e w' => e = .returned (.int .u64 (a / 2 ^ (32 - k) : Nat)) ∧ w = w' := by
  go_enter Tryd.func38, Tryd.ntmps38
  go_wp2
  go_loop [5, 6] (fun n i => ∃ j N : Nat, k + j ≤ 32 ∧ i = .int .i64 (k + j : Nat) ∧ n = .int .u64 N ∧ N < 4294967296 ∧ Hid (N = a / 2 ^ j)) (fun _ i => 32 - (intOf i).toNat)
  case atStart => exact ⟨0, a, by omega, by simp, rfl, ha, by simp [Hid]⟩
  case round =>
    obtain ⟨j, N, hj, rfl, rfl, hN, hn⟩ := hrel
    by_cases hlt : k + j < 32
    · have hs : Hid (N / 2 = a / 2 ^ (j + 1)) := by
        show _ = _
        rw [hn.out, Nat.div_div_eq_div_mul, Nat.pow_succ]
      go_wp2
      go_round
      case rel => exact ⟨j + 1, N / 2, by omega, by go_num, by simp, by omega, hs.out⟩
      case measure => simp [intOf]; omega
    · have hj2 : Hid (N = a / 2 ^ (32 - k)) := by
        have := hn.out
        rw [show j = 32 - k by omega] at this; exact this
      go_wp2
      go_ret
      exact ⟨ret_int (by rw [hj2.out]; simp), rfl⟩

theorem back_beq (a n : Nat) : ((a / 2 ^ n * 2 ^ n : Nat) : Int) == (a : Int) ↔ a % 2 ^ n = 0 := by
  have h := Nat.div_add_mod a (2 ^ n)
  rw [Nat.mul_comm] at h
  rw [beq_iff_eq]
  constructor
  · intro h1
    have h2 : a / 2 ^ n * 2 ^ n = a := by exact_mod_cast h1
    omega
  · intro h1
    have h2 : a / 2 ^ n * 2 ^ n = a := by omega
    exact_mod_cast h2

set_option maxHeartbeats 1000000 in
theorem rRight (a : Nat) (b : Int) (w : World) (ha : a < 4294967296) (hb : -9223372036854775808 ≤ b ∧ b ≤ 9223372036854775807) : Calls Tryd.prog 23 #[.agg #[.int .u32 a, .int .i64 b]] w fun e w' => e = .returned (.bool (rightB a b)) ∧ Kp none' w w' := by
  by_cases h0 : b < 0
  · have hf : Hid (rightB a b = false) := by unfold Hid rightB; simp; omega
    go_enter Tryd.func23, Tryd.ntmps23
    go_wp2
    go_ret
    exact ⟨ret_bool hf.out.symm, (Kp.refl _ _).alloc _⟩
  · by_cases h1 : 32 < b
    · have hf : Hid (rightB a b = false) := by unfold Hid rightB; simp; omega
      go_enter Tryd.func23, Tryd.ntmps23
      go_wp2
      go_ret
      exact ⟨ret_bool hf.out.symm, (Kp.refl _ _).alloc _⟩
    · obtain ⟨k, rfl⟩ : ∃ k : Nat, b = k := ⟨b.toNat, by omega⟩
      have hk : k ≤ 32 := by omega
      have hF := Lib.hid (fun W => rFirst a k W ha hk)
      have hf : Hid (rightB a k = decide (a % 2 ^ (32 - k) = 0)) := by unfold Hid rightB; simp; intro _; omega
      have hle : a / 2 ^ (32 - k) * 2 ^ (32 - k) ≤ a := Nat.div_mul_le_self _ _
      have HLE := Lib.hid hle
      obtain ⟨q, hq⟩ : ∃ q, a / 2 ^ (32 - k) = q := ⟨_, rfl⟩
      simp only [hq] at hF
      have HQ := Lib.hid hq
      clear hle hq h0 h1
      go_enter Tryd.func23, Tryd.ntmps23
      go_wp2_with fail
      refine (hF.out _).mono ?_
      rintro e w' ⟨rfl, rfl⟩
      go_wp2_with fail
      go_loop [3, 4] (fun n i => ∃ j N : Nat, k + j ≤ 32 ∧ i = .int .i64 (k + j : Nat) ∧ n = .int .u64 N ∧ N < 4294967296 ∧ Hid (N = q * 2 ^ j)) (fun _ i => 32 - (intOf i).toNat)
      case atStart => exact ⟨0, q, by omega, by simp, rfl, by have := HQ.out; have h2 : a / 2 ^ (32 - k) ≤ a := Nat.div_le_self _ _; omega, by simp [Hid]⟩
      case round =>
        obtain ⟨j, N, hj, rfl, rfl, hN, hn⟩ := hrel
        by_cases hlt : k + j < 32
        · have hs : Hid (N * 2 = q * 2 ^ (j + 1)) := by
            show _ = _
            rw [hn.out, Nat.pow_succ, Nat.mul_assoc]
          have hN2 : N * 2 < 4294967296 := by
            have h2 : q * 2 ^ (j + 1) ≤ q * 2 ^ (32 - k) := Nat.mul_le_mul_left _ (Nat.pow_le_pow_right (by decide) (by omega))
            have h3 := HLE.out
            rw [HQ.out] at h3
            have h4 := hs.out
            omega
          go_wp2_with fail
          go_round
          case rel => exact ⟨j + 1, N * 2, by omega, by go_num, by go_num, hN2, hs.out⟩
          case measure => simp [intOf]; omega
        · have hj2 : Hid (N = a / 2 ^ (32 - k) * 2 ^ (32 - k)) := by
            have := hn.out
            rw [show j = 32 - k by omega] at this
            show _ = _
            rw [HQ.out]; exact this
          go_wp2_with fail
          go_ret
          refine ⟨ret_bool ?_, (Kp.refl _ _).alloc _⟩
          rw [hf.out, hj2.out, Bool.eq_iff_iff, decide_eq_true_eq]
          exact back_beq a _
end Go.Proofs.YthnlggecjdifnaaDoor
