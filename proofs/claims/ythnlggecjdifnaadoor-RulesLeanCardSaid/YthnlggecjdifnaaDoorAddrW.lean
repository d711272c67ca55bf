/- Walks of layer 31: masks and prefixes. -/
import Derived.Test.YthnlggecjdifnaaDoorMaskP
import Derived.Test.YthnlggecjdifnaaDoorStr
import Derived.Test.YthnlggecjdifnaaDoorProg
import Derived.Deep.QuietTactic
import Derived.BigQuiet
import Derived.Laws.BitsAllLaws
namespace Go.Proofs.YthnlggecjdifnaaDoor
set_option linter.unusedVariables false
set_option linter.unusedSimpArgs false
open Go.RowKit

theorem mask_val : ∀ k, k ≤ 32 → 4294967295 * 2 ^ (32 - k) % 4294967296 = maskN k := by decide
theorem mask_int (k : Nat) (hk : k ≤ 32) : (4294967295 * 2 ^ (32 - k) % 4294967296 : Int) = (maskN k : Int) := by
  rw [← mask_val k hk]
  simp
theorem mask_lt (k : Nat) : maskN k < 4294967296 := by
  unfold maskN
  have : 0 < 2 ^ (32 - k) := Nat.pow_pos (by decide)
  omega
/-- How many bits a mask has. -/
def clampN (b : Int) : Nat := (min (max b 0) 32).toNat
theorem clamp_le (b : Int) : clampN b ≤ 32 := by unfold clampN; omega
theorem clamp_in {b : Int} (h0 : 0 ≤ b) (h1 : b ≤ 32) : clampN b = b.toNat := by unfold clampN; omega

set_option maxHeartbeats 400000 in
theorem aMask (b : Int) (w : World) (hb : -9223372036854775808 ≤ b ∧ b ≤ 9223372036854775807) : Calls Tryd.prog 39 #[.int .i64 b] w fun e w' => e = .returned (.int .u32 (maskN (clampN b))) ∧ w = w' := by
  by_cases h0 : b < 0
  · have hc : Hid (clampN b = 0) := by unfold Hid clampN; omega
    go_enter Tryd.func39, Tryd.ntmps39
    go_wp2
    all_goals
      first
        | omega
        | (go_ret; exact ⟨ret_int (by rw [hc.out]; rfl), rfl⟩)
  · by_cases h1 : 32 < b
    · have hc : Hid (clampN b = 32) := by unfold Hid clampN; omega
      go_enter Tryd.func39, Tryd.ntmps39
      go_wp2
      all_goals
        first
          | omega
          | (go_ret; exact ⟨ret_int (by rw [hc.out]; rfl), rfl⟩)
    · obtain ⟨k, rfl⟩ : ∃ k : Nat, b = k := ⟨b.toNat, by omega⟩
      have hc : Hid (clampN k = k) := by unfold Hid clampN; omega
      have hm := Lib.hid (mask_int k (by omega))
      go_enter Tryd.func39, Tryd.ntmps39
      go_wp2
      all_goals
        first
          | omega
          | (go_ret; exact ⟨ret_int (by rw [hc.out]; exact hm.out), rfl⟩)

/-- 'a &^ mask'. -/
theorem right_bits (a : Nat) (ha : a < 4294967296) {b : Int} (h0 : 0 ≤ b) (h1 : b ≤ 32) : bits .andNot .u32 (a : Int) (maskN (clampN b) : Int) = ((a % 2 ^ (32 - b.toNat) : Nat) : Int) := by
  rw [u32_andNot_nat a _ ha (mask_lt _), clamp_in h0 h1]
  congr 1
  unfold maskN
  have h2 : 2 ^ (32 - b.toNat) ≤ 2 ^ 32 := Nat.pow_le_pow_right (by decide) (by omega)
  have h3 : 0 < 2 ^ (32 - b.toNat) := Nat.pow_pos (by decide)
  rw [show 4294967295 - (2 ^ 32 - 2 ^ (32 - b.toNat)) = 2 ^ (32 - b.toNat) - 1 by omega]
  exact mask_not a _
/-- 'x & mask'. -/
theorem has_bits (x : Nat) (hx : x < 4294967296) {b : Int} (h0 : 0 ≤ b) (h1 : b ≤ 32) : bits .and .u32 (x : Int) (maskN (clampN b) : Int) = ((x / 2 ^ (32 - b.toNat) * 2 ^ (32 - b.toNat) : Nat) : Int) := by
  rw [u32_and_nat x _ hx (mask_lt _), clamp_in h0 h1]
  congr 1
  exact mask_and x _ hx (by omega)

theorem mod_beq (a n : Nat) : ((a : Int) % 2 ^ n == 0) = decide (a % 2 ^ n = 0) := by
  have h : (a : Int) % 2 ^ n = ((a % 2 ^ n : Nat) : Int) := by simp
  rw [h, Bool.eq_iff_iff]
  simp only [beq_iff_eq, decide_eq_true_eq]
  omega
set_option maxHeartbeats 1000000 in
theorem aRight (a : Nat) (b : Int) (w : World) (ha : a < 4294967296) (hb : -9223372036854775808 ≤ b ∧ b ≤ 9223372036854775807) : Calls Tryd.prog 24 #[.agg #[.int .u32 a, .int .i64 b]] w fun e w' => e = .returned (.bool (rightB a b)) ∧ Kp none' w w' := by
  have hM := Lib.hid (fun W => aMask b W hb)
  by_cases h0 : 0 ≤ b
  · by_cases h1 : b ≤ 32
    · have hr := right_bits a ha h0 h1
      have hf : Hid (rightB a b = decide (a % 2 ^ (32 - b.toNat) = 0)) := by unfold Hid rightB; simp [h0, h1]
      have HR := Lib.hid hr
      obtain ⟨m, hm⟩ : ∃ m : Int, (maskN (clampN b) : Int) = m := ⟨_, rfl⟩
      rw [hm] at hM hr
      clear hm
      go_enter Tryd.func24, Tryd.ntmps24
      go_wp2
      go_quiet ((go_at_call 39; exact quiet0 (hM.out _)))
      go_wp2
      go_ret
      exact ⟨ret_bool (by rw [hf.out]; exact mod_beq a _), ((Kp.refl _ _).alloc _).drewN _⟩
    · have hf : Hid (rightB a b = false) := by unfold Hid rightB; simp [h0, h1]
      have hd : decide (b ≤ 32) = false := by simpa using h1
      go_enter Tryd.func24, Tryd.ntmps24
      go_wp2
      go_quiet (fail)
      go_wp2
      go_ret
      exact ⟨ret_bool hf.out.symm, ((Kp.refl _ _).alloc _).drewN _⟩
  · have hf : Hid (rightB a b = false) := by unfold Hid rightB; simp [h0]
    have hd : decide (0 ≤ b) = false := by simpa using h0
    go_enter Tryd.func24, Tryd.ntmps24
    go_wp2
    go_quiet (fail)
    go_wp2
    go_ret
    exact ⟨ret_bool hf.out.symm, ((Kp.refl _ _).alloc _).drewN _⟩
end Go.Proofs.YthnlggecjdifnaaDoor
