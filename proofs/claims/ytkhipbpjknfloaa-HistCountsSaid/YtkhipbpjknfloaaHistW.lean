/- Walks of layer 38: powers, the highest bit, buckets. -/
import Derived.Test.YtkhipbpjknfloaaHistP
import Derived.Test.YtkhipbpjknfloaaKept
import Derived.Test.YtkhipbpjknfloaaShelf
import Derived.Sort.WalkA
import Derived.Sort.Walk7a
import Derived.Deep.QuietTactic
import Derived.BigQuiet
import Derived.RegionTactic
import Derived.Test.YtkhipbpjknfloaaProg
namespace Go.Proofs.Ytkhipbpjknfloaa
set_option linter.unusedVariables false
set_option linter.unusedSimpArgs false
open Go.RowKit
theorem bitLen_lg (n : Nat) (h : n < 18446744073709551616) : Lib.bitLen n = if n = 0 then 0 else lg n + 1 := by
  rw [bitLen_eq n (by omega)]; rfl
theorem lg_lt {n k : Nat} (h : n < pw (k + 1)) : lg n ≤ k := by
  by_cases h0 : n = 0
  · subst h0; simp [lg]
  · have := (lg_spec (n := n) (by omega)).1
    refine Nat.le_of_not_lt fun hc => ?_
    have := pw_le (show k + 1 ≤ lg n by omega)
    omega
theorem lg_half {n : Nat} (h : 2 ≤ n) : lg n = lg (n / 2) + 1 := by
  unfold lg
  rw [Nat.log2_def, if_pos h]
theorem pw64 : pw 64 = 18446744073709551616 := by decide
theorem pw_int (k : Nat) : ((2 : Int) ^ k) = (pw k : Nat) := by unfold pw; simp

set_option maxHeartbeats 1000000 in
theorem rPower (k : Nat) (hk : k ≤ 63) (w : World) : Calls Try.prog 47 #[.int .i64 k] w fun e w' => e = .returned (.int .u64 (pw k : Nat)) ∧ w = w' := by
  go_enter Try.func47, Try.ntmps47
  go_wp2
  go_loop [3, 4] (fun x0 i0 => ∃ i : Nat, i0 = .int .i64 i ∧ x0 = .int .u64 (pw i : Nat) ∧ i ≤ k) (fun _ i0 => k - (Go.Proofs.intOf i0).toNat)
  case atStart => exact ⟨0, rfl, rfl, by omega⟩
  case round =>
    obtain ⟨i, rfl, rfl, hi⟩ := hrel
    by_cases hlt : i < k
    · have hii : (i : Int) < k := by omega
      have hb : pw i ≤ 4611686018427387904 := by
        have h2 := pw_le (show i ≤ 62 by omega)
        have h3 : pw 62 = 4611686018427387904 := by decide
        omega
      have HS := Lib.hid (pw_succ i)
      go_wp2
      go_round
      case rel => exact ⟨i + 1, by go_num, by rw [HS.out]; congr 1; omega, by omega⟩
      case measure => simp [Go.Proofs.intOf]; omega
    · obtain rfl : i = k := by omega
      go_wp2
      go_ret
      exact ⟨rfl, rfl⟩
set_option maxHeartbeats 1000000 in
theorem rLog (n : Nat) (hn : n < 18446744073709551616) (h0 : 0 < n) (w : World) : Calls Try.prog 49 #[.int .u64 n] w fun e w' => e = .returned (.int .i64 (lg n : Nat)) ∧ w = w' := by
  have hl := lg_lt (k := 63) (show n < pw (63 + 1) by rw [pw64]; omega)
  go_enter Try.func49, Try.ntmps49
  go_wp2
  go_loop [0, 3] (fun x0 k0 => ∃ (m : Nat) (k : Int), x0 = .int .u64 m ∧ k0 = .int .i64 k ∧ m ≤ n ∧ -1 ≤ k ∧ k ≤ lg n ∧ Hid (k + (if m = 0 then 0 else ((lg m : Nat) : Int) + 1) = lg n)) (fun x0 _ => (Go.Proofs.intOf x0).toNat)
  case atStart => exact ⟨n, -1, rfl, rfl, by omega, by omega, by omega, by show _ = _; rw [if_neg (by omega)]; omega⟩
  case round =>
    obtain ⟨m, k, rfl, rfl, hm, hk0, hk1, hr⟩ := hrel
    by_cases hz : m = 0
    · subst hz
      have he := hr.out
      rw [if_pos rfl, Int.add_zero] at he
      subst he
      go_wp2
      go_ret
      exact ⟨rfl, rfl⟩
    · have hmi : (0 : Int) < m := by omega
      have HR : Hid (k + 1 ≤ lg n ∧ (k + 1) + (if m / 2 = 0 then 0 else ((lg (m / 2) : Nat) : Int) + 1) = lg n) := by
        have he := hr.out
        rw [if_neg hz] at he
        by_cases h1 : m = 1
        · subst h1
          have : lg 1 = 0 := by decide
          rw [this] at he
          refine ⟨by omega, ?_⟩
          rw [if_pos (by decide)]; omega
        · have h2 := lg_half (n := m) (by omega)
          refine ⟨by omega, ?_⟩
          rw [if_neg (by omega)]; omega
      have hle := HR.out.1
      clear hr
      go_wp2
      go_round
      case rel => exact ⟨m / 2, k + 1, by congr 1, rfl, by omega, by omega, hle, HR.out.2⟩
      case measure => simp [Go.Proofs.intOf]; omega
set_option maxHeartbeats 1000000 in
theorem pLog (n : Nat) (hn : n < 18446744073709551616) (h0 : 0 < n) (w : World) : Calls Try.prog 48 #[.int .u64 n] w fun e w' => e = .returned (.int .i64 (lg n : Nat)) ∧ w = w' := by
  have hl := lg_lt (k := 63) (show n < pw (63 + 1) by rw [pw64]; omega)
  have hb := Try.bits_Len64 (n : Nat) w (by omega) (by omega)
  rw [Int.toNat_natCast, bitLen_lg n hn, if_neg (by omega)] at hb
  have HB := Lib.hid hb
  clear hb
  go_enter Try.func48, Try.ntmps48
  go_wp2_with (go_at_call 66; refine HB.out.mono ?_; rintro e w' ⟨rfl, rfl⟩)
  go_ret
  exact ⟨rfl, rfl⟩
end Go.Proofs.Ytkhipbpjknfloaa
