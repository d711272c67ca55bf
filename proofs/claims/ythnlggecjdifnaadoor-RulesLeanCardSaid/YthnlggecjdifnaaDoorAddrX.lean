/- Walks of layer 31: which addresses a prefix has, which prefixes it covers. -/
import Derived.Test.YthnlggecjdifnaaDoorAddrW
import Derived.Deep.RegionHeld3
import Derived.Deep.RegionWith
import Derived.Deep.DeepCutAuto
namespace Go.Proofs.YthnlggecjdifnaaDoor
set_option linter.unusedVariables false
set_option linter.unusedSimpArgs false
open Go.RowKit
theorem top_beq (x a n : Nat) (h : a / 2 ^ n * 2 ^ n = a) : ((x : Int) / 2 ^ n * 2 ^ n == (a : Int)) = decide (x / 2 ^ n = a / 2 ^ n) := by
  have e : (x : Int) / 2 ^ n * 2 ^ n = ((x / 2 ^ n * 2 ^ n : Nat) : Int) := by simp
  have hp : 0 < 2 ^ n := Nat.pow_pos (by decide)
  rw [e, Bool.eq_iff_iff]
  simp only [beq_iff_eq, decide_eq_true_eq]
  constructor
  · intro h1
    have h2 : x / 2 ^ n * 2 ^ n = a := by omega
    rw [← h2, Nat.mul_div_cancel _ hp]
  · intro h1
    rw [h1, h]
set_option maxHeartbeats 1000000 in
theorem aHas (a x : Nat) (b : Int) (w : World) (ha : a < 4294967296) (hx : x < 4294967296) (hb : -9223372036854775808 ≤ b ∧ b ≤ 9223372036854775807) : Calls Tryd.prog 42 #[.agg #[.int .u32 a, .int .i64 b], .int .u32 x] w fun e w' => e = .returned (.bool (hasB a b x)) ∧ Kp none' w w' := by
  have hM := Lib.hid (fun W => aMask b W hb)
  have hR := fun W => aRight a b W ha hb
  obtain ⟨rr, hrr⟩ : ∃ rr, rightB a b = rr := ⟨_, rfl⟩
  simp only [hrr] at hR
  have HR := Lib.hid hR
  obtain ⟨wx, hwx⟩ : ∃ wx, wx = w.alloc (.cells #[.int .u32 a, .int .i64 b] 46) := ⟨_, rfl⟩
  have hk0 : Kp none' w wx := by rw [hwx]; exact (Kp.refl _ _).alloc _
  have hbx : Blk wx w.heap.size [.int .u32 a, .int .i64 b] 46 := by rw [hwx]; exact Blk.new _ _ _
  have HK0 := Lib.hid hk0; have HWX := Lib.hid hwx
  have d0 := hbx.cell 0 rfl
  have d1 := hbx.cell 1 rfl
  have HB := Lib.hid hbx
  clear hR hk0 hwx hbx
  cases rr with
  | true =>
    have h01 := rightB_iff.1 hrr
    have hbt := has_bits x hx h01.1 h01.2.1
    have hf : Hid (hasB a b x = decide (x / 2 ^ (32 - b.toNat) = a / 2 ^ (32 - b.toNat))) := by unfold Hid hasB; rw [hrr]; rfl
    have hmul : Hid (a / 2 ^ (32 - b.toNat) * 2 ^ (32 - b.toNat) = a) := Nat.div_mul_cancel (Nat.dvd_of_mod_eq_zero h01.2.2)
    obtain ⟨m, hm⟩ : ∃ m : Int, (maskN (clampN b) : Int) = m := ⟨_, rfl⟩
    rw [hm] at hM hbt
    have HF := hf
    clear hm h01 hrr
    go_enter Tryd.func42, Tryd.ntmps42
    go_wp2
    rw [← HWX.out]
    go_region_held3 (fun w' => w'.cell? ⟨w.heap.size, 0, none⟩ = some (.int .u32 a) ∧ w'.cell? ⟨w.heap.size, 1, none⟩ = some (.int .i64 b)) (go_keep)
      (first
        | (go_at_call 24; refine (HR.out _).mono ?_; rintro e w1 ⟨rfl, k1⟩; have d0' := k1.cell (a := ⟨w.heap.size, 0, none⟩) d0 id; have d1' := k1.cell (a := ⟨w.heap.size, 1, none⟩) d1 id; have K1 := Lib.hid k1; clear k1)
        | (go_at_call 39; refine (hM.out _).mono ?_; rintro e w2 ⟨rfl, rfl⟩))
    go_wp2
    go_ret
    exact ⟨ret_bool (by rw [hf.out]; exact top_beq x a _ hmul.out), HK0.out.trans ((Kp.refl none' _).drew.trans K1.out)⟩
  | false =>
    have hf : Hid (hasB a b x = false) := by unfold Hid hasB; rw [hrr]; rfl
    clear hrr
    go_enter Tryd.func42, Tryd.ntmps42
    go_wp2
    rw [← HWX.out]
    first
      | go_region_with (first | (go_at_call 24; refine (HR.out _).mono ?_; rintro e w1 ⟨rfl, k1⟩; have K1 := Lib.hid k1; clear k1))
      | fail
    all_goals
      go_wp2
      go_ret
      exact ⟨ret_bool hf.out.symm, HK0.out.trans ((Kp.refl none' _).drew.trans K1.out)⟩

set_option maxHeartbeats 1000000 in
theorem aCovers (a a' : Nat) (b b' : Int) (w : World) (ha : a < 4294967296) (ha' : a' < 4294967296) (hb : -9223372036854775808 ≤ b ∧ b ≤ 9223372036854775807) (hb' : -9223372036854775808 ≤ b' ∧ b' ≤ 9223372036854775807) :
    Calls Tryd.prog 31 #[.agg #[.int .u32 a, .int .i64 b], .agg #[.int .u32 a', .int .i64 b']] w fun e w' => e = .returned (.bool (covB a b a' b')) ∧ Kp none' w w' := by
  have hR := fun W => aRight a' b' W ha' hb'
  have hH := fun W => aHas a a' b W ha ha' hb
  obtain ⟨rr, hrr⟩ : ∃ rr, rightB a' b' = rr := ⟨_, rfl⟩
  obtain ⟨hh, hhh⟩ : ∃ hh, hasB a b a' = hh := ⟨_, rfl⟩
  simp only [hrr] at hR
  simp only [hhh] at hH
  have HR := Lib.hid hR; have HH := Lib.hid hH
  have hf : Hid (covB a b a' b' = (rr && decide (b ≤ b') && hh)) := by unfold Hid covB; rw [hrr, hhh]
  obtain ⟨wx, hwx⟩ : ∃ wx, wx = (w.alloc (.cells #[.int .u32 a, .int .i64 b] 46)).alloc (.cells #[.int .u32 a', .int .i64 b'] 46) := ⟨_, rfl⟩
  have hk0 : Kp none' w wx := by rw [hwx]; exact ((Kp.refl _ _).alloc _).alloc _
  have hbx : Blk wx w.heap.size [.int .u32 a, .int .i64 b] 46 := by rw [hwx]; exact (Blk.new _ _ _).alloc _
  have hby : Blk wx (w.heap.size + 1) [.int .u32 a', .int .i64 b'] 46 := by
    rw [hwx]
    have := Blk.new (w.alloc (.cells #[.int .u32 a, .int .i64 b] 46)) [.int .u32 a', .int .i64 b'] 46
    simpa using this
  have HK0 := Lib.hid hk0; have HWX := Lib.hid hwx
  have d0 := hbx.cell 0 rfl
  have d1 := hbx.cell 1 rfl
  have d2 := hby.cell 0 rfl
  have d3 := hby.cell 1 rfl
  clear hR hH hrr hhh hk0 hwx hbx hby
  cases rr with
  | false =>
    go_enter Tryd.func31, Tryd.ntmps31
    go_upto_region 1 with (fail)
    rw [← HWX.out]
    go_wp2_with fail
    refine (HR.out _).mono ?_
    rintro e w1 ⟨rfl, k1⟩
    have K1 := Lib.hid k1; clear k1
    go_wp2_with fail
    go_ret
    exact ⟨ret_bool (by rw [hf.out]; rfl), HK0.out.trans K1.out⟩
  | true =>
    by_cases hle : b ≤ b'
    · have hd : decide (b ≤ b') = true := by simpa using hle
      go_enter Tryd.func31, Tryd.ntmps31
      go_upto_region 1 with (fail)
      rw [← HWX.out]
      go_wp2_with fail
      refine (HR.out _).mono ?_
      rintro e w1 ⟨rfl, k1⟩
      have e0 := k1.cell d0 id; have e1 := k1.cell d1 id; have e2 := k1.cell d2 id; have e3 := k1.cell d3 id
      have K1 := Lib.hid k1; clear k1
      go_wp2_with fail
      refine (HH.out _).mono ?_
      rintro e w2 ⟨rfl, k2⟩
      have K2 := Lib.hid k2; clear k2
      go_wp2_with fail
      go_ret
      exact ⟨ret_bool (by rw [hf.out, hd]; rfl), (HK0.out.trans K1.out).trans K2.out⟩
    · have hd : decide (b ≤ b') = false := by simpa using hle
      go_enter Tryd.func31, Tryd.ntmps31
      go_upto_region 1 with (fail)
      rw [← HWX.out]
      go_wp2_with fail
      refine (HR.out _).mono ?_
      rintro e w1 ⟨rfl, k1⟩
      have e0 := k1.cell d0 id; have e1 := k1.cell d1 id; have e2 := k1.cell d2 id; have e3 := k1.cell d3 id
      have K1 := Lib.hid k1; clear k1
      go_wp2_with fail
      go_ret
      exact ⟨ret_bool (by rw [hf.out, hd]; rfl), HK0.out.trans K1.out⟩
end Go.Proofs.YthnlggecjdifnaaDoor
