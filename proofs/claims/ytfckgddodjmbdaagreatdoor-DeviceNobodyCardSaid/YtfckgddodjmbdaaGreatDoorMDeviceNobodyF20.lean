/- Masks of 32 bits in plain Lean: no program in sight. -/
import Derived.Test.YtfckgddodjmbdaaGreatDoorMDeviceNobodyF18
import Derived.Test.YtfckgddodjmbdaaGreatDoorMDeviceNobodyF1
import Derived.Test.YtfckgddodjmbdaaGreatDoorProg
import Derived.Deep.QuietTactic
import Derived.BigQuiet
import Derived.Laws.BitsAllLaws
import Derived.Test.YtfckgddodjmbdaaGreatDoorMDeviceNobodyF19
import Derived.Test.YtfckgddodjmbdaaGreatDoorMDeviceNobodyF2
import Derived.Shelf.Spec.TrailingZeros
import Derived.Deep.RegionHeld3
import Derived.Deep.RegionWith
import Derived.Deep.DeepCutAuto
namespace Go.Proofs.YtfckgddodjmbdaaGreatDoor
set_option linter.unusedVariables false
set_option linter.unusedSimpArgs false
def maskN (b : Nat) : Nat := 2 ^ 32 - 2 ^ (32 - b)
theorem mask_shift (k : Nat) (h : k ≤ 32) : 2 ^ 32 - 2 ^ k = (2 ^ (32 - k) - 1) * 2 ^ k := by
  rw [Nat.sub_mul, ← Nat.pow_add, Nat.one_mul, show 32 - k + k = 32 by omega]
theorem mask_and (a k : Nat) (ha : a < 2 ^ 32) (h : k ≤ 32) : a &&& (2 ^ 32 - 2 ^ k) = a / 2 ^ k * 2 ^ k := by
  rw [mask_shift k h, ← Nat.shiftLeft_eq, ← Nat.shiftLeft_eq, ← Nat.shiftRight_eq_div_pow]
  apply Nat.eq_of_testBit_eq
  intro i
  rw [Nat.testBit_and, Nat.testBit_shiftLeft, Nat.testBit_shiftLeft, Nat.testBit_two_pow_sub_one, Nat.testBit_shiftRight]
  by_cases hi : k ≤ i
  · simp only [hi, decide_true, Bool.true_and]
    rw [show k + (i - k) = i by omega]
    by_cases h32 : i < 32
    · have : i - k < 32 - k := by omega
      simp [this]
    · have h1 : a.testBit i = false := Nat.testBit_lt_two_pow (Nat.lt_of_lt_of_le ha (Nat.pow_le_pow_right (by decide) (by omega)))
      simp [h1]
  · simp [hi]
theorem mask_not (a k : Nat) : a &&& (2 ^ k - 1) = a % 2 ^ k := Nat.and_two_pow_sub_one_eq_mod a k
end Go.Proofs.YtfckgddodjmbdaaGreatDoor

namespace Go.Proofs.YtfckgddodjmbdaaGreatDoor
set_option linter.unusedVariables false
set_option linter.unusedSimpArgs false
open Go.RowKit
theorem mask_val : ∀ k, k ≤ 32 → 4294967295 * 2 ^ (32 - k) % 4294967296 = maskN k := by decide
theorem mask_int (k : Nat) (hk : k ≤ 32) : (4294967295 * 2 ^ (32 - k) % 4294967296 : Int) = (maskN k : Int) := by
  rw [← mask_val k hk]
  simp
theorem mask_lt (k : Nat) : maskN k < 4294967296 := by
  unfold maskN
  have : 0 < 2 ^ (32 - k) := Nat.pow_pos (by decide)
  omega
def clampN (b : Int) : Nat := (min (max b 0) 32).toNat
theorem clamp_in {b : Int} (h0 : 0 ≤ b) (h1 : b ≤ 32) : clampN b = b.toNat := by unfold clampN; omega
set_option maxHeartbeats 400000 in
theorem aMask (b : Int) (w : World) (hb : -9223372036854775808 ≤ b ∧ b ≤ 9223372036854775807) : Calls Tryz.prog 93 #[.int .i64 b] w fun e w' => e = .returned (.int .u32 (maskN (clampN b))) ∧ w = w' := by
  by_cases h0 : b < 0
  · have hc : Hid (clampN b = 0) := by unfold Hid clampN; omega
    go_enter Tryz.func93, Tryz.ntmps93
    go_wp2
    all_goals
      first
        | omega
        | (go_ret; exact ⟨ret_int (by rw [hc.out]; rfl), rfl⟩)
        | (go_ret; exact ⟨ret_int (by rw [hc.out, show min (max b 0) (32 : Int) = 0 by omega]; rfl), rfl⟩)
  · by_cases h1 : 32 < b
    · have hc : Hid (clampN b = 32) := by unfold Hid clampN; omega
      go_enter Tryz.func93, Tryz.ntmps93
      go_wp2
      all_goals
        first
          | omega
          | (go_ret; exact ⟨ret_int (by rw [hc.out]; rfl), rfl⟩)
          | (go_ret; exact ⟨ret_int (by rw [hc.out, show min (max b 0) (32 : Int) = 32 by omega]; rfl), rfl⟩)
    · obtain ⟨k, rfl⟩ : ∃ k : Nat, b = k := ⟨b.toNat, by omega⟩
      have hc : Hid (clampN k = k) := by unfold Hid clampN; omega
      have hm := Lib.hid (mask_int k (by omega))
      go_enter Tryz.func93, Tryz.ntmps93
      go_wp2
      all_goals
        first
          | omega
          | (go_ret; exact ⟨ret_int (by rw [hc.out]; exact hm.out), rfl⟩)
          | (go_ret; exact ⟨ret_int (by rw [hc.out, show (32 - min (k : Int) 32).toNat = 32 - k by omega]; exact hm.out), rfl⟩)
theorem right_bits (a : Nat) (ha : a < 4294967296) {b : Int} (h0 : 0 ≤ b) (h1 : b ≤ 32) : bits .andNot .u32 (a : Int) (maskN (clampN b) : Int) = ((a % 2 ^ (32 - b.toNat) : Nat) : Int) := by
  rw [u32_andNot_nat a _ ha (mask_lt _), clamp_in h0 h1]
  congr 1
  unfold maskN
  have h2 : 2 ^ (32 - b.toNat) ≤ 2 ^ 32 := Nat.pow_le_pow_right (by decide) (by omega)
  have h3 : 0 < 2 ^ (32 - b.toNat) := Nat.pow_pos (by decide)
  rw [show 4294967295 - (2 ^ 32 - 2 ^ (32 - b.toNat)) = 2 ^ (32 - b.toNat) - 1 by omega]
  exact mask_not a _
theorem has_bits (x : Nat) (hx : x < 4294967296) {b : Int} (h0 : 0 ≤ b) (h1 : b ≤ 32) : bits .and .u32 (x : Int) (maskN (clampN b) : Int) = ((x / 2 ^ (32 - b.toNat) * 2 ^ (32 - b.toNat) : Nat) : Int) := by
  rw [u32_and_nat x _ hx (mask_lt _), clamp_in h0 h1]
  congr 1
  exact mask_and x _ hx (by omega)
theorem mod_beq (a n : Nat) : ((a : Int) % 2 ^ n == 0) = decide (a % 2 ^ n = 0) := by
  have h : (a : Int) % 2 ^ n = ((a % 2 ^ n : Nat) : Int) := by simp
  rw [h, Bool.eq_iff_iff]
  simp only [beq_iff_eq, decide_eq_true_eq]
  omega
set_option maxHeartbeats 1000000 in
theorem aRight (a : Nat) (b : Int) (w : World) (ha : a < 4294967296) (hb : -9223372036854775808 ≤ b ∧ b ≤ 9223372036854775807) : Calls Tryz.prog 92 #[.agg #[.int .u32 a, .int .i64 b]] w fun e w' => e = .returned (.bool (rightB a b)) ∧ Kp none' w w' := by
  have hM := Lib.hid (fun W => aMask b W hb)
  by_cases h0 : 0 ≤ b
  · by_cases h1 : b ≤ 32
    · have hr := right_bits a ha h0 h1
      have hf : Hid (rightB a b = decide (a % 2 ^ (32 - b.toNat) = 0)) := by unfold Hid rightB; simp [h0, h1]
      have HR := Lib.hid hr
      obtain ⟨m, hm⟩ : ∃ m : Int, (maskN (clampN b) : Int) = m := ⟨_, rfl⟩
      rw [hm] at hM hr
      clear hm
      go_enter Tryz.func92, Tryz.ntmps92
      go_wp2
      go_quiet ((go_at_call 93; exact quiet0 (hM.out _)))
      go_wp2
      go_ret
      exact ⟨ret_bool (by rw [hf.out]; exact mod_beq a _), ((Kp.refl _ _).alloc _).drewN _⟩
    · have hf : Hid (rightB a b = false) := by unfold Hid rightB; simp [h0, h1]
      have hd : decide (b ≤ 32) = false := by simpa using h1
      go_enter Tryz.func92, Tryz.ntmps92
      go_wp2
      go_quiet (fail)
      go_wp2
      go_ret
      exact ⟨ret_bool hf.out.symm, ((Kp.refl _ _).alloc _).drewN _⟩
  · have hf : Hid (rightB a b = false) := by unfold Hid rightB; simp [h0]
    have hd : decide (0 ≤ b) = false := by simpa using h0
    go_enter Tryz.func92, Tryz.ntmps92
    go_wp2
    go_quiet (fail)
    go_wp2
    go_ret
    exact ⟨ret_bool hf.out.symm, ((Kp.refl _ _).alloc _).drewN _⟩

def Tr.ptr : Tr → Value
  | .nil => .pointer none
  | .node b _ _ _ _ _ => .pointer (some ⟨b, 0, none⟩)
def enNd (p : Px) (u : Bool) (x : Nat) (l r : Tr) : List Value := [.int .u32 p.1, .int .i64 p.2, .bool u, .int .u64 x, l.ptr, r.ptr]
def TrM (w : World) : Tr → Prop
  | .nil => True
  | .node b p u x l r => Blk w b (enNd p u x l r) 272 ∧ TrM w l ∧ TrM w r
theorem TrM.kp {S : Nat → Prop} {w w' : World} {t : Tr} (h : TrM w t) (k : Kp S w w') (hS : ∀ b ∈ t.blks, ¬ S b) : TrM w' t := by
  induction t with
  | nil => trivial
  | node b p u x l r hl hr =>
    obtain ⟨h1, h2, h3⟩ := h
    exact ⟨h1.kp k (hS b (by simp [Tr.blks])), hl h2 (fun b' hb => hS b' (by simp [Tr.blks, hb])), hr h3 (fun b' hb => hS b' (by simp [Tr.blks, hb]))⟩
theorem TrM.old {w w' : World} {t : Tr} (h : TrM w t) (k : Kp none' w w') : TrM w' t := h.kp k (fun _ _ x => x)
set_option maxRecDepth 100000 in
set_option maxHeartbeats 1000000 in
theorem tSide (w : World) (b : Nat) (p : Px) (c : w.cell? ⟨b, 1, none⟩ = some (.int .i64 p.2)) (h31 : p.2 ≤ 31) (a : Nat) (ha : a < 4294967296) :
    Calls Tryz.prog 124 #[.pointer (some ⟨b, 0, none⟩), .int .u32 a] w fun e w' => e = .returned (.int .i64 (sideN p a : Nat)) ∧ w = w' := by
  obtain ⟨k, hk⟩ : ∃ k, 31 - p.2 = k := ⟨_, rfl⟩
  have hki : (31 : Int) - (p.2 : Int) = (k : Int) := by omega
  have hs : sideN p a = a / 2 ^ k % 2 := by unfold sideN; rw [hk]
  rw [hs]
  obtain ⟨q, hq⟩ : ∃ q, a / 2 ^ k = q := ⟨_, rfl⟩
  rw [hq]
  have hql : q < 4294967296 := by rw [← hq]; exact Nat.lt_of_le_of_lt (Nat.div_le_self _ _) ha
  have hqi : (a : Int) / 2 ^ k = (q : Int) := by rw [← hq]; push_cast; rfl
  have hk32 : k ≤ 31 := by omega
  obtain ⟨n, hn⟩ : ∃ n, p.2 = n := ⟨_, rfl⟩
  rw [hn] at c hki
  obtain ⟨s, hsq⟩ : ∃ s, q % 2 = s := ⟨_, rfl⟩
  have hs1 : s ≤ 1 := by omega
  have hband : bits .and .u32 (q : Int) 1 = (s : Int) := by
    have := bits_and_u32_nat q 1 hql (by omega)
    rw [Nat.and_one_is_mod, hsq] at this
    exact this
  rw [hsq]
  clear hs hk hq hn h31 hsq
  go_enter Tryz.func124, Tryz.ntmps124
  go_wp2
  go_ret
  exact ⟨rfl, rfl⟩

theorem top_beq (x a n : Nat) (h : a / 2 ^ n * 2 ^ n = a) : ((x : Int) / 2 ^ n * 2 ^ n == (a : Int)) = decide (x / 2 ^ n = a / 2 ^ n) := by
  have e : (x : Int) / 2 ^ n * 2 ^ n = ((x / 2 ^ n * 2 ^ n : Nat) : Int) := by simp
  have hp : 0 < 2 ^ n := Nat.pow_pos (by decide)
  rw [e, Bool.eq_iff_iff]
  simp only [beq_iff_eq, decide_eq_true_eq]
  constructor
  · intro h1
    have h2 : x / 2 ^ n * 2 ^ n = a := by omega
    rw [← h2, Nat.mul_div_cancel _ hp]
  · intro h1
    rw [h1, h]
set_option maxHeartbeats 1000000 in
theorem aHas (a x : Nat) (b : Int) (w : World) (ha : a < 4294967296) (hx : x < 4294967296) (hb : -9223372036854775808 ≤ b ∧ b ≤ 9223372036854775807) : Calls Tryz.prog 60 #[.agg #[.int .u32 a, .int .i64 b], .int .u32 x] w fun e w' => e = .returned (.bool (hasB a b x)) ∧ Kp none' w w' := by
  have hM := Lib.hid (fun W => aMask b W hb)
  have hR := fun W => aRight a b W ha hb
  obtain ⟨rr, hrr⟩ : ∃ rr, rightB a b = rr := ⟨_, rfl⟩
  simp only [hrr] at hR
  have HR := Lib.hid hR
  obtain ⟨wx, hwx⟩ : ∃ wx, wx = w.alloc (.cells #[.int .u32 a, .int .i64 b] 88) := ⟨_, rfl⟩
  have hk0 : Kp none' w wx := by rw [hwx]; exact (Kp.refl _ _).alloc _
  have hbx : Blk wx w.heap.size [.int .u32 a, .int .i64 b] 88 := by rw [hwx]; exact Blk.new _ _ _
  have HK0 := Lib.hid hk0; have HWX := Lib.hid hwx
  have d0 := hbx.cell 0 rfl
  have d1 := hbx.cell 1 rfl
  have HB := Lib.hid hbx
  clear hR hk0 hwx hbx
  cases rr with
  | true =>
    have h01 := rightB_iff.1 hrr
    have hbt := has_bits x hx h01.1 h01.2.1
    have hf : Hid (hasB a b x = decide (x / 2 ^ (32 - b.toNat) = a / 2 ^ (32 - b.toNat))) := by unfold Hid hasB; rw [hrr]; rfl
    have hmul : Hid (a / 2 ^ (32 - b.toNat) * 2 ^ (32 - b.toNat) = a) := Nat.div_mul_cancel (Nat.dvd_of_mod_eq_zero h01.2.2)
    obtain ⟨m, hm⟩ : ∃ m : Int, (maskN (clampN b) : Int) = m := ⟨_, rfl⟩
    rw [hm] at hM hbt
    have HF := hf
    clear hm h01 hrr
    go_enter Tryz.func60, Tryz.ntmps60
    go_wp2
    rw [← HWX.out]
    go_region_held3 (fun w' => w'.cell? ⟨w.heap.size, 0, none⟩ = some (.int .u32 a) ∧ w'.cell? ⟨w.heap.size, 1, none⟩ = some (.int .i64 b)) (go_keep)
      (first
        | (go_at_call 92; refine (HR.out _).mono ?_; rintro e w1 ⟨rfl, k1⟩; have d0' := k1.cell (a := ⟨w.heap.size, 0, none⟩) d0 id; have d1' := k1.cell (a := ⟨w.heap.size, 1, none⟩) d1 id; have K1 := Lib.hid k1; clear k1)
        | (go_at_call 93; refine (hM.out _).mono ?_; rintro e w2 ⟨rfl, rfl⟩))
    go_wp2
    go_ret
    exact ⟨ret_bool (by rw [hf.out]; exact top_beq x a _ hmul.out), HK0.out.trans ((Kp.refl none' _).drew.trans K1.out)⟩
  | false =>
    have hf : Hid (hasB a b x = false) := by unfold Hid hasB; rw [hrr]; rfl
    clear hrr
    go_enter Tryz.func60, Tryz.ntmps60
    go_wp2
    rw [← HWX.out]
    first
      | go_region_with (first | (go_at_call 92; refine (HR.out _).mono ?_; rintro e w1 ⟨rfl, k1⟩; have K1 := Lib.hid k1; clear k1))
      | fail
    all_goals
      go_wp2
      go_ret
      exact ⟨ret_bool hf.out.symm, HK0.out.trans ((Kp.refl none' _).drew.trans K1.out)⟩
set_option maxHeartbeats 1000000 in
theorem aCovers (a a' : Nat) (b b' : Int) (w : World) (ha : a < 4294967296) (ha' : a' < 4294967296) (hb : -9223372036854775808 ≤ b ∧ b ≤ 9223372036854775807) (hb' : -9223372036854775808 ≤ b' ∧ b' ≤ 9223372036854775807) :
    Calls Tryz.prog 118 #[.agg #[.int .u32 a, .int .i64 b], .agg #[.int .u32 a', .int .i64 b']] w fun e w' => e = .returned (.bool (covB a b a' b')) ∧ Kp none' w w' := by
  have hR := fun W => aRight a' b' W ha' hb'
  have hH := fun W => aHas a a' b W ha ha' hb
  obtain ⟨rr, hrr⟩ : ∃ rr, rightB a' b' = rr := ⟨_, rfl⟩
  obtain ⟨hh, hhh⟩ : ∃ hh, hasB a b a' = hh := ⟨_, rfl⟩
  simp only [hrr] at hR
  simp only [hhh] at hH
  have HR := Lib.hid hR; have HH := Lib.hid hH
  have hf : Hid (covB a b a' b' = (rr && decide (b ≤ b') && hh)) := by unfold Hid covB; rw [hrr, hhh]
  obtain ⟨wx, hwx⟩ : ∃ wx, wx = (w.alloc (.cells #[.int .u32 a, .int .i64 b] 88)).alloc (.cells #[.int .u32 a', .int .i64 b'] 88) := ⟨_, rfl⟩
  have hk0 : Kp none' w wx := by rw [hwx]; exact ((Kp.refl _ _).alloc _).alloc _
  have hbx : Blk wx w.heap.size [.int .u32 a, .int .i64 b] 88 := by rw [hwx]; exact (Blk.new _ _ _).alloc _
  have hby : Blk wx (w.heap.size + 1) [.int .u32 a', .int .i64 b'] 88 := by
    rw [hwx]
    have := Blk.new (w.alloc (.cells #[.int .u32 a, .int .i64 b] 88)) [.int .u32 a', .int .i64 b'] 88
    simpa using this
  have HK0 := Lib.hid hk0; have HWX := Lib.hid hwx
  have d0 := hbx.cell 0 rfl
  have d1 := hbx.cell 1 rfl
  have d2 := hby.cell 0 rfl
  have d3 := hby.cell 1 rfl
  clear hR hH hrr hhh hk0 hwx hbx hby
  cases rr with
  | false =>
    go_enter Tryz.func118, Tryz.ntmps118
    go_upto_region 1 with (fail)
    rw [← HWX.out]
    go_wp2_with fail
    refine (HR.out _).mono ?_
    rintro e w1 ⟨rfl, k1⟩
    have K1 := Lib.hid k1; clear k1
    go_wp2_with fail
    go_ret
    exact ⟨ret_bool (by rw [hf.out]; rfl), HK0.out.trans K1.out⟩
  | true =>
    by_cases hle : b ≤ b'
    · have hd : decide (b ≤ b') = true := by simpa using hle
      go_enter Tryz.func118, Tryz.ntmps118
      go_upto_region 1 with (fail)
      rw [← HWX.out]
      go_wp2_with fail
      refine (HR.out _).mono ?_
      rintro e w1 ⟨rfl, k1⟩
      have e0 := k1.cell d0 id; have e1 := k1.cell d1 id; have e2 := k1.cell d2 id; have e3 := k1.cell d3 id
      have K1 := Lib.hid k1; clear k1
      go_wp2_with fail
      refine (HH.out _).mono ?_
      rintro e w2 ⟨rfl, k2⟩
      have K2 := Lib.hid k2; clear k2
      go_wp2_with fail
      go_ret
      exact ⟨ret_bool (by rw [hf.out, hd]; rfl), (HK0.out.trans K1.out).trans K2.out⟩
    · have hd : decide (b ≤ b') = false := by simpa using hle
      go_enter Tryz.func118, Tryz.ntmps118
      go_upto_region 1 with (fail)
      rw [← HWX.out]
      go_wp2_with fail
      refine (HR.out _).mono ?_
      rintro e w1 ⟨rfl, k1⟩
      have e0 := k1.cell d0 id; have e1 := k1.cell d1 id; have e2 := k1.cell d2 id; have e3 := k1.cell d3 id
      have K1 := Lib.hid k1; clear k1
      go_wp2_with fail
      go_ret
      exact ⟨ret_bool (by rw [hf.out, hd]; rfl), HK0.out.trans K1.out⟩
end Go.Proofs.YtfckgddodjmbdaaGreatDoor
