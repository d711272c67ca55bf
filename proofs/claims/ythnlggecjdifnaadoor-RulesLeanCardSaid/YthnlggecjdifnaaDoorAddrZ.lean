/- Walks of layer 31: the document's prefixes, which addresses they have. -/
import Derived.Test.YthnlggecjdifnaaDoorAddrY
namespace Go.Proofs.YthnlggecjdifnaaDoor
set_option linter.unusedVariables false
set_option linter.unusedSimpArgs false
open Go.RowKit
set_option maxHeartbeats 4000000 in
theorem rHas (a x : Nat) (b : Int) (w : World) (ha : a < 4294967296) (hx : x < 4294967296) (hb : -9223372036854775808 ≤ b ∧ b ≤ 9223372036854775807) : Calls Tryd.prog 41 #[.agg #[.int .u32 a, .int .i64 b], .int .u32 x] w fun e w' => e = .returned (.bool (hasB a b x)) ∧ Kp none' w w' := by
  have hR := fun W => rRight a b W ha hb
  obtain ⟨rr, hrr⟩ : ∃ rr, rightB a b = rr := ⟨_, rfl⟩
  simp only [hrr] at hR
  have HR := Lib.hid hR
  obtain ⟨wx, hwx⟩ : ∃ wx, wx = w.alloc (.cells #[.int .u32 a, .int .i64 b] 46) := ⟨_, rfl⟩
  have hk0 : Kp none' w wx := by rw [hwx]; exact (Kp.refl _ _).alloc _
  have hbx : Blk wx w.heap.size [.int .u32 a, .int .i64 b] 46 := by rw [hwx]; exact Blk.new _ _ _
  have HK0 := Lib.hid hk0; have HWX := Lib.hid hwx
  have d0 := hbx.cell 0 rfl
  have d1 := hbx.cell 1 rfl
  clear hR hk0 hwx hbx
  cases rr with
  | true =>
    have h01 := rightB_iff.1 hrr
    obtain ⟨k, rfl⟩ : ∃ k : Nat, b = k := ⟨b.toNat, by omega⟩
    have hk : k ≤ 32 := by omega
    have hF1 := fun W => rFirst a k W ha hk
    have hF2 := fun W => rFirst x k W hx hk
    have hf : Hid (hasB a k x = decide (x / 2 ^ (32 - k) = a / 2 ^ (32 - k))) := by unfold Hid hasB; rw [hrr]; rfl
    obtain ⟨qa, hqa⟩ : ∃ q, a / 2 ^ (32 - k) = q := ⟨_, rfl⟩
    obtain ⟨qx, hqx⟩ : ∃ q, x / 2 ^ (32 - k) = q := ⟨_, rfl⟩
    simp only [hqa] at hF1
    simp only [hqx] at hF2
    rw [hqa, hqx] at hf
    have HF1 := Lib.hid hF1; have HF2 := Lib.hid hF2
    clear hqa hqx hF1 hF2 h01 hrr
    go_enter Tryd.func41, Tryd.ntmps41
    go_wp2
    rw [← HWX.out]
    go_region_held3 (fun w' => w'.cell? ⟨w.heap.size, 0, none⟩ = some (.int .u32 a) ∧ w'.cell? ⟨w.heap.size, 1, none⟩ = some (.int .i64 k)) (go_keep)
      (first
        | (go_at_call 23; refine (HR.out _).mono ?_; rintro e w1 ⟨rfl, k1⟩; have d0' := k1.cell (a := ⟨w.heap.size, 0, none⟩) d0 id; have d1' := k1.cell (a := ⟨w.heap.size, 1, none⟩) d1 id; have K1 := Lib.hid k1; clear k1)
        | (go_at_call_of 38 a; refine (HF1.out _).mono ?_; rintro e w2 ⟨rfl, rfl⟩)
        | (go_at_call_of 38 x; refine (HF2.out _).mono ?_; rintro e w2 ⟨rfl, rfl⟩))
    go_wp2
    go_ret
    exact ⟨ret_bool (by rw [hf.out, Bool.eq_iff_iff]; simp only [beq_iff_eq, decide_eq_true_eq]; omega), HK0.out.trans ((Kp.refl none' _).drew.trans K1.out)⟩
  | false =>
    have hf : Hid (hasB a b x = false) := by unfold Hid hasB; rw [hrr]; rfl
    clear hrr
    go_enter Tryd.func41, Tryd.ntmps41
    go_wp2
    rw [← HWX.out]
    refine wp_region_any (by kernel_rfl) ?_
    change wpAny _ _ _ _ _ _ _ (World.drew _)
    refine wpAny_ready (rs := [0]) (by kernel_rfl) (by simp) ?_
    refine AllReady.cons rfl (fun K hK => ?_) AllReady.nil
    go_simp
    refine hK _ _ ?_; clear hK K
    refine wpAny_ready (rs := [1]) (by kernel_rfl) (by simp) ?_
    refine AllReady.cons rfl (fun K hK => ?_) AllReady.nil
    go_simp
    refine (HR.out _).mono ?_
    rintro e w1 ⟨rfl, k1⟩
    have K1 := Lib.hid k1; clear k1
    refine hK _ _ ?_; clear hK K
    refine wpAny_ready (rs := [2]) (by kernel_rfl) (by simp) ?_
    refine AllReady.cons rfl (fun K hK => ?_) AllReady.nil
    go_simp
    refine hK _ _ ?_; clear hK K
    refine wpAny_take (i := 3) (v := undef) rfl (by kernel_rfl) (by kernel_rfl) (by kernel_rfl) (fun _ _ _ h => h) (Or.inr ⟨by kernel_rfl, rfl⟩) ?_
    refine wpAny_take (i := 5) (v := undef) rfl (by kernel_rfl) (by kernel_rfl) (by kernel_rfl) (fun _ _ _ h => h) (Or.inr ⟨by kernel_rfl, rfl⟩) ?_
    refine wpAny_take (i := 8) (v := undef) rfl (by kernel_rfl) (by kernel_rfl) (by kernel_rfl) (fun _ _ _ h => h) (Or.inr ⟨by kernel_rfl, rfl⟩) ?_
    refine wpAny_take (i := 9) (v := undef) rfl (by kernel_rfl) (by kernel_rfl) (by kernel_rfl) (fun _ _ _ h => h) (Or.inr ⟨by kernel_rfl, rfl⟩) ?_
    refine wpAny_take (i := 4) (v := undef) rfl (by kernel_rfl) (by kernel_rfl) (by kernel_rfl) (fun _ _ _ h => h) (Or.inr ⟨by kernel_rfl, rfl⟩) ?_
    refine wpAny_take (i := 6) (v := undef) rfl (by kernel_rfl) (by kernel_rfl) (by kernel_rfl) (fun _ _ _ h => h) (Or.inr ⟨by kernel_rfl, rfl⟩) ?_
    refine wpAny_take (i := 10) (v := undef) rfl (by kernel_rfl) (by kernel_rfl) (by kernel_rfl) (fun _ _ _ h => h) (Or.inr ⟨by kernel_rfl, rfl⟩) ?_
    refine wpAny_take (i := 7) (v := undef) rfl (by kernel_rfl) (by kernel_rfl) (by kernel_rfl) (fun _ _ _ h => h) (Or.inr ⟨by kernel_rfl, rfl⟩) ?_
    refine wpAny_take (i := 11) (v := undef) rfl (by kernel_rfl) (by kernel_rfl) (by kernel_rfl) (fun _ _ _ h => h) (Or.inr ⟨by kernel_rfl, rfl⟩) ?_
    refine wpAny_take (i := 12) (v := undef) rfl (by kernel_rfl) (by kernel_rfl) (by kernel_rfl) (fun _ _ _ h => h) (Or.inr ⟨by kernel_rfl, rfl⟩) ?_
    refine wpAny_ready (rs := [13]) (by kernel_rfl) (by simp) ?_
    refine AllReady.cons rfl (fun K hK => ?_) AllReady.nil
    go_simp
    refine hK _ _ ?_; clear hK K
    refine wpAny_ready (rs := [14]) (by kernel_rfl) (by simp) ?_
    refine AllReady.cons rfl (fun K hK => ?_) AllReady.nil
    go_simp
    refine hK _ _ ?_; clear hK K
    refine wpAny_done (by kernel_rfl) ?_ _
    rename_i Q' K' hK'
    refine hK' _ _ ?_
    go_wp2
    go_ret
    exact ⟨ret_bool hf.out.symm, HK0.out.trans ((Kp.refl none' _).drew.trans K1.out)⟩

set_option maxHeartbeats 1000000 in
theorem rCovers (a a' : Nat) (b b' : Int) (w : World) (ha : a < 4294967296) (ha' : a' < 4294967296) (hb : -9223372036854775808 ≤ b ∧ b ≤ 9223372036854775807) (hb' : -9223372036854775808 ≤ b' ∧ b' ≤ 9223372036854775807) :
    Calls Tryd.prog 29 #[.agg #[.int .u32 a, .int .i64 b], .agg #[.int .u32 a', .int .i64 b']] w fun e w' => e = .returned (.bool (covB a b a' b')) ∧ Kp none' w w' := by
  have hR := fun W => rRight a' b' W ha' hb'
  have hH := fun W => rHas a a' b W ha ha' hb
  obtain ⟨rr, hrr⟩ : ∃ rr, rightB a' b' = rr := ⟨_, rfl⟩
  obtain ⟨hh, hhh⟩ : ∃ hh, hasB a b a' = hh := ⟨_, rfl⟩
  simp only [hrr] at hR
  simp only [hhh] at hH
  have HR := Lib.hid hR; have HH := Lib.hid hH
  have hf : Hid (covB a b a' b' = (rr && decide (b ≤ b') && hh)) := by unfold Hid covB; rw [hrr, hhh]
  obtain ⟨wx, hwx⟩ : ∃ wx, wx = (w.alloc (.cells #[.int .u32 a, .int .i64 b] 46)).alloc (.cells #[.int .u32 a', .int .i64 b'] 46) := ⟨_, rfl⟩
  have hk0 : Kp none' w wx := by rw [hwx]; exact ((Kp.refl _ _).alloc _).alloc _
  have hbx : Blk wx w.heap.size [.int .u32 a, .int .i64 b] 46 := by rw [hwx]; exact (Blk.new _ _ _).alloc _
  have hby : Blk wx (w.heap.size + 1) [.int .u32 a', .int .i64 b'] 46 := by
    rw [hwx]
    have := Blk.new (w.alloc (.cells #[.int .u32 a, .int .i64 b] 46)) [.int .u32 a', .int .i64 b'] 46
    simpa using this
  have HK0 := Lib.hid hk0; have HWX := Lib.hid hwx
  have d0 := hbx.cell 0 rfl
  have d1 := hbx.cell 1 rfl
  have d2 := hby.cell 0 rfl
  have d3 := hby.cell 1 rfl
  clear hR hH hrr hhh hk0 hwx hbx hby
  cases rr with
  | false =>
    go_enter Tryd.func29, Tryd.ntmps29
    go_upto_region 1 with (fail)
    rw [← HWX.out]
    go_wp2_with fail
    refine (HR.out _).mono ?_
    rintro e w1 ⟨rfl, k1⟩
    have K1 := Lib.hid k1; clear k1
    go_wp2_with fail
    go_ret
    exact ⟨ret_bool (by rw [hf.out]; rfl), HK0.out.trans K1.out⟩
  | true =>
    by_cases hle : b ≤ b'
    · have hd : decide (b ≤ b') = true := by simpa using hle
      go_enter Tryd.func29, Tryd.ntmps29
      go_upto_region 1 with (fail)
      rw [← HWX.out]
      go_wp2_with fail
      refine (HR.out _).mono ?_
      rintro e w1 ⟨rfl, k1⟩
      have e0 := k1.cell d0 id; have e1 := k1.cell d1 id; have e2 := k1.cell d2 id; have e3 := k1.cell d3 id
      have K1 := Lib.hid k1; clear k1
      go_wp2_with fail
      refine (HH.out _).mono ?_
      rintro e w2 ⟨rfl, k2⟩
      have K2 := Lib.hid k2; clear k2
      go_wp2_with fail
      go_ret
      exact ⟨ret_bool (by rw [hf.out, hd]; rfl), (HK0.out.trans K1.out).trans K2.out⟩
    · have hd : decide (b ≤ b') = false := by simpa using hle
      go_enter Tryd.func29, Tryd.ntmps29
      go_upto_region 1 with (fail)
      rw [← HWX.out]
      go_wp2_with fail
      refine (HR.out _).mono ?_
      rintro e w1 ⟨rfl, k1⟩
      have e0 := k1.cell d0 id; have e1 := k1.cell d1 id; have e2 := k1.cell d2 id; have e3 := k1.cell d3 id
      have K1 := Lib.hid k1; clear k1
      go_wp2_with fail
      go_ret
      exact ⟨ret_bool (by rw [hf.out, hd]; rfl), HK0.out.trans K1.out⟩
end Go.Proofs.YthnlggecjdifnaaDoor
