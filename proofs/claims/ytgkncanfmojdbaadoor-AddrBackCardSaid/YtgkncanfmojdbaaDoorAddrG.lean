/- Walks of layer 31: prefixes put. -/
import Derived.Test.YtgkncanfmojdbaaDoorAddrPut
import Derived.Test.YtgkncanfmojdbaaDoorAddrX
import Derived.Test.YtgkncanfmojdbaaDoorAddrY
import Derived.Test.YtgkncanfmojdbaaDoorAddrQ
namespace Go.Proofs.YtgkncanfmojdbaaDoor
set_option linter.unusedVariables false
set_option linter.unusedSimpArgs false
open Go.RowKit Go.Shelf
theorem putA_len (a : Nat) (ha : a < 4294967296) : (putA a).length ≤ 100 := by
  have h1 := put_len20 (a / 16777216) (by omega)
  have h2 := put_len20 (a / 65536 % 256) (by omega)
  have h3 := put_len20 (a / 256 % 256) (by omega)
  have h4 := put_len20 (a % 256) (by omega)
  unfold putA
  simp only [List.length_append, List.length_cons]
  omega
theorem cat1 {a : Nat} (ha : a < 4294967296) (s : ByteArray) (h : bl s = putA a) (W : World) : (Op.stringOp .add s ⟨#[47]⟩).run Tryd.prog W = .ok (.string (s ++ ⟨#[47]⟩)) W :=
  cat_run s ⟨#[47]⟩ (by have := putA_len a ha; rw [← h, bl_len] at this; show s.size + 1 ≤ _; omega) W
theorem cat2 {a k : Nat} (ha : a < 4294967296) (hk : k ≤ 32) (s t : ByteArray) (h : bl s = putA a) (ht : bl t = put k) (W : World) : (Op.stringOp .add (s ++ ⟨#[47]⟩) t).run Tryd.prog W = .ok (.string (s ++ ⟨#[47]⟩ ++ t)) W :=
  cat_run (s ++ ⟨#[47]⟩) t (by
    have h1 := putA_len a ha; rw [← h, bl_len] at h1
    have h2 := put_len20 k (by omega); rw [← ht, bl_len] at h2
    have e : (s ++ (⟨#[47]⟩ : ByteArray)).size = s.size + 1 := by rw [← bl_len, bl_app, List.length_append, bl_len]; rfl
    omega) W
theorem putP_text {a k : Nat} {s t : ByteArray} (h : bl s = putA a) (ht : bl t = put k) : bl (s ++ ⟨#[47]⟩ ++ t) = putP a k := by
  rw [bl_app, bl_app, h, ht]
  show putA a ++ [47] ++ put k = putA a ++ 47 :: put k
  simp
set_option maxHeartbeats 2000000 in
theorem aPutP (a : Nat) (b : Int) (w : World) (ha : a < 4294967296) (hb : -9223372036854775808 ≤ b ∧ b ≤ 9223372036854775807) : Calls Tryd.prog 21 #[.agg #[.int .u32 a, .int .i64 b]] w fun e w' =>
    ∃ s, e = .returned (.tuple #[.string s, .int .i64 (if rightB a b = true then 0 else 6)]) ∧ bl s = (if rightB a b = true then putP a b.toNat else []) ∧ Kp none' w w' := by
  have hR := fun W => aRight a b W ha hb
  obtain ⟨rr, hrr⟩ : ∃ rr, rightB a b = rr := ⟨_, rfl⟩
  simp only [hrr] at hR ⊢
  have HR := Lib.hid hR
  obtain ⟨wx, hwx⟩ : ∃ wx, wx = w.alloc (.cells #[.int .u32 a, .int .i64 b] 30) := ⟨_, rfl⟩
  have hk0 : Kp none' w wx := by rw [hwx]; exact (Kp.refl _ _).alloc _
  have hbx : Blk wx w.heap.size [.int .u32 a, .int .i64 b] 30 := by rw [hwx]; exact Blk.new _ _ _
  have HK0 := Lib.hid hk0; have HWX := Lib.hid hwx
  have d0 := hbx.cell 0 rfl
  have d1 := hbx.cell 1 rfl
  clear hR hk0 hwx hbx
  cases rr with
  | true =>
    have h01 := rightB_iff.1 hrr
    obtain ⟨k, rfl⟩ : ∃ k : Nat, b = k := ⟨b.toNat, by omega⟩
    have hk : k ≤ 32 := by omega
    have HT1 := Lib.hid (fun s h => cat1 (a := a) ha s h)
    have HT2 := Lib.hid (fun s t h ht => cat2 (a := a) (k := k) ha hk s t h ht)
    have HP := Lib.hid (fun W => aPut a ha W)
    have HD := Lib.hid (fun W => dPut k (by omega) W)
    have hkk : (k : Int) ≤ 32 := by omega
    have hwr : IntKind.u64.wrap (k : Int) = k := by rw [IntKind.wrap_u64]; omega
    clear h01 hrr
    simp only [if_true, Int.toNat_natCast]
    go_enter Tryd.func21, Tryd.ntmps21
    go_upto_region 1 with (fail)
    rw [← HWX.out]
    go_wp2_with fail
    refine (HR.out _).mono ?_
    rintro e w1 ⟨rfl, k1⟩
    replace d0 := k1.cell d0 id; replace d1 := k1.cell d1 id
    have K1 := Lib.hid (HK0.out.trans k1); clear k1
    go_wp2_with fail
    go_region_held3 (fun w' => w'.cell? ⟨w.heap.size, 0, none⟩ = some (.int .u32 a) ∧ w'.cell? ⟨w.heap.size, 1, none⟩ = some (.int .i64 k)) (go_keep)
      (first
        | (go_at_call 20; refine (HP.out _).mono ?_; rintro e w2 ⟨s1, rfl, h1, k2⟩; have K2 := Lib.hid ((Kp.refl none' w1).drew.trans k2); clear k2; have e0 := K2.out.cell (a := ⟨w.heap.size, 0, none⟩) d0 id; have e1 := K2.out.cell (a := ⟨w.heap.size, 1, none⟩) d1 id; have t1 := HT1.out s1 h1; have H1 := Lib.hid h1; clear h1)
        | (go_at_call 31; refine (HD.out _).mono ?_; rintro e w3 ⟨s2, rfl, h2, k3⟩; have K3 := Lib.hid (K2.out.trans k3); clear k3; have f0 := K3.out.cell (a := ⟨w.heap.size, 0, none⟩) d0 id; have f1 := K3.out.cell (a := ⟨w.heap.size, 1, none⟩) d1 id; have t2 := HT2.out s1 s2 H1.out h2; have H2 := Lib.hid h2; clear h2))
    go_wp2
    go_ret2
    exact ⟨_, rfl, putP_text H1.out H2.out, K1.out.trans K3.out⟩
  | false =>
    clear hrr
    simp only [Bool.false_eq_true, if_false]
    go_enter Tryd.func21, Tryd.ntmps21
    go_upto_region 1 with (fail)
    rw [← HWX.out]
    go_wp2_with fail
    refine (HR.out _).mono ?_
    rintro e w1 ⟨rfl, k1⟩
    have K1 := Lib.hid (HK0.out.trans k1); clear k1
    go_wp2_with fail
    go_ret2
    exact ⟨_, rfl, rfl, K1.out⟩
end Go.Proofs.YtgkncanfmojdbaaDoor
