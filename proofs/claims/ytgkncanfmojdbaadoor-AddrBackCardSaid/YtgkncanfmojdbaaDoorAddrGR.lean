/- Walks of layer 31: the document's prefixes put. -/
import Derived.Test.YtgkncanfmojdbaaDoorAddrG
namespace Go.Proofs.YtgkncanfmojdbaaDoor
set_option linter.unusedVariables false
set_option linter.unusedSimpArgs false
open Go.RowKit Go.Shelf
set_option maxHeartbeats 2000000 in
theorem rPutP (a : Nat) (b : Int) (w : World) (ha : a < 4294967296) (hb : -9223372036854775808 ≤ b ∧ b ≤ 9223372036854775807) : Calls Tryd.prog 22 #[.agg #[.int .u32 a, .int .i64 b]] w fun e w' =>
    ∃ s, e = .returned (.tuple #[.string s, .int .i64 (if rightB a b = true then 0 else 6)]) ∧ bl s = (if rightB a b = true then putP a b.toNat else []) ∧ Kp none' w w' := by
  have hR := fun W => rRight a b W ha hb
  obtain ⟨rr, hrr⟩ : ∃ rr, rightB a b = rr := ⟨_, rfl⟩
  simp only [hrr] at hR ⊢
  have HR := Lib.hid hR
  obtain ⟨wx, hwx⟩ : ∃ wx, wx = w.alloc (.cells #[.int .u32 a, .int .i64 b] 30) := ⟨_, rfl⟩
  have hk0 : Kp none' w wx := by rw [hwx]; exact (Kp.refl _ _).alloc _
  have hbx : Blk wx w.heap.size [.int .u32 a, .int .i64 b] 30 := by rw [hwx]; exact Blk.new _ _ _
  have HK0 := Lib.hid hk0; have HWX := Lib.hid hwx
  have d0 := hbx.cell 0 rfl
  have d1 := hbx.cell 1 rfl
  clear hR hk0 hwx hbx
  cases rr with
  | true =>
    have h01 := rightB_iff.1 hrr
    obtain ⟨k, rfl⟩ : ∃ k : Nat, b = k := ⟨b.toNat, by omega⟩
    have hk : k ≤ 32 := by omega
    have HT1 := Lib.hid (fun s h => cat1 (a := a) ha s h)
    have HT2 := Lib.hid (fun s t h ht => cat2 (a := a) (k := k) ha hk s t h ht)
    have HP := Lib.hid (fun W => rPutA a ha W)
    have HD := Lib.hid (fun W => rPut 19 k W (by omega) (by omega))
    have hp1 : bl (tx (putA a)) = putA a := bl_tx _
    have hp2 : bl (tx (put k)) = put k := bl_tx _
    obtain ⟨s1, e1⟩ : ∃ s, tx (putA a) = s := ⟨_, rfl⟩
    obtain ⟨s2, e2⟩ : ∃ s, tx (put k) = s := ⟨_, rfl⟩
    rw [e1] at hp1; rw [e2] at hp2
    rw [e1] at HP; rw [e2] at HD
    have t1 := HT1.out s1 hp1
    have t2 := HT2.out s1 s2 hp1 hp2
    have H1 := Lib.hid hp1; have H2 := Lib.hid hp2
    clear hp1 hp2 e1 e2 HT1 HT2
    have hkk : (k : Int) ≤ 32 := by omega
    have hwr : IntKind.u64.wrap (k : Int) = k := by rw [IntKind.wrap_u64]; omega
    clear h01 hrr
    simp only [if_true, Int.toNat_natCast]
    go_enter Tryd.func22, Tryd.ntmps22
    go_upto_region 1 with (fail)
    rw [← HWX.out]
    go_wp2_with fail
    refine (HR.out _).mono ?_
    rintro e w1 ⟨rfl, k1⟩
    replace d0 := k1.cell d0 id; replace d1 := k1.cell d1 id
    have K1 := Lib.hid (HK0.out.trans k1); clear k1
    go_wp2_with fail
    go_quiet ((first | (go_at_call 23; exact quiet1 (HP.out _)) | (go_at_call 33; exact quiet1 (HD.out _))))
    go_wp2
    go_ret2
    exact ⟨_, rfl, putP_text H1.out H2.out, K1.out.drewN _⟩
  | false =>
    clear hrr
    simp only [Bool.false_eq_true, if_false]
    go_enter Tryd.func22, Tryd.ntmps22
    go_upto_region 1 with (fail)
    rw [← HWX.out]
    go_wp2_with fail
    refine (HR.out _).mono ?_
    rintro e w1 ⟨rfl, k1⟩
    have K1 := Lib.hid (HK0.out.trans k1); clear k1
    go_wp2_with fail
    go_ret2
    exact ⟨_, rfl, rfl, K1.out⟩
end Go.Proofs.YtgkncanfmojdbaaDoor
