/- The walk of layer 31's law AddrBack. Printed by wip/back.py. -/
import Derived.Test.YtgkncanfmojdbaaDoorAddrGR
import Derived.Test.YtgkncanfmojdbaaDoorAddrL
import Derived.Test.YtgkncanfmojdbaaDoorAddrJ
namespace Go.Proofs.YtgkncanfmojdbaaDoor
set_option linter.unusedVariables false
set_option linter.unusedSimpArgs false
open Go.RowKit Go.Shelf
theorem aPutT (a : Nat) (ha : a < 4294967296) (t : ByteArray) (ht : putA a = bl t) (W : World) : Calls Tryd.prog 20 #[.int .u32 a] W fun e w' => e = .returned (.string t) ∧ Kp none' W w' := by
  refine (aPut a ha W).mono ?_
  rintro e w' ⟨s, rfl, h1, h2⟩
  rw [str_ext (h1.trans ht)]
  exact ⟨rfl, h2⟩
theorem aPutPT (a : Nat) (b : Int) (ha : a < 4294967296) (hb : -9223372036854775808 ≤ b ∧ b ≤ 9223372036854775807) (t : ByteArray) (ht : (if rightB a b = true then putP a b.toNat else []) = bl t) (W : World) : Calls Tryd.prog 21 #[.agg #[.int .u32 a, .int .i64 b]] W fun e w' => e = .returned (.tuple #[.string t, .int .i64 (if rightB a b = true then 0 else 6)]) ∧ Kp none' W w' := by
  refine (aPutP a b W ha hb).mono ?_
  rintro e w' ⟨s, rfl, h1, h2⟩
  rw [str_ext (h1.trans ht)]
  exact ⟨rfl, h2⟩
theorem rPutPT (a : Nat) (b : Int) (ha : a < 4294967296) (hb : -9223372036854775808 ≤ b ∧ b ≤ 9223372036854775807) (t : ByteArray) (ht : (if rightB a b = true then putP a b.toNat else []) = bl t) (W : World) : Calls Tryd.prog 22 #[.agg #[.int .u32 a, .int .i64 b]] W fun e w' => e = .returned (.tuple #[.string t, .int .i64 (if rightB a b = true then 0 else 6)]) ∧ Kp none' W w' := by
  refine (rPutP a b W ha hb).mono ?_
  rintro e w' ⟨s, rfl, h1, h2⟩
  rw [str_ext (h1.trans ht)]
  exact ⟨rfl, h2⟩
theorem putP_len (a k : Nat) (ha : a < 4294967296) (hk : k ≤ 32) : (putP a k).length ≤ 200 := by
  have h1 := putA_len a ha
  have h2 := put_len20 k (by omega)
  unfold putP
  simp only [List.length_append, List.length_cons]
  omega

set_option maxHeartbeats 1000000 in
theorem back111 (a pa : Nat) (b : Int) (s : ByteArray) (w : World) (hx : MX w) (ha : a < 4294967296) (hpa : pa < 4294967296) (hb : -9223372036854775808 ≤ b ∧ b ≤ 9223372036854775807) (hs : ¬ 300 < s.size) (hr : rightB pa b = true) (hc : (readA (bl s)).2 = 0) (hq : (readP (bl s)).2 = 0) :
    Calls Tryd.prog 6 #[.int .u32 a, .agg #[.int .u32 pa, .int .i64 b], .string s] w fun e w' => e = .returned (.bool true) ∧ Kp none' w w' := by
  have hle : ¬ (300 : Int) < (s.size : Int) := by omega
  have HL := Lib.hid (fun W (hW : MX W) => lives W hW)
  have HX := Lib.hid hx
  have hz := putA_len a ha
  have h1 := fun W => aPutT a ha (tx (putA a)) (bl_tx _).symm W
  have h2 := fun W (hW : MX W) => aRead (tx (putA a)) W (by rw [tx_size]; omega) hW
  simp only [bl_tx, readA_putA a ha] at h2
  have h5 := fun W => rPutA a ha W
  obtain ⟨SA, eSA⟩ : ∃ S, tx (putA a) = S := ⟨_, rfl⟩
  simp only [eSA] at h1 h2 h5
  have H1 := Lib.hid h1; have H2 := Lib.hid h2; have H5 := Lib.hid h5
  have h7 := fun W (hW : MX W) => aRead s W (by omega) hW
  have h9 := fun W (hW : MX W) => aReadP s W (by omega) hW
  have h01 := rightB_iff.1 hr
  obtain ⟨k0, rfl⟩ : ∃ k : Nat, b = k := ⟨b.toNat, by omega⟩
  have hk0 : k0 ≤ 32 := by omega
  have hzp := putP_len pa k0 hpa hk0
  have h6 := fun W (hW : MX W) => aReadP (tx (putP pa k0)) W (by rw [tx_size]; omega) hW
  simp only [bl_tx, readP_putP pa k0 hpa hr] at h6
  have h3 := fun W => aPutPT pa k0 hpa hb (tx (putP pa k0)) (by rw [if_pos hr, bl_tx, Int.toNat_natCast]) W
  have h4 := fun W => rPutPT pa k0 hpa hb (tx (putP pa k0)) (by rw [if_pos hr, bl_tx, Int.toNat_natCast]) W
  obtain ⟨ST, eST⟩ : ∃ S, tx (putP pa k0) = S := ⟨_, rfl⟩
  simp only [eST, hr, if_true] at h3 h4 h6
  have H6 := Lib.hid h6
  clear h6 h01 hzp eST
  have H3 := Lib.hid h3; have H4 := Lib.hid h4
  clear h1 h2 h3 h4 h5 eSA hz
  have h8 := fun W => aPutT (readA (bl s)).1 (readA_lt _) s (putA_readA _ hc) W
  have hpr := putP_readP _ hq
  have hlt := readP_lt (bl s)
  have h10 := fun W => aPutPT (readP (bl s)).1.1 ((readP (bl s)).1.2 : Nat) hlt.1 (by omega) s (by rw [if_pos hpr.2, Int.toNat_natCast]; exact hpr.1) W
  simp only [hpr.2, if_true] at h10
  obtain ⟨⟨ca, ce⟩, eC⟩ : ∃ p, readA (bl s) = p := ⟨_, rfl⟩
  obtain ⟨⟨⟨qa, qm⟩, qe⟩, eQ⟩ : ∃ p, readP (bl s) = p := ⟨_, rfl⟩
  simp only [eC] at h7 hc h8
  simp only [eQ] at h9 hq h10
  subst hc
  subst hq
  have H7 := Lib.hid h7; have H9 := Lib.hid h9
  have H8 := Lib.hid h8
  have H10 := Lib.hid h10
  obtain ⟨wx, hwx⟩ : ∃ wx, wx = w.alloc (.cells #[.int .u32 pa, .int .i64 (k0 : Int)] 30) := ⟨_, rfl⟩
  have hk0' : Kp none' w wx := by rw [hwx]; exact (Kp.refl _ _).alloc _
  have hbx : Blk wx w.heap.size [.int .u32 pa, .int .i64 (k0 : Int)] 30 := by rw [hwx]; exact Blk.new _ _ _
  have K := Lib.hid hk0'; have HWX := Lib.hid hwx
  have d0 := hbx.cell 0 rfl; have d1 := hbx.cell 1 rfl
  clear hk0' hwx hbx hx h7 h9 eC eQ hr h8 h10 hpr hlt
  go_enter Tryd.func6, Tryd.ntmps6
  go_upto_region 1 with (fail)
  rw [← HWX.out]
  go_wp2_with fail
  refine (H1.out _).mono ?_
  rintro e w1 ⟨rfl, k⟩
  replace d0 := k.cell d0 id; replace d1 := k.cell d1 id
  replace K := Lib.hid (K.out.trans k)
  clear k
  go_wp2_with fail
  refine (H2.out _ (HX.out.kp K.out)).mono ?_
  rintro e w1 ⟨rfl, k⟩
  replace d0 := k.cell d0 id; replace d1 := k.cell d1 id
  replace K := Lib.hid (K.out.trans k)
  clear k
  go_wp2_with fail
  refine (H3.out _).mono ?_
  rintro e w1 ⟨rfl, k⟩
  replace d0 := k.cell d0 id; replace d1 := k.cell d1 id
  replace K := Lib.hid (K.out.trans k)
  clear k
  go_wp2_with fail
  refine (H4.out _).mono ?_
  rintro e w1 ⟨rfl, k⟩
  replace d0 := k.cell d0 id; replace d1 := k.cell d1 id
  replace K := Lib.hid (K.out.trans k)
  clear k
  go_wp2_with fail
  refine (H1.out _).mono ?_
  rintro e w1 ⟨rfl, k⟩
  replace d0 := k.cell d0 id; replace d1 := k.cell d1 id
  replace K := Lib.hid (K.out.trans k)
  clear k
  go_wp2_with fail
  refine (H5.out _).mono ?_
  rintro e w1 ⟨rfl, dd, rfl⟩
  replace K := Lib.hid (K.out.drewN dd)
  replace d0 := ((Kp.refl none' _).drewN dd).cell d0 id; replace d1 := ((Kp.refl none' _).drewN dd).cell d1 id
  go_wp2_with fail
  refine (H6.out _ (HX.out.kp K.out)).mono ?_
  rintro e w1 ⟨rfl, k⟩
  replace d0 := k.cell d0 id; replace d1 := k.cell d1 id
  replace K := Lib.hid (K.out.trans k)
  have KA := (Kp.refl none' w1).alloc (.cells #[.int .u32 pa, .int .i64 (k0 : Int)] 30)
  have hbq := Blk.new w1 [.int .u32 pa, .int .i64 (k0 : Int)] 30
  replace d0 := KA.cell d0 id; replace d1 := KA.cell d1 id
  replace K := Lib.hid (K.out.trans KA)
  clear KA k
  have c0 := hbq.cell 0 rfl; have c1 := hbq.cell 1 rfl
  clear hbq
  go_wp2_with fail
  refine (H7.out _ (HX.out.kp K.out)).mono ?_
  rintro e w1 ⟨rfl, k⟩
  replace d0 := k.cell d0 id; replace d1 := k.cell d1 id
  replace K := Lib.hid (K.out.trans k)
  clear k
  go_wp2_with fail
  refine (H8.out _).mono ?_
  rintro e w1 ⟨rfl, k⟩
  replace d0 := k.cell d0 id; replace d1 := k.cell d1 id
  replace K := Lib.hid (K.out.trans k)
  clear k
  go_wp2_with fail
  refine (H9.out _ (HX.out.kp K.out)).mono ?_
  rintro e w1 ⟨rfl, k⟩
  replace d0 := k.cell d0 id; replace d1 := k.cell d1 id
  replace K := Lib.hid (K.out.trans k)
  have KA := (Kp.refl none' w1).alloc (.cells #[.int .u32 qa, .int .i64 (qm : Int)] 30)
  have hbq := Blk.new w1 [.int .u32 qa, .int .i64 (qm : Int)] 30
  replace d0 := KA.cell d0 id; replace d1 := KA.cell d1 id
  replace K := Lib.hid (K.out.trans KA)
  clear KA k
  have b0 := hbq.cell 0 rfl; have b1 := hbq.cell 1 rfl
  clear hbq
  go_wp2_with fail
  refine (H10.out _).mono ?_
  rintro e w1 ⟨rfl, k⟩
  replace d0 := k.cell d0 id; replace d1 := k.cell d1 id
  replace K := Lib.hid (K.out.trans k)
  clear k
  go_wp2_with fail
  refine (HL.out _ (HX.out.kp K.out)).mono ?_
  rintro e w1 ⟨rfl, k⟩
  replace d0 := k.cell d0 id; replace d1 := k.cell d1 id
  replace K := Lib.hid (K.out.trans k)
  clear k
  go_wp2_with fail
  go_ret
  exact ⟨rfl, K.out⟩
set_option maxHeartbeats 1000000 in
theorem back110 (a pa : Nat) (b : Int) (s : ByteArray) (w : World) (hx : MX w) (ha : a < 4294967296) (hpa : pa < 4294967296) (hb : -9223372036854775808 ≤ b ∧ b ≤ 9223372036854775807) (hs : ¬ 300 < s.size) (hr : rightB pa b = true) (hc : (readA (bl s)).2 = 0) (hq : (readP (bl s)).2 ≠ 0) :
    Calls Tryd.prog 6 #[.int .u32 a, .agg #[.int .u32 pa, .int .i64 b], .string s] w fun e w' => e = .returned (.bool true) ∧ Kp none' w w' := by
  have hle : ¬ (300 : Int) < (s.size : Int) := by omega
  have HL := Lib.hid (fun W (hW : MX W) => lives W hW)
  have HX := Lib.hid hx
  have hz := putA_len a ha
  have h1 := fun W => aPutT a ha (tx (putA a)) (bl_tx _).symm W
  have h2 := fun W (hW : MX W) => aRead (tx (putA a)) W (by rw [tx_size]; omega) hW
  simp only [bl_tx, readA_putA a ha] at h2
  have h5 := fun W => rPutA a ha W
  obtain ⟨SA, eSA⟩ : ∃ S, tx (putA a) = S := ⟨_, rfl⟩
  simp only [eSA] at h1 h2 h5
  have H1 := Lib.hid h1; have H2 := Lib.hid h2; have H5 := Lib.hid h5
  have h7 := fun W (hW : MX W) => aRead s W (by omega) hW
  have h9 := fun W (hW : MX W) => aReadP s W (by omega) hW
  have h01 := rightB_iff.1 hr
  obtain ⟨k0, rfl⟩ : ∃ k : Nat, b = k := ⟨b.toNat, by omega⟩
  have hk0 : k0 ≤ 32 := by omega
  have hzp := putP_len pa k0 hpa hk0
  have h6 := fun W (hW : MX W) => aReadP (tx (putP pa k0)) W (by rw [tx_size]; omega) hW
  simp only [bl_tx, readP_putP pa k0 hpa hr] at h6
  have h3 := fun W => aPutPT pa k0 hpa hb (tx (putP pa k0)) (by rw [if_pos hr, bl_tx, Int.toNat_natCast]) W
  have h4 := fun W => rPutPT pa k0 hpa hb (tx (putP pa k0)) (by rw [if_pos hr, bl_tx, Int.toNat_natCast]) W
  obtain ⟨ST, eST⟩ : ∃ S, tx (putP pa k0) = S := ⟨_, rfl⟩
  simp only [eST, hr, if_true] at h3 h4 h6
  have H6 := Lib.hid h6
  clear h6 h01 hzp eST
  have H3 := Lib.hid h3; have H4 := Lib.hid h4
  clear h1 h2 h3 h4 h5 eSA hz
  have h8 := fun W => aPutT (readA (bl s)).1 (readA_lt _) s (putA_readA _ hc) W
  obtain ⟨⟨ca, ce⟩, eC⟩ : ∃ p, readA (bl s) = p := ⟨_, rfl⟩
  obtain ⟨⟨⟨qa, qm⟩, qe⟩, eQ⟩ : ∃ p, readP (bl s) = p := ⟨_, rfl⟩
  simp only [eC] at h7 hc h8
  simp only [eQ] at h9 hq
  subst hc
  have hqb : (qe == 0) = false := by simpa using hq
  have H7 := Lib.hid h7; have H9 := Lib.hid h9
  have H8 := Lib.hid h8
  obtain ⟨wx, hwx⟩ : ∃ wx, wx = w.alloc (.cells #[.int .u32 pa, .int .i64 (k0 : Int)] 30) := ⟨_, rfl⟩
  have hk0' : Kp none' w wx := by rw [hwx]; exact (Kp.refl _ _).alloc _
  have hbx : Blk wx w.heap.size [.int .u32 pa, .int .i64 (k0 : Int)] 30 := by rw [hwx]; exact Blk.new _ _ _
  have K := Lib.hid hk0'; have HWX := Lib.hid hwx
  have d0 := hbx.cell 0 rfl; have d1 := hbx.cell 1 rfl
  clear hk0' hwx hbx hx h7 h9 eC eQ hr h8 hq
  go_enter Tryd.func6, Tryd.ntmps6
  go_upto_region 1 with (fail)
  rw [← HWX.out]
  go_wp2_with fail
  refine (H1.out _).mono ?_
  rintro e w1 ⟨rfl, k⟩
  replace d0 := k.cell d0 id; replace d1 := k.cell d1 id
  replace K := Lib.hid (K.out.trans k)
  clear k
  go_wp2_with fail
  refine (H2.out _ (HX.out.kp K.out)).mono ?_
  rintro e w1 ⟨rfl, k⟩
  replace d0 := k.cell d0 id; replace d1 := k.cell d1 id
  replace K := Lib.hid (K.out.trans k)
  clear k
  go_wp2_with fail
  refine (H3.out _).mono ?_
  rintro e w1 ⟨rfl, k⟩
  replace d0 := k.cell d0 id; replace d1 := k.cell d1 id
  replace K := Lib.hid (K.out.trans k)
  clear k
  go_wp2_with fail
  refine (H4.out _).mono ?_
  rintro e w1 ⟨rfl, k⟩
  replace d0 := k.cell d0 id; replace d1 := k.cell d1 id
  replace K := Lib.hid (K.out.trans k)
  clear k
  go_wp2_with fail
  refine (H1.out _).mono ?_
  rintro e w1 ⟨rfl, k⟩
  replace d0 := k.cell d0 id; replace d1 := k.cell d1 id
  replace K := Lib.hid (K.out.trans k)
  clear k
  go_wp2_with fail
  refine (H5.out _).mono ?_
  rintro e w1 ⟨rfl, dd, rfl⟩
  replace K := Lib.hid (K.out.drewN dd)
  replace d0 := ((Kp.refl none' _).drewN dd).cell d0 id; replace d1 := ((Kp.refl none' _).drewN dd).cell d1 id
  go_wp2_with fail
  refine (H6.out _ (HX.out.kp K.out)).mono ?_
  rintro e w1 ⟨rfl, k⟩
  replace d0 := k.cell d0 id; replace d1 := k.cell d1 id
  replace K := Lib.hid (K.out.trans k)
  have KA := (Kp.refl none' w1).alloc (.cells #[.int .u32 pa, .int .i64 (k0 : Int)] 30)
  have hbq := Blk.new w1 [.int .u32 pa, .int .i64 (k0 : Int)] 30
  replace d0 := KA.cell d0 id; replace d1 := KA.cell d1 id
  replace K := Lib.hid (K.out.trans KA)
  clear KA k
  have c0 := hbq.cell 0 rfl; have c1 := hbq.cell 1 rfl
  clear hbq
  go_wp2_with fail
  refine (H7.out _ (HX.out.kp K.out)).mono ?_
  rintro e w1 ⟨rfl, k⟩
  replace d0 := k.cell d0 id; replace d1 := k.cell d1 id
  replace K := Lib.hid (K.out.trans k)
  clear k
  go_wp2_with fail
  refine (H8.out _).mono ?_
  rintro e w1 ⟨rfl, k⟩
  replace d0 := k.cell d0 id; replace d1 := k.cell d1 id
  replace K := Lib.hid (K.out.trans k)
  clear k
  go_wp2_with fail
  refine (H9.out _ (HX.out.kp K.out)).mono ?_
  rintro e w1 ⟨rfl, k⟩
  replace d0 := k.cell d0 id; replace d1 := k.cell d1 id
  replace K := Lib.hid (K.out.trans k)
  have KA := (Kp.refl none' w1).alloc (.cells #[.int .u32 qa, .int .i64 (qm : Int)] 30)
  have hbq := Blk.new w1 [.int .u32 qa, .int .i64 (qm : Int)] 30
  replace d0 := KA.cell d0 id; replace d1 := KA.cell d1 id
  replace K := Lib.hid (K.out.trans KA)
  clear KA k
  have b0 := hbq.cell 0 rfl; have b1 := hbq.cell 1 rfl
  clear hbq
  go_wp2_with fail
  refine (HL.out _ (HX.out.kp K.out)).mono ?_
  rintro e w1 ⟨rfl, k⟩
  replace d0 := k.cell d0 id; replace d1 := k.cell d1 id
  replace K := Lib.hid (K.out.trans k)
  clear k
  go_wp2_with fail
  go_ret
  exact ⟨rfl, K.out⟩
set_option maxHeartbeats 1000000 in
theorem back101 (a pa : Nat) (b : Int) (s : ByteArray) (w : World) (hx : MX w) (ha : a < 4294967296) (hpa : pa < 4294967296) (hb : -9223372036854775808 ≤ b ∧ b ≤ 9223372036854775807) (hs : ¬ 300 < s.size) (hr : rightB pa b = true) (hc : (readA (bl s)).2 ≠ 0) (hq : (readP (bl s)).2 = 0) :
    Calls Tryd.prog 6 #[.int .u32 a, .agg #[.int .u32 pa, .int .i64 b], .string s] w fun e w' => e = .returned (.bool true) ∧ Kp none' w w' := by
  have hle : ¬ (300 : Int) < (s.size : Int) := by omega
  have HL := Lib.hid (fun W (hW : MX W) => lives W hW)
  have HX := Lib.hid hx
  have hz := putA_len a ha
  have h1 := fun W => aPutT a ha (tx (putA a)) (bl_tx _).symm W
  have h2 := fun W (hW : MX W) => aRead (tx (putA a)) W (by rw [tx_size]; omega) hW
  simp only [bl_tx, readA_putA a ha] at h2
  have h5 := fun W => rPutA a ha W
  obtain ⟨SA, eSA⟩ : ∃ S, tx (putA a) = S := ⟨_, rfl⟩
  simp only [eSA] at h1 h2 h5
  have H1 := Lib.hid h1; have H2 := Lib.hid h2; have H5 := Lib.hid h5
  have h7 := fun W (hW : MX W) => aRead s W (by omega) hW
  have h9 := fun W (hW : MX W) => aReadP s W (by omega) hW
  have h01 := rightB_iff.1 hr
  obtain ⟨k0, rfl⟩ : ∃ k : Nat, b = k := ⟨b.toNat, by omega⟩
  have hk0 : k0 ≤ 32 := by omega
  have hzp := putP_len pa k0 hpa hk0
  have h6 := fun W (hW : MX W) => aReadP (tx (putP pa k0)) W (by rw [tx_size]; omega) hW
  simp only [bl_tx, readP_putP pa k0 hpa hr] at h6
  have h3 := fun W => aPutPT pa k0 hpa hb (tx (putP pa k0)) (by rw [if_pos hr, bl_tx, Int.toNat_natCast]) W
  have h4 := fun W => rPutPT pa k0 hpa hb (tx (putP pa k0)) (by rw [if_pos hr, bl_tx, Int.toNat_natCast]) W
  obtain ⟨ST, eST⟩ : ∃ S, tx (putP pa k0) = S := ⟨_, rfl⟩
  simp only [eST, hr, if_true] at h3 h4 h6
  have H6 := Lib.hid h6
  clear h6 h01 hzp eST
  have H3 := Lib.hid h3; have H4 := Lib.hid h4
  clear h1 h2 h3 h4 h5 eSA hz
  have hpr := putP_readP _ hq
  have hlt := readP_lt (bl s)
  have h10 := fun W => aPutPT (readP (bl s)).1.1 ((readP (bl s)).1.2 : Nat) hlt.1 (by omega) s (by rw [if_pos hpr.2, Int.toNat_natCast]; exact hpr.1) W
  simp only [hpr.2, if_true] at h10
  obtain ⟨⟨ca, ce⟩, eC⟩ : ∃ p, readA (bl s) = p := ⟨_, rfl⟩
  obtain ⟨⟨⟨qa, qm⟩, qe⟩, eQ⟩ : ∃ p, readP (bl s) = p := ⟨_, rfl⟩
  simp only [eC] at h7 hc
  simp only [eQ] at h9 hq h10
  have hcb : (ce == 0) = false := by simpa using hc
  subst hq
  have H7 := Lib.hid h7; have H9 := Lib.hid h9
  have H10 := Lib.hid h10
  obtain ⟨wx, hwx⟩ : ∃ wx, wx = w.alloc (.cells #[.int .u32 pa, .int .i64 (k0 : Int)] 30) := ⟨_, rfl⟩
  have hk0' : Kp none' w wx := by rw [hwx]; exact (Kp.refl _ _).alloc _
  have hbx : Blk wx w.heap.size [.int .u32 pa, .int .i64 (k0 : Int)] 30 := by rw [hwx]; exact Blk.new _ _ _
  have K := Lib.hid hk0'; have HWX := Lib.hid hwx
  have d0 := hbx.cell 0 rfl; have d1 := hbx.cell 1 rfl
  clear hk0' hwx hbx hx h7 h9 eC eQ hr hc h10 hpr hlt
  go_enter Tryd.func6, Tryd.ntmps6
  go_upto_region 1 with (fail)
  rw [← HWX.out]
  go_wp2_with fail
  refine (H1.out _).mono ?_
  rintro e w1 ⟨rfl, k⟩
  replace d0 := k.cell d0 id; replace d1 := k.cell d1 id
  replace K := Lib.hid (K.out.trans k)
  clear k
  go_wp2_with fail
  refine (H2.out _ (HX.out.kp K.out)).mono ?_
  rintro e w1 ⟨rfl, k⟩
  replace d0 := k.cell d0 id; replace d1 := k.cell d1 id
  replace K := Lib.hid (K.out.trans k)
  clear k
  go_wp2_with fail
  refine (H3.out _).mono ?_
  rintro e w1 ⟨rfl, k⟩
  replace d0 := k.cell d0 id; replace d1 := k.cell d1 id
  replace K := Lib.hid (K.out.trans k)
  clear k
  go_wp2_with fail
  refine (H4.out _).mono ?_
  rintro e w1 ⟨rfl, k⟩
  replace d0 := k.cell d0 id; replace d1 := k.cell d1 id
  replace K := Lib.hid (K.out.trans k)
  clear k
  go_wp2_with fail
  refine (H1.out _).mono ?_
  rintro e w1 ⟨rfl, k⟩
  replace d0 := k.cell d0 id; replace d1 := k.cell d1 id
  replace K := Lib.hid (K.out.trans k)
  clear k
  go_wp2_with fail
  refine (H5.out _).mono ?_
  rintro e w1 ⟨rfl, dd, rfl⟩
  replace K := Lib.hid (K.out.drewN dd)
  replace d0 := ((Kp.refl none' _).drewN dd).cell d0 id; replace d1 := ((Kp.refl none' _).drewN dd).cell d1 id
  go_wp2_with fail
  refine (H6.out _ (HX.out.kp K.out)).mono ?_
  rintro e w1 ⟨rfl, k⟩
  replace d0 := k.cell d0 id; replace d1 := k.cell d1 id
  replace K := Lib.hid (K.out.trans k)
  have KA := (Kp.refl none' w1).alloc (.cells #[.int .u32 pa, .int .i64 (k0 : Int)] 30)
  have hbq := Blk.new w1 [.int .u32 pa, .int .i64 (k0 : Int)] 30
  replace d0 := KA.cell d0 id; replace d1 := KA.cell d1 id
  replace K := Lib.hid (K.out.trans KA)
  clear KA k
  have c0 := hbq.cell 0 rfl; have c1 := hbq.cell 1 rfl
  clear hbq
  go_wp2_with fail
  refine (H7.out _ (HX.out.kp K.out)).mono ?_
  rintro e w1 ⟨rfl, k⟩
  replace d0 := k.cell d0 id; replace d1 := k.cell d1 id
  replace K := Lib.hid (K.out.trans k)
  clear k
  go_wp2_with fail
  refine (H9.out _ (HX.out.kp K.out)).mono ?_
  rintro e w1 ⟨rfl, k⟩
  replace d0 := k.cell d0 id; replace d1 := k.cell d1 id
  replace K := Lib.hid (K.out.trans k)
  have KA := (Kp.refl none' w1).alloc (.cells #[.int .u32 qa, .int .i64 (qm : Int)] 30)
  have hbq := Blk.new w1 [.int .u32 qa, .int .i64 (qm : Int)] 30
  replace d0 := KA.cell d0 id; replace d1 := KA.cell d1 id
  replace K := Lib.hid (K.out.trans KA)
  clear KA k
  have b0 := hbq.cell 0 rfl; have b1 := hbq.cell 1 rfl
  clear hbq
  go_wp2_with fail
  refine (H10.out _).mono ?_
  rintro e w1 ⟨rfl, k⟩
  replace d0 := k.cell d0 id; replace d1 := k.cell d1 id
  replace K := Lib.hid (K.out.trans k)
  clear k
  go_wp2_with fail
  refine (HL.out _ (HX.out.kp K.out)).mono ?_
  rintro e w1 ⟨rfl, k⟩
  replace d0 := k.cell d0 id; replace d1 := k.cell d1 id
  replace K := Lib.hid (K.out.trans k)
  clear k
  go_wp2_with fail
  go_ret
  exact ⟨rfl, K.out⟩
set_option maxHeartbeats 1000000 in
theorem back100 (a pa : Nat) (b : Int) (s : ByteArray) (w : World) (hx : MX w) (ha : a < 4294967296) (hpa : pa < 4294967296) (hb : -9223372036854775808 ≤ b ∧ b ≤ 9223372036854775807) (hs : ¬ 300 < s.size) (hr : rightB pa b = true) (hc : (readA (bl s)).2 ≠ 0) (hq : (readP (bl s)).2 ≠ 0) :
    Calls Tryd.prog 6 #[.int .u32 a, .agg #[.int .u32 pa, .int .i64 b], .string s] w fun e w' => e = .returned (.bool true) ∧ Kp none' w w' := by
  have hle : ¬ (300 : Int) < (s.size : Int) := by omega
  have HL := Lib.hid (fun W (hW : MX W) => lives W hW)
  have HX := Lib.hid hx
  have hz := putA_len a ha
  have h1 := fun W => aPutT a ha (tx (putA a)) (bl_tx _).symm W
  have h2 := fun W (hW : MX W) => aRead (tx (putA a)) W (by rw [tx_size]; omega) hW
  simp only [bl_tx, readA_putA a ha] at h2
  have h5 := fun W => rPutA a ha W
  obtain ⟨SA, eSA⟩ : ∃ S, tx (putA a) = S := ⟨_, rfl⟩
  simp only [eSA] at h1 h2 h5
  have H1 := Lib.hid h1; have H2 := Lib.hid h2; have H5 := Lib.hid h5
  have h7 := fun W (hW : MX W) => aRead s W (by omega) hW
  have h9 := fun W (hW : MX W) => aReadP s W (by omega) hW
  have h01 := rightB_iff.1 hr
  obtain ⟨k0, rfl⟩ : ∃ k : Nat, b = k := ⟨b.toNat, by omega⟩
  have hk0 : k0 ≤ 32 := by omega
  have hzp := putP_len pa k0 hpa hk0
  have h6 := fun W (hW : MX W) => aReadP (tx (putP pa k0)) W (by rw [tx_size]; omega) hW
  simp only [bl_tx, readP_putP pa k0 hpa hr] at h6
  have h3 := fun W => aPutPT pa k0 hpa hb (tx (putP pa k0)) (by rw [if_pos hr, bl_tx, Int.toNat_natCast]) W
  have h4 := fun W => rPutPT pa k0 hpa hb (tx (putP pa k0)) (by rw [if_pos hr, bl_tx, Int.toNat_natCast]) W
  obtain ⟨ST, eST⟩ : ∃ S, tx (putP pa k0) = S := ⟨_, rfl⟩
  simp only [eST, hr, if_true] at h3 h4 h6
  have H6 := Lib.hid h6
  clear h6 h01 hzp eST
  have H3 := Lib.hid h3; have H4 := Lib.hid h4
  clear h1 h2 h3 h4 h5 eSA hz
  obtain ⟨⟨ca, ce⟩, eC⟩ : ∃ p, readA (bl s) = p := ⟨_, rfl⟩
  obtain ⟨⟨⟨qa, qm⟩, qe⟩, eQ⟩ : ∃ p, readP (bl s) = p := ⟨_, rfl⟩
  simp only [eC] at h7 hc
  simp only [eQ] at h9 hq
  have hcb : (ce == 0) = false := by simpa using hc
  have hqb : (qe == 0) = false := by simpa using hq
  have H7 := Lib.hid h7; have H9 := Lib.hid h9
  obtain ⟨wx, hwx⟩ : ∃ wx, wx = w.alloc (.cells #[.int .u32 pa, .int .i64 (k0 : Int)] 30) := ⟨_, rfl⟩
  have hk0' : Kp none' w wx := by rw [hwx]; exact (Kp.refl _ _).alloc _
  have hbx : Blk wx w.heap.size [.int .u32 pa, .int .i64 (k0 : Int)] 30 := by rw [hwx]; exact Blk.new _ _ _
  have K := Lib.hid hk0'; have HWX := Lib.hid hwx
  have d0 := hbx.cell 0 rfl; have d1 := hbx.cell 1 rfl
  clear hk0' hwx hbx hx h7 h9 eC eQ hr hc hq
  go_enter Tryd.func6, Tryd.ntmps6
  go_upto_region 1 with (fail)
  rw [← HWX.out]
  go_wp2_with fail
  refine (H1.out _).mono ?_
  rintro e w1 ⟨rfl, k⟩
  replace d0 := k.cell d0 id; replace d1 := k.cell d1 id
  replace K := Lib.hid (K.out.trans k)
  clear k
  go_wp2_with fail
  refine (H2.out _ (HX.out.kp K.out)).mono ?_
  rintro e w1 ⟨rfl, k⟩
  replace d0 := k.cell d0 id; replace d1 := k.cell d1 id
  replace K := Lib.hid (K.out.trans k)
  clear k
  go_wp2_with fail
  refine (H3.out _).mono ?_
  rintro e w1 ⟨rfl, k⟩
  replace d0 := k.cell d0 id; replace d1 := k.cell d1 id
  replace K := Lib.hid (K.out.trans k)
  clear k
  go_wp2_with fail
  refine (H4.out _).mono ?_
  rintro e w1 ⟨rfl, k⟩
  replace d0 := k.cell d0 id; replace d1 := k.cell d1 id
  replace K := Lib.hid (K.out.trans k)
  clear k
  go_wp2_with fail
  refine (H1.out _).mono ?_
  rintro e w1 ⟨rfl, k⟩
  replace d0 := k.cell d0 id; replace d1 := k.cell d1 id
  replace K := Lib.hid (K.out.trans k)
  clear k
  go_wp2_with fail
  refine (H5.out _).mono ?_
  rintro e w1 ⟨rfl, dd, rfl⟩
  replace K := Lib.hid (K.out.drewN dd)
  replace d0 := ((Kp.refl none' _).drewN dd).cell d0 id; replace d1 := ((Kp.refl none' _).drewN dd).cell d1 id
  go_wp2_with fail
  refine (H6.out _ (HX.out.kp K.out)).mono ?_
  rintro e w1 ⟨rfl, k⟩
  replace d0 := k.cell d0 id; replace d1 := k.cell d1 id
  replace K := Lib.hid (K.out.trans k)
  have KA := (Kp.refl none' w1).alloc (.cells #[.int .u32 pa, .int .i64 (k0 : Int)] 30)
  have hbq := Blk.new w1 [.int .u32 pa, .int .i64 (k0 : Int)] 30
  replace d0 := KA.cell d0 id; replace d1 := KA.cell d1 id
  replace K := Lib.hid (K.out.trans KA)
  clear KA k
  have c0 := hbq.cell 0 rfl; have c1 := hbq.cell 1 rfl
  clear hbq
  go_wp2_with fail
  refine (H7.out _ (HX.out.kp K.out)).mono ?_
  rintro e w1 ⟨rfl, k⟩
  replace d0 := k.cell d0 id; replace d1 := k.cell d1 id
  replace K := Lib.hid (K.out.trans k)
  clear k
  go_wp2_with fail
  refine (H9.out _ (HX.out.kp K.out)).mono ?_
  rintro e w1 ⟨rfl, k⟩
  replace d0 := k.cell d0 id; replace d1 := k.cell d1 id
  replace K := Lib.hid (K.out.trans k)
  have KA := (Kp.refl none' w1).alloc (.cells #[.int .u32 qa, .int .i64 (qm : Int)] 30)
  have hbq := Blk.new w1 [.int .u32 qa, .int .i64 (qm : Int)] 30
  replace d0 := KA.cell d0 id; replace d1 := KA.cell d1 id
  replace K := Lib.hid (K.out.trans KA)
  clear KA k
  have b0 := hbq.cell 0 rfl; have b1 := hbq.cell 1 rfl
  clear hbq
  go_wp2_with fail
  refine (HL.out _ (HX.out.kp K.out)).mono ?_
  rintro e w1 ⟨rfl, k⟩
  replace d0 := k.cell d0 id; replace d1 := k.cell d1 id
  replace K := Lib.hid (K.out.trans k)
  clear k
  go_wp2_with fail
  go_ret
  exact ⟨rfl, K.out⟩
set_option maxHeartbeats 1000000 in
theorem back011 (a pa : Nat) (b : Int) (s : ByteArray) (w : World) (hx : MX w) (ha : a < 4294967296) (hpa : pa < 4294967296) (hb : -9223372036854775808 ≤ b ∧ b ≤ 9223372036854775807) (hs : ¬ 300 < s.size) (hr : rightB pa b = false) (hc : (readA (bl s)).2 = 0) (hq : (readP (bl s)).2 = 0) :
    Calls Tryd.prog 6 #[.int .u32 a, .agg #[.int .u32 pa, .int .i64 b], .string s] w fun e w' => e = .returned (.bool true) ∧ Kp none' w w' := by
  have hle : ¬ (300 : Int) < (s.size : Int) := by omega
  have HL := Lib.hid (fun W (hW : MX W) => lives W hW)
  have HX := Lib.hid hx
  have hz := putA_len a ha
  have h1 := fun W => aPutT a ha (tx (putA a)) (bl_tx _).symm W
  have h2 := fun W (hW : MX W) => aRead (tx (putA a)) W (by rw [tx_size]; omega) hW
  simp only [bl_tx, readA_putA a ha] at h2
  have h5 := fun W => rPutA a ha W
  obtain ⟨SA, eSA⟩ : ∃ S, tx (putA a) = S := ⟨_, rfl⟩
  simp only [eSA] at h1 h2 h5
  have H1 := Lib.hid h1; have H2 := Lib.hid h2; have H5 := Lib.hid h5
  have h7 := fun W (hW : MX W) => aRead s W (by omega) hW
  have h9 := fun W (hW : MX W) => aReadP s W (by omega) hW
  have h3 := fun W => aPutPT pa b hpa hb (tx []) (by rw [if_neg (by simp [hr]), bl_tx]) W
  have h4 := fun W => rPutPT pa b hpa hb (tx []) (by rw [if_neg (by simp [hr]), bl_tx]) W
  obtain ⟨ST, eST⟩ : ∃ S, tx [] = S := ⟨_, rfl⟩
  simp only [eST, hr, Bool.false_eq_true, if_false] at h3 h4
  clear eST
  have H3 := Lib.hid h3; have H4 := Lib.hid h4
  clear h1 h2 h3 h4 h5 eSA hz
  have h8 := fun W => aPutT (readA (bl s)).1 (readA_lt _) s (putA_readA _ hc) W
  have hpr := putP_readP _ hq
  have hlt := readP_lt (bl s)
  have h10 := fun W => aPutPT (readP (bl s)).1.1 ((readP (bl s)).1.2 : Nat) hlt.1 (by omega) s (by rw [if_pos hpr.2, Int.toNat_natCast]; exact hpr.1) W
  simp only [hpr.2, if_true] at h10
  obtain ⟨⟨ca, ce⟩, eC⟩ : ∃ p, readA (bl s) = p := ⟨_, rfl⟩
  obtain ⟨⟨⟨qa, qm⟩, qe⟩, eQ⟩ : ∃ p, readP (bl s) = p := ⟨_, rfl⟩
  simp only [eC] at h7 hc h8
  simp only [eQ] at h9 hq h10
  subst hc
  subst hq
  have H7 := Lib.hid h7; have H9 := Lib.hid h9
  have H8 := Lib.hid h8
  have H10 := Lib.hid h10
  obtain ⟨wx, hwx⟩ : ∃ wx, wx = w.alloc (.cells #[.int .u32 pa, .int .i64 b] 30) := ⟨_, rfl⟩
  have hk0' : Kp none' w wx := by rw [hwx]; exact (Kp.refl _ _).alloc _
  have hbx : Blk wx w.heap.size [.int .u32 pa, .int .i64 b] 30 := by rw [hwx]; exact Blk.new _ _ _
  have K := Lib.hid hk0'; have HWX := Lib.hid hwx
  have d0 := hbx.cell 0 rfl; have d1 := hbx.cell 1 rfl
  clear hk0' hwx hbx hx h7 h9 eC eQ hr h8 h10 hpr hlt
  go_enter Tryd.func6, Tryd.ntmps6
  go_upto_region 1 with (fail)
  rw [← HWX.out]
  go_wp2_with fail
  refine (H1.out _).mono ?_
  rintro e w1 ⟨rfl, k⟩
  replace d0 := k.cell d0 id; replace d1 := k.cell d1 id
  replace K := Lib.hid (K.out.trans k)
  clear k
  go_wp2_with fail
  refine (H2.out _ (HX.out.kp K.out)).mono ?_
  rintro e w1 ⟨rfl, k⟩
  replace d0 := k.cell d0 id; replace d1 := k.cell d1 id
  replace K := Lib.hid (K.out.trans k)
  clear k
  go_wp2_with fail
  refine (H3.out _).mono ?_
  rintro e w1 ⟨rfl, k⟩
  replace d0 := k.cell d0 id; replace d1 := k.cell d1 id
  replace K := Lib.hid (K.out.trans k)
  clear k
  go_wp2_with fail
  refine (H4.out _).mono ?_
  rintro e w1 ⟨rfl, k⟩
  replace d0 := k.cell d0 id; replace d1 := k.cell d1 id
  replace K := Lib.hid (K.out.trans k)
  clear k
  go_wp2_with fail
  refine (H1.out _).mono ?_
  rintro e w1 ⟨rfl, k⟩
  replace d0 := k.cell d0 id; replace d1 := k.cell d1 id
  replace K := Lib.hid (K.out.trans k)
  clear k
  go_wp2_with fail
  refine (H5.out _).mono ?_
  rintro e w1 ⟨rfl, dd, rfl⟩
  replace K := Lib.hid (K.out.drewN dd)
  replace d0 := ((Kp.refl none' _).drewN dd).cell d0 id; replace d1 := ((Kp.refl none' _).drewN dd).cell d1 id
  go_wp2_with fail
  refine (H7.out _ (HX.out.kp K.out)).mono ?_
  rintro e w1 ⟨rfl, k⟩
  replace d0 := k.cell d0 id; replace d1 := k.cell d1 id
  replace K := Lib.hid (K.out.trans k)
  clear k
  go_wp2_with fail
  refine (H8.out _).mono ?_
  rintro e w1 ⟨rfl, k⟩
  replace d0 := k.cell d0 id; replace d1 := k.cell d1 id
  replace K := Lib.hid (K.out.trans k)
  clear k
  go_wp2_with fail
  refine (H9.out _ (HX.out.kp K.out)).mono ?_
  rintro e w1 ⟨rfl, k⟩
  replace d0 := k.cell d0 id; replace d1 := k.cell d1 id
  replace K := Lib.hid (K.out.trans k)
  have KA := (Kp.refl none' w1).alloc (.cells #[.int .u32 qa, .int .i64 (qm : Int)] 30)
  have hbq := Blk.new w1 [.int .u32 qa, .int .i64 (qm : Int)] 30
  replace d0 := KA.cell d0 id; replace d1 := KA.cell d1 id
  replace K := Lib.hid (K.out.trans KA)
  clear KA k
  have b0 := hbq.cell 0 rfl; have b1 := hbq.cell 1 rfl
  clear hbq
  go_wp2_with fail
  refine (H10.out _).mono ?_
  rintro e w1 ⟨rfl, k⟩
  replace d0 := k.cell d0 id; replace d1 := k.cell d1 id
  replace K := Lib.hid (K.out.trans k)
  clear k
  go_wp2_with fail
  refine (HL.out _ (HX.out.kp K.out)).mono ?_
  rintro e w1 ⟨rfl, k⟩
  replace d0 := k.cell d0 id; replace d1 := k.cell d1 id
  replace K := Lib.hid (K.out.trans k)
  clear k
  go_wp2_with fail
  go_ret
  exact ⟨rfl, K.out⟩
set_option maxHeartbeats 1000000 in
theorem back010 (a pa : Nat) (b : Int) (s : ByteArray) (w : World) (hx : MX w) (ha : a < 4294967296) (hpa : pa < 4294967296) (hb : -9223372036854775808 ≤ b ∧ b ≤ 9223372036854775807) (hs : ¬ 300 < s.size) (hr : rightB pa b = false) (hc : (readA (bl s)).2 = 0) (hq : (readP (bl s)).2 ≠ 0) :
    Calls Tryd.prog 6 #[.int .u32 a, .agg #[.int .u32 pa, .int .i64 b], .string s] w fun e w' => e = .returned (.bool true) ∧ Kp none' w w' := by
  have hle : ¬ (300 : Int) < (s.size : Int) := by omega
  have HL := Lib.hid (fun W (hW : MX W) => lives W hW)
  have HX := Lib.hid hx
  have hz := putA_len a ha
  have h1 := fun W => aPutT a ha (tx (putA a)) (bl_tx _).symm W
  have h2 := fun W (hW : MX W) => aRead (tx (putA a)) W (by rw [tx_size]; omega) hW
  simp only [bl_tx, readA_putA a ha] at h2
  have h5 := fun W => rPutA a ha W
  obtain ⟨SA, eSA⟩ : ∃ S, tx (putA a) = S := ⟨_, rfl⟩
  simp only [eSA] at h1 h2 h5
  have H1 := Lib.hid h1; have H2 := Lib.hid h2; have H5 := Lib.hid h5
  have h7 := fun W (hW : MX W) => aRead s W (by omega) hW
  have h9 := fun W (hW : MX W) => aReadP s W (by omega) hW
  have h3 := fun W => aPutPT pa b hpa hb (tx []) (by rw [if_neg (by simp [hr]), bl_tx]) W
  have h4 := fun W => rPutPT pa b hpa hb (tx []) (by rw [if_neg (by simp [hr]), bl_tx]) W
  obtain ⟨ST, eST⟩ : ∃ S, tx [] = S := ⟨_, rfl⟩
  simp only [eST, hr, Bool.false_eq_true, if_false] at h3 h4
  clear eST
  have H3 := Lib.hid h3; have H4 := Lib.hid h4
  clear h1 h2 h3 h4 h5 eSA hz
  have h8 := fun W => aPutT (readA (bl s)).1 (readA_lt _) s (putA_readA _ hc) W
  obtain ⟨⟨ca, ce⟩, eC⟩ : ∃ p, readA (bl s) = p := ⟨_, rfl⟩
  obtain ⟨⟨⟨qa, qm⟩, qe⟩, eQ⟩ : ∃ p, readP (bl s) = p := ⟨_, rfl⟩
  simp only [eC] at h7 hc h8
  simp only [eQ] at h9 hq
  subst hc
  have hqb : (qe == 0) = false := by simpa using hq
  have H7 := Lib.hid h7; have H9 := Lib.hid h9
  have H8 := Lib.hid h8
  obtain ⟨wx, hwx⟩ : ∃ wx, wx = w.alloc (.cells #[.int .u32 pa, .int .i64 b] 30) := ⟨_, rfl⟩
  have hk0' : Kp none' w wx := by rw [hwx]; exact (Kp.refl _ _).alloc _
  have hbx : Blk wx w.heap.size [.int .u32 pa, .int .i64 b] 30 := by rw [hwx]; exact Blk.new _ _ _
  have K := Lib.hid hk0'; have HWX := Lib.hid hwx
  have d0 := hbx.cell 0 rfl; have d1 := hbx.cell 1 rfl
  clear hk0' hwx hbx hx h7 h9 eC eQ hr h8 hq
  go_enter Tryd.func6, Tryd.ntmps6
  go_upto_region 1 with (fail)
  rw [← HWX.out]
  go_wp2_with fail
  refine (H1.out _).mono ?_
  rintro e w1 ⟨rfl, k⟩
  replace d0 := k.cell d0 id; replace d1 := k.cell d1 id
  replace K := Lib.hid (K.out.trans k)
  clear k
  go_wp2_with fail
  refine (H2.out _ (HX.out.kp K.out)).mono ?_
  rintro e w1 ⟨rfl, k⟩
  replace d0 := k.cell d0 id; replace d1 := k.cell d1 id
  replace K := Lib.hid (K.out.trans k)
  clear k
  go_wp2_with fail
  refine (H3.out _).mono ?_
  rintro e w1 ⟨rfl, k⟩
  replace d0 := k.cell d0 id; replace d1 := k.cell d1 id
  replace K := Lib.hid (K.out.trans k)
  clear k
  go_wp2_with fail
  refine (H4.out _).mono ?_
  rintro e w1 ⟨rfl, k⟩
  replace d0 := k.cell d0 id; replace d1 := k.cell d1 id
  replace K := Lib.hid (K.out.trans k)
  clear k
  go_wp2_with fail
  refine (H1.out _).mono ?_
  rintro e w1 ⟨rfl, k⟩
  replace d0 := k.cell d0 id; replace d1 := k.cell d1 id
  replace K := Lib.hid (K.out.trans k)
  clear k
  go_wp2_with fail
  refine (H5.out _).mono ?_
  rintro e w1 ⟨rfl, dd, rfl⟩
  replace K := Lib.hid (K.out.drewN dd)
  replace d0 := ((Kp.refl none' _).drewN dd).cell d0 id; replace d1 := ((Kp.refl none' _).drewN dd).cell d1 id
  go_wp2_with fail
  refine (H7.out _ (HX.out.kp K.out)).mono ?_
  rintro e w1 ⟨rfl, k⟩
  replace d0 := k.cell d0 id; replace d1 := k.cell d1 id
  replace K := Lib.hid (K.out.trans k)
  clear k
  go_wp2_with fail
  refine (H8.out _).mono ?_
  rintro e w1 ⟨rfl, k⟩
  replace d0 := k.cell d0 id; replace d1 := k.cell d1 id
  replace K := Lib.hid (K.out.trans k)
  clear k
  go_wp2_with fail
  refine (H9.out _ (HX.out.kp K.out)).mono ?_
  rintro e w1 ⟨rfl, k⟩
  replace d0 := k.cell d0 id; replace d1 := k.cell d1 id
  replace K := Lib.hid (K.out.trans k)
  have KA := (Kp.refl none' w1).alloc (.cells #[.int .u32 qa, .int .i64 (qm : Int)] 30)
  have hbq := Blk.new w1 [.int .u32 qa, .int .i64 (qm : Int)] 30
  replace d0 := KA.cell d0 id; replace d1 := KA.cell d1 id
  replace K := Lib.hid (K.out.trans KA)
  clear KA k
  have b0 := hbq.cell 0 rfl; have b1 := hbq.cell 1 rfl
  clear hbq
  go_wp2_with fail
  refine (HL.out _ (HX.out.kp K.out)).mono ?_
  rintro e w1 ⟨rfl, k⟩
  replace d0 := k.cell d0 id; replace d1 := k.cell d1 id
  replace K := Lib.hid (K.out.trans k)
  clear k
  go_wp2_with fail
  go_ret
  exact ⟨rfl, K.out⟩
set_option maxHeartbeats 1000000 in
theorem back001 (a pa : Nat) (b : Int) (s : ByteArray) (w : World) (hx : MX w) (ha : a < 4294967296) (hpa : pa < 4294967296) (hb : -9223372036854775808 ≤ b ∧ b ≤ 9223372036854775807) (hs : ¬ 300 < s.size) (hr : rightB pa b = false) (hc : (readA (bl s)).2 ≠ 0) (hq : (readP (bl s)).2 = 0) :
    Calls Tryd.prog 6 #[.int .u32 a, .agg #[.int .u32 pa, .int .i64 b], .string s] w fun e w' => e = .returned (.bool true) ∧ Kp none' w w' := by
  have hle : ¬ (300 : Int) < (s.size : Int) := by omega
  have HL := Lib.hid (fun W (hW : MX W) => lives W hW)
  have HX := Lib.hid hx
  have hz := putA_len a ha
  have h1 := fun W => aPutT a ha (tx (putA a)) (bl_tx _).symm W
  have h2 := fun W (hW : MX W) => aRead (tx (putA a)) W (by rw [tx_size]; omega) hW
  simp only [bl_tx, readA_putA a ha] at h2
  have h5 := fun W => rPutA a ha W
  obtain ⟨SA, eSA⟩ : ∃ S, tx (putA a) = S := ⟨_, rfl⟩
  simp only [eSA] at h1 h2 h5
  have H1 := Lib.hid h1; have H2 := Lib.hid h2; have H5 := Lib.hid h5
  have h7 := fun W (hW : MX W) => aRead s W (by omega) hW
  have h9 := fun W (hW : MX W) => aReadP s W (by omega) hW
  have h3 := fun W => aPutPT pa b hpa hb (tx []) (by rw [if_neg (by simp [hr]), bl_tx]) W
  have h4 := fun W => rPutPT pa b hpa hb (tx []) (by rw [if_neg (by simp [hr]), bl_tx]) W
  obtain ⟨ST, eST⟩ : ∃ S, tx [] = S := ⟨_, rfl⟩
  simp only [eST, hr, Bool.false_eq_true, if_false] at h3 h4
  clear eST
  have H3 := Lib.hid h3; have H4 := Lib.hid h4
  clear h1 h2 h3 h4 h5 eSA hz
  have hpr := putP_readP _ hq
  have hlt := readP_lt (bl s)
  have h10 := fun W => aPutPT (readP (bl s)).1.1 ((readP (bl s)).1.2 : Nat) hlt.1 (by omega) s (by rw [if_pos hpr.2, Int.toNat_natCast]; exact hpr.1) W
  simp only [hpr.2, if_true] at h10
  obtain ⟨⟨ca, ce⟩, eC⟩ : ∃ p, readA (bl s) = p := ⟨_, rfl⟩
  obtain ⟨⟨⟨qa, qm⟩, qe⟩, eQ⟩ : ∃ p, readP (bl s) = p := ⟨_, rfl⟩
  simp only [eC] at h7 hc
  simp only [eQ] at h9 hq h10
  have hcb : (ce == 0) = false := by simpa using hc
  subst hq
  have H7 := Lib.hid h7; have H9 := Lib.hid h9
  have H10 := Lib.hid h10
  obtain ⟨wx, hwx⟩ : ∃ wx, wx = w.alloc (.cells #[.int .u32 pa, .int .i64 b] 30) := ⟨_, rfl⟩
  have hk0' : Kp none' w wx := by rw [hwx]; exact (Kp.refl _ _).alloc _
  have hbx : Blk wx w.heap.size [.int .u32 pa, .int .i64 b] 30 := by rw [hwx]; exact Blk.new _ _ _
  have K := Lib.hid hk0'; have HWX := Lib.hid hwx
  have d0 := hbx.cell 0 rfl; have d1 := hbx.cell 1 rfl
  clear hk0' hwx hbx hx h7 h9 eC eQ hr hc h10 hpr hlt
  go_enter Tryd.func6, Tryd.ntmps6
  go_upto_region 1 with (fail)
  rw [← HWX.out]
  go_wp2_with fail
  refine (H1.out _).mono ?_
  rintro e w1 ⟨rfl, k⟩
  replace d0 := k.cell d0 id; replace d1 := k.cell d1 id
  replace K := Lib.hid (K.out.trans k)
  clear k
  go_wp2_with fail
  refine (H2.out _ (HX.out.kp K.out)).mono ?_
  rintro e w1 ⟨rfl, k⟩
  replace d0 := k.cell d0 id; replace d1 := k.cell d1 id
  replace K := Lib.hid (K.out.trans k)
  clear k
  go_wp2_with fail
  refine (H3.out _).mono ?_
  rintro e w1 ⟨rfl, k⟩
  replace d0 := k.cell d0 id; replace d1 := k.cell d1 id
  replace K := Lib.hid (K.out.trans k)
  clear k
  go_wp2_with fail
  refine (H4.out _).mono ?_
  rintro e w1 ⟨rfl, k⟩
  replace d0 := k.cell d0 id; replace d1 := k.cell d1 id
  replace K := Lib.hid (K.out.trans k)
  clear k
  go_wp2_with fail
  refine (H1.out _).mono ?_
  rintro e w1 ⟨rfl, k⟩
  replace d0 := k.cell d0 id; replace d1 := k.cell d1 id
  replace K := Lib.hid (K.out.trans k)
  clear k
  go_wp2_with fail
  refine (H5.out _).mono ?_
  rintro e w1 ⟨rfl, dd, rfl⟩
  replace K := Lib.hid (K.out.drewN dd)
  replace d0 := ((Kp.refl none' _).drewN dd).cell d0 id; replace d1 := ((Kp.refl none' _).drewN dd).cell d1 id
  go_wp2_with fail
  refine (H7.out _ (HX.out.kp K.out)).mono ?_
  rintro e w1 ⟨rfl, k⟩
  replace d0 := k.cell d0 id; replace d1 := k.cell d1 id
  replace K := Lib.hid (K.out.trans k)
  clear k
  go_wp2_with fail
  refine (H9.out _ (HX.out.kp K.out)).mono ?_
  rintro e w1 ⟨rfl, k⟩
  replace d0 := k.cell d0 id; replace d1 := k.cell d1 id
  replace K := Lib.hid (K.out.trans k)
  have KA := (Kp.refl none' w1).alloc (.cells #[.int .u32 qa, .int .i64 (qm : Int)] 30)
  have hbq := Blk.new w1 [.int .u32 qa, .int .i64 (qm : Int)] 30
  replace d0 := KA.cell d0 id; replace d1 := KA.cell d1 id
  replace K := Lib.hid (K.out.trans KA)
  clear KA k
  have b0 := hbq.cell 0 rfl; have b1 := hbq.cell 1 rfl
  clear hbq
  go_wp2_with fail
  refine (H10.out _).mono ?_
  rintro e w1 ⟨rfl, k⟩
  replace d0 := k.cell d0 id; replace d1 := k.cell d1 id
  replace K := Lib.hid (K.out.trans k)
  clear k
  go_wp2_with fail
  refine (HL.out _ (HX.out.kp K.out)).mono ?_
  rintro e w1 ⟨rfl, k⟩
  replace d0 := k.cell d0 id; replace d1 := k.cell d1 id
  replace K := Lib.hid (K.out.trans k)
  clear k
  go_wp2_with fail
  go_ret
  exact ⟨rfl, K.out⟩
set_option maxHeartbeats 1000000 in
theorem back000 (a pa : Nat) (b : Int) (s : ByteArray) (w : World) (hx : MX w) (ha : a < 4294967296) (hpa : pa < 4294967296) (hb : -9223372036854775808 ≤ b ∧ b ≤ 9223372036854775807) (hs : ¬ 300 < s.size) (hr : rightB pa b = false) (hc : (readA (bl s)).2 ≠ 0) (hq : (readP (bl s)).2 ≠ 0) :
    Calls Tryd.prog 6 #[.int .u32 a, .agg #[.int .u32 pa, .int .i64 b], .string s] w fun e w' => e = .returned (.bool true) ∧ Kp none' w w' := by
  have hle : ¬ (300 : Int) < (s.size : Int) := by omega
  have HL := Lib.hid (fun W (hW : MX W) => lives W hW)
  have HX := Lib.hid hx
  have hz := putA_len a ha
  have h1 := fun W => aPutT a ha (tx (putA a)) (bl_tx _).symm W
  have h2 := fun W (hW : MX W) => aRead (tx (putA a)) W (by rw [tx_size]; omega) hW
  simp only [bl_tx, readA_putA a ha] at h2
  have h5 := fun W => rPutA a ha W
  obtain ⟨SA, eSA⟩ : ∃ S, tx (putA a) = S := ⟨_, rfl⟩
  simp only [eSA] at h1 h2 h5
  have H1 := Lib.hid h1; have H2 := Lib.hid h2; have H5 := Lib.hid h5
  have h7 := fun W (hW : MX W) => aRead s W (by omega) hW
  have h9 := fun W (hW : MX W) => aReadP s W (by omega) hW
  have h3 := fun W => aPutPT pa b hpa hb (tx []) (by rw [if_neg (by simp [hr]), bl_tx]) W
  have h4 := fun W => rPutPT pa b hpa hb (tx []) (by rw [if_neg (by simp [hr]), bl_tx]) W
  obtain ⟨ST, eST⟩ : ∃ S, tx [] = S := ⟨_, rfl⟩
  simp only [eST, hr, Bool.false_eq_true, if_false] at h3 h4
  clear eST
  have H3 := Lib.hid h3; have H4 := Lib.hid h4
  clear h1 h2 h3 h4 h5 eSA hz
  obtain ⟨⟨ca, ce⟩, eC⟩ : ∃ p, readA (bl s) = p := ⟨_, rfl⟩
  obtain ⟨⟨⟨qa, qm⟩, qe⟩, eQ⟩ : ∃ p, readP (bl s) = p := ⟨_, rfl⟩
  simp only [eC] at h7 hc
  simp only [eQ] at h9 hq
  have hcb : (ce == 0) = false := by simpa using hc
  have hqb : (qe == 0) = false := by simpa using hq
  have H7 := Lib.hid h7; have H9 := Lib.hid h9
  obtain ⟨wx, hwx⟩ : ∃ wx, wx = w.alloc (.cells #[.int .u32 pa, .int .i64 b] 30) := ⟨_, rfl⟩
  have hk0' : Kp none' w wx := by rw [hwx]; exact (Kp.refl _ _).alloc _
  have hbx : Blk wx w.heap.size [.int .u32 pa, .int .i64 b] 30 := by rw [hwx]; exact Blk.new _ _ _
  have K := Lib.hid hk0'; have HWX := Lib.hid hwx
  have d0 := hbx.cell 0 rfl; have d1 := hbx.cell 1 rfl
  clear hk0' hwx hbx hx h7 h9 eC eQ hr hc hq
  go_enter Tryd.func6, Tryd.ntmps6
  go_upto_region 1 with (fail)
  rw [← HWX.out]
  go_wp2_with fail
  refine (H1.out _).mono ?_
  rintro e w1 ⟨rfl, k⟩
  replace d0 := k.cell d0 id; replace d1 := k.cell d1 id
  replace K := Lib.hid (K.out.trans k)
  clear k
  go_wp2_with fail
  refine (H2.out _ (HX.out.kp K.out)).mono ?_
  rintro e w1 ⟨rfl, k⟩
  replace d0 := k.cell d0 id; replace d1 := k.cell d1 id
  replace K := Lib.hid (K.out.trans k)
  clear k
  go_wp2_with fail
  refine (H3.out _).mono ?_
  rintro e w1 ⟨rfl, k⟩
  replace d0 := k.cell d0 id; replace d1 := k.cell d1 id
  replace K := Lib.hid (K.out.trans k)
  clear k
  go_wp2_with fail
  refine (H4.out _).mono ?_
  rintro e w1 ⟨rfl, k⟩
  replace d0 := k.cell d0 id; replace d1 := k.cell d1 id
  replace K := Lib.hid (K.out.trans k)
  clear k
  go_wp2_with fail
  refine (H1.out _).mono ?_
  rintro e w1 ⟨rfl, k⟩
  replace d0 := k.cell d0 id; replace d1 := k.cell d1 id
  replace K := Lib.hid (K.out.trans k)
  clear k
  go_wp2_with fail
  refine (H5.out _).mono ?_
  rintro e w1 ⟨rfl, dd, rfl⟩
  replace K := Lib.hid (K.out.drewN dd)
  replace d0 := ((Kp.refl none' _).drewN dd).cell d0 id; replace d1 := ((Kp.refl none' _).drewN dd).cell d1 id
  go_wp2_with fail
  refine (H7.out _ (HX.out.kp K.out)).mono ?_
  rintro e w1 ⟨rfl, k⟩
  replace d0 := k.cell d0 id; replace d1 := k.cell d1 id
  replace K := Lib.hid (K.out.trans k)
  clear k
  go_wp2_with fail
  refine (H9.out _ (HX.out.kp K.out)).mono ?_
  rintro e w1 ⟨rfl, k⟩
  replace d0 := k.cell d0 id; replace d1 := k.cell d1 id
  replace K := Lib.hid (K.out.trans k)
  have KA := (Kp.refl none' w1).alloc (.cells #[.int .u32 qa, .int .i64 (qm : Int)] 30)
  have hbq := Blk.new w1 [.int .u32 qa, .int .i64 (qm : Int)] 30
  replace d0 := KA.cell d0 id; replace d1 := KA.cell d1 id
  replace K := Lib.hid (K.out.trans KA)
  clear KA k
  have b0 := hbq.cell 0 rfl; have b1 := hbq.cell 1 rfl
  clear hbq
  go_wp2_with fail
  refine (HL.out _ (HX.out.kp K.out)).mono ?_
  rintro e w1 ⟨rfl, k⟩
  replace d0 := k.cell d0 id; replace d1 := k.cell d1 id
  replace K := Lib.hid (K.out.trans k)
  clear k
  go_wp2_with fail
  go_ret
  exact ⟨rfl, K.out⟩
end Go.Proofs.YtgkncanfmojdbaaDoor
