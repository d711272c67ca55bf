/- The walk of layer 31's law AddrApart. Printed by wip/apart.py. -/
import Derived.Test.YtgkncanfmojdbaaDoorAddrL
import Derived.Test.YtgkncanfmojdbaaDoorAddrP
namespace Go.Proofs.YtgkncanfmojdbaaDoor
set_option linter.unusedVariables false
set_option linter.unusedSimpArgs false
open Go.RowKit Go.Shelf
/-- A prefix's last address. -/
def hiA (a : Nat) (b : Int) : Nat := a + (2 ^ (32 - b.toNat) - 1)
theorem hi_lt {a : Nat} {b : Int} (ha : a < 4294967296) (h : rightB a b = true) : hiA a b < 4294967296 := by
  obtain ⟨h0, h1, h2⟩ := rightB_iff.1 h
  unfold hiA
  obtain ⟨c, rfl⟩ := Nat.dvd_of_mod_eq_zero h2
  obtain ⟨k, hk⟩ : ∃ k, k = 32 - b.toNat := ⟨_, rfl⟩
  rw [← hk] at ha ⊢
  have h3 : (4294967296 : Nat) = 2 ^ k * 2 ^ (32 - k) := by rw [← Nat.pow_add, show k + (32 - k) = 32 by omega]
  have hp : 0 < 2 ^ k := Nat.pow_pos (by decide)
  rw [h3] at ha ⊢
  have h4 : c < 2 ^ (32 - k) := Nat.lt_of_mul_lt_mul_left ha
  have h5 : 2 ^ k * (c + 1) ≤ 2 ^ k * 2 ^ (32 - k) := Nat.mul_le_mul_left _ h4
  rw [Nat.mul_add] at h5
  omega
theorem xor_mask : ∀ k, k ≤ 32 → 4294967295 ^^^ maskN k = 2 ^ (32 - k) - 1 := by decide
theorem or_high {a : Nat} {b : Int} (ha : a < 4294967296) (h : rightB a b = true) : bits .or .u32 (a : Int) (bits .xor .u32 IntKind.u32.max (maskN (clampN b) : Int)) = (hiA a b : Int) := by
  obtain ⟨h0, h1, h2⟩ := rightB_iff.1 h
  have h3 := mask_lt (clampN b)
  have h4 : 2 ^ (32 - b.toNat) ≤ 2 ^ 32 := Nat.pow_le_pow_right (by decide) (by omega)
  have h5 : 0 < 2 ^ (32 - b.toNat) := Nat.pow_pos (by decide)
  rw [show IntKind.u32.max = ((4294967295 : Nat) : Int) from rfl, u32_xor_nat _ _ (by decide) h3, xor_mask _ (clamp_le b), clamp_in h0 h1, u32_or_nat a _ ha (by omega)]
  congr 1
  unfold hiA
  obtain ⟨c, rfl⟩ := Nat.dvd_of_mod_eq_zero h2
  exact (Nat.two_pow_add_eq_or_of_lt (by omega) c).symm

theorem ways : ∀ rp rq cpq cqp hp hq ll lh ql qh : Bool, (cpq = true → rp = true ∧ rq = true) → (cqp = true → rp = true ∧ rq = true) → (hp = true → hq = true → (cpq || cqp) = true) → (cpq = true → hq = true → hp = true) → (rp = true → ll = true ∧ lh = true) → (ll = true → ql = true → (cpq || cqp) = true) → (lh = true → qh = true → (cpq || cqp) = true) →
    (rp = false ∧ cpq = false ∧ cqp = false) ∨ (rp = true ∧ rq = false ∧ cpq = false ∧ cqp = false) ∨ (rp = true ∧ rq = true ∧ cpq = true ∧ hp = true ∧ hq = true ∧ ll = true ∧ lh = true) ∨ (rp = true ∧ rq = true ∧ cpq = true ∧ hp = true ∧ hq = false ∧ ll = true ∧ lh = true) ∨ (rp = true ∧ rq = true ∧ cpq = true ∧ hp = false ∧ hq = false ∧ ll = true ∧ lh = true) ∨ (rp = true ∧ rq = true ∧ cpq = false ∧ cqp = true ∧ hp = true ∧ hq = true ∧ ll = true ∧ lh = true) ∨ (rp = true ∧ rq = true ∧ cpq = false ∧ cqp = true ∧ hp = true ∧ hq = false ∧ ll = true ∧ lh = true) ∨ (rp = true ∧ rq = true ∧ cpq = false ∧ cqp = true ∧ hp = false ∧ ll = true ∧ lh = true) ∨ (rp = true ∧ rq = true ∧ cpq = false ∧ cqp = false ∧ hp = true ∧ hq = false ∧ ll = true ∧ lh = true ∧ ql = false ∧ qh = false) ∨ (rp = true ∧ rq = true ∧ cpq = false ∧ cqp = false ∧ hp = false ∧ ll = true ∧ lh = true ∧ ql = false ∧ qh = false) := by
  intro rp rq cpq cqp hp hq ll lh ql qh h1 h2 h3 h4 h5 h6 h7
  cases rp <;> cases rq <;> cases cpq <;> cases cqp <;> simp at h1 h2 <;> simp at h3 h4 h5 h6 h7 <;> cases hp <;> cases hq <;> simp_all

structure Facts (a : Nat) (b : Int) (a' : Nat) (b' : Int) (x : Nat) : Prop where
  ha : a < 4294967296
  ha' : a' < 4294967296
  hx : x < 4294967296
  hb : -9223372036854775808 ≤ b ∧ b ≤ 9223372036854775807
  hb' : -9223372036854775808 ≤ b' ∧ b' ≤ 9223372036854775807

set_option maxHeartbeats 400000 in
theorem apartA (a a' x : Nat) (b b' : Int) (w : World) (F : Facts a b a' b' x) (hx : MX w) (r_rp : rightB a b = false) (r_cpq : covB a b a' b' = false) (r_cqp : covB a' b' a b = false) :
    Calls Tryd.prog 5 #[.agg #[.int .u32 a, .int .i64 b], .agg #[.int .u32 a', .int .i64 b'], .int .u32 x] w fun e w' => e = .returned (.bool true) ∧ Kp none' w w' := by
  have HRp := Lib.hid (fun W => aRight a b W F.ha F.hb)
  simp only [r_rp] at HRp
  have HCpq := Lib.hid (fun W => aCovers a a' b b' W F.ha F.ha' F.hb F.hb')
  simp only [r_cpq] at HCpq
  have HCqp := Lib.hid (fun W => aCovers a' a b' b W F.ha' F.ha F.hb' F.hb)
  simp only [r_cqp] at HCqp
  have HL := Lib.hid (fun W (hW : MX W) => lives W hW)
  have HX := Lib.hid hx
  obtain ⟨wx, hwx⟩ : ∃ wx, wx = (w.alloc (.cells #[.int .u32 a, .int .i64 b] 30)).alloc (.cells #[.int .u32 a', .int .i64 b'] 30) := ⟨_, rfl⟩
  have hk0 : Kp none' w wx := by rw [hwx]; exact ((Kp.refl _ _).alloc _).alloc _
  have hbx : Blk wx w.heap.size [.int .u32 a, .int .i64 b] 30 := by rw [hwx]; exact (Blk.new _ _ _).alloc _
  have hby : Blk wx (w.heap.size + 1) [.int .u32 a', .int .i64 b'] 30 := by
    rw [hwx]
    have := Blk.new (w.alloc (.cells #[.int .u32 a, .int .i64 b] 30)) [.int .u32 a', .int .i64 b'] 30
    simpa using this
  have K := Lib.hid hk0; have HWX := Lib.hid hwx
  have d0 := hbx.cell 0 rfl; have d1 := hbx.cell 1 rfl; have d2 := hby.cell 0 rfl; have d3 := hby.cell 1 rfl
  clear hx hk0 hwx hbx hby F r_rp r_cpq r_cqp
  go_enter Tryd.func5, Tryd.ntmps5
  go_upto_region 1 with (fail)
  rw [← HWX.out]
  go_wp2_with fail
  refine (HRp.out _).mono ?_
  rintro e w1 ⟨rfl, k⟩
  replace d0 := k.cell d0 id; replace d1 := k.cell d1 id; replace d2 := k.cell d2 id; replace d3 := k.cell d3 id
  replace K := Lib.hid (K.out.trans k); clear k
  go_wp2_with fail
  refine (HCpq.out _).mono ?_
  rintro e w1 ⟨rfl, k⟩
  replace d0 := k.cell d0 id; replace d1 := k.cell d1 id; replace d2 := k.cell d2 id; replace d3 := k.cell d3 id
  replace K := Lib.hid (K.out.trans k); clear k
  go_wp2_with fail
  refine (HCqp.out _).mono ?_
  rintro e w1 ⟨rfl, k⟩
  replace d0 := k.cell d0 id; replace d1 := k.cell d1 id; replace d2 := k.cell d2 id; replace d3 := k.cell d3 id
  replace K := Lib.hid (K.out.trans k); clear k
  go_wp2_with fail
  refine (HL.out _ (HX.out.kp K.out)).mono ?_
  rintro e w1 ⟨rfl, k⟩
  replace K := Lib.hid (K.out.trans k); clear k
  go_wp2_with fail
  go_ret
  exact ⟨rfl, K.out⟩
set_option maxHeartbeats 400000 in
theorem apartB (a a' x : Nat) (b b' : Int) (w : World) (F : Facts a b a' b' x) (hx : MX w) (r_rp : rightB a b = true) (r_rq : rightB a' b' = false) (r_cpq : covB a b a' b' = false) (r_cqp : covB a' b' a b = false) :
    Calls Tryd.prog 5 #[.agg #[.int .u32 a, .int .i64 b], .agg #[.int .u32 a', .int .i64 b'], .int .u32 x] w fun e w' => e = .returned (.bool true) ∧ Kp none' w w' := by
  have HRp := Lib.hid (fun W => aRight a b W F.ha F.hb)
  simp only [r_rp] at HRp
  have HRq := Lib.hid (fun W => aRight a' b' W F.ha' F.hb')
  simp only [r_rq] at HRq
  have HCpq := Lib.hid (fun W => aCovers a a' b b' W F.ha F.ha' F.hb F.hb')
  simp only [r_cpq] at HCpq
  have HCqp := Lib.hid (fun W => aCovers a' a b' b W F.ha' F.ha F.hb' F.hb)
  simp only [r_cqp] at HCqp
  have HL := Lib.hid (fun W (hW : MX W) => lives W hW)
  have HX := Lib.hid hx
  obtain ⟨wx, hwx⟩ : ∃ wx, wx = (w.alloc (.cells #[.int .u32 a, .int .i64 b] 30)).alloc (.cells #[.int .u32 a', .int .i64 b'] 30) := ⟨_, rfl⟩
  have hk0 : Kp none' w wx := by rw [hwx]; exact ((Kp.refl _ _).alloc _).alloc _
  have hbx : Blk wx w.heap.size [.int .u32 a, .int .i64 b] 30 := by rw [hwx]; exact (Blk.new _ _ _).alloc _
  have hby : Blk wx (w.heap.size + 1) [.int .u32 a', .int .i64 b'] 30 := by
    rw [hwx]
    have := Blk.new (w.alloc (.cells #[.int .u32 a, .int .i64 b] 30)) [.int .u32 a', .int .i64 b'] 30
    simpa using this
  have K := Lib.hid hk0; have HWX := Lib.hid hwx
  have d0 := hbx.cell 0 rfl; have d1 := hbx.cell 1 rfl; have d2 := hby.cell 0 rfl; have d3 := hby.cell 1 rfl
  clear hx hk0 hwx hbx hby F r_rp r_rq r_cpq r_cqp
  go_enter Tryd.func5, Tryd.ntmps5
  go_upto_region 1 with (fail)
  rw [← HWX.out]
  go_wp2_with fail
  refine (HRp.out _).mono ?_
  rintro e w1 ⟨rfl, k⟩
  replace d0 := k.cell d0 id; replace d1 := k.cell d1 id; replace d2 := k.cell d2 id; replace d3 := k.cell d3 id
  replace K := Lib.hid (K.out.trans k); clear k
  go_wp2_with fail
  refine (HRq.out _).mono ?_
  rintro e w1 ⟨rfl, k⟩
  replace d0 := k.cell d0 id; replace d1 := k.cell d1 id; replace d2 := k.cell d2 id; replace d3 := k.cell d3 id
  replace K := Lib.hid (K.out.trans k); clear k
  go_wp2_with fail
  refine (HCpq.out _).mono ?_
  rintro e w1 ⟨rfl, k⟩
  replace d0 := k.cell d0 id; replace d1 := k.cell d1 id; replace d2 := k.cell d2 id; replace d3 := k.cell d3 id
  replace K := Lib.hid (K.out.trans k); clear k
  go_wp2_with fail
  refine (HCqp.out _).mono ?_
  rintro e w1 ⟨rfl, k⟩
  replace d0 := k.cell d0 id; replace d1 := k.cell d1 id; replace d2 := k.cell d2 id; replace d3 := k.cell d3 id
  replace K := Lib.hid (K.out.trans k); clear k
  go_wp2_with fail
  refine (HL.out _ (HX.out.kp K.out)).mono ?_
  rintro e w1 ⟨rfl, k⟩
  replace K := Lib.hid (K.out.trans k); clear k
  go_wp2_with fail
  go_ret
  exact ⟨rfl, K.out⟩
set_option maxHeartbeats 400000 in
theorem apartC1tt (a a' x : Nat) (b b' : Int) (w : World) (F : Facts a b a' b' x) (hx : MX w) (r_rp : rightB a b = true) (r_rq : rightB a' b' = true) (r_cpq : covB a b a' b' = true) (r_hp : hasB a b x = true) (r_hq : hasB a' b' x = true) (r_ll : hasB a b a = true) (r_lh : hasB a b (hiA a b) = true) :
    Calls Tryd.prog 5 #[.agg #[.int .u32 a, .int .i64 b], .agg #[.int .u32 a', .int .i64 b'], .int .u32 x] w fun e w' => e = .returned (.bool true) ∧ Kp none' w w' := by
  have HRp := Lib.hid (fun W => aRight a b W F.ha F.hb)
  simp only [r_rp] at HRp
  have HRq := Lib.hid (fun W => aRight a' b' W F.ha' F.hb')
  simp only [r_rq] at HRq
  have HCpq := Lib.hid (fun W => aCovers a a' b b' W F.ha F.ha' F.hb F.hb')
  simp only [r_cpq] at HCpq
  have HHp := Lib.hid (fun W => aHas a x b W F.ha F.hx F.hb)
  simp only [r_hp] at HHp
  have HHq := Lib.hid (fun W => aHas a' x b' W F.ha' F.hx F.hb')
  simp only [r_hq] at HHq
  have HHl := Lib.hid (fun W => aHas a a b W F.ha F.ha F.hb)
  simp only [r_ll] at HHl
  have HHh := Lib.hid (fun W => aHas a (hiA a b) b W F.ha (hi_lt F.ha r_rp) F.hb)
  simp only [r_lh] at HHh
  have HM := Lib.hid (fun W => aMask b W F.hb)
  have hor := or_high F.ha r_rp
  obtain ⟨hi, hhi⟩ : ∃ h, hiA a b = h := ⟨_, rfl⟩
  have hml := mask_lt (clampN b)
  obtain ⟨m, hm⟩ : ∃ m, maskN (clampN b) = m := ⟨_, rfl⟩
  simp only [hm] at HM hor hml
  simp only [hhi] at hor HHh
  have HOR := Lib.hid hor
  have HL := Lib.hid (fun W (hW : MX W) => lives W hW)
  have HX := Lib.hid hx
  obtain ⟨wx, hwx⟩ : ∃ wx, wx = (w.alloc (.cells #[.int .u32 a, .int .i64 b] 30)).alloc (.cells #[.int .u32 a', .int .i64 b'] 30) := ⟨_, rfl⟩
  have hk0 : Kp none' w wx := by rw [hwx]; exact ((Kp.refl _ _).alloc _).alloc _
  have hbx : Blk wx w.heap.size [.int .u32 a, .int .i64 b] 30 := by rw [hwx]; exact (Blk.new _ _ _).alloc _
  have hby : Blk wx (w.heap.size + 1) [.int .u32 a', .int .i64 b'] 30 := by
    rw [hwx]
    have := Blk.new (w.alloc (.cells #[.int .u32 a, .int .i64 b] 30)) [.int .u32 a', .int .i64 b'] 30
    simpa using this
  have K := Lib.hid hk0; have HWX := Lib.hid hwx
  have d0 := hbx.cell 0 rfl; have d1 := hbx.cell 1 rfl; have d2 := hby.cell 0 rfl; have d3 := hby.cell 1 rfl
  clear hx hk0 hwx hbx hby F r_rp r_rq r_cpq r_hp r_hq r_ll r_lh hor hm hhi hml
  go_enter Tryd.func5, Tryd.ntmps5
  go_upto_region 1 with (fail)
  rw [← HWX.out]
  go_wp2_with fail
  refine (HRp.out _).mono ?_
  rintro e w1 ⟨rfl, k⟩
  replace d0 := k.cell d0 id; replace d1 := k.cell d1 id; replace d2 := k.cell d2 id; replace d3 := k.cell d3 id
  replace K := Lib.hid (K.out.trans k); clear k
  go_wp2_with fail
  refine (HRq.out _).mono ?_
  rintro e w1 ⟨rfl, k⟩
  replace d0 := k.cell d0 id; replace d1 := k.cell d1 id; replace d2 := k.cell d2 id; replace d3 := k.cell d3 id
  replace K := Lib.hid (K.out.trans k); clear k
  go_wp2_with fail
  refine (HCpq.out _).mono ?_
  rintro e w1 ⟨rfl, k⟩
  replace d0 := k.cell d0 id; replace d1 := k.cell d1 id; replace d2 := k.cell d2 id; replace d3 := k.cell d3 id
  replace K := Lib.hid (K.out.trans k); clear k
  go_wp2_with fail
  refine (HHp.out _).mono ?_
  rintro e w1 ⟨rfl, k⟩
  replace d0 := k.cell d0 id; replace d1 := k.cell d1 id; replace d2 := k.cell d2 id; replace d3 := k.cell d3 id
  replace K := Lib.hid (K.out.trans k); clear k
  go_wp2_with fail
  refine (HHq.out _).mono ?_
  rintro e w1 ⟨rfl, k⟩
  replace d0 := k.cell d0 id; replace d1 := k.cell d1 id; replace d2 := k.cell d2 id; replace d3 := k.cell d3 id
  replace K := Lib.hid (K.out.trans k); clear k
  go_wp2_with fail
  refine (HCpq.out _).mono ?_
  rintro e w1 ⟨rfl, k⟩
  replace d0 := k.cell d0 id; replace d1 := k.cell d1 id; replace d2 := k.cell d2 id; replace d3 := k.cell d3 id
  replace K := Lib.hid (K.out.trans k); clear k
  go_wp2_with fail
  refine (HHq.out _).mono ?_
  rintro e w1 ⟨rfl, k⟩
  replace d0 := k.cell d0 id; replace d1 := k.cell d1 id; replace d2 := k.cell d2 id; replace d3 := k.cell d3 id
  replace K := Lib.hid (K.out.trans k); clear k
  go_wp2_with fail
  refine (HHp.out _).mono ?_
  rintro e w1 ⟨rfl, k⟩
  replace d0 := k.cell d0 id; replace d1 := k.cell d1 id; replace d2 := k.cell d2 id; replace d3 := k.cell d3 id
  replace K := Lib.hid (K.out.trans k); clear k
  go_wp2_with fail
  go_quiet ((go_at_call 18; exact quiet0 (HM.out _)))
  go_wp2_with fail
  rw [HOR.out]
  refine (HHl.out _).mono ?_
  rintro e w1 ⟨rfl, k⟩
  replace d0 := k.cell d0 id; replace d1 := k.cell d1 id; replace d2 := k.cell d2 id; replace d3 := k.cell d3 id
  replace K := Lib.hid ((K.out.drewN _).trans k); clear k
  go_wp2_with fail
  refine (HHh.out _).mono ?_
  rintro e w1 ⟨rfl, k⟩
  replace d0 := k.cell d0 id; replace d1 := k.cell d1 id; replace d2 := k.cell d2 id; replace d3 := k.cell d3 id
  replace K := Lib.hid (K.out.trans k); clear k
  go_wp2_with fail
  refine (HL.out _ (HX.out.kp K.out)).mono ?_
  rintro e w1 ⟨rfl, k⟩
  replace K := Lib.hid (K.out.trans k); clear k
  go_wp2_with fail
  go_ret
  exact ⟨rfl, K.out⟩
set_option maxHeartbeats 400000 in
theorem apartC1tf (a a' x : Nat) (b b' : Int) (w : World) (F : Facts a b a' b' x) (hx : MX w) (r_rp : rightB a b = true) (r_rq : rightB a' b' = true) (r_cpq : covB a b a' b' = true) (r_hp : hasB a b x = true) (r_hq : hasB a' b' x = false) (r_ll : hasB a b a = true) (r_lh : hasB a b (hiA a b) = true) :
    Calls Tryd.prog 5 #[.agg #[.int .u32 a, .int .i64 b], .agg #[.int .u32 a', .int .i64 b'], .int .u32 x] w fun e w' => e = .returned (.bool true) ∧ Kp none' w w' := by
  have HRp := Lib.hid (fun W => aRight a b W F.ha F.hb)
  simp only [r_rp] at HRp
  have HRq := Lib.hid (fun W => aRight a' b' W F.ha' F.hb')
  simp only [r_rq] at HRq
  have HCpq := Lib.hid (fun W => aCovers a a' b b' W F.ha F.ha' F.hb F.hb')
  simp only [r_cpq] at HCpq
  have HHp := Lib.hid (fun W => aHas a x b W F.ha F.hx F.hb)
  simp only [r_hp] at HHp
  have HHq := Lib.hid (fun W => aHas a' x b' W F.ha' F.hx F.hb')
  simp only [r_hq] at HHq
  have HHl := Lib.hid (fun W => aHas a a b W F.ha F.ha F.hb)
  simp only [r_ll] at HHl
  have HHh := Lib.hid (fun W => aHas a (hiA a b) b W F.ha (hi_lt F.ha r_rp) F.hb)
  simp only [r_lh] at HHh
  have HM := Lib.hid (fun W => aMask b W F.hb)
  have hor := or_high F.ha r_rp
  obtain ⟨hi, hhi⟩ : ∃ h, hiA a b = h := ⟨_, rfl⟩
  have hml := mask_lt (clampN b)
  obtain ⟨m, hm⟩ : ∃ m, maskN (clampN b) = m := ⟨_, rfl⟩
  simp only [hm] at HM hor hml
  simp only [hhi] at hor HHh
  have HOR := Lib.hid hor
  have HL := Lib.hid (fun W (hW : MX W) => lives W hW)
  have HX := Lib.hid hx
  obtain ⟨wx, hwx⟩ : ∃ wx, wx = (w.alloc (.cells #[.int .u32 a, .int .i64 b] 30)).alloc (.cells #[.int .u32 a', .int .i64 b'] 30) := ⟨_, rfl⟩
  have hk0 : Kp none' w wx := by rw [hwx]; exact ((Kp.refl _ _).alloc _).alloc _
  have hbx : Blk wx w.heap.size [.int .u32 a, .int .i64 b] 30 := by rw [hwx]; exact (Blk.new _ _ _).alloc _
  have hby : Blk wx (w.heap.size + 1) [.int .u32 a', .int .i64 b'] 30 := by
    rw [hwx]
    have := Blk.new (w.alloc (.cells #[.int .u32 a, .int .i64 b] 30)) [.int .u32 a', .int .i64 b'] 30
    simpa using this
  have K := Lib.hid hk0; have HWX := Lib.hid hwx
  have d0 := hbx.cell 0 rfl; have d1 := hbx.cell 1 rfl; have d2 := hby.cell 0 rfl; have d3 := hby.cell 1 rfl
  clear hx hk0 hwx hbx hby F r_rp r_rq r_cpq r_hp r_hq r_ll r_lh hor hm hhi hml
  go_enter Tryd.func5, Tryd.ntmps5
  go_upto_region 1 with (fail)
  rw [← HWX.out]
  go_wp2_with fail
  refine (HRp.out _).mono ?_
  rintro e w1 ⟨rfl, k⟩
  replace d0 := k.cell d0 id; replace d1 := k.cell d1 id; replace d2 := k.cell d2 id; replace d3 := k.cell d3 id
  replace K := Lib.hid (K.out.trans k); clear k
  go_wp2_with fail
  refine (HRq.out _).mono ?_
  rintro e w1 ⟨rfl, k⟩
  replace d0 := k.cell d0 id; replace d1 := k.cell d1 id; replace d2 := k.cell d2 id; replace d3 := k.cell d3 id
  replace K := Lib.hid (K.out.trans k); clear k
  go_wp2_with fail
  refine (HCpq.out _).mono ?_
  rintro e w1 ⟨rfl, k⟩
  replace d0 := k.cell d0 id; replace d1 := k.cell d1 id; replace d2 := k.cell d2 id; replace d3 := k.cell d3 id
  replace K := Lib.hid (K.out.trans k); clear k
  go_wp2_with fail
  refine (HHp.out _).mono ?_
  rintro e w1 ⟨rfl, k⟩
  replace d0 := k.cell d0 id; replace d1 := k.cell d1 id; replace d2 := k.cell d2 id; replace d3 := k.cell d3 id
  replace K := Lib.hid (K.out.trans k); clear k
  go_wp2_with fail
  refine (HHq.out _).mono ?_
  rintro e w1 ⟨rfl, k⟩
  replace d0 := k.cell d0 id; replace d1 := k.cell d1 id; replace d2 := k.cell d2 id; replace d3 := k.cell d3 id
  replace K := Lib.hid (K.out.trans k); clear k
  go_wp2_with fail
  refine (HCpq.out _).mono ?_
  rintro e w1 ⟨rfl, k⟩
  replace d0 := k.cell d0 id; replace d1 := k.cell d1 id; replace d2 := k.cell d2 id; replace d3 := k.cell d3 id
  replace K := Lib.hid (K.out.trans k); clear k
  go_wp2_with fail
  refine (HHq.out _).mono ?_
  rintro e w1 ⟨rfl, k⟩
  replace d0 := k.cell d0 id; replace d1 := k.cell d1 id; replace d2 := k.cell d2 id; replace d3 := k.cell d3 id
  replace K := Lib.hid (K.out.trans k); clear k
  go_wp2_with fail
  go_quiet ((go_at_call 18; exact quiet0 (HM.out _)))
  go_wp2_with fail
  rw [HOR.out]
  refine (HHl.out _).mono ?_
  rintro e w1 ⟨rfl, k⟩
  replace d0 := k.cell d0 id; replace d1 := k.cell d1 id; replace d2 := k.cell d2 id; replace d3 := k.cell d3 id
  replace K := Lib.hid ((K.out.drewN _).trans k); clear k
  go_wp2_with fail
  refine (HHh.out _).mono ?_
  rintro e w1 ⟨rfl, k⟩
  replace d0 := k.cell d0 id; replace d1 := k.cell d1 id; replace d2 := k.cell d2 id; replace d3 := k.cell d3 id
  replace K := Lib.hid (K.out.trans k); clear k
  go_wp2_with fail
  refine (HL.out _ (HX.out.kp K.out)).mono ?_
  rintro e w1 ⟨rfl, k⟩
  replace K := Lib.hid (K.out.trans k); clear k
  go_wp2_with fail
  go_ret
  exact ⟨rfl, K.out⟩
set_option maxHeartbeats 400000 in
theorem apartC1f (a a' x : Nat) (b b' : Int) (w : World) (F : Facts a b a' b' x) (hx : MX w) (r_rp : rightB a b = true) (r_rq : rightB a' b' = true) (r_cpq : covB a b a' b' = true) (r_hp : hasB a b x = false) (r_hq : hasB a' b' x = false) (r_ll : hasB a b a = true) (r_lh : hasB a b (hiA a b) = true) :
    Calls Tryd.prog 5 #[.agg #[.int .u32 a, .int .i64 b], .agg #[.int .u32 a', .int .i64 b'], .int .u32 x] w fun e w' => e = .returned (.bool true) ∧ Kp none' w w' := by
  have HRp := Lib.hid (fun W => aRight a b W F.ha F.hb)
  simp only [r_rp] at HRp
  have HRq := Lib.hid (fun W => aRight a' b' W F.ha' F.hb')
  simp only [r_rq] at HRq
  have HCpq := Lib.hid (fun W => aCovers a a' b b' W F.ha F.ha' F.hb F.hb')
  simp only [r_cpq] at HCpq
  have HHp := Lib.hid (fun W => aHas a x b W F.ha F.hx F.hb)
  simp only [r_hp] at HHp
  have HHq := Lib.hid (fun W => aHas a' x b' W F.ha' F.hx F.hb')
  simp only [r_hq] at HHq
  have HHl := Lib.hid (fun W => aHas a a b W F.ha F.ha F.hb)
  simp only [r_ll] at HHl
  have HHh := Lib.hid (fun W => aHas a (hiA a b) b W F.ha (hi_lt F.ha r_rp) F.hb)
  simp only [r_lh] at HHh
  have HM := Lib.hid (fun W => aMask b W F.hb)
  have hor := or_high F.ha r_rp
  obtain ⟨hi, hhi⟩ : ∃ h, hiA a b = h := ⟨_, rfl⟩
  have hml := mask_lt (clampN b)
  obtain ⟨m, hm⟩ : ∃ m, maskN (clampN b) = m := ⟨_, rfl⟩
  simp only [hm] at HM hor hml
  simp only [hhi] at hor HHh
  have HOR := Lib.hid hor
  have HL := Lib.hid (fun W (hW : MX W) => lives W hW)
  have HX := Lib.hid hx
  obtain ⟨wx, hwx⟩ : ∃ wx, wx = (w.alloc (.cells #[.int .u32 a, .int .i64 b] 30)).alloc (.cells #[.int .u32 a', .int .i64 b'] 30) := ⟨_, rfl⟩
  have hk0 : Kp none' w wx := by rw [hwx]; exact ((Kp.refl _ _).alloc _).alloc _
  have hbx : Blk wx w.heap.size [.int .u32 a, .int .i64 b] 30 := by rw [hwx]; exact (Blk.new _ _ _).alloc _
  have hby : Blk wx (w.heap.size + 1) [.int .u32 a', .int .i64 b'] 30 := by
    rw [hwx]
    have := Blk.new (w.alloc (.cells #[.int .u32 a, .int .i64 b] 30)) [.int .u32 a', .int .i64 b'] 30
    simpa using this
  have K := Lib.hid hk0; have HWX := Lib.hid hwx
  have d0 := hbx.cell 0 rfl; have d1 := hbx.cell 1 rfl; have d2 := hby.cell 0 rfl; have d3 := hby.cell 1 rfl
  clear hx hk0 hwx hbx hby F r_rp r_rq r_cpq r_hp r_hq r_ll r_lh hor hm hhi hml
  go_enter Tryd.func5, Tryd.ntmps5
  go_upto_region 1 with (fail)
  rw [← HWX.out]
  go_wp2_with fail
  refine (HRp.out _).mono ?_
  rintro e w1 ⟨rfl, k⟩
  replace d0 := k.cell d0 id; replace d1 := k.cell d1 id; replace d2 := k.cell d2 id; replace d3 := k.cell d3 id
  replace K := Lib.hid (K.out.trans k); clear k
  go_wp2_with fail
  refine (HRq.out _).mono ?_
  rintro e w1 ⟨rfl, k⟩
  replace d0 := k.cell d0 id; replace d1 := k.cell d1 id; replace d2 := k.cell d2 id; replace d3 := k.cell d3 id
  replace K := Lib.hid (K.out.trans k); clear k
  go_wp2_with fail
  refine (HCpq.out _).mono ?_
  rintro e w1 ⟨rfl, k⟩
  replace d0 := k.cell d0 id; replace d1 := k.cell d1 id; replace d2 := k.cell d2 id; replace d3 := k.cell d3 id
  replace K := Lib.hid (K.out.trans k); clear k
  go_wp2_with fail
  refine (HHp.out _).mono ?_
  rintro e w1 ⟨rfl, k⟩
  replace d0 := k.cell d0 id; replace d1 := k.cell d1 id; replace d2 := k.cell d2 id; replace d3 := k.cell d3 id
  replace K := Lib.hid (K.out.trans k); clear k
  go_wp2_with fail
  refine (HCpq.out _).mono ?_
  rintro e w1 ⟨rfl, k⟩
  replace d0 := k.cell d0 id; replace d1 := k.cell d1 id; replace d2 := k.cell d2 id; replace d3 := k.cell d3 id
  replace K := Lib.hid (K.out.trans k); clear k
  go_wp2_with fail
  refine (HHq.out _).mono ?_
  rintro e w1 ⟨rfl, k⟩
  replace d0 := k.cell d0 id; replace d1 := k.cell d1 id; replace d2 := k.cell d2 id; replace d3 := k.cell d3 id
  replace K := Lib.hid (K.out.trans k); clear k
  go_wp2_with fail
  go_quiet ((go_at_call 18; exact quiet0 (HM.out _)))
  go_wp2_with fail
  rw [HOR.out]
  refine (HHl.out _).mono ?_
  rintro e w1 ⟨rfl, k⟩
  replace d0 := k.cell d0 id; replace d1 := k.cell d1 id; replace d2 := k.cell d2 id; replace d3 := k.cell d3 id
  replace K := Lib.hid ((K.out.drewN _).trans k); clear k
  go_wp2_with fail
  refine (HHh.out _).mono ?_
  rintro e w1 ⟨rfl, k⟩
  replace d0 := k.cell d0 id; replace d1 := k.cell d1 id; replace d2 := k.cell d2 id; replace d3 := k.cell d3 id
  replace K := Lib.hid (K.out.trans k); clear k
  go_wp2_with fail
  refine (HL.out _ (HX.out.kp K.out)).mono ?_
  rintro e w1 ⟨rfl, k⟩
  replace K := Lib.hid (K.out.trans k); clear k
  go_wp2_with fail
  go_ret
  exact ⟨rfl, K.out⟩
set_option maxHeartbeats 400000 in
theorem apartC2tt (a a' x : Nat) (b b' : Int) (w : World) (F : Facts a b a' b' x) (hx : MX w) (r_rp : rightB a b = true) (r_rq : rightB a' b' = true) (r_cpq : covB a b a' b' = false) (r_cqp : covB a' b' a b = true) (r_hp : hasB a b x = true) (r_hq : hasB a' b' x = true) (r_ll : hasB a b a = true) (r_lh : hasB a b (hiA a b) = true) :
    Calls Tryd.prog 5 #[.agg #[.int .u32 a, .int .i64 b], .agg #[.int .u32 a', .int .i64 b'], .int .u32 x] w fun e w' => e = .returned (.bool true) ∧ Kp none' w w' := by
  have HRp := Lib.hid (fun W => aRight a b W F.ha F.hb)
  simp only [r_rp] at HRp
  have HRq := Lib.hid (fun W => aRight a' b' W F.ha' F.hb')
  simp only [r_rq] at HRq
  have HCpq := Lib.hid (fun W => aCovers a a' b b' W F.ha F.ha' F.hb F.hb')
  simp only [r_cpq] at HCpq
  have HCqp := Lib.hid (fun W => aCovers a' a b' b W F.ha' F.ha F.hb' F.hb)
  simp only [r_cqp] at HCqp
  have HHp := Lib.hid (fun W => aHas a x b W F.ha F.hx F.hb)
  simp only [r_hp] at HHp
  have HHq := Lib.hid (fun W => aHas a' x b' W F.ha' F.hx F.hb')
  simp only [r_hq] at HHq
  have HHl := Lib.hid (fun W => aHas a a b W F.ha F.ha F.hb)
  simp only [r_ll] at HHl
  have HHh := Lib.hid (fun W => aHas a (hiA a b) b W F.ha (hi_lt F.ha r_rp) F.hb)
  simp only [r_lh] at HHh
  have HM := Lib.hid (fun W => aMask b W F.hb)
  have hor := or_high F.ha r_rp
  obtain ⟨hi, hhi⟩ : ∃ h, hiA a b = h := ⟨_, rfl⟩
  have hml := mask_lt (clampN b)
  obtain ⟨m, hm⟩ : ∃ m, maskN (clampN b) = m := ⟨_, rfl⟩
  simp only [hm] at HM hor hml
  simp only [hhi] at hor HHh
  have HOR := Lib.hid hor
  have HL := Lib.hid (fun W (hW : MX W) => lives W hW)
  have HX := Lib.hid hx
  obtain ⟨wx, hwx⟩ : ∃ wx, wx = (w.alloc (.cells #[.int .u32 a, .int .i64 b] 30)).alloc (.cells #[.int .u32 a', .int .i64 b'] 30) := ⟨_, rfl⟩
  have hk0 : Kp none' w wx := by rw [hwx]; exact ((Kp.refl _ _).alloc _).alloc _
  have hbx : Blk wx w.heap.size [.int .u32 a, .int .i64 b] 30 := by rw [hwx]; exact (Blk.new _ _ _).alloc _
  have hby : Blk wx (w.heap.size + 1) [.int .u32 a', .int .i64 b'] 30 := by
    rw [hwx]
    have := Blk.new (w.alloc (.cells #[.int .u32 a, .int .i64 b] 30)) [.int .u32 a', .int .i64 b'] 30
    simpa using this
  have K := Lib.hid hk0; have HWX := Lib.hid hwx
  have d0 := hbx.cell 0 rfl; have d1 := hbx.cell 1 rfl; have d2 := hby.cell 0 rfl; have d3 := hby.cell 1 rfl
  clear hx hk0 hwx hbx hby F r_rp r_rq r_cpq r_cqp r_hp r_hq r_ll r_lh hor hm hhi hml
  go_enter Tryd.func5, Tryd.ntmps5
  go_upto_region 1 with (fail)
  rw [← HWX.out]
  go_wp2_with fail
  refine (HRp.out _).mono ?_
  rintro e w1 ⟨rfl, k⟩
  replace d0 := k.cell d0 id; replace d1 := k.cell d1 id; replace d2 := k.cell d2 id; replace d3 := k.cell d3 id
  replace K := Lib.hid (K.out.trans k); clear k
  go_wp2_with fail
  refine (HRq.out _).mono ?_
  rintro e w1 ⟨rfl, k⟩
  replace d0 := k.cell d0 id; replace d1 := k.cell d1 id; replace d2 := k.cell d2 id; replace d3 := k.cell d3 id
  replace K := Lib.hid (K.out.trans k); clear k
  go_wp2_with fail
  refine (HCpq.out _).mono ?_
  rintro e w1 ⟨rfl, k⟩
  replace d0 := k.cell d0 id; replace d1 := k.cell d1 id; replace d2 := k.cell d2 id; replace d3 := k.cell d3 id
  replace K := Lib.hid (K.out.trans k); clear k
  go_wp2_with fail
  refine (HCqp.out _).mono ?_
  rintro e w1 ⟨rfl, k⟩
  replace d0 := k.cell d0 id; replace d1 := k.cell d1 id; replace d2 := k.cell d2 id; replace d3 := k.cell d3 id
  replace K := Lib.hid (K.out.trans k); clear k
  go_wp2_with fail
  refine (HHp.out _).mono ?_
  rintro e w1 ⟨rfl, k⟩
  replace d0 := k.cell d0 id; replace d1 := k.cell d1 id; replace d2 := k.cell d2 id; replace d3 := k.cell d3 id
  replace K := Lib.hid (K.out.trans k); clear k
  go_wp2_with fail
  refine (HHq.out _).mono ?_
  rintro e w1 ⟨rfl, k⟩
  replace d0 := k.cell d0 id; replace d1 := k.cell d1 id; replace d2 := k.cell d2 id; replace d3 := k.cell d3 id
  replace K := Lib.hid (K.out.trans k); clear k
  go_wp2_with fail
  refine (HCpq.out _).mono ?_
  rintro e w1 ⟨rfl, k⟩
  replace d0 := k.cell d0 id; replace d1 := k.cell d1 id; replace d2 := k.cell d2 id; replace d3 := k.cell d3 id
  replace K := Lib.hid (K.out.trans k); clear k
  go_wp2_with fail
  go_quiet ((go_at_call 18; exact quiet0 (HM.out _)))
  go_wp2_with fail
  rw [HOR.out]
  refine (HHl.out _).mono ?_
  rintro e w1 ⟨rfl, k⟩
  replace d0 := k.cell d0 id; replace d1 := k.cell d1 id; replace d2 := k.cell d2 id; replace d3 := k.cell d3 id
  replace K := Lib.hid ((K.out.drewN _).trans k); clear k
  go_wp2_with fail
  refine (HHh.out _).mono ?_
  rintro e w1 ⟨rfl, k⟩
  replace d0 := k.cell d0 id; replace d1 := k.cell d1 id; replace d2 := k.cell d2 id; replace d3 := k.cell d3 id
  replace K := Lib.hid (K.out.trans k); clear k
  go_wp2_with fail
  refine (HL.out _ (HX.out.kp K.out)).mono ?_
  rintro e w1 ⟨rfl, k⟩
  replace K := Lib.hid (K.out.trans k); clear k
  go_wp2_with fail
  go_ret
  exact ⟨rfl, K.out⟩
set_option maxHeartbeats 400000 in
theorem apartC2tf (a a' x : Nat) (b b' : Int) (w : World) (F : Facts a b a' b' x) (hx : MX w) (r_rp : rightB a b = true) (r_rq : rightB a' b' = true) (r_cpq : covB a b a' b' = false) (r_cqp : covB a' b' a b = true) (r_hp : hasB a b x = true) (r_hq : hasB a' b' x = false) (r_ll : hasB a b a = true) (r_lh : hasB a b (hiA a b) = true) :
    Calls Tryd.prog 5 #[.agg #[.int .u32 a, .int .i64 b], .agg #[.int .u32 a', .int .i64 b'], .int .u32 x] w fun e w' => e = .returned (.bool true) ∧ Kp none' w w' := by
  have HRp := Lib.hid (fun W => aRight a b W F.ha F.hb)
  simp only [r_rp] at HRp
  have HRq := Lib.hid (fun W => aRight a' b' W F.ha' F.hb')
  simp only [r_rq] at HRq
  have HCpq := Lib.hid (fun W => aCovers a a' b b' W F.ha F.ha' F.hb F.hb')
  simp only [r_cpq] at HCpq
  have HCqp := Lib.hid (fun W => aCovers a' a b' b W F.ha' F.ha F.hb' F.hb)
  simp only [r_cqp] at HCqp
  have HHp := Lib.hid (fun W => aHas a x b W F.ha F.hx F.hb)
  simp only [r_hp] at HHp
  have HHq := Lib.hid (fun W => aHas a' x b' W F.ha' F.hx F.hb')
  simp only [r_hq] at HHq
  have HHl := Lib.hid (fun W => aHas a a b W F.ha F.ha F.hb)
  simp only [r_ll] at HHl
  have HHh := Lib.hid (fun W => aHas a (hiA a b) b W F.ha (hi_lt F.ha r_rp) F.hb)
  simp only [r_lh] at HHh
  have HM := Lib.hid (fun W => aMask b W F.hb)
  have hor := or_high F.ha r_rp
  obtain ⟨hi, hhi⟩ : ∃ h, hiA a b = h := ⟨_, rfl⟩
  have hml := mask_lt (clampN b)
  obtain ⟨m, hm⟩ : ∃ m, maskN (clampN b) = m := ⟨_, rfl⟩
  simp only [hm] at HM hor hml
  simp only [hhi] at hor HHh
  have HOR := Lib.hid hor
  have HL := Lib.hid (fun W (hW : MX W) => lives W hW)
  have HX := Lib.hid hx
  obtain ⟨wx, hwx⟩ : ∃ wx, wx = (w.alloc (.cells #[.int .u32 a, .int .i64 b] 30)).alloc (.cells #[.int .u32 a', .int .i64 b'] 30) := ⟨_, rfl⟩
  have hk0 : Kp none' w wx := by rw [hwx]; exact ((Kp.refl _ _).alloc _).alloc _
  have hbx : Blk wx w.heap.size [.int .u32 a, .int .i64 b] 30 := by rw [hwx]; exact (Blk.new _ _ _).alloc _
  have hby : Blk wx (w.heap.size + 1) [.int .u32 a', .int .i64 b'] 30 := by
    rw [hwx]
    have := Blk.new (w.alloc (.cells #[.int .u32 a, .int .i64 b] 30)) [.int .u32 a', .int .i64 b'] 30
    simpa using this
  have K := Lib.hid hk0; have HWX := Lib.hid hwx
  have d0 := hbx.cell 0 rfl; have d1 := hbx.cell 1 rfl; have d2 := hby.cell 0 rfl; have d3 := hby.cell 1 rfl
  clear hx hk0 hwx hbx hby F r_rp r_rq r_cpq r_cqp r_hp r_hq r_ll r_lh hor hm hhi hml
  go_enter Tryd.func5, Tryd.ntmps5
  go_upto_region 1 with (fail)
  rw [← HWX.out]
  go_wp2_with fail
  refine (HRp.out _).mono ?_
  rintro e w1 ⟨rfl, k⟩
  replace d0 := k.cell d0 id; replace d1 := k.cell d1 id; replace d2 := k.cell d2 id; replace d3 := k.cell d3 id
  replace K := Lib.hid (K.out.trans k); clear k
  go_wp2_with fail
  refine (HRq.out _).mono ?_
  rintro e w1 ⟨rfl, k⟩
  replace d0 := k.cell d0 id; replace d1 := k.cell d1 id; replace d2 := k.cell d2 id; replace d3 := k.cell d3 id
  replace K := Lib.hid (K.out.trans k); clear k
  go_wp2_with fail
  refine (HCpq.out _).mono ?_
  rintro e w1 ⟨rfl, k⟩
  replace d0 := k.cell d0 id; replace d1 := k.cell d1 id; replace d2 := k.cell d2 id; replace d3 := k.cell d3 id
  replace K := Lib.hid (K.out.trans k); clear k
  go_wp2_with fail
  refine (HCqp.out _).mono ?_
  rintro e w1 ⟨rfl, k⟩
  replace d0 := k.cell d0 id; replace d1 := k.cell d1 id; replace d2 := k.cell d2 id; replace d3 := k.cell d3 id
  replace K := Lib.hid (K.out.trans k); clear k
  go_wp2_with fail
  refine (HHp.out _).mono ?_
  rintro e w1 ⟨rfl, k⟩
  replace d0 := k.cell d0 id; replace d1 := k.cell d1 id; replace d2 := k.cell d2 id; replace d3 := k.cell d3 id
  replace K := Lib.hid (K.out.trans k); clear k
  go_wp2_with fail
  refine (HHq.out _).mono ?_
  rintro e w1 ⟨rfl, k⟩
  replace d0 := k.cell d0 id; replace d1 := k.cell d1 id; replace d2 := k.cell d2 id; replace d3 := k.cell d3 id
  replace K := Lib.hid (K.out.trans k); clear k
  go_wp2_with fail
  refine (HCpq.out _).mono ?_
  rintro e w1 ⟨rfl, k⟩
  replace d0 := k.cell d0 id; replace d1 := k.cell d1 id; replace d2 := k.cell d2 id; replace d3 := k.cell d3 id
  replace K := Lib.hid (K.out.trans k); clear k
  go_wp2_with fail
  go_quiet ((go_at_call 18; exact quiet0 (HM.out _)))
  go_wp2_with fail
  rw [HOR.out]
  refine (HHl.out _).mono ?_
  rintro e w1 ⟨rfl, k⟩
  replace d0 := k.cell d0 id; replace d1 := k.cell d1 id; replace d2 := k.cell d2 id; replace d3 := k.cell d3 id
  replace K := Lib.hid ((K.out.drewN _).trans k); clear k
  go_wp2_with fail
  refine (HHh.out _).mono ?_
  rintro e w1 ⟨rfl, k⟩
  replace d0 := k.cell d0 id; replace d1 := k.cell d1 id; replace d2 := k.cell d2 id; replace d3 := k.cell d3 id
  replace K := Lib.hid (K.out.trans k); clear k
  go_wp2_with fail
  refine (HL.out _ (HX.out.kp K.out)).mono ?_
  rintro e w1 ⟨rfl, k⟩
  replace K := Lib.hid (K.out.trans k); clear k
  go_wp2_with fail
  go_ret
  exact ⟨rfl, K.out⟩
set_option maxHeartbeats 400000 in
theorem apartC2f (a a' x : Nat) (b b' : Int) (w : World) (F : Facts a b a' b' x) (hx : MX w) (r_rp : rightB a b = true) (r_rq : rightB a' b' = true) (r_cpq : covB a b a' b' = false) (r_cqp : covB a' b' a b = true) (r_hp : hasB a b x = false) (r_ll : hasB a b a = true) (r_lh : hasB a b (hiA a b) = true) :
    Calls Tryd.prog 5 #[.agg #[.int .u32 a, .int .i64 b], .agg #[.int .u32 a', .int .i64 b'], .int .u32 x] w fun e w' => e = .returned (.bool true) ∧ Kp none' w w' := by
  have HRp := Lib.hid (fun W => aRight a b W F.ha F.hb)
  simp only [r_rp] at HRp
  have HRq := Lib.hid (fun W => aRight a' b' W F.ha' F.hb')
  simp only [r_rq] at HRq
  have HCpq := Lib.hid (fun W => aCovers a a' b b' W F.ha F.ha' F.hb F.hb')
  simp only [r_cpq] at HCpq
  have HCqp := Lib.hid (fun W => aCovers a' a b' b W F.ha' F.ha F.hb' F.hb)
  simp only [r_cqp] at HCqp
  have HHp := Lib.hid (fun W => aHas a x b W F.ha F.hx F.hb)
  simp only [r_hp] at HHp
  have HHl := Lib.hid (fun W => aHas a a b W F.ha F.ha F.hb)
  simp only [r_ll] at HHl
  have HHh := Lib.hid (fun W => aHas a (hiA a b) b W F.ha (hi_lt F.ha r_rp) F.hb)
  simp only [r_lh] at HHh
  have HM := Lib.hid (fun W => aMask b W F.hb)
  have hor := or_high F.ha r_rp
  obtain ⟨hi, hhi⟩ : ∃ h, hiA a b = h := ⟨_, rfl⟩
  have hml := mask_lt (clampN b)
  obtain ⟨m, hm⟩ : ∃ m, maskN (clampN b) = m := ⟨_, rfl⟩
  simp only [hm] at HM hor hml
  simp only [hhi] at hor HHh
  have HOR := Lib.hid hor
  have HL := Lib.hid (fun W (hW : MX W) => lives W hW)
  have HX := Lib.hid hx
  obtain ⟨wx, hwx⟩ : ∃ wx, wx = (w.alloc (.cells #[.int .u32 a, .int .i64 b] 30)).alloc (.cells #[.int .u32 a', .int .i64 b'] 30) := ⟨_, rfl⟩
  have hk0 : Kp none' w wx := by rw [hwx]; exact ((Kp.refl _ _).alloc _).alloc _
  have hbx : Blk wx w.heap.size [.int .u32 a, .int .i64 b] 30 := by rw [hwx]; exact (Blk.new _ _ _).alloc _
  have hby : Blk wx (w.heap.size + 1) [.int .u32 a', .int .i64 b'] 30 := by
    rw [hwx]
    have := Blk.new (w.alloc (.cells #[.int .u32 a, .int .i64 b] 30)) [.int .u32 a', .int .i64 b'] 30
    simpa using this
  have K := Lib.hid hk0; have HWX := Lib.hid hwx
  have d0 := hbx.cell 0 rfl; have d1 := hbx.cell 1 rfl; have d2 := hby.cell 0 rfl; have d3 := hby.cell 1 rfl
  clear hx hk0 hwx hbx hby F r_rp r_rq r_cpq r_cqp r_hp r_ll r_lh hor hm hhi hml
  go_enter Tryd.func5, Tryd.ntmps5
  go_upto_region 1 with (fail)
  rw [← HWX.out]
  go_wp2_with fail
  refine (HRp.out _).mono ?_
  rintro e w1 ⟨rfl, k⟩
  replace d0 := k.cell d0 id; replace d1 := k.cell d1 id; replace d2 := k.cell d2 id; replace d3 := k.cell d3 id
  replace K := Lib.hid (K.out.trans k); clear k
  go_wp2_with fail
  refine (HRq.out _).mono ?_
  rintro e w1 ⟨rfl, k⟩
  replace d0 := k.cell d0 id; replace d1 := k.cell d1 id; replace d2 := k.cell d2 id; replace d3 := k.cell d3 id
  replace K := Lib.hid (K.out.trans k); clear k
  go_wp2_with fail
  refine (HCpq.out _).mono ?_
  rintro e w1 ⟨rfl, k⟩
  replace d0 := k.cell d0 id; replace d1 := k.cell d1 id; replace d2 := k.cell d2 id; replace d3 := k.cell d3 id
  replace K := Lib.hid (K.out.trans k); clear k
  go_wp2_with fail
  refine (HCqp.out _).mono ?_
  rintro e w1 ⟨rfl, k⟩
  replace d0 := k.cell d0 id; replace d1 := k.cell d1 id; replace d2 := k.cell d2 id; replace d3 := k.cell d3 id
  replace K := Lib.hid (K.out.trans k); clear k
  go_wp2_with fail
  refine (HHp.out _).mono ?_
  rintro e w1 ⟨rfl, k⟩
  replace d0 := k.cell d0 id; replace d1 := k.cell d1 id; replace d2 := k.cell d2 id; replace d3 := k.cell d3 id
  replace K := Lib.hid (K.out.trans k); clear k
  go_wp2_with fail
  refine (HCpq.out _).mono ?_
  rintro e w1 ⟨rfl, k⟩
  replace d0 := k.cell d0 id; replace d1 := k.cell d1 id; replace d2 := k.cell d2 id; replace d3 := k.cell d3 id
  replace K := Lib.hid (K.out.trans k); clear k
  go_wp2_with fail
  go_quiet ((go_at_call 18; exact quiet0 (HM.out _)))
  go_wp2_with fail
  rw [HOR.out]
  refine (HHl.out _).mono ?_
  rintro e w1 ⟨rfl, k⟩
  replace d0 := k.cell d0 id; replace d1 := k.cell d1 id; replace d2 := k.cell d2 id; replace d3 := k.cell d3 id
  replace K := Lib.hid ((K.out.drewN _).trans k); clear k
  go_wp2_with fail
  refine (HHh.out _).mono ?_
  rintro e w1 ⟨rfl, k⟩
  replace d0 := k.cell d0 id; replace d1 := k.cell d1 id; replace d2 := k.cell d2 id; replace d3 := k.cell d3 id
  replace K := Lib.hid (K.out.trans k); clear k
  go_wp2_with fail
  refine (HL.out _ (HX.out.kp K.out)).mono ?_
  rintro e w1 ⟨rfl, k⟩
  replace K := Lib.hid (K.out.trans k); clear k
  go_wp2_with fail
  go_ret
  exact ⟨rfl, K.out⟩
set_option maxHeartbeats 400000 in
theorem apartC3tf (a a' x : Nat) (b b' : Int) (w : World) (F : Facts a b a' b' x) (hx : MX w) (r_rp : rightB a b = true) (r_rq : rightB a' b' = true) (r_cpq : covB a b a' b' = false) (r_cqp : covB a' b' a b = false) (r_hp : hasB a b x = true) (r_hq : hasB a' b' x = false) (r_ll : hasB a b a = true) (r_lh : hasB a b (hiA a b) = true) (r_ql : hasB a' b' a = false) (r_qh : hasB a' b' (hiA a b) = false) :
    Calls Tryd.prog 5 #[.agg #[.int .u32 a, .int .i64 b], .agg #[.int .u32 a', .int .i64 b'], .int .u32 x] w fun e w' => e = .returned (.bool true) ∧ Kp none' w w' := by
  have HRp := Lib.hid (fun W => aRight a b W F.ha F.hb)
  simp only [r_rp] at HRp
  have HRq := Lib.hid (fun W => aRight a' b' W F.ha' F.hb')
  simp only [r_rq] at HRq
  have HCpq := Lib.hid (fun W => aCovers a a' b b' W F.ha F.ha' F.hb F.hb')
  simp only [r_cpq] at HCpq
  have HCqp := Lib.hid (fun W => aCovers a' a b' b W F.ha' F.ha F.hb' F.hb)
  simp only [r_cqp] at HCqp
  have HHp := Lib.hid (fun W => aHas a x b W F.ha F.hx F.hb)
  simp only [r_hp] at HHp
  have HHq := Lib.hid (fun W => aHas a' x b' W F.ha' F.hx F.hb')
  simp only [r_hq] at HHq
  have HHl := Lib.hid (fun W => aHas a a b W F.ha F.ha F.hb)
  simp only [r_ll] at HHl
  have HHh := Lib.hid (fun W => aHas a (hiA a b) b W F.ha (hi_lt F.ha r_rp) F.hb)
  simp only [r_lh] at HHh
  have HQl := Lib.hid (fun W => aHas a' a b' W F.ha' F.ha F.hb')
  simp only [r_ql] at HQl
  have HQh := Lib.hid (fun W => aHas a' (hiA a b) b' W F.ha' (hi_lt F.ha r_rp) F.hb')
  simp only [r_qh] at HQh
  have HM := Lib.hid (fun W => aMask b W F.hb)
  have hor := or_high F.ha r_rp
  obtain ⟨hi, hhi⟩ : ∃ h, hiA a b = h := ⟨_, rfl⟩
  have hml := mask_lt (clampN b)
  obtain ⟨m, hm⟩ : ∃ m, maskN (clampN b) = m := ⟨_, rfl⟩
  simp only [hm] at HM hor hml
  simp only [hhi] at hor HHh HQh
  have HOR := Lib.hid hor
  have HL := Lib.hid (fun W (hW : MX W) => lives W hW)
  have HX := Lib.hid hx
  obtain ⟨wx, hwx⟩ : ∃ wx, wx = (w.alloc (.cells #[.int .u32 a, .int .i64 b] 30)).alloc (.cells #[.int .u32 a', .int .i64 b'] 30) := ⟨_, rfl⟩
  have hk0 : Kp none' w wx := by rw [hwx]; exact ((Kp.refl _ _).alloc _).alloc _
  have hbx : Blk wx w.heap.size [.int .u32 a, .int .i64 b] 30 := by rw [hwx]; exact (Blk.new _ _ _).alloc _
  have hby : Blk wx (w.heap.size + 1) [.int .u32 a', .int .i64 b'] 30 := by
    rw [hwx]
    have := Blk.new (w.alloc (.cells #[.int .u32 a, .int .i64 b] 30)) [.int .u32 a', .int .i64 b'] 30
    simpa using this
  have K := Lib.hid hk0; have HWX := Lib.hid hwx
  have d0 := hbx.cell 0 rfl; have d1 := hbx.cell 1 rfl; have d2 := hby.cell 0 rfl; have d3 := hby.cell 1 rfl
  clear hx hk0 hwx hbx hby F r_rp r_rq r_cpq r_cqp r_hp r_hq r_ll r_lh r_ql r_qh hor hm hhi hml
  go_enter Tryd.func5, Tryd.ntmps5
  go_upto_region 1 with (fail)
  rw [← HWX.out]
  go_wp2_with fail
  refine (HRp.out _).mono ?_
  rintro e w1 ⟨rfl, k⟩
  replace d0 := k.cell d0 id; replace d1 := k.cell d1 id; replace d2 := k.cell d2 id; replace d3 := k.cell d3 id
  replace K := Lib.hid (K.out.trans k); clear k
  go_wp2_with fail
  refine (HRq.out _).mono ?_
  rintro e w1 ⟨rfl, k⟩
  replace d0 := k.cell d0 id; replace d1 := k.cell d1 id; replace d2 := k.cell d2 id; replace d3 := k.cell d3 id
  replace K := Lib.hid (K.out.trans k); clear k
  go_wp2_with fail
  refine (HCpq.out _).mono ?_
  rintro e w1 ⟨rfl, k⟩
  replace d0 := k.cell d0 id; replace d1 := k.cell d1 id; replace d2 := k.cell d2 id; replace d3 := k.cell d3 id
  replace K := Lib.hid (K.out.trans k); clear k
  go_wp2_with fail
  refine (HCqp.out _).mono ?_
  rintro e w1 ⟨rfl, k⟩
  replace d0 := k.cell d0 id; replace d1 := k.cell d1 id; replace d2 := k.cell d2 id; replace d3 := k.cell d3 id
  replace K := Lib.hid (K.out.trans k); clear k
  go_wp2_with fail
  refine (HHp.out _).mono ?_
  rintro e w1 ⟨rfl, k⟩
  replace d0 := k.cell d0 id; replace d1 := k.cell d1 id; replace d2 := k.cell d2 id; replace d3 := k.cell d3 id
  replace K := Lib.hid (K.out.trans k); clear k
  go_wp2_with fail
  refine (HHq.out _).mono ?_
  rintro e w1 ⟨rfl, k⟩
  replace d0 := k.cell d0 id; replace d1 := k.cell d1 id; replace d2 := k.cell d2 id; replace d3 := k.cell d3 id
  replace K := Lib.hid (K.out.trans k); clear k
  go_wp2_with fail
  refine (HCpq.out _).mono ?_
  rintro e w1 ⟨rfl, k⟩
  replace d0 := k.cell d0 id; replace d1 := k.cell d1 id; replace d2 := k.cell d2 id; replace d3 := k.cell d3 id
  replace K := Lib.hid (K.out.trans k); clear k
  go_wp2_with fail
  go_quiet ((go_at_call 18; exact quiet0 (HM.out _)))
  go_wp2_with fail
  rw [HOR.out]
  refine (HHl.out _).mono ?_
  rintro e w1 ⟨rfl, k⟩
  replace d0 := k.cell d0 id; replace d1 := k.cell d1 id; replace d2 := k.cell d2 id; replace d3 := k.cell d3 id
  replace K := Lib.hid ((K.out.drewN _).trans k); clear k
  go_wp2_with fail
  refine (HHh.out _).mono ?_
  rintro e w1 ⟨rfl, k⟩
  replace d0 := k.cell d0 id; replace d1 := k.cell d1 id; replace d2 := k.cell d2 id; replace d3 := k.cell d3 id
  replace K := Lib.hid (K.out.trans k); clear k
  go_wp2_with fail
  refine (HQl.out _).mono ?_
  rintro e w1 ⟨rfl, k⟩
  replace d0 := k.cell d0 id; replace d1 := k.cell d1 id; replace d2 := k.cell d2 id; replace d3 := k.cell d3 id
  replace K := Lib.hid (K.out.trans k); clear k
  go_wp2_with fail
  refine (HQh.out _).mono ?_
  rintro e w1 ⟨rfl, k⟩
  replace d0 := k.cell d0 id; replace d1 := k.cell d1 id; replace d2 := k.cell d2 id; replace d3 := k.cell d3 id
  replace K := Lib.hid (K.out.trans k); clear k
  go_wp2_with fail
  refine (HL.out _ (HX.out.kp K.out)).mono ?_
  rintro e w1 ⟨rfl, k⟩
  replace K := Lib.hid (K.out.trans k); clear k
  go_wp2_with fail
  go_ret
  exact ⟨rfl, K.out⟩
set_option maxHeartbeats 400000 in
theorem apartC3f (a a' x : Nat) (b b' : Int) (w : World) (F : Facts a b a' b' x) (hx : MX w) (r_rp : rightB a b = true) (r_rq : rightB a' b' = true) (r_cpq : covB a b a' b' = false) (r_cqp : covB a' b' a b = false) (r_hp : hasB a b x = false) (r_ll : hasB a b a = true) (r_lh : hasB a b (hiA a b) = true) (r_ql : hasB a' b' a = false) (r_qh : hasB a' b' (hiA a b) = false) :
    Calls Tryd.prog 5 #[.agg #[.int .u32 a, .int .i64 b], .agg #[.int .u32 a', .int .i64 b'], .int .u32 x] w fun e w' => e = .returned (.bool true) ∧ Kp none' w w' := by
  have HRp := Lib.hid (fun W => aRight a b W F.ha F.hb)
  simp only [r_rp] at HRp
  have HRq := Lib.hid (fun W => aRight a' b' W F.ha' F.hb')
  simp only [r_rq] at HRq
  have HCpq := Lib.hid (fun W => aCovers a a' b b' W F.ha F.ha' F.hb F.hb')
  simp only [r_cpq] at HCpq
  have HCqp := Lib.hid (fun W => aCovers a' a b' b W F.ha' F.ha F.hb' F.hb)
  simp only [r_cqp] at HCqp
  have HHp := Lib.hid (fun W => aHas a x b W F.ha F.hx F.hb)
  simp only [r_hp] at HHp
  have HHl := Lib.hid (fun W => aHas a a b W F.ha F.ha F.hb)
  simp only [r_ll] at HHl
  have HHh := Lib.hid (fun W => aHas a (hiA a b) b W F.ha (hi_lt F.ha r_rp) F.hb)
  simp only [r_lh] at HHh
  have HQl := Lib.hid (fun W => aHas a' a b' W F.ha' F.ha F.hb')
  simp only [r_ql] at HQl
  have HQh := Lib.hid (fun W => aHas a' (hiA a b) b' W F.ha' (hi_lt F.ha r_rp) F.hb')
  simp only [r_qh] at HQh
  have HM := Lib.hid (fun W => aMask b W F.hb)
  have hor := or_high F.ha r_rp
  obtain ⟨hi, hhi⟩ : ∃ h, hiA a b = h := ⟨_, rfl⟩
  have hml := mask_lt (clampN b)
  obtain ⟨m, hm⟩ : ∃ m, maskN (clampN b) = m := ⟨_, rfl⟩
  simp only [hm] at HM hor hml
  simp only [hhi] at hor HHh HQh
  have HOR := Lib.hid hor
  have HL := Lib.hid (fun W (hW : MX W) => lives W hW)
  have HX := Lib.hid hx
  obtain ⟨wx, hwx⟩ : ∃ wx, wx = (w.alloc (.cells #[.int .u32 a, .int .i64 b] 30)).alloc (.cells #[.int .u32 a', .int .i64 b'] 30) := ⟨_, rfl⟩
  have hk0 : Kp none' w wx := by rw [hwx]; exact ((Kp.refl _ _).alloc _).alloc _
  have hbx : Blk wx w.heap.size [.int .u32 a, .int .i64 b] 30 := by rw [hwx]; exact (Blk.new _ _ _).alloc _
  have hby : Blk wx (w.heap.size + 1) [.int .u32 a', .int .i64 b'] 30 := by
    rw [hwx]
    have := Blk.new (w.alloc (.cells #[.int .u32 a, .int .i64 b] 30)) [.int .u32 a', .int .i64 b'] 30
    simpa using this
  have K := Lib.hid hk0; have HWX := Lib.hid hwx
  have d0 := hbx.cell 0 rfl; have d1 := hbx.cell 1 rfl; have d2 := hby.cell 0 rfl; have d3 := hby.cell 1 rfl
  clear hx hk0 hwx hbx hby F r_rp r_rq r_cpq r_cqp r_hp r_ll r_lh r_ql r_qh hor hm hhi hml
  go_enter Tryd.func5, Tryd.ntmps5
  go_upto_region 1 with (fail)
  rw [← HWX.out]
  go_wp2_with fail
  refine (HRp.out _).mono ?_
  rintro e w1 ⟨rfl, k⟩
  replace d0 := k.cell d0 id; replace d1 := k.cell d1 id; replace d2 := k.cell d2 id; replace d3 := k.cell d3 id
  replace K := Lib.hid (K.out.trans k); clear k
  go_wp2_with fail
  refine (HRq.out _).mono ?_
  rintro e w1 ⟨rfl, k⟩
  replace d0 := k.cell d0 id; replace d1 := k.cell d1 id; replace d2 := k.cell d2 id; replace d3 := k.cell d3 id
  replace K := Lib.hid (K.out.trans k); clear k
  go_wp2_with fail
  refine (HCpq.out _).mono ?_
  rintro e w1 ⟨rfl, k⟩
  replace d0 := k.cell d0 id; replace d1 := k.cell d1 id; replace d2 := k.cell d2 id; replace d3 := k.cell d3 id
  replace K := Lib.hid (K.out.trans k); clear k
  go_wp2_with fail
  refine (HCqp.out _).mono ?_
  rintro e w1 ⟨rfl, k⟩
  replace d0 := k.cell d0 id; replace d1 := k.cell d1 id; replace d2 := k.cell d2 id; replace d3 := k.cell d3 id
  replace K := Lib.hid (K.out.trans k); clear k
  go_wp2_with fail
  refine (HHp.out _).mono ?_
  rintro e w1 ⟨rfl, k⟩
  replace d0 := k.cell d0 id; replace d1 := k.cell d1 id; replace d2 := k.cell d2 id; replace d3 := k.cell d3 id
  replace K := Lib.hid (K.out.trans k); clear k
  go_wp2_with fail
  refine (HCpq.out _).mono ?_
  rintro e w1 ⟨rfl, k⟩
  replace d0 := k.cell d0 id; replace d1 := k.cell d1 id; replace d2 := k.cell d2 id; replace d3 := k.cell d3 id
  replace K := Lib.hid (K.out.trans k); clear k
  go_wp2_with fail
  go_quiet ((go_at_call 18; exact quiet0 (HM.out _)))
  go_wp2_with fail
  rw [HOR.out]
  refine (HHl.out _).mono ?_
  rintro e w1 ⟨rfl, k⟩
  replace d0 := k.cell d0 id; replace d1 := k.cell d1 id; replace d2 := k.cell d2 id; replace d3 := k.cell d3 id
  replace K := Lib.hid ((K.out.drewN _).trans k); clear k
  go_wp2_with fail
  refine (HHh.out _).mono ?_
  rintro e w1 ⟨rfl, k⟩
  replace d0 := k.cell d0 id; replace d1 := k.cell d1 id; replace d2 := k.cell d2 id; replace d3 := k.cell d3 id
  replace K := Lib.hid (K.out.trans k); clear k
  go_wp2_with fail
  refine (HQl.out _).mono ?_
  rintro e w1 ⟨rfl, k⟩
  replace d0 := k.cell d0 id; replace d1 := k.cell d1 id; replace d2 := k.cell d2 id; replace d3 := k.cell d3 id
  replace K := Lib.hid (K.out.trans k); clear k
  go_wp2_with fail
  refine (HQh.out _).mono ?_
  rintro e w1 ⟨rfl, k⟩
  replace d0 := k.cell d0 id; replace d1 := k.cell d1 id; replace d2 := k.cell d2 id; replace d3 := k.cell d3 id
  replace K := Lib.hid (K.out.trans k); clear k
  go_wp2_with fail
  refine (HL.out _ (HX.out.kp K.out)).mono ?_
  rintro e w1 ⟨rfl, k⟩
  replace K := Lib.hid (K.out.trans k); clear k
  go_wp2_with fail
  go_ret
  exact ⟨rfl, K.out⟩
theorem apartAll (a a' x : Nat) (b b' : Int) (w : World) (F : Facts a b a' b' x) (hx : MX w) :
    Calls Tryd.prog 5 #[.agg #[.int .u32 a, .int .i64 b], .agg #[.int .u32 a', .int .i64 b'], .int .u32 x] w fun e w' => e = .returned (.bool true) ∧ Kp none' w w' := by
  rcases ways (rightB a b) (rightB a' b') (covB a b a' b') (covB a' b' a b) (hasB a b x) (hasB a' b' x) (hasB a b a) (hasB a b (hiA a b)) (hasB a' b' a) (hasB a' b' (hiA a b)) cov_right (fun h => (cov_right h).symm) one_of' has_of (fun h => ⟨has_low h, has_high h⟩) one_of' one_of' with
    ⟨r0, r1, r2⟩ | ⟨r0, r1, r2, r3⟩ | ⟨r0, r1, r2, r3, r4, r5, r6⟩ | ⟨r0, r1, r2, r3, r4, r5, r6⟩ | ⟨r0, r1, r2, r3, r4, r5, r6⟩ | ⟨r0, r1, r2, r3, r4, r5, r6, r7⟩ | ⟨r0, r1, r2, r3, r4, r5, r6, r7⟩ | ⟨r0, r1, r2, r3, r4, r5, r6⟩ | ⟨r0, r1, r2, r3, r4, r5, r6, r7, r8, r9⟩ | ⟨r0, r1, r2, r3, r4, r5, r6, r7, r8⟩
  · exact apartA a a' x b b' w F hx r0 r1 r2
  · exact apartB a a' x b b' w F hx r0 r1 r2 r3
  · exact apartC1tt a a' x b b' w F hx r0 r1 r2 r3 r4 r5 r6
  · exact apartC1tf a a' x b b' w F hx r0 r1 r2 r3 r4 r5 r6
  · exact apartC1f a a' x b b' w F hx r0 r1 r2 r3 r4 r5 r6
  · exact apartC2tt a a' x b b' w F hx r0 r1 r2 r3 r4 r5 r6 r7
  · exact apartC2tf a a' x b b' w F hx r0 r1 r2 r3 r4 r5 r6 r7
  · exact apartC2f a a' x b b' w F hx r0 r1 r2 r3 r4 r5 r6
  · exact apartC3tf a a' x b b' w F hx r0 r1 r2 r3 r4 r5 r6 r7 r8 r9
  · exact apartC3f a a' x b b' w F hx r0 r1 r2 r3 r4 r5 r6 r7 r8
end Go.Proofs.YtgkncanfmojdbaaDoor
