/- The walk of layer 31's law AddrHas. Printed by wip/hasw.py. -/
import Derived.Test.YtgkncanfmojdbaaDoorAddrL
import Derived.Test.YtgkncanfmojdbaaDoorAddrZ
import Derived.Test.YtgkncanfmojdbaaDoorAddrA
namespace Go.Proofs.YtgkncanfmojdbaaDoor
set_option linter.unusedVariables false
set_option linter.unusedSimpArgs false
open Go.RowKit Go.Shelf

set_option maxHeartbeats 4000000 in
theorem hasLaw (a a' x : Nat) (b b' : Int) (w : World) (F : Facts a b a' b' x) (hx : MX w) :
    Calls Tryd.prog 4 #[.agg #[.int .u32 a, .int .i64 b], .agg #[.int .u32 a', .int .i64 b'], .int .u32 x] w fun e w' => e = .returned (.bool true) ∧ Kp none' w w' := by
  have HR1 := Lib.hid (fun W => aRight a b W F.ha F.hb)
  have HR2 := Lib.hid (fun W => rRight a b W F.ha F.hb)
  have HH1 := Lib.hid (fun W => aHas a x b W F.ha F.hx F.hb)
  have HH2 := Lib.hid (fun W => rHas a x b W F.ha F.hx F.hb)
  have HC1 := Lib.hid (fun W => aCovers a a' b b' W F.ha F.ha' F.hb F.hb')
  have HC2 := Lib.hid (fun W => rCovers a a' b b' W F.ha F.ha' F.hb F.hb')
  have hM1 := fun W => aMask b W F.hb
  have hM2 : ∀ W, Calls Tryd.prog 19 #[.int .i64 (min (max b 0) 32)] W fun e w' => e = .returned (.int .u32 (maskN (clampN b))) ∧ W = w' := fun W => by
      have h := rMask (clampN b) W (clamp_le b)
      rwa [show ((clampN b : Nat) : Int) = min (max b 0) 32 by unfold clampN; omega] at h
  generalize maskN (clampN b) = mm at hM1 hM2
  have HM1 := Lib.hid hM1; have HM2 := Lib.hid hM2
  clear hM1 hM2
  generalize rightB a b = rr at HR1 HR2
  generalize hasB a b x = hh at HH1 HH2
  generalize covB a b a' b' = cc at HC1 HC2
  have HL := Lib.hid (fun W (hW : MX W) => lives W hW)
  have HX := Lib.hid hx
  obtain ⟨wx, hwx⟩ : ∃ wx, wx = (w.alloc (.cells #[.int .u32 a, .int .i64 b] 30)).alloc (.cells #[.int .u32 a', .int .i64 b'] 30) := ⟨_, rfl⟩
  have hk0 : Kp none' w wx := by rw [hwx]; exact ((Kp.refl _ _).alloc _).alloc _
  have hbx : Blk wx w.heap.size [.int .u32 a, .int .i64 b] 30 := by rw [hwx]; exact (Blk.new _ _ _).alloc _
  have hby : Blk wx (w.heap.size + 1) [.int .u32 a', .int .i64 b'] 30 := by
      rw [hwx]
      have := Blk.new (w.alloc (.cells #[.int .u32 a, .int .i64 b] 30)) [.int .u32 a', .int .i64 b'] 30
      simpa using this
  have HK0 := Lib.hid hk0; have HWX := Lib.hid hwx
  have d0 := hbx.cell 0 rfl; have d1 := hbx.cell 1 rfl; have d2 := hby.cell 0 rfl; have d3 := hby.cell 1 rfl
  clear hx hk0 hwx hbx hby F
  go_enter Tryd.func4, Tryd.ntmps4
  go_upto_region 1 with (fail)
  rw [← HWX.out]
  go_upto_region 3 with (fail)
  go_region_held3 (fun w' => w'.cell? ⟨w.heap.size, 0, none⟩ = some (.int .u32 a) ∧ w'.cell? ⟨w.heap.size, 1, none⟩ = some (.int .i64 b) ∧ w'.cell? ⟨w.heap.size + 1, 0, none⟩ = some (.int .u32 a') ∧ w'.cell? ⟨w.heap.size + 1, 1, none⟩ = some (.int .i64 b')) (go_keep)
    (first
      | (go_at_call 12; refine (HR1.out _).mono ?_; rintro e w1 ⟨rfl, k⟩; have K1 := Lib.hid ((Kp.refl none' wx).drew.trans k); clear k; have e01 := K1.out.cell (a := ⟨w.heap.size, 0, none⟩) d0 id; have e11 := K1.out.cell (a := ⟨w.heap.size, 1, none⟩) d1 id; have e21 := K1.out.cell (a := ⟨w.heap.size + 1, 0, none⟩) d2 id; have e31 := K1.out.cell (a := ⟨w.heap.size + 1, 1, none⟩) d3 id)
      | (go_at_call 13; refine (HR2.out _).mono ?_; rintro e w2 ⟨rfl, k⟩; have K2 := Lib.hid (K1.out.trans k); clear k; have e02 := K2.out.cell (a := ⟨w.heap.size, 0, none⟩) d0 id; have e12 := K2.out.cell (a := ⟨w.heap.size, 1, none⟩) d1 id; have e22 := K2.out.cell (a := ⟨w.heap.size + 1, 0, none⟩) d2 id; have e32 := K2.out.cell (a := ⟨w.heap.size + 1, 1, none⟩) d3 id)
      | (go_at_call 14; refine (HH1.out _).mono ?_; rintro e w3 ⟨rfl, k⟩; have K3 := Lib.hid (K2.out.trans k); clear k; have e03 := K3.out.cell (a := ⟨w.heap.size, 0, none⟩) d0 id; have e13 := K3.out.cell (a := ⟨w.heap.size, 1, none⟩) d1 id; have e23 := K3.out.cell (a := ⟨w.heap.size + 1, 0, none⟩) d2 id; have e33 := K3.out.cell (a := ⟨w.heap.size + 1, 1, none⟩) d3 id)
      | (go_at_call 15; refine (HH2.out _).mono ?_; rintro e w4 ⟨rfl, k⟩; have K4 := Lib.hid (K3.out.trans k); clear k; have e04 := K4.out.cell (a := ⟨w.heap.size, 0, none⟩) d0 id; have e14 := K4.out.cell (a := ⟨w.heap.size, 1, none⟩) d1 id; have e24 := K4.out.cell (a := ⟨w.heap.size + 1, 0, none⟩) d2 id; have e34 := K4.out.cell (a := ⟨w.heap.size + 1, 1, none⟩) d3 id)
      | (go_at_call 16; refine (HC1.out _).mono ?_; rintro e w5 ⟨rfl, k⟩; have K5 := Lib.hid (K4.out.trans k); clear k; have e05 := K5.out.cell (a := ⟨w.heap.size, 0, none⟩) d0 id; have e15 := K5.out.cell (a := ⟨w.heap.size, 1, none⟩) d1 id; have e25 := K5.out.cell (a := ⟨w.heap.size + 1, 0, none⟩) d2 id; have e35 := K5.out.cell (a := ⟨w.heap.size + 1, 1, none⟩) d3 id)
      | (go_at_call 17; refine (HC2.out _).mono ?_; rintro e w6 ⟨rfl, k⟩; have K6 := Lib.hid (K5.out.trans k); clear k; have e06 := K6.out.cell (a := ⟨w.heap.size, 0, none⟩) d0 id; have e16 := K6.out.cell (a := ⟨w.heap.size, 1, none⟩) d1 id; have e26 := K6.out.cell (a := ⟨w.heap.size + 1, 0, none⟩) d2 id; have e36 := K6.out.cell (a := ⟨w.heap.size + 1, 1, none⟩) d3 id)
      | (go_at_call 18; refine (HM1.out _).mono ?_; rintro e w7 ⟨rfl, rfl⟩)
      | (go_at_call 19; refine (HM2.out _).mono ?_; rintro e w8 ⟨rfl, rfl⟩)
      | (go_at_call 7; refine (HL.out _ (HX.out.kp (HK0.out.trans K6.out))).mono ?_; rintro e w9 ⟨rfl, k⟩; have K9 := Lib.hid (K6.out.trans k); clear k; have e09 := K9.out.cell (a := ⟨w.heap.size, 0, none⟩) d0 id; have e19 := K9.out.cell (a := ⟨w.heap.size, 1, none⟩) d1 id; have e29 := K9.out.cell (a := ⟨w.heap.size + 1, 0, none⟩) d2 id; have e39 := K9.out.cell (a := ⟨w.heap.size + 1, 1, none⟩) d3 id))
  go_wp2
  go_ret
  exact ⟨rfl, HK0.out.trans K9.out⟩
end Go.Proofs.YtgkncanfmojdbaaDoor
