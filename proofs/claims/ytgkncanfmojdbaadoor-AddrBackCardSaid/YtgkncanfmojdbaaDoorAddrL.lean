/- Layer 31: the examples. -/
import Derived.Test.YtgkncanfmojdbaaDoorAddrT
import Derived.Test.YtgkncanfmojdbaaDoorAddrX
import Derived.Test.YtgkncanfmojdbaaDoorAddrPut
namespace Go.Proofs.YtgkncanfmojdbaaDoor
set_option linter.unusedVariables false
set_option linter.unusedSimpArgs false
open Go.RowKit Go.Shelf
set_option maxHeartbeats 1000000 in
theorem lives (w : World) (hx : MX w) : Calls Tryd.prog 7 #[] w fun e w' => e = .returned (.bool true) ∧ Kp none' w w' := by
  have h1 : readP (bl ⟨#[49, 48, 46, 49, 46, 48, 46, 48, 47, 49, 54]⟩) = ((167837696, 16), 0) := by kernel_rfl
  have h2 : readP (bl ⟨#[49, 48, 46, 49, 46, 50, 46, 48, 47, 49, 54]⟩) = ((0, 0), 6) := by kernel_rfl
  have h3 : readA (bl ⟨#[49, 48, 46, 49, 46, 50]⟩) = (0, 3) := by kernel_rfl
  have H1 := fun W (hW : MX W) => aReadP ⟨#[49, 48, 46, 49, 46, 48, 46, 48, 47, 49, 54]⟩ W (by decide) hW
  have H2 := fun W (hW : MX W) => aReadP ⟨#[49, 48, 46, 49, 46, 50, 46, 48, 47, 49, 54]⟩ W (by decide) hW
  have H3 := fun W (hW : MX W) => aRead ⟨#[49, 48, 46, 49, 46, 50]⟩ W (by decide) hW
  simp only [h1] at H1
  simp only [h2] at H2
  simp only [h3] at H3
  have h4 : hasB 167837696 (16 : Int) 167838211 = true := by decide
  have H4 := fun W => aHas 167837696 167838211 16 W (by decide) (by decide) (by decide)
  simp only [h4] at H4
  have H5 := fun W => aPut 167772161 (by decide) W
  have h5 : putA 167772161 = bl ⟨#[49, 48, 46, 48, 46, 48, 46, 49]⟩ := by kernel_rfl
  simp only [h5] at H5
  have G1 := Lib.hid H1; have G2 := Lib.hid H2; have G3 := Lib.hid H3; have G4 := Lib.hid H4; have G5 := Lib.hid H5
  have HX := Lib.hid hx
  clear h1 h2 h3 h4 h5 H1 H2 H3 H4 H5 hx
  go_enter Tryd.func7, Tryd.ntmps7
  go_wp2_with fail
  refine (G1.out _ HX.out).mono ?_
  rintro e w1 ⟨rfl, k1⟩
  have X1 := Lib.hid (HX.out.kp k1); have K1 := Lib.hid k1; clear k1
  have HB1 := Lib.hid (Blk.new w1 [.int .u32 167837696, .int .i64 16] 30)
  have KA := Lib.hid ((Kp.refl none' w1).alloc (.cells #[.int .u32 167837696, .int .i64 16] 30))
  go_wp2_with fail
  refine (G2.out _ (X1.out.kp KA.out)).mono ?_
  rintro e w2 ⟨rfl, k2⟩
  have X2 := Lib.hid ((X1.out.kp KA.out).kp k2); have K2 := Lib.hid ((K1.out.trans KA.out).trans k2)
  have HB2 := Lib.hid (HB1.out.kp k2 id); clear k2
  have KB := Lib.hid ((Kp.refl none' w2).alloc (.cells #[.int .u32 0, .int .i64 0] 30))
  go_wp2_with fail
  refine (G3.out _ (X2.out.kp KB.out)).mono ?_
  rintro e w3 ⟨rfl, k3⟩
  have K3 := Lib.hid ((K2.out.trans KB.out).trans k3)
  have hB3 := (HB2.out.kp KB.out id).kp k3 id; clear k3
  have d0 := hB3.cell 0 rfl; have d1 := hB3.cell 1 rfl
  clear hB3
  go_wp2_with fail
  refine (G4.out _).mono ?_
  rintro e w4 ⟨rfl, k4⟩
  have K4 := Lib.hid (K3.out.trans k4); clear k4
  go_wp2_with fail
  refine (G5.out _).mono ?_
  rintro e w5 ⟨s, rfl, hs, k5⟩
  obtain rfl := str_ext hs
  have K5 := Lib.hid (K4.out.trans k5); clear k5
  go_wp2_with fail
  go_ret
  exact ⟨rfl, K5.out⟩
end Go.Proofs.YtgkncanfmojdbaaDoor
