/- The walk of layer 31's law AddrReads. -/
import Derived.Test.YtgkncanfmojdbaaDoorAddrK
import Derived.Test.YtgkncanfmojdbaaDoorAddrL
namespace Go.Proofs.YtgkncanfmojdbaaDoor
set_option linter.unusedVariables false
set_option linter.unusedSimpArgs false
open Go.RowKit Go.Shelf
set_option maxHeartbeats 2000000 in
theorem readsLaw (s : ByteArray) (w : World) (hx : MX w) : Calls Tryd.prog 3 #[.string s] w fun e w' => e = .returned (.bool true) ∧ Kp none' w w' := by
  have HL := Lib.hid (fun W (hW : MX W) => lives W hW)
  have HX := Lib.hid hx
  clear hx
  by_cases h300 : 300 < s.size
  · have hlt : (300 : Int) < (s.size : Int) := by omega
    go_enter Tryd.func3, Tryd.ntmps3
    go_wp2_with fail
    refine (HL.out _ HX.out).mono ?_
    rintro e w1 ⟨rfl, k⟩
    have K := Lib.hid k; clear k
    go_wp2_with fail
    go_ret
    exact ⟨rfl, K.out⟩
  · have hle : ¬ (300 : Int) < (s.size : Int) := by omega
    have H1 := Lib.hid (fun W (hW : MX W) => aRead s W (by omega) hW)
    have H2 := Lib.hid (fun W => rReadA s W (by omega))
    have H3 := Lib.hid (fun W (hW : MX W) => aReadP s W (by omega) hW)
    have H4 := Lib.hid (fun W => rReadP s W (by omega))
    obtain ⟨⟨a, e1⟩, h1⟩ : ∃ p, readA (bl s) = p := ⟨_, rfl⟩
    obtain ⟨⟨⟨b, m⟩, e2⟩, h2⟩ : ∃ p, readP (bl s) = p := ⟨_, rfl⟩
    simp only [h1] at H1 H2
    simp only [h2] at H3 H4
    clear h1 h2 h300
    go_enter Tryd.func3, Tryd.ntmps3
    go_wp2_with fail
    refine (H1.out _ HX.out).mono ?_
    rintro e w1 ⟨rfl, k⟩
    have K1 := Lib.hid k; clear k
    go_wp2_with fail
    refine (H2.out _).mono ?_
    rintro e w2 ⟨rfl, k⟩
    have K2 := Lib.hid (K1.out.trans k); clear k
    go_wp2_with fail
    refine (H3.out _ (HX.out.kp K2.out)).mono ?_
    rintro e w3 ⟨rfl, k⟩
    have K3 := Lib.hid (K2.out.trans k); clear k
    have KA := Lib.hid ((Kp.refl none' w3).alloc (.cells #[.int .u32 b, .int .i64 m] 30))
    have HB3 := Lib.hid (Blk.new w3 [.int .u32 b, .int .i64 m] 30)
    go_wp2_with fail
    refine (H4.out _).mono ?_
    rintro e w4 ⟨rfl, k⟩
    have HB4 := Lib.hid (HB3.out.kp k id)
    have K4 := Lib.hid ((K3.out.trans KA.out).trans k); clear k
    have hB5 := HB4.out.alloc (.cells #[.int .u32 b, .int .i64 m] 30)
    have d0 := hB5.cell 0 rfl; have d1 := hB5.cell 1 rfl
    have c0 := HB4.out.cell 0 rfl; have c1 := HB4.out.cell 1 rfl
    have K5 := Lib.hid (K4.out.alloc (.cells #[.int .u32 b, .int .i64 m] 30))
    clear hB5
    go_wp2_with fail
    refine (HL.out _ (HX.out.kp K5.out)).mono ?_
    rintro e w6 ⟨rfl, k⟩
    have K6 := Lib.hid (K5.out.trans k); clear k
    go_wp2_with fail
    go_ret
    exact ⟨rfl, K6.out⟩
end Go.Proofs.YtgkncanfmojdbaaDoor
