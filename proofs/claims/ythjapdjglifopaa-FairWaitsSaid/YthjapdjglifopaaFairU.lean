/- Walks of layer 27, the document's: both wait. -/
import Derived.Test.YthjapdjglifopaaFairT
namespace Go.Proofs.Ythjapdjglifopaa
set_option linter.unusedVariables false
set_option linter.unusedSimpArgs false
open Go.RowKit Go.Shelf

theorem bits_out (fl : List FlR) (l : List RpR) (f g : Int) (h : outB fl f g = true) (at0 : Int) : bitI (bitsF fl l f g) at0 = false := by
  by_cases h1 : at0 < 0
  · exact bitI_neg _ _ h1
  · by_cases h2 : (l.length : Int) ≤ at0
    · exact bitI_ge _ _ (by rw [bitsF_len]; exact h2)
    · obtain ⟨n, rfl⟩ : ∃ n : Nat, at0 = n := ⟨at0.toNat, by omega⟩
      rw [bitI_at fl l f g n (by omega)]; unfold bothB; rw [h]; rfl
set_option maxRecDepth 100000 in
set_option maxHeartbeats 4000000 in
theorem rBoth (fl : List FlR) (l : List RpR) (hq : ∀ q ∈ l, q.ok) (hfn : fl.length ≤ 1000) (hln : l.length ≤ 1000) (f g at0 : Int) (u v : Value) (w : World) (h1 : Sl w u fl.length 5 (fl.flatMap enFl)) (h2 : Sl w v l.length 42 (l.flatMap enQ)) :
    Calls Try.prog 40 #[u, v, .int .i64 f, .int .i64 g, .int .i64 at0] w fun e w' => e = .returned (.bool (bitI (bitsF fl l f g) at0)) ∧ Kp none' w w' := by
  obtain ⟨ao, acap, rfl⟩ : ∃ ao cap, u = .slice ao fl.length cap := by obtain ⟨ao, cap, rfl, _⟩ := h1.is; exact ⟨_, _, rfl⟩
  obtain ⟨bo, bcap, rfl⟩ : ∃ ao cap, v = .slice ao l.length cap := by obtain ⟨ao, cap, rfl, _⟩ := h2.is; exact ⟨_, _, rfl⟩
  have HX := Lib.hid h1; have HQ := Lib.hid h2
  have HO := Lib.hid (fun h => bits_out fl l f g h at0)
  have HN := Lib.hid (fun h => bitI_neg (bitsF fl l f g) at0 h)
  have HG := Lib.hid (fun h => bitI_ge (bitsF fl l f g) at0 h)
  have HL := Lib.hid (bitsF_len fl l f g)
  clear h1 h2
  by_cases a1 : f < 0
  · have HF : Hid (bitI (bitsF fl l f g) at0 = false) := HO.out (by simp [outB, a1])
    go_enter Try.func40, Try.ntmps40
    go_wp2
    go_ret
    exact ⟨by rw [HF.out]; rfl, Kp.refl _ _⟩
  by_cases a2 : g < 0
  · have HF : Hid (bitI (bitsF fl l f g) at0 = false) := HO.out (by simp [outB, a2])
    go_enter Try.func40, Try.ntmps40
    go_wp2
    go_ret
    exact ⟨by rw [HF.out]; rfl, Kp.refl _ _⟩
  by_cases a3 : (fl.length : Int) ≤ f
  · have HF : Hid (bitI (bitsF fl l f g) at0 = false) := HO.out (by simp [outB, a3])
    go_enter Try.func40, Try.ntmps40
    go_wp2
    go_ret
    exact ⟨by rw [HF.out]; rfl, Kp.refl _ _⟩
  by_cases a4 : (fl.length : Int) ≤ g
  · have HF : Hid (bitI (bitsF fl l f g) at0 = false) := HO.out (by simp [outB, a4])
    go_enter Try.func40, Try.ntmps40
    go_wp2
    go_ret
    exact ⟨by rw [HF.out]; rfl, Kp.refl _ _⟩
  by_cases a5 : f = g
  · have HF : Hid (bitI (bitsF fl l f g) at0 = false) := HO.out (by simp [outB, a5])
    have b5 : (f == g) = true := by simpa using a5
    clear a5
    go_enter Try.func40, Try.ntmps40
    go_wp2
    go_ret
    exact ⟨by rw [HF.out]; rfl, Kp.refl _ _⟩
  have b5 : (f == g) = false := by simpa using a5
  by_cases a6 : at0 < 0
  · have HF : Hid (bitI (bitsF fl l f g) at0 = false) := HN.out a6
    clear a5
    go_enter Try.func40, Try.ntmps40
    go_wp2
    go_ret
    exact ⟨by rw [HF.out]; rfl, Kp.refl _ _⟩
  by_cases a7 : (l.length : Int) ≤ at0
  · have HF : Hid (bitI (bitsF fl l f g) at0 = false) := HG.out (by rw [HL.out]; exact a7)
    clear a5
    go_enter Try.func40, Try.ntmps40
    go_wp2
    go_ret
    exact ⟨by rw [HF.out]; rfl, Kp.refl _ _⟩
  obtain ⟨n, rfl⟩ : ∃ n : Nat, at0 = n := ⟨at0.toNat, by omega⟩
  have hn : n < l.length := by omega
  have HB : Hid (bitI (bitsF fl l f g) n = (waitsB fl l f n && waitsB fl l g n)) := by
    show _ = _
    rw [bitI_at fl l f g n hn]; unfold bothB outB
    rw [decide_eq_false a1, decide_eq_false a2, decide_eq_false a3, decide_eq_false a4, decide_eq_false a5]; rfl
  have HA := Lib.hid (fun W h h' => rWaits fl l hq hfn hln f n hn (.slice ao fl.length acap) (.slice bo l.length bcap) W h h')
  have HC := Lib.hid (fun W h h' => rWaits fl l hq hfn hln g n hn (.slice ao fl.length acap) (.slice bo l.length bcap) W h h')
  clear a5 HO HN HG HL
  cases hw : waitsB fl l f n with
  | false =>
    rw [hw] at HA HB
    clear hw
    go_enter Try.func40, Try.ntmps40
    go_wp2_with fail
    refine (HA.out _ HX.out HQ.out).mono ?_
    rintro e w1 ⟨rfl, k1⟩
    have HK1 := Lib.hid k1
    clear k1
    go_wp2_with fail
    go_ret
    exact ⟨by rw [HB.out]; rfl, HK1.out⟩
  | true =>
    rw [hw] at HA HB
    clear hw
    go_enter Try.func40, Try.ntmps40
    go_wp2_with fail
    refine (HA.out _ HX.out HQ.out).mono ?_
    rintro e w1 ⟨rfl, k1⟩
    have HK1 := Lib.hid k1
    clear k1
    go_wp2_with fail
    refine (HC.out _ (HX.out.old HK1.out) (HQ.out.old HK1.out)).mono ?_
    rintro e w2 ⟨rfl, k2⟩
    have HK2 := Lib.hid (HK1.out.trans k2)
    clear k2
    go_wp2_with fail
    go_ret
    exact ⟨by rw [HB.out]; rfl, HK2.out⟩
end Go.Proofs.Ythjapdjglifopaa
