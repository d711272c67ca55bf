/- The walk of TraceOf. -/
import Derived.Test.YthjapdjglifopaaTrOfR
import Derived.Test.YthjapdjglifopaaTrQ
import Derived.Test.YthjapdjglifopaaRefTr
namespace Go.Proofs.Ythjapdjglifopaa
set_option linter.unusedVariables false
set_option linter.unusedSimpArgs false
open Go.RowKit Go.Shelf
set_option maxHeartbeats 4000000 in
theorem ofLaw (x : List OpR) (l : List RpR) (m : List Rec) (hx : ∀ o ∈ x, o.ok) (hl : ∀ q ∈ l, q.ok) (hm : ∀ r ∈ m, r.goes) (u v z : Value) (w : World) (h1 : Sl w u x.length 5 (x.flatMap enO)) (h2 : Sl w v l.length 42 (l.flatMap enQ)) (h3 : Sl w z m.length 6 (m.flatMap enR)) :
    Calls Try.prog 8 #[u, v, z] w fun e w' => e = .returned (.bool true) ∧ Kp none' w w' := by
  have m1 := h1.max; have m2 := h2.max; have m3 := h3.max
  obtain ⟨ao, acap, rfl⟩ : ∃ ao cap, u = .slice ao x.length cap := by obtain ⟨ao, cap, rfl, _⟩ := h1.is; exact ⟨_, _, rfl⟩
  obtain ⟨bo, bcap, rfl⟩ : ∃ ao cap, v = .slice ao l.length cap := by obtain ⟨ao, cap, rfl, _⟩ := h2.is; exact ⟨_, _, rfl⟩
  obtain ⟨co, ccap, rfl⟩ : ∃ ao cap, z = .slice ao m.length cap := by obtain ⟨ao, cap, rfl, _⟩ := h3.is; exact ⟨_, _, rfl⟩
  have HX := Lib.hid h1; have HQ := Lib.hid h2; have HM := Lib.hid h3
  have GL := Lib.hid lives
  clear h1 h2 h3
  have hlive : ∀ (Q : Prop), Q → Q := fun _ h => h
  by_cases c1 : x.length ≤ 100
  · by_cases c2 : l.length ≤ 100
    · by_cases c3 : m.length ≤ 100
      · have e1 : decide (100 < (x.length : Int)) = false := by rw [decide_eq_false_iff_not]; omega
        have e1' : decide (100 < x.length) = false := by rw [decide_eq_false_iff_not]; omega
        have e2 : decide (100 < (l.length : Int)) = false := by rw [decide_eq_false_iff_not]; omega
        have e2' : decide (100 < l.length) = false := by rw [decide_eq_false_iff_not]; omega
        have e3 : decide (100 < (m.length : Int)) = false := by rw [decide_eq_false_iff_not]; omega
        have e3' : decide (100 < m.length) = false := by rw [decide_eq_false_iff_not]; omega
        have GA := Lib.hid (fun W hW => tLeft m hm (by omega) (.slice co m.length ccap) W hW)
        have GB := Lib.hid (fun W hW => rtLeft m hm (by omega) (.slice co m.length ccap) W hW)
        have GC := Lib.hid (fun W hX hQ => tOf x l hx hl (by omega) (by omega) (.slice ao x.length acap) (.slice bo l.length bcap) W hX hQ)
        have GD := Lib.hid (fun W hX hQ => rtOf x l hx hl (by omega) (by omega) (.slice ao x.length acap) (.slice bo l.length bcap) W hX hQ)
        have hofl := ofF_len x l (min x.length l.length)
        generalize ofF x l (min x.length l.length) = rs at *
        generalize hN : min x.length l.length = N at *
        have hN2 : N ≤ 100 := by omega
        have HN := Lib.hid hofl
        clear hofl hN hlive
        go_enter Try.func8, Try.ntmps8
        go_wp2_with fail
        refine (GA.out _ HM.out).mono ?_
        rintro e w1 ⟨rfl, k1⟩
        have K1 := Lib.hid k1; clear k1
        go_wp2_with fail
        refine (GB.out _ (HM.out.old K1.out)).mono ?_
        rintro e w2 ⟨rfl, k2⟩
        have K2 := Lib.hid (K1.out.trans k2); clear k2
        go_wp2_with fail
        refine (GC.out _ (HX.out.old K2.out) (HQ.out.old K2.out)).mono ?_
        rintro e w3 ⟨r3, rfl, o3, k3⟩
        have K3 := Lib.hid (K2.out.trans k3); have O3 := Lib.hid o3; clear k3 o3
        go_wp2_with fail
        refine (GD.out _ (HX.out.old K3.out) (HQ.out.old K3.out)).mono ?_
        rintro e w4 ⟨r4, rfl, o4, k4⟩
        have K4 := Lib.hid (K3.out.trans k4)
        have HS := Lib.hid (rtSame rs r3 r4 w4 (by rw [HN.out]; exact own_sl (own_kp (S := none') O3.out k4 (fun _ _ h => h))) (by rw [HN.out]; exact own_sl o4) (by rw [HN.out]; omega))
        clear k4 o4
        go_wp2_with fail
        refine (HS.out).mono ?_
        rintro e w5 ⟨rfl, d5, rfl⟩
        go_wp2_with fail
        refine (GL.out _).mono ?_
        rintro e w6 ⟨rfl, k6⟩
        have K6 := Lib.hid ((K4.out.drewN d5).trans k6); clear k6
        go_wp2_with fail
        go_ret
        exact ⟨rfl, K6.out⟩
      · have e1 : decide (100 < (x.length : Int)) = false := by rw [decide_eq_false_iff_not]; omega
        have e1' : decide (100 < x.length) = false := by rw [decide_eq_false_iff_not]; omega
        have e2 : decide (100 < (l.length : Int)) = false := by rw [decide_eq_false_iff_not]; omega
        have e2' : decide (100 < l.length) = false := by rw [decide_eq_false_iff_not]; omega
        have e3 : decide (100 < (m.length : Int)) = true := by rw [decide_eq_true_iff]; omega
        have e3' : decide (100 < m.length) = true := by rw [decide_eq_true_iff]; omega
        go_enter Try.func8, Try.ntmps8
        go_wp2_with fail
        refine (GL.out _).mono ?_
        rintro e w6 ⟨rfl, k6⟩
        go_wp2_with fail
        go_ret
        exact ⟨rfl, k6⟩
    · have e1 : decide (100 < (x.length : Int)) = false := by rw [decide_eq_false_iff_not]; omega
      have e1' : decide (100 < x.length) = false := by rw [decide_eq_false_iff_not]; omega
      have e2 : decide (100 < (l.length : Int)) = true := by rw [decide_eq_true_iff]; omega
      have e2' : decide (100 < l.length) = true := by rw [decide_eq_true_iff]; omega
      go_enter Try.func8, Try.ntmps8
      go_wp2_with fail
      refine (GL.out _).mono ?_
      rintro e w6 ⟨rfl, k6⟩
      go_wp2_with fail
      go_ret
      exact ⟨rfl, k6⟩
  · have e1 : decide (100 < (x.length : Int)) = true := by rw [decide_eq_true_iff]; omega
    have e1' : decide (100 < x.length) = true := by rw [decide_eq_true_iff]; omega
    go_enter Try.func8, Try.ntmps8
    go_wp2_with fail
    refine (GL.out _).mono ?_
    rintro e w6 ⟨rfl, k6⟩
    go_wp2_with fail
    go_ret
    exact ⟨rfl, k6⟩
end Go.Proofs.Ythjapdjglifopaa
