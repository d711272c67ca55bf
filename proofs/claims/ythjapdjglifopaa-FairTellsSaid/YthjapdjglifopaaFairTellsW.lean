/- The walk of FairTells. -/
import Derived.Test.YthjapdjglifopaaFairL
import Derived.Test.YthjapdjglifopaaFairS
import Derived.Test.YthjapdjglifopaaArrEq
namespace Go.Proofs.Ythjapdjglifopaa
set_option linter.unusedVariables false
set_option linter.unusedSimpArgs false
open Go.RowKit Go.Shelf

set_option maxRecDepth 100000 in
set_option maxHeartbeats 8000000 in
theorem tellsLaw (fl : List FlR) (l : List RpR) (hfl : ∀ x ∈ fl, x.ok) (hq : ∀ q ∈ l, q.ok) (f g : Int) (u v : Value) (w : World) (h1 : Sl w u fl.length 5 (fl.flatMap enFl)) (h2 : Sl w v l.length 42 (l.flatMap enQ)) :
    Calls Try.prog 3 #[u, v, .agg #[.int .i64 f, .int .i64 g]] w fun e w' => e = .returned (.bool true) ∧ Kp none' w w' := by
  have m1 := h1.max; have m2 := h2.max
  obtain ⟨ao, acap, rfl⟩ : ∃ ao cap, u = .slice ao fl.length cap := by obtain ⟨ao, cap, rfl, _⟩ := h1.is; exact ⟨_, _, rfl⟩
  obtain ⟨bo, bcap, rfl⟩ : ∃ ao cap, v = .slice ao l.length cap := by obtain ⟨ao, cap, rfl, _⟩ := h2.is; exact ⟨_, _, rfl⟩
  have GL := Lib.hid fairLives
  have HX := Lib.hid h1; have HQ := Lib.hid h2
  have hb := Blk.new w [.int .i64 f, .int .i64 g] 24
  have s0 := hb.cell 0 rfl
  have s1 := hb.cell 1 rfl
  have HK0 := Lib.hid ((Kp.refl none' w).alloc (.cells #[.int .i64 f, .int .i64 g] 24))
  clear h1 h2 hb
  by_cases c1 : fl.length ≤ 20
  · by_cases c2 : l.length ≤ 40
    · have e1 : decide (20 < (fl.length : Int)) = false := by rw [decide_eq_false_iff_not]; omega
      have e1' : decide (20 < fl.length) = false := by rw [decide_eq_false_iff_not]; omega
      have e2 : decide (40 < (l.length : Int)) = false := by rw [decide_eq_false_iff_not]; omega
      have e2' : decide (40 < l.length) = false := by rw [decide_eq_false_iff_not]; omega
      go_enter Try.func3, Try.ntmps3
      go_wp2
      go_region
      have HX1 := Lib.hid (HX.out.old HK0.out.drew); have HQ1 := Lib.hid (HQ.out.old HK0.out.drew); have HK1 := Lib.hid HK0.out.drew
      generalize (w.alloc (.cells #[.int .i64 f, .int .i64 g] 24)).drew = w1 at *
      have G1 := Lib.hid (fun W h h' => fRows fl l hq (by omega) (by omega) (.slice ao fl.length acap) (.slice bo l.length bcap) W h h')
      have G2 := Lib.hid (fun W h h' => rRows fl l hq (by omega) (by omega) (.slice ao fl.length acap) (.slice bo l.length bcap) W h h')
      have G3 := Lib.hid (fun W h h' => fSpans fl l hq (by omega) (by omega) f g (.slice ao fl.length acap) (.slice bo l.length bcap) W h h')
      have G4 := Lib.hid (fun W h h' => rSpans fl l hq (by omega) (by omega) f g (.slice ao fl.length acap) (.slice bo l.length bcap) W h h')
      have G5 := Lib.hid (fun W h h' => fGap fl l hfl hq (by omega) (by omega) f g (.slice ao fl.length acap) (.slice bo l.length bcap) W h h')
      have G6 := Lib.hid (fun W h h' => rGap fl l hfl hq (by omega) (by omega) f g (.slice ao fl.length acap) (.slice bo l.length bcap) W h h')
      have hln := rowsF_len fl l
      have hsl := spans_len fl l f g
      generalize gapF fl l f g (spans fl l f g) = gp at *
      generalize spans fl l f g = sp at *
      generalize rowsF fl l = rw0 at *
      clear s0 s1 HK0 HX HQ
      go_wp2_with fail
      refine (G1.out _ HX1.out HQ1.out).mono ?_
      rintro e w2 ⟨ra, rfl, oa, k2⟩
      have K2 := Lib.hid k2
      obtain ⟨sa, ca, rfl⟩ := own_shape oa
      have OA := Lib.hid oa
      clear oa k2 G1
      go_wp2_with fail
      refine (G2.out _ (HX1.out.old K2.out) (HQ1.out.old K2.out)).mono ?_
      rintro e w3 ⟨rb, rfl, ob, k3⟩
      have K3 := Lib.hid (K2.out.trans k3)
      obtain ⟨sb, cb, rfl⟩ := own_shape ob
      have OB := Lib.hid ob
      have OA3 := Lib.hid (own_kp (S := none') OA.out k3 (fun _ _ h => h))
      clear ob k3 G2 OA
      go_wp2_with fail
      go_loopw [41] (fun i0 wr => ∃ j : Nat, i0 = .int .i64 j ∧ j ≤ fl.length ∧ Hid (Kp none' w3 wr)) (fun i0 _ => fl.length - (intOf i0).toNat)
      case atStart => exact ⟨0, rfl, by omega, Kp.refl _ _⟩
      case round =>
        obtain ⟨j, rfl, hj, hr⟩ := hrel
        by_cases hlt : j < fl.length
        · have hji : (j : Int) < fl.length := by omega
          obtain ⟨ga, ca2, e1, _⟩ := own_shape1 OA3.out (by omega)
          injection e1 with e1 _ e3
          subst e1 e3
          obtain ⟨gb, cb2, e1, _⟩ := own_shape1 OB.out (by omega)
          injection e1 with e1 _ e3
          subst e1 e3
          have ha := own_kp (S := none') OA3.out hr.out (fun _ _ h => h)
          have hb := own_kp (S := none') OB.out hr.out (fun _ _ h => h)
          have hjr : j < rw0.length := by rw [hln]; exact hlt
          have fc := fun k (hk : k < 3) => flat_get enW 3 enW_len rw0 j k hk
          obtain ⟨⟨ri, rl, rb⟩, hrow⟩ : ∃ x, rw0[j] = x := ⟨_, rfl⟩
          rw [List.getElem?_eq_getElem hjr, hrow] at fc
          have a0 := own_cell ha (j * 3 + 0) (fc 0 (by omega))
          have a1 := own_cell ha (j * 3 + 1) (fc 1 (by omega))
          have a2 := own_cell ha (j * 3 + 2) (fc 2 (by omega))
          have b0 := own_cell hb (j * 3 + 0) (fc 0 (by omega))
          have b1 := own_cell hb (j * 3 + 1) (fc 1 (by omega))
          have b2 := own_cell hb (j * 3 + 2) (fc 2 (by omega))
          simp only [Nat.add_zero] at a0 b0
          have HR := Lib.hid hr.out
          clear ha hb fc hrow hr
          go_wp2_with fail
          go_quiet (fail)
          have HD := Lib.hid (HR.out.drewN nq)
          generalize wr.drewN nq = w5 at *
          clear a0 a1 a2 b0 b1 b2
          go_wp2_with fail
          go_roundw
          case rel => exact ⟨j + 1, by go_num, by omega, HD.out⟩
          case measure => simp [intOf]; omega
        · have hje : j = fl.length := by omega
          have K4 := Lib.hid (K3.out.trans hr.out)
          clear hr OA3 OB
          go_wp2_with fail
          refine (G3.out _ (HX1.out.old K4.out) (HQ1.out.old K4.out)).mono ?_
          rintro e w5 ⟨ra5, rfl, oa5, k5⟩
          obtain ⟨sa5, ca5, rfl⟩ := own_shape oa5
          have K5 := Lib.hid (K4.out.trans k5)
          have OA5 := Lib.hid oa5
          clear oa5 k5 G3
          go_wp2_with fail
          refine (G4.out _ (HX1.out.old K5.out) (HQ1.out.old K5.out)).mono ?_
          rintro e w6 ⟨rb5, rfl, ob5, k6⟩
          obtain ⟨sb5, cb5, rfl⟩ := own_shape ob5
          have K6 := Lib.hid (K5.out.trans k6)
          have OB6 := Lib.hid ob5
          have OA6 := Lib.hid (own_kp (S := none') OA5.out k6 (fun _ _ h => h))
          clear ob5 k6 G4 OA5
          go_wp2_with fail
          go_loopw [71] (fun i0 wr => ∃ j : Nat, i0 = .int .i64 j ∧ j ≤ sp.length ∧ Hid (Kp none' w6 wr)) (fun i0 _ => sp.length - (intOf i0).toNat)
          case atStart => exact ⟨0, rfl, by omega, Kp.refl _ _⟩
          case round =>
            obtain ⟨i, rfl, hi, hri⟩ := hrel
            by_cases hli : i < sp.length
            · have hii : (i : Int) < sp.length := by omega
              obtain ⟨ga, ca2, e1, _⟩ := own_shape1 OA6.out (by omega)
              injection e1 with e1 _ e3
              subst e1 e3
              obtain ⟨gb, cb2, e1, _⟩ := own_shape1 OB6.out (by omega)
              injection e1 with e1 _ e3
              subst e1 e3
              have ha := own_kp (S := none') OA6.out hri.out (fun _ _ h => h)
              have hb := own_kp (S := none') OB6.out hri.out (fun _ _ h => h)
              have fc := fun k (hk : k < 2) => flat_get enSp 2 enSp_len sp i k hk
              obtain ⟨⟨x, y⟩, hrow⟩ : ∃ x, sp[i] = x := ⟨_, rfl⟩
              rw [List.getElem?_eq_getElem hli, hrow] at fc
              have a0 := own_cell ha (i * 2 + 0) (fc 0 (by omega))
              have a1 := own_cell ha (i * 2 + 1) (fc 1 (by omega))
              have b0 := own_cell hb (i * 2 + 0) (fc 0 (by omega))
              have b1 := own_cell hb (i * 2 + 1) (fc 1 (by omega))
              simp only [Nat.add_zero] at a0 b0
              have HR := Lib.hid hri.out
              have heq : ∀ W, (Op.equalIn 10000 24 (.agg #[.int .i64 (x : Int), .int .i64 (y : Int)]) (.agg #[.int .i64 (x : Int), .int .i64 (y : Int)])).run Try.prog W = .ok true W := fun W => by
                have := run_equalIn_ints (P := Try.prog) W 9998 24 3 2 .i64 Try.underlying24 Try.underlying3 (fun _ => by kernel_rfl) [(x : Int), y] [(x : Int), y] rfl rfl
                rwa [beq_self_eq_true] at this
              clear ha hb fc hrow hri
              go_wp2_with fail
              go_quiet (fail)
              have HD := Lib.hid (HR.out.drewN nq)
              generalize wr.drewN nq = w5 at *
              clear a0 a1 b0 b1
              go_wp2_with fail
              go_roundw
              case rel => exact ⟨i + 1, by go_num, by omega, HD.out⟩
              case measure => simp [intOf]; omega
            · have hie : i = sp.length := by omega
              have K7 := Lib.hid (K6.out.trans hri.out)
              clear hri OA6 OB6
              go_wp2_with fail
              refine (G5.out _ (HX1.out.old K7.out) (HQ1.out.old K7.out)).mono ?_
              rintro e w8 ⟨rfl, k8⟩
              have K8 := Lib.hid (K7.out.trans k8)
              clear k8
              go_wp2_with fail
              refine (G6.out _ (HX1.out.old K8.out) (HQ1.out.old K8.out)).mono ?_
              rintro e w9 ⟨rfl, k9⟩
              have K9 := Lib.hid (K8.out.trans k9)
              clear k9
              go_wp2_with fail
              refine (GL.out _).mono ?_
              rintro e w10 ⟨rfl, k10⟩
              have K10 := Lib.hid (HK1.out.trans (K9.out.trans k10))
              clear k10
              go_wp2_with fail
              go_ret
              exact ⟨rfl, K10.out⟩
    · have e1 : decide (20 < (fl.length : Int)) = false := by rw [decide_eq_false_iff_not]; omega
      have e1' : decide (20 < fl.length) = false := by rw [decide_eq_false_iff_not]; omega
      have e2 : decide (40 < (l.length : Int)) = true := by rw [decide_eq_true_iff]; omega
      have e2' : decide (40 < l.length) = true := by rw [decide_eq_true_iff]; omega
      go_enter Try.func3, Try.ntmps3
      go_wp2
      go_region
      go_wp2_with fail
      refine (GL.out _).mono ?_
      rintro e w6 ⟨rfl, k6⟩
      have HK6 := Lib.hid (HK0.out.drew.trans k6)
      clear k6
      go_wp2_with fail
      go_ret
      exact ⟨rfl, HK6.out⟩
  · have e1 : decide (20 < (fl.length : Int)) = true := by rw [decide_eq_true_iff]; omega
    have e1' : decide (20 < fl.length) = true := by rw [decide_eq_true_iff]; omega
    go_enter Try.func3, Try.ntmps3
    go_wp2
    go_region
    go_wp2_with fail
    refine (GL.out _).mono ?_
    rintro e w6 ⟨rfl, k6⟩
    have HK6 := Lib.hid (HK0.out.drew.trans k6)
    clear k6
    go_wp2_with fail
    go_ret
    exact ⟨rfl, HK6.out⟩
end Go.Proofs.Ythjapdjglifopaa
