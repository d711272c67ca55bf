/- ScriptBack (layer 41): the law's walk. -/
import Derived.Test.YthgpmpmnihijnaaDoorScPm
import Derived.Test.YthgpmpmnihijnaaDoorScReadsW
namespace Go.Proofs.YthgpmpmnihijnaaDoor
set_option linter.unusedVariables false
set_option linter.unusedSimpArgs false
open Go.RowKit Go.Shelf

theorem back_read {l : List OpR} {rem : ByteArray} (hok : ∀ o ∈ l, o.ok) (h10 : (10 : UInt8) ∉ bl rem) (hr : allR l = true) : readS ([10, 35] ++ bl rem ++ [10] ++ putT l ++ [32, 9]) = (l, 0, 0) := by
  have hr' : ∀ o ∈ l, opR o = true := by unfold allR at hr; rwa [List.all_eq_true] at hr
  rw [(putT_yes hr').2]
  exact read_back l (bl rem) h10 (fun o ho => ⟨hr' o ho, (hok o ho).flow, (hok o ho).id, (hok o ho).len, (hok o ho).ticks⟩)
theorem putT_len (l : List OpR) (hok : ∀ o ∈ l, o.ok) : (putT l).length ≤ 71 * l.length := by
  unfold putT
  split
  · exact putS_len l hok
  · simp
set_option maxRecDepth 100000 in
set_option maxHeartbeats 2000000 in
theorem backLaw (l : List OpR) (hok : ∀ o ∈ l, o.ok) (rem : ByteArray) (v : Value) (w : World) (h : Sl w v l.length 5 (l.flatMap enO)) :
    Calls Tryd.prog 5 #[v, .string rem] w fun e w' => e = .returned (.bool true) ∧ Kp none' w w' := by
  obtain ⟨ao, cap, rfl⟩ : ∃ ao cap, v = .slice ao l.length cap := by obtain ⟨ao, cap, rfl, _⟩ := h.is; exact ⟨_, _, rfl⟩
  have HL := Lib.hid (fun W => lives41 W)
  by_cases hn : l.length ≤ 200
  · have hni : ¬ (200 : Int) < l.length := by omega
    by_cases hs : rem.size ≤ 100
    · have hsi : ¬ (100 : Int) < rem.size := by omega
      have HS := Lib.hid h
      have H1 := Lib.hid (sPutS l hok hn _ w h)
      have H2 := Lib.hid (fun W (k : Kp none' w W) => rPutS l hok hn _ W (h.old k))
      have hpl := putT_len l hok
      have HBR : Hid ((10 : UInt8) ∉ bl rem → allR l = true → readS ([10, 35] ++ bl rem ++ [10] ++ putT l ++ [32, 9]) = (l, 0, 0)) := fun h10 hr => back_read hok h10 hr
      have HST : Hid (bl (tx (putT l)) = putT l) := bl_tx _
      have hss : (tx (putT l)).size ≤ 14200 := by rw [tx_size]; omega
      obtain ⟨s, hs'⟩ : ∃ s, tx (putT l) = s := ⟨_, rfl⟩
      rw [hs'] at H1 hss HST
      simp only [hs'] at H2
      have heq : (s.toList != s.toList) = false := by simp
      clear h hs' hpl
      go_enter Tryd.func5, Tryd.ntmps5
      go_wp2_with fail
      go_loopw [24] (fun i wr => ∃ j : Nat, i = .int .i64 j ∧ j ≤ rem.size ∧ w = wr ∧ Hid ((10 : UInt8) ∉ (bl rem).take j)) (fun i _ => rem.size - (intOf i).toNat)
      case atStart => exact ⟨0, rfl, by omega, rfl, by simp [Hid]⟩
      case round =>
        obtain ⟨j, rfl, hj, rfl, hno⟩ := hrel
        by_cases hlt : j < rem.size
        · by_cases hb : rem[j] = 10
          · have hcs : ((rem[j].toNat : Int) == 10) = true := by rw [hb]; rfl
            clear hb hno
            go_wp2_with fail
            refine (HL.out _).mono ?_
            rintro e w1 ⟨rfl, k1⟩
            have K1 := Lib.hid k1
            clear k1
            go_wp2
            go_ret
            exact ⟨rfl, K1.out⟩
          · have hcs : ((rem[j].toNat : Int) == 10) = false := by
              rw [beq_eq_false_iff_ne]; intro e
              exact hb (UInt8.toNat_inj.1 (show rem[j].toNat = (10 : UInt8).toNat by show _ = 10; omega))
            have HN : Hid ((10 : UInt8) ∉ (bl rem).take (j + 1)) := by
              show _ ∉ _
              rw [take_bl rem j hlt]
              intro hm
              rcases List.mem_append.1 hm with hm | hm
              · exact hno.out hm
              · simp at hm; exact hb hm.symm
            clear hb hno
            go_wp2_with fail
            go_roundw
            case rel => exact ⟨j + 1, by go_num, by omega, trivial, HN⟩
            case measure => simp [intOf]; omega
        · have h10 : (10 : UInt8) ∉ bl rem := by
            have := hno.out
            rwa [List.take_of_length_le (by rw [bl_len]; omega)] at this
          have HBR2 := Lib.hid (HBR.out h10)
          clear h10 hno HBR
          cases hr : allR l with
          | false =>
            have hpc := putC_no hr
            rw [hpc] at H1
            simp only [hr] at H2
            have H2' := Lib.hid H2
            clear hr hpc HBR2
            go_wp2_with fail
            refine (H1.out).mono ?_
            rintro e w1 ⟨rfl, k1⟩
            have K1 := Lib.hid k1
            clear k1
            go_wp2_with fail
            refine (H2.out _ K1.out).mono ?_
            rintro e w2 ⟨rfl, k2⟩
            have K2 := Lib.hid (K1.out.trans k2)
            clear k2
            go_wp2_with fail
            refine (HL.out _).mono ?_
            rintro e w3 ⟨rfl, k3⟩
            have K3 := Lib.hid (K2.out.trans k3)
            clear k3
            go_wp2
            go_ret
            exact ⟨rfl, K3.out⟩
          | true =>
            have hpc := putC_yes hr
            rw [hpc] at H1
            simp only [hr] at H2
            have hbr := HBR2.out hr
            have l1 : (⟨#[10, 35]⟩ : ByteArray).size = 2 := rfl
            have l2 : (⟨#[10]⟩ : ByteArray).size = 1 := rfl
            have l3 : (⟨#[32, 9]⟩ : ByteArray).size = 2 := rfl
            have q1 := fun W => cat_run (P := Tryd.prog) ⟨#[10, 35]⟩ rem (by omega) W
            have z1 : ((⟨#[10, 35]⟩ : ByteArray) ++ rem).size = 2 + rem.size := by rw [ByteArray.size_append, l1]
            have b1 : bl ((⟨#[10, 35]⟩ : ByteArray) ++ rem) = [10, 35] ++ bl rem := by rw [bl_app]; rfl
            obtain ⟨x1, hx1⟩ : ∃ x, (⟨#[10, 35]⟩ : ByteArray) ++ rem = x := ⟨_, rfl⟩
            simp only [hx1] at q1
            rw [hx1] at z1 b1
            have q2 := fun W => cat_run (P := Tryd.prog) x1 ⟨#[10]⟩ (by omega) W
            have z2 : (x1 ++ (⟨#[10]⟩ : ByteArray)).size = 3 + rem.size := by rw [ByteArray.size_append]; omega
            have b2 : bl (x1 ++ (⟨#[10]⟩ : ByteArray)) = [10, 35] ++ bl rem ++ [10] := by rw [bl_app, b1]; first | rfl | skip
            obtain ⟨x2, hx2⟩ : ∃ x, x1 ++ (⟨#[10]⟩ : ByteArray) = x := ⟨_, rfl⟩
            simp only [hx2] at q2
            rw [hx2] at z2 b2
            have q3 := fun W => cat_run (P := Tryd.prog) x2 s (by omega) W
            have z3 : (x2 ++ s).size = 3 + rem.size + s.size := by rw [ByteArray.size_append]; omega
            have b3 : bl (x2 ++ s) = [10, 35] ++ bl rem ++ [10] ++ putT l := by rw [bl_app, b2, HST.out]
            obtain ⟨x3, hx3⟩ : ∃ x, x2 ++ s = x := ⟨_, rfl⟩
            simp only [hx3] at q3
            rw [hx3] at z3 b3
            have q4 := fun W => cat_run (P := Tryd.prog) x3 ⟨#[32, 9]⟩ (by omega) W
            have z4 : (x3 ++ (⟨#[32, 9]⟩ : ByteArray)).size ≤ 100000 := by rw [ByteArray.size_append]; omega
            have b4 : bl (x3 ++ (⟨#[32, 9]⟩ : ByteArray)) = [10, 35] ++ bl rem ++ [10] ++ putT l ++ [32, 9] := by rw [bl_app, b3]; first | rfl | skip
            obtain ⟨x4, hx4⟩ : ∃ x, x3 ++ (⟨#[32, 9]⟩ : ByteArray) = x := ⟨_, rfl⟩
            simp only [hx4] at q4
            rw [hx4] at z4 b4
            have hb4 : readS (bl x4) = (l, 0, 0) := by rw [b4]; exact hbr
            have H3 := Lib.hid (fun W => read2 x4 W z4 hb4)
            clear hb4
            clear hr hpc HBR2 hbr b1 b2 b3 b4 hx1 hx2 hx3 hx4 z1 z2 z3 z4 l1 l2 l3
            go_wp2_with fail
            refine (H1.out).mono ?_
            rintro e w1 ⟨rfl, k1⟩
            have K1 := Lib.hid k1
            clear k1
            go_wp2_with fail
            refine (H2.out _ K1.out).mono ?_
            rintro e w2 ⟨rfl, k2⟩
            have K2 := Lib.hid (K1.out.trans k2)
            clear k2
            go_wp2_with fail
            refine (H3.out _).mono ?_
            rintro e w3 ⟨u, rfl, hu, k3⟩
            have K3 := Lib.hid (K2.out.trans k3)
            have HSM := Lib.hid (rSameT l _ u w3 (HS.out.old K3.out) hu)
            clear k3 hu
            go_wp2_with fail
            refine (HSM.out).mono ?_
            rintro e w4 ⟨rfl, k4⟩
            have K4 := Lib.hid (K3.out.trans k4)
            clear k4
            go_wp2_with fail
            refine (HL.out _).mono ?_
            rintro e w5 ⟨rfl, k5⟩
            have K5 := Lib.hid (K4.out.trans k5)
            clear k5
            go_wp2
            go_ret
            exact ⟨rfl, K5.out⟩
    · have hsi : (100 : Int) < rem.size := by omega
      clear hs
      go_enter Tryd.func5, Tryd.ntmps5
      go_wp2_with fail
      refine (HL.out w).mono ?_
      rintro e4 w4 ⟨rfl, k4⟩
      have K4 := Lib.hid k4
      clear k4
      go_wp2
      go_ret
      exact ⟨rfl, K4.out⟩
  · have hni : (200 : Int) < l.length := by omega
    clear hn
    go_enter Tryd.func5, Tryd.ntmps5
    go_wp2_with fail
    refine (HL.out w).mono ?_
    rintro e4 w4 ⟨rfl, k4⟩
    have K4 := Lib.hid k4
    clear k4
    go_wp2
    go_ret
    exact ⟨rfl, K4.out⟩
end Go.Proofs.YthgpmpmnihijnaaDoor
