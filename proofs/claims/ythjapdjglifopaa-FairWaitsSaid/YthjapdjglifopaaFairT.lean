/- Walks of layer 27, the document's: who waits, spans. -/
import Derived.Test.YthjapdjglifopaaFairW
import Derived.Test.YthjapdjglifopaaFairQ
namespace Go.Proofs.Ythjapdjglifopaa
set_option linter.unusedVariables false
set_option linter.unusedSimpArgs false
open Go.RowKit Go.Shelf

set_option maxRecDepth 100000 in
set_option maxHeartbeats 4000000 in
theorem rWaits (fl : List FlR) (l : List RpR) (hq : ∀ q ∈ l, q.ok) (hfn : fl.length ≤ 1000) (hln : l.length ≤ 1000) (f : Int) (n : Nat) (hn : n < l.length) (u v : Value) (w : World) (h1 : Sl w u fl.length 5 (fl.flatMap enFl)) (h2 : Sl w v l.length 42 (l.flatMap enQ)) :
    Calls Try.prog 60 #[u, v, .int .i64 f, .int .i64 n] w fun e w' => e = .returned (.bool (waitsB fl l f n)) ∧ Kp none' w w' := by
  obtain ⟨ao, acap, rfl⟩ : ∃ ao cap, u = .slice ao fl.length cap := by obtain ⟨ao, cap, rfl, _⟩ := h1.is; exact ⟨_, _, rfl⟩
  obtain ⟨bo, bcap, rfl⟩ : ∃ ao cap, v = .slice ao l.length cap := by obtain ⟨ao, cap, rfl, _⟩ := h2.is; exact ⟨_, _, rfl⟩
  have HX := Lib.hid h1; have HQ := Lib.hid h2
  clear h1 h2
  go_enter Try.func60, Try.ntmps60
  go_wp2
  go_loopw [9, 10] (fun c0 i0 wr => ∃ j : Nat, i0 = .int .i64 j ∧ j ≤ n + 1 ∧ Hid (c0 = .int .i64 (cntF fl f (l.take j)) ∧ Kp none' w wr)) (fun _ i0 _ => n + 1 - (intOf i0).toNat)
  case atStart => exact ⟨0, rfl, by omega, rfl, Kp.refl _ _⟩
  case round =>
    obtain ⟨j, rfl, hj, hr⟩ := hrel
    obtain ⟨rfl, kr⟩ := hr
    have hbd := cntF_le fl f (l.take j)
    have hlk : (l.take j).length ≤ 1000 := by rw [List.length_take]; omega
    have HKR := Lib.hid kr
    by_cases hlt : j ≤ n
    · have hji : (j : Int) ≤ n := by omega
      have hjl : j < l.length := by omega
      have hjli : (j : Int) < l.length := by omega
      obtain ⟨gq, oq, cq, e1, hcq⟩ := (HQ.out.old kr).range enQ_len (by decide) j hjl
      injection e1 with e1 _ e3
      subst e1 e3
      have hqo := hq l[j] (List.getElem_mem hjl)
      obtain ⟨q, hqj⟩ : ∃ q, l[j] = q := ⟨_, rfl⟩
      rw [hqj] at hqo hcq
      have hst : cntF fl f (l.take (j + 1)) = cntS fl f (cntF fl f (l.take j)) q := by rw [List.take_succ_eq_append_getElem hjl, hqj, cntF_snoc]
      generalize cntF fl f (l.take j) = c at *
      have b1 : -1000 ≤ c := by omega
      have b2 : c ≤ 1000 := by omega
      have HST := Lib.hid hst; have HCQ := Lib.hid hcq
      have HA := Lib.hid (fun W h => rOfQ fl (by omega) q hqo f 1 (.slice ao fl.length acap) W h)
      have HC := Lib.hid (fun W h => rOfQ fl (by omega) q hqo f 2 (.slice ao fl.length acap) W h)
      clear hqj hst hqo kr hbd hlk hcq
      go_wp2_with (refine wpList_load_mid rfl 77 (.tmp 19) rfl gq (oq + j * 42) rfl (enQ q) _ HCQ.out Try.underlying77 rfl (infoQ q) ?_)
      refine (HA.out _ (HX.out.old HKR.out)).mono ?_
      rintro e w3 ⟨rfl, k3⟩
      have HK3 := Lib.hid (HKR.out.trans k3)
      have HCQ3 : Hid (w3.rangeAt gq (oq + j * 42) (enQ q)) := fun i u hu => k3.cell (HCQ.out i u hu) id
      clear k3
      cases ha1 : ofB fl q f 1 with
      | true =>
        have ha2 : ofB fl q f 2 = false := by
          rw [of_lets] at ha1; rw [of_goes]
          simp only [Bool.and_eq_true] at ha1
          rw [lets_goes ha1.1]; rfl
        have HS1 : Hid (cntF fl f (l.take (j + 1)) = c + 1) := by show _ = _; rw [HST.out]; unfold cntS; rw [if_pos ha1]
        rw [ha2] at HC
        clear ha1 ha2
        go_wp2_with (refine wpList_load_mid rfl 77 (.tmp 28) rfl gq (oq + j * 42) rfl (enQ q) _ HCQ3.out Try.underlying77 rfl (infoQ q) ?_)
        refine (HC.out _ (HX.out.old HK3.out)).mono ?_
        rintro e w4 ⟨rfl, k4⟩
        have HK4 := Lib.hid (HK3.out.trans k4)
        clear k4
        go_wp2_with fail
        go_roundw
        case rel => exact ⟨j + 1, by go_num, by omega, by rw [HS1.out], HK4.out⟩
        case measure => simp [intOf]; omega
      | false =>
        cases ha2 : ofB fl q f 2 with
        | true =>
          have HS1 : Hid (cntF fl f (l.take (j + 1)) = c - 1) := by show _ = _; rw [HST.out]; unfold cntS; rw [if_neg (by simp [ha1]), if_pos ha2]
          rw [ha2] at HC
          clear ha1 ha2
          go_wp2_with (refine wpList_load_mid rfl 77 (.tmp 28) rfl gq (oq + j * 42) rfl (enQ q) _ HCQ3.out Try.underlying77 rfl (infoQ q) ?_)
          refine (HC.out _ (HX.out.old HK3.out)).mono ?_
          rintro e w4 ⟨rfl, k4⟩
          have HK4 := Lib.hid (HK3.out.trans k4)
          clear k4
          go_wp2_with fail
          go_roundw
          case rel => exact ⟨j + 1, by go_num, by omega, by rw [HS1.out], HK4.out⟩
          case measure => simp [intOf]; omega
        | false =>
          have HS1 : Hid (cntF fl f (l.take (j + 1)) = c) := by show _ = _; rw [HST.out]; unfold cntS; rw [if_neg (by simp [ha1]), if_neg (by simp [ha2])]
          rw [ha2] at HC
          clear ha1 ha2
          go_wp2_with (refine wpList_load_mid rfl 77 (.tmp 28) rfl gq (oq + j * 42) rfl (enQ q) _ HCQ3.out Try.underlying77 rfl (infoQ q) ?_)
          refine (HC.out _ (HX.out.old HK3.out)).mono ?_
          rintro e w4 ⟨rfl, k4⟩
          have HK4 := Lib.hid (HK3.out.trans k4)
          clear k4
          go_wp2_with fail
          go_roundw
          case rel => exact ⟨j + 1, by go_num, by omega, by rw [HS1.out], HK4.out⟩
          case measure => simp [intOf]; omega
    · have hjn : j = n + 1 := by omega
      subst hjn
      have hji : ¬ ((n + 1 : Nat) : Int) ≤ n := by omega
      go_wp2
      go_ret
      exact ⟨by unfold waitsB; rfl, HKR.out⟩
end Go.Proofs.Ythjapdjglifopaa
