/- The walk of TraceBack. -/
import Derived.Test.YthjapdjglifopaaTrL
import Derived.Test.YthjapdjglifopaaRefTrY
namespace Go.Proofs.Ythjapdjglifopaa
set_option linter.unusedVariables false
set_option linter.unusedSimpArgs false
open Go.RowKit Go.Shelf

/-- The head of a slice. -/
theorem Sl.head {w : World} {ao : Option Addr} {n sz cap : Nat} {α : Type} {enc : α → List Value} {l : List α} (h : Sl w (.slice ao n cap) n sz (l.flatMap enc)) (hl : ∀ a, (enc a).length = sz) (k : Nat) (hk : k ≤ n) (hn : n = l.length) (c : Nat) :
    Sl w (.slice ao k c) k sz ((l.take k).flatMap enc) := by
  subst hn
  obtain ⟨ao', cap', e, hc⟩ := h.is
  cases e
  have he : (l.take k).flatMap enc = (l.flatMap enc).take (k * sz) := by
    have e : l.flatMap enc = (l.take k).flatMap enc ++ (l.drop k).flatMap enc := by rw [← List.flatMap_append, List.take_append_drop]
    have e2 : ((l.take k).flatMap enc).length = k * sz := by rw [flat_len enc sz hl, List.length_take, Nat.min_eq_left hk]
    rw [e, ← e2, List.take_left]
  refine ⟨by rw [flat_len enc sz hl, List.length_take, Nat.min_eq_left hk], Nat.le_trans hk h.max, ao, c, rfl, fun i u hu => ?_⟩
  rw [he, List.getElem?_take] at hu
  split at hu
  · exact hc i u hu
  · cases hu
theorem allR_iff {l : List Rec} : allR l = true ↔ ∀ r ∈ l, rightB r = true := by unfold allR; rw [List.all_eq_true]
theorem put_cases (l : List Rec) (hok : ∀ r ∈ l, r.goes) : (putE l = (flatR l, 0) ∧ Fit l) ∨ putE l = ([], 6) := by
  unfold putE
  cases h : allR l with
  | true => exact .inl ⟨by simp, fun r hr => ⟨(hok r hr).1, allR_iff.1 h r hr⟩⟩
  | false => exact .inr (by simp)

set_option maxHeartbeats 8000000 in
theorem backLaw (l : List Rec) (hok : ∀ r ∈ l, r.goes) (ao : Option Addr) (cap : Nat) (hcap : l.length ≤ cap) (s : ByteArray) (cut : Nat) (hcut : cut < 65536) (w : World) (h : Sl w (.slice ao l.length cap) l.length 6 (l.flatMap enR)) :
    Calls Try.prog 6 #[.slice ao l.length cap, .string s, .int .u16 cut] w fun e w' => e = .returned (.bool true) ∧ Kp none' w w' := by
  have hmax := h.max
  have HS := Lib.hid h
  have GL := Lib.hid lives
  clear h
  by_cases h1 : l.length ≤ 100
  · by_cases h2 : s.size ≤ 29
    · have e1 : (l.length : Int) ≤ 100 := by omega
      have e2 : (s.size : Int) ≤ 29 := by omega
      have hP := fun W hW => tPut l hok (by omega) (.slice ao l.length cap) W hW
      rcases put_cases l hok with ⟨hpe, hfit⟩ | hpe
      · rw [hpe] at hP
        have hlf := flatR_len l
        have hts : (tx (flatR l)).size = 30 * l.length := by rw [tx_size, hlf]
        obtain ⟨k, hk⟩ : ∃ k, cut % (30 * l.length + 1) = k := ⟨_, rfl⟩
        have hkl : k ≤ 30 * l.length := by rw [← hk]; have := Nat.mod_lt cut (show 0 < 30 * l.length + 1 by omega); omega
        have ha : bl (tx (flatR l) ++ s) = flatR l ++ bl s := by rw [bl_app, bl_tx]
        have hb : bl ((tx (flatR l)).extract 0 k) = (flatR l).take k := by rw [bl_cut, bl_tx]; simp
        have hR := tRead (tx (flatR l) ++ s) (by rw [ByteArray.size_append, hts]; omega)
        have hT := tRead ((tx (flatR l)).extract 0 k) (by rw [← bl_len, hb, List.length_take]; omega)
        have HU : Hid (∀ m, Reads (bl (tx (flatR l) ++ s)) m → m = l) := fun m hm => by rw [ha] at hm; exact hm.uniq (reads_back l hfit (bl s) (by rw [bl_len]; omega))
        have HV : Hid (∀ m, Reads (bl ((tx (flatR l)).extract 0 k)) m → m = l.take (k / 30)) := fun m hm => by rw [hb] at hm; exact hm.uniq (reads_cut l hfit k hkl)
        have hct := cat_run (P := Try.prog) (tx (flatR l)) s (by rw [hts]; omega)
        obtain ⟨t, ht⟩ : ∃ t, tx (flatR l) = t := ⟨_, rfl⟩
        simp only [ht] at hP hR hT HU HV hts hct
        have HP := Lib.hid hP; have HR := Lib.hid hR; have HT := Lib.hid hT
        have e3 : (t.size : Int) = 30 * (l.length : Int) := by omega
        have e4 : (cut : Int) % (30 * (l.length : Int) + 1) = k := by rw [← hk]; simp
        have hkd : k / 30 ≤ l.length := by omega
        obtain ⟨q, hq⟩ : ∃ q, k / 30 = q := ⟨_, rfl⟩
        have e5 : (k : Int) / 30 = q := by rw [← hq]; simp
        rw [hq] at HV hkd
        have hkb : k ≤ t.size := by omega
        have E3 := Lib.hid e3; have E4 := Lib.hid e4; have E5 := Lib.hid e5; have HTS := Lib.hid hts
        clear hP hR hT hpe hfit hlf hk ha hb ht hq hkl e3 e4 e5 hts
        go_enter Try.func6, Try.ntmps6
        go_wp2_with fail
        refine (HP.out _ HS.out).mono ?_
        rintro e w1 ⟨rfl, k1⟩
        have K1 := Lib.hid k1; clear k1
        go_wp2_with fail
        refine (HR.out _).mono ?_
        rintro e w2 ⟨v2, m2, rfl, r2, o2, k2⟩
        obtain rfl := (HU.out m2 r2)
        have K2 := Lib.hid (K1.out.trans k2)
        have HM := Lib.hid (rtSame m2 (.slice ao m2.length cap) v2 w2 (HS.out.old K2.out) (own_sl o2) (by omega))
        rw [← HTS.out]
        clear k2 r2 o2
        go_wp2_with fail
        refine (HM.out).mono ?_
        rintro e w3 ⟨rfl, d3, rfl⟩
        have K3 := Lib.hid (K2.out.drewN d3)
        generalize w2.drewN d3 = w3 at *
        have e3 : (t.size : Int) = 30 * (m2.length : Int) := E3.out
        have e6 : ¬ ((t.size : Int) + 1 = 0) := by omega
        have e7 : wrap64 ((t.size : Int) + 1) = (t.size : Int) + 1 := by unfold wrap64; omega
        have e8 : (cut : Int).tmod ((t.size : Int) + 1) = k := by rw [Int.tmod_eq_emod_of_nonneg (by omega), e3]; exact E4.out
        have e9 : 0 ≤ (k : Int) := by omega
        have e10 : (k : Int) ≤ t.size := by omega
        clear e3
        go_wp2_with fail
        refine (HT.out _).mono ?_
        rintro e w4 ⟨v4, m4, rfl, r4, o4, k4⟩
        have hm4 := HV.out m4 r4
        have hl4 : m4.length = q := by rw [hm4, List.length_take]; omega
        have hz : ((30 * m4.length : Nat) : Int) = (q : Int) * 30 := by rw [hl4]; omega
        rw [hz]
        have K4 := Lib.hid (K3.out.trans k4)
        have o5 : w4.ownsRow w3.heap.size 53 6 v4 (m2.take q).length ((m2.take q).flatMap enR) := by rw [← hm4]; exact o4
        have hll : (m2.take q).length = q := by rw [← hm4]; exact hl4
        have hq1 : (q : Int) * 30 / 30 = q := by omega
        have hq2 : (q : Int) ≤ m2.length := by omega
        have hq3 : 0 ≤ (q : Int) := by omega
        have hq4 : (q : Int) ≤ cap := by omega
        have hq5 : q ≤ cap := by omega
        have hH := (HS.out.old K4.out).head enR_len q hkd rfl (cap)
        have HMM := fun c => rtSame (m2.take q) v4 (.slice ao q c) w4 (own_sl o5) (by have := (HS.out.old K4.out).head enR_len q hkd rfl c; rw [hll]; exact this) (by omega)
        have HM4 := Lib.hid HMM
        have e5 := E5.out
        clear hz hl4 hm4 o4 o5 r4 k4 hll hH HMM e6 e7 e8
        go_wp2_with fail
        refine (HM4.out _).mono ?_
        rintro e w5 ⟨rfl, d5, rfl⟩
        go_wp2_with fail
        refine (GL.out _).mono ?_
        rintro e w6 ⟨rfl, k6⟩
        have K6 := Lib.hid ((K4.out.drewN d5).trans k6); clear k6
        go_wp2_with fail
        go_ret
        exact ⟨rfl, K6.out⟩
      · rw [hpe] at hP
        have HP := Lib.hid hP
        have h0 : ((tx []).toList.isEmpty) = true := by rw [bl_nil, bl_tx]; rfl
        have h0' : (tx []).toList = [] := by simpa using h0
        clear hP hpe
        go_enter Try.func6, Try.ntmps6
        go_wp2_with fail
        refine (HP.out _ HS.out).mono ?_
        rintro e w1 ⟨rfl, k1⟩
        have K1 := Lib.hid k1; clear k1
        go_wp2_with fail
        refine (GL.out _).mono ?_
        rintro e w6 ⟨rfl, k6⟩
        have K6 := Lib.hid (K1.out.trans k6); clear k6
        go_wp2_with fail
        go_ret
        exact ⟨rfl, K6.out⟩
    · have e1 : (l.length : Int) ≤ 100 := by omega
      have e2 : (29 : Int) < s.size := by omega
      have e3 : 29 < s.size := by omega
      have e4 : decide (100 < (l.length : Int)) = false := by rw [decide_eq_false_iff_not]; omega
      go_enter Try.func6, Try.ntmps6
      go_wp2_with fail
      refine (GL.out _).mono ?_
      rintro e w6 ⟨rfl, k6⟩
      go_wp2_with fail
      go_ret
      exact ⟨rfl, k6⟩
  · have e1 : (100 : Int) < l.length := by omega
    have e3 : 100 < l.length := by omega
    go_enter Try.func6, Try.ntmps6
    go_wp2_with fail
    refine (GL.out _).mono ?_
    rintro e w6 ⟨rfl, k6⟩
    go_wp2_with fail
    go_ret
    exact ⟨rfl, k6⟩
end Go.Proofs.Ythjapdjglifopaa
