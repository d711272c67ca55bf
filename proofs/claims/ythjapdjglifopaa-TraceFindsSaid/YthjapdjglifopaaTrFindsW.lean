/- The walk of TraceFinds. -/
import Derived.Test.YthjapdjglifopaaTrL
import Derived.Test.YthjapdjglifopaaRefTrY
import Derived.Test.YthjapdjglifopaaTrBackW
import Derived.Test.YthjapdjglifopaaWith
namespace Go.Proofs.Ythjapdjglifopaa
set_option linter.unusedVariables false
set_option linter.unusedSimpArgs false
open Go.RowKit Go.Shelf


set_option maxHeartbeats 8000000 in
theorem findsLaw (l : List Rec) (hok : ∀ r ∈ l, r.goes) (ao : Option Addr) (cap : Nat) (hcap : l.length ≤ cap) (a : Int) (ha : -9223372036854775808 ≤ a ∧ a ≤ 9223372036854775807) (c : Nat) (hc : c < 256) (w : World) (h : Sl w (.slice ao l.length cap) l.length 6 (l.flatMap enR)) :
    Calls Try.prog 7 #[.slice ao l.length cap, .int .i64 a, .int .u8 c] w fun e w' => e = .returned (.bool true) ∧ Kp none' w w' := by
  have hmax := h.max
  have HS := Lib.hid h
  have GL := Lib.hid lives
  clear h
  obtain ⟨cb, rfl⟩ : ∃ cb : UInt8, c = cb.toNat := ⟨UInt8.ofNat c, by simp; omega⟩
  by_cases h1 : l.length ≤ 100
  · by_cases h2 : 0 < l.length
    · have e1 : (l.length : Int) ≤ 100 := by omega
      have e2 : ((l.length : Int) == 0) = false := by rw [beq_eq_false_iff_ne]; omega
      have e2' : (l.length == 0) = false := by rw [beq_eq_false_iff_ne]; omega
      have hP := fun W hW => tPut l hok (by omega) (.slice ao l.length cap) W hW
      rcases put_cases l hok with ⟨hpe, hfit⟩ | hpe
      · rw [hpe] at hP
        have hlf := flatR_len l
        have hts : (tx (flatR l)).size = 30 * l.length := by rw [tx_size, hlf]
        obtain ⟨u, hu⟩ : ∃ u : Nat, a % 18446744073709551616 = u := ⟨(a % 18446744073709551616).toNat, by omega⟩
        obtain ⟨k, hk⟩ : ∃ k, u % (30 * l.length) = k := ⟨_, rfl⟩
        have hkl : k < 30 * l.length := by rw [← hk]; exact Nat.mod_lt _ (by omega)
        have hW := fun W => rWith (tx (flatR l)) (by rw [hts]; omega) k (by rw [hts]; exact hkl) cb W
        rw [bl_tx] at hW
        have hsl : (tx ((flatR l).set k cb)).size = 30 * l.length := by rw [tx_size, List.length_set, hlf]
        have hR := tRead (tx ((flatR l).set k cb)) (by rw [hsl]; omega)
        have HP := Lib.hid hP; have HW := Lib.hid hW; have HR := Lib.hid hR
        by_cases hcc : (flatR l)[k]'(by rw [hlf]; exact hkl) = cb
        · have hsame : (flatR l).set k cb = flatR l := by rw [← hcc]; simp
          have HU : Hid (∀ m, Reads (bl (tx ((flatR l).set k cb))) m → m = l) := fun m hm => by
            rw [bl_tx, hsame] at hm
            have := reads_back l hfit [] (by simp)
            rw [List.append_nil] at this
            exact hm.uniq this
          have hbq : ((tx ((flatR l).set k cb)).toList == (tx (flatR l)).toList) = true := str_beq (by rw [hsame])
          generalize tx ((flatR l).set k cb) = t at *
          generalize tx (flatR l) = s at *
          have e3 : (s.size : Int) = 30 * (l.length : Int) := by omega
          have e3' : (s.size == 0) = false := by rw [beq_eq_false_iff_ne]; omega
          have e3'' : ((s.size : Int) == 0) = false := by rw [beq_eq_false_iff_ne]; omega
          have hsz : s.size ≤ 3000 := by omega
          have hkk : Hid (wrap64 ((IntKind.u64.wrap a).tmod (30 * (l.length : Int))) = (k : Int)) := by
            show _ = _
            rw [IntKind.wrap_u64, hu, Int.tmod_eq_emod_of_nonneg (by omega)]
            have : (u : Int) % (30 * (l.length : Int)) = k := by rw [← hk]; simp
            rw [this]; unfold wrap64; omega
          clear hP hR hW hpe hfit hlf hcc hsame hu hk
          go_enter Try.func7, Try.ntmps7
          go_wp2_with fail
          refine (HP.out _ HS.out).mono ?_
          rintro e w1 ⟨rfl, k1⟩
          have K1 := Lib.hid k1; clear k1
          go_wp2_with fail
          rw [hkk.out]
          refine (HW.out _).mono ?_
          rintro e w2 ⟨rfl, k2⟩
          have K2 := Lib.hid (K1.out.trans k2); clear k2
          go_wp2_with fail
          refine (HR.out _).mono ?_
          rintro e w4 ⟨v4, m4, rfl, r4, o4, k4⟩
          obtain rfl := HU.out m4 r4
          have K4 := Lib.hid (K2.out.trans k4)
          have hz : ((30 * m4.length : Nat) : Int) = 30 * (m4.length : Int) := by omega
          rw [hz]
          clear r4 o4 k4 hz
          go_wp2_with fail
          refine (GL.out _).mono ?_
          rintro e w6 ⟨rfl, k6⟩
          have K6 := Lib.hid (K4.out.trans k6); clear k6
          go_wp2_with fail
          go_ret
          exact ⟨rfl, K6.out⟩
        · have HU : Hid (∀ m, Reads (bl (tx ((flatR l).set k cb))) m → m = l.take (k / 30)) := fun m hm => by
            rw [bl_tx] at hm
            exact hm.uniq (reads_find l hfit k hkl cb hcc)
          have hne : (flatR l).set k cb ≠ flatR l := fun e => hcc (by
            have : ((flatR l).set k cb)[k]'(by rw [List.length_set, hlf]; exact hkl) = cb := by simp
            rw [← this]; congr 1; exact e.symm)
          have hbq : ((tx ((flatR l).set k cb)).toList == (tx (flatR l)).toList) = false := str_bne (fun e => hne (by rw [← bl_tx ((flatR l).set k cb), e, bl_tx]))
          generalize tx ((flatR l).set k cb) = t at *
          generalize tx (flatR l) = s at *
          have e3 : (s.size : Int) = 30 * (l.length : Int) := by omega
          have e3' : (s.size == 0) = false := by rw [beq_eq_false_iff_ne]; omega
          have e3'' : ((s.size : Int) == 0) = false := by rw [beq_eq_false_iff_ne]; omega
          have hsz : s.size ≤ 3000 := by omega
          have hkk : Hid (wrap64 ((IntKind.u64.wrap a).tmod (30 * (l.length : Int))) = (k : Int)) := by
            show _ = _
            rw [IntKind.wrap_u64, hu, Int.tmod_eq_emod_of_nonneg (by omega)]
            have : (u : Int) % (30 * (l.length : Int)) = k := by rw [← hk]; simp
            rw [this]; unfold wrap64; omega
          have hkq : k / 30 ≤ l.length := by omega
          obtain ⟨q, hq⟩ : ∃ q, k / 30 = q := ⟨_, rfl⟩
          have E5 : Hid ((k : Int) / 30 = q) := by show _ = _; rw [← hq]; simp
          rw [hq] at HU hkq
          clear hP hR hW hpe hfit hlf hcc hne hu hk hq
          go_enter Try.func7, Try.ntmps7
          go_wp2_with fail
          refine (HP.out _ HS.out).mono ?_
          rintro e w1 ⟨rfl, k1⟩
          have K1 := Lib.hid k1; clear k1
          go_wp2_with fail
          rw [hkk.out]
          refine (HW.out _).mono ?_
          rintro e w2 ⟨rfl, k2⟩
          have K2 := Lib.hid (K1.out.trans k2); clear k2
          go_wp2_with fail
          refine (HR.out _).mono ?_
          rintro e w4 ⟨v4, m4, rfl, r4, o4, k4⟩
          have hm4 := HU.out m4 r4
          have hl4 : m4.length = q := by rw [hm4, List.length_take]; omega
          have hz : ((30 * m4.length : Nat) : Int) = (q : Int) * 30 := by rw [hl4]; omega
          rw [hz]
          have K4 := Lib.hid (K2.out.trans k4)
          have o5 : w4.ownsRow w2.heap.size 53 6 v4 (l.take q).length ((l.take q).flatMap enR) := by rw [← hm4]; exact o4
          have hll : (l.take q).length = q := by rw [← hm4]; exact hl4
          have hq1 : (q : Int) * 30 / 30 = q := by omega
          have hq2 : (q : Int) ≤ l.length := by omega
          have hq3 : 0 ≤ (q : Int) := by omega
          have hq4 : (q : Int) ≤ cap := by omega
          have hq5 : q ≤ cap := by omega
          have HMM := fun c => rtSame (l.take q) v4 (.slice ao q c) w4 (own_sl o5) (by have := (HS.out.old K4.out).head enR_len q hkq rfl c; rw [hll]; exact this) (by omega)
          have HM4 := Lib.hid HMM
          have e5 := E5.out
          clear hz hl4 hm4 o4 o5 r4 k4 hll HMM
          go_wp2_with fail
          refine (HM4.out _).mono ?_
          rintro e w5 ⟨rfl, d5, rfl⟩
          go_wp2_with fail
          refine (GL.out _).mono ?_
          rintro e w6 ⟨rfl, k6⟩
          have K6 := Lib.hid ((K4.out.drewN d5).trans k6); clear k6
          go_wp2_with fail
          go_ret
          exact ⟨rfl, K6.out⟩
      · rw [hpe] at hP
        have HP := Lib.hid hP
        clear hP hpe
        go_enter Try.func7, Try.ntmps7
        go_wp2_with fail
        refine (HP.out _ HS.out).mono ?_
        rintro e w1 ⟨rfl, k1⟩
        have K1 := Lib.hid k1; clear k1
        go_wp2_with fail
        refine (GL.out _).mono ?_
        rintro e w6 ⟨rfl, k6⟩
        have K6 := Lib.hid (K1.out.trans k6); clear k6
        go_wp2_with fail
        go_ret
        exact ⟨rfl, K6.out⟩
    · have h0 : l.length = 0 := by omega
      have e0 : (l.length == 0) = true := by simpa using h0
      have e1 : ((l.length : Int) == 0) = true := by rw [beq_iff_eq]; omega
      have e2 : (l.length : Int) ≤ 100 := by omega
      clear h0
      go_enter Try.func7, Try.ntmps7
      go_wp2_with fail
      refine (GL.out _).mono ?_
      rintro e w6 ⟨rfl, k6⟩
      go_wp2_with fail
      go_ret
      exact ⟨rfl, k6⟩
  · have e1 : (100 : Int) < l.length := by omega
    have e3 : 100 < l.length := by omega
    go_enter Try.func7, Try.ntmps7
    go_wp2_with fail
    refine (GL.out _).mono ?_
    rintro e w6 ⟨rfl, k6⟩
    go_wp2_with fail
    go_ret
    exact ⟨rfl, k6⟩
end Go.Proofs.Ythjapdjglifopaa
