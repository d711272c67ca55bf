/- The library's sort at uint32: a range that is nearly in order. -/
import Derived.Test.YthnlggecjdifnaaSoAUint32
import Derived.Sort.WalkA6
namespace Go.Proofs.Ythnlggecjdifnaa.sortUint32
set_option linter.unusedVariables false
set_option linter.unusedSimpArgs false
open Go.RowKit Go.Sort Go.Proofs.Ythnlggecjdifnaa
set_option maxRecDepth 100000 in
set_option maxHeartbeats 16000000 in
theorem partialU (blk off cap a b : Nat) (d : Array Nat) (w : World) (hH : Holds en w blk off d) (hab : a < b) (hb : b ≤ d.size) (hsz : d.size < 4611686018427387904) :
    Calls Try.prog 41 #[.slice (some ⟨blk, off, none⟩) d.size cap, .int .i64 a, .int .i64 b] w fun e w' =>
      e = .returned (.bool (Sort.partialInsertionSort ltn d a b).2) ∧ ∃ n, w' = putRow en (Sort.ahead w n) blk off (Sort.partialInsertionSort ltn d a b).1 := by
  have HH := Lib.hid hH
  have HST : Hid (w = putRow en (Sort.ahead w 0) blk off d) := (putRow_self _ _ _ _ _ hH).symm
  clear hH
  go_enter Try.func41, Try.ntmps41
  go_wp2
  go_loopw [7, 8] (fun vi vs wr => ∃ (i s n : Nat) (dk : Array Nat), vi = .int .i64 i ∧ vs = .int .i64 s ∧ s ≤ 5 ∧ a < i ∧ i ≤ b ∧ dk.size = d.size ∧ wr = putRow en (Sort.ahead w n) blk off dk ∧
      Hid (partialIns ltn a b (5 - s) i dk = partialIns ltn a b 5 (a + 1) d)) (fun _ vs _ => 5 - (intO vs).toNat)
  case atStart => exact ⟨a + 1, 0, 0, d, by go_num, rfl, by omega, by omega, by omega, rfl, HST.out, rfl⟩
  case round =>
    obtain ⟨i, s, n, dk, rfl, rfl, hs5, hai, hib, hsk, hwr, hO⟩ := hrel
    by_cases hs : s < 5
    · have hsi : (s : Int) < 5 := by omega
      have HWR := Lib.hid hwr
      clear hwr
      go_wp2
      go_loopw [7] (fun vi wr2 => ∃ (k m : Nat), vi = .int .i64 k ∧ i ≤ k ∧ k ≤ b ∧ wr2 = putRow en (Sort.ahead w m) blk off dk ∧ Hid (scanSorted ltn dk b k = scanSorted ltn dk b i)) (fun vi _ => b - (intO vi).toNat)
      case atStart => exact ⟨i, n, rfl, Nat.le_refl _, hib, HWR.out, rfl⟩
      case round =>
        obtain ⟨k, m, rfl, hik, hkb, hw2, hS⟩ := hrel
        obtain ⟨G, hG⟩ : ∃ G : Nat → Nat, ∀ t, G t = dk[t]! := ⟨fun t => dk[t]!, fun _ => rfl⟩
        have hcw : ∀ t, t < d.size → wr.cell? ⟨blk, off + t, none⟩ = some (en (G t)) := fun t ht => by
          rw [hw2, hG]; exact cell?_putRow _ _ _ _ d dk (holds_ahead _ _ _ _ _ _ HH.out) hsk t (by omega)
        have hfw : ∀ t, t < d.size → wr.frozen? ⟨blk, off + t, none⟩ = false := fun t ht => by
          rw [hw2, frozen?_putRow]; exact ((holds_ahead _ _ m _ _ _ HH.out) t ht).2
        have HW := Lib.hid hw2
        have HG := Lib.hid hG
        clear hw2 hG
        by_cases hkb' : k < b
        · have hkbi : (k : Int) < b := by omega
          cases hl : ltn (G k) (G (k - 1)) with
          | false =>
            go_wp2
            go_quiet (first | (go_at_call 42; refine Calls.quiet_of_same (less _ _ _)))
            go_wp2
            go_roundw
            case rel =>
              refine ⟨k + 1, m + nq, by go_num, by omega, by omega, by rw [HW.out]; exact putRow_drewN _ _ _ _ _ _ _, ?_⟩
              show _ = _
              rw [← hS.out, scanSorted_go ltn dk b k hkb' (by rw [← HG.out, ← HG.out]; exact hl)]
            case measure => first | (simp [intO]; done) | (simp [intO]; omega)
          | true =>
            have HK : Hid (scanSorted ltn dk b i = k) := by
              show _ = _
              rw [← hS.out, scanSorted_stop ltn dk b k (Or.inr (by rw [← HG.out, ← HG.out]; exact hl))]
            have hkne : ((k : Int) == b) = false := by rw [beq_eq_false_iff_ne]; omega
            by_cases h50 : b - a < 50
            · have h50i : (b : Int) - a < 50 := by omega
              have hv : Sort.partialInsertionSort ltn d a b = (dk, false) := by
                unfold Sort.partialInsertionSort
                rw [← hO.out, pi_short ltn a b s i dk hs (by rw [HK.out]; omega) h50]
              have HV := Lib.hid hv
              clear hv
              go_wp2
              go_quiet (first | (go_at_call 42; refine Calls.quiet_of_same (less _ _ _)))
              go_wp2
              go_ret
              exact ⟨by rw [HV.out]; rfl, m + nq, by rw [HV.out, HW.out]; exact putRow_drewN _ _ _ _ _ _ _⟩
            · have h50i : ¬ (b : Int) - a < 50 := by omega
              go_wp2
              go_quiet (first | (go_at_call 42; refine Calls.quiet_of_same (less _ _ _)))
              go_wp2
              go_region
              have hsw : ((wr.drewN (nq + 1)).setCell ⟨blk, off + k, none⟩ (en (G (k - 1)))).setCell ⟨blk, off + (k - 1), none⟩ (en (G k)) = putRow en (Sort.ahead w (m + (nq + 1))) blk off (swp dk k (k - 1)) := by
                rw [HW.out, HG.out, HG.out]
                exact swap_worldA _ w m (nq + 1) blk off dk k (k - 1) (by omega) (by omega)
              have hs1 : (swp dk k (k - 1)).size = d.size := by rw [size_swp]; exact hsk
              by_cases hka : 2 ≤ k - a
              · have hkai : (2 : Int) ≤ (k : Int) - a := by omega
                have HSW := Lib.hid hsw
                clear hsw hl
                go_wp2
                rw [HSW.out]
                generalize hw0 : putRow en (Sort.ahead w (m + (nq + 1))) blk off (swp dk k (k - 1)) = w0
                have HW0 := Lib.hid hw0.symm
                clear hw0 HSW hcw hfw HW HG
                go_loopw [9] (fun vj wr2 => ∃ (j m2 : Nat) (dj : Array Nat), vj = .int .i64 j ∧ j ≤ k - 1 ∧ dj.size = d.size ∧ wr2 = putRow en (Sort.ahead w m2) blk off dj ∧
                  Hid (shiftDown ltn j dj = shiftDown ltn (k - 1) (swp dk k (k - 1)))) (fun vj _ => (intO vj).toNat)
                case atStart => exact ⟨k - 1, _, swp dk k (k - 1), by congr 1; omega, Nat.le_refl _, hs1, HW0.out, rfl⟩
                case round =>
                  obtain ⟨j, m2, dj, rfl, hjk, hsj, hw2, hDn⟩ := hrel
                  have HW2 := Lib.hid hw2
                  by_cases hj1 : 1 ≤ j
                  · have hj1i : (1 : Int) ≤ (j : Int) := by omega
                    obtain ⟨G, hG⟩ : ∃ G : Nat → Nat, ∀ t, G t = dj[t]! := ⟨fun t => dj[t]!, fun _ => rfl⟩
                    have hcw : ∀ t, t < d.size → wr.cell? ⟨blk, off + t, none⟩ = some (en (G t)) := fun t ht => by
                      rw [hw2, hG]; exact cell?_putRow _ _ _ _ d dj (holds_ahead _ _ _ _ _ _ HH.out) hsj t (by omega)
                    have hfw : ∀ t, t < d.size → wr.frozen? ⟨blk, off + t, none⟩ = false := fun t ht => by
                      rw [hw2, frozen?_putRow]; exact ((holds_ahead _ _ m2 _ _ _ HH.out) t ht).2
                    have HG := Lib.hid hG
                    clear hw2 hG
                    cases hl : ltn (G j) (G (j - 1)) with
                    | true =>
                      go_wp2
                      go_quiet (first | (go_at_call 42; refine Calls.quiet_of_same (less _ _ _)))
                      go_wp2
                      go_region
                      all_goals go_wp2
                      go_roundw
                      case rel =>
                        refine ⟨j - 1, m2 + (nq + 1), swp dj j (j - 1), by congr 1; omega, by omega, by rw [size_swp]; exact hsj, ?_, ?_⟩
                        · rw [HW2.out, HG.out, HG.out]
                          exact swap_worldA _ w m2 (nq + 1) blk off dj j (j - 1) (by omega) (by omega)
                        · show _ = _
                          rw [← hDn.out, shiftDown_go ltn j dj (by omega) (by rw [← HG.out, ← HG.out]; exact hl)]
                      case measure => first | (simp [intO]; done) | (simp [intO]; omega)
                    | false =>
                      have HD : Hid (fixDown ltn a k (swp dk k (k - 1)) = dj) := by
                        show _ = _
                        unfold fixDown; rw [if_pos hka, ← hDn.out, shiftDown_stop ltn j dj (Or.inr (by rw [← HG.out, ← HG.out]; exact hl))]
                      go_wp2
                      go_quiet (first | (go_at_call 42; refine Calls.quiet_of_same (less _ _ _)))
                      have hsC := hsj
                      obtain ⟨dC, hdC⟩ : ∃ dC, dC = dj := ⟨_, rfl⟩
                      subst hdC
                      obtain ⟨mC, HWC⟩ : ∃ mC, Hid (wr.drewN nq = putRow en (Sort.ahead w mC) blk off dC) := ⟨m2 + nq, by show _ = _; rw [HW2.out]; exact putRow_drewN _ _ _ _ _ _ _⟩
                      clear HW2 hDn hjk hkai HW0
                      by_cases hb2 : 2 ≤ b - k
                      · have hb2i : (2 : Int) ≤ (b : Int) - (k : Int) := by omega
                        go_wp2
                        rw [HWC.out]
                        generalize hwC : putRow en (Sort.ahead w mC) blk off dC = wC
                        have HWD : Hid (wC = putRow en (Sort.ahead w mC) blk off dC) := hwC.symm
                        clear hwC HWC
                        go_loopw [10] (fun vj wr2 => ∃ (j m3 : Nat) (du : Array Nat), vj = .int .i64 j ∧ k + 1 ≤ j ∧ j ≤ b ∧ du.size = d.size ∧ wr2 = putRow en (Sort.ahead w m3) blk off du ∧ Hid (shiftUp ltn b j du = shiftUp ltn b (k + 1) dC)) (fun vj _ => b - (intO vj).toNat)
                        case atStart => exact ⟨k + 1, mC, dC, by go_num, Nat.le_refl _, by omega, hsC, HWD.out, rfl⟩
                        case round =>
                          obtain ⟨j, m3, du, rfl, hkj, hjb, hsu, hw3, hU⟩ := hrel
                          have HW3 := Lib.hid hw3
                          by_cases hjlt : j < b
                          · have hjlti : (j : Int) < b := by omega
                            obtain ⟨G, hG⟩ : ∃ G : Nat → Nat, ∀ t, G t = du[t]! := ⟨fun t => du[t]!, fun _ => rfl⟩
                            have hcw : ∀ t, t < d.size → wr.cell? ⟨blk, off + t, none⟩ = some (en (G t)) := fun t ht => by
                              rw [hw3, hG]; exact cell?_putRow _ _ _ _ d du (holds_ahead _ _ _ _ _ _ HH.out) hsu t (by omega)
                            have hfw : ∀ t, t < d.size → wr.frozen? ⟨blk, off + t, none⟩ = false := fun t ht => by
                              rw [hw3, frozen?_putRow]; exact ((holds_ahead _ _ m3 _ _ _ HH.out) t ht).2
                            have HW := Lib.hid hw3
                            have HG := Lib.hid hG
                            clear hw3 hG
                            cases hl : ltn (G j) (G (j - 1)) with
                            | true =>
                              go_wp2
                              go_quiet (first | (go_at_call 42; refine Calls.quiet_of_same (less _ _ _)))
                              go_wp2
                              go_region
                              all_goals go_wp2
                              go_roundw
                              case rel =>
                                refine ⟨j + 1, m3 + (nq + 1), swp du j (j - 1), by go_num, by omega, by omega, by rw [size_swp]; exact hsu, ?_, ?_⟩
                                · rw [HW.out, HG.out, HG.out]
                                  exact swap_worldA _ w m3 (nq + 1) blk off du j (j - 1) (by omega) (by omega)
                                · show _ = _
                                  rw [← hU.out, shiftUp_go ltn b j du (by omega) (by rw [← HG.out, ← HG.out]; exact hl)]
                              case measure => first | (simp [intO]; done) | (simp [intO]; omega)
                            | false =>
                              have HUP : Hid (fixUp ltn b k dC = du) := by
                                show _ = _
                                unfold fixUp; rw [if_pos hb2, ← hU.out, shiftUp_stop ltn b j du (Or.inr (by rw [← HG.out, ← HG.out]; exact hl))]
                              go_wp2
                              go_quiet (first | (go_at_call 42; refine Calls.quiet_of_same (less _ _ _)))
                              go_wp2
                              go_roundw
                              case rel =>
                                refine ⟨k, s + 1, m3 + nq, du, rfl, by go_num, by omega, by omega, by omega, hsu, by rw [HW.out]; exact putRow_drewN _ _ _ _ _ _ _, ?_⟩
                                show _ = _
                                rw [← hO.out, pi_go ltn a b s i k dk hs HK.out (by omega) (by omega), HD.out, HUP.out]
                              case measure => first | (simp [intO]; done) | (simp [intO]; omega)
                          · have hjlti : ¬ (j : Int) < b := by omega
                            clear hw3
                            have HUP : Hid (fixUp ltn b k dC = du) := by
                              show _ = _
                              unfold fixUp; rw [if_pos hb2, ← hU.out, shiftUp_stop ltn b j du (Or.inl hjlt)]
                            go_wp2
                            go_roundw
                            case rel =>
                              refine ⟨k, s + 1, m3, du, rfl, by go_num, by omega, by omega, by omega, hsu, HW3.out, ?_⟩
                              show _ = _
                              rw [← hO.out, pi_go ltn a b s i k dk hs HK.out (by omega) (by omega), HD.out, HUP.out]
                            case measure => first | (simp [intO]; done) | (simp [intO]; omega)
                      · have hb2i : ¬ (2 : Int) ≤ (b : Int) - (k : Int) := by omega
                        have HUP : Hid (fixUp ltn b k dC = dC) := by show _ = _; unfold fixUp; rw [if_neg (by omega)]
                        go_wp2
                        go_roundw
                        case rel =>
                          refine ⟨k, s + 1, mC, dC, rfl, by go_num, by omega, by omega, by omega, hsC, HWC.out, ?_⟩
                          show _ = _
                          rw [← hO.out, pi_go ltn a b s i k dk hs HK.out (by omega) (by omega), HD.out, HUP.out]
                        case measure => first | (simp [intO]; done) | (simp [intO]; omega)
                  · have hj1i : ¬ (1 : Int) ≤ (j : Int) := by omega
                    have HD : Hid (fixDown ltn a k (swp dk k (k - 1)) = dj) := by
                      show _ = _
                      unfold fixDown; rw [if_pos hka, ← hDn.out, shiftDown_stop ltn j dj (Or.inl (by omega))]
                    have hsC := hsj
                    obtain ⟨dC, hdC⟩ : ∃ dC, dC = dj := ⟨_, rfl⟩
                    subst hdC
                    obtain ⟨mC, HWC⟩ : ∃ mC, Hid (wr = putRow en (Sort.ahead w mC) blk off dC) := ⟨m2, HW2.out⟩
                    clear hw2 HW2 hDn hjk hkai HW0
                    by_cases hb2 : 2 ≤ b - k
                    · have hb2i : (2 : Int) ≤ (b : Int) - (k : Int) := by omega
                      go_wp2
                      rw [HWC.out]
                      generalize hwC : putRow en (Sort.ahead w mC) blk off dC = wC
                      have HWD : Hid (wC = putRow en (Sort.ahead w mC) blk off dC) := hwC.symm
                      clear hwC HWC
                      go_loopw [10] (fun vj wr2 => ∃ (j m3 : Nat) (du : Array Nat), vj = .int .i64 j ∧ k + 1 ≤ j ∧ j ≤ b ∧ du.size = d.size ∧ wr2 = putRow en (Sort.ahead w m3) blk off du ∧ Hid (shiftUp ltn b j du = shiftUp ltn b (k + 1) dC)) (fun vj _ => b - (intO vj).toNat)
                      case atStart => exact ⟨k + 1, mC, dC, by go_num, Nat.le_refl _, by omega, hsC, HWD.out, rfl⟩
                      case round =>
                        obtain ⟨j, m3, du, rfl, hkj, hjb, hsu, hw3, hU⟩ := hrel
                        have HW3 := Lib.hid hw3
                        by_cases hjlt : j < b
                        · have hjlti : (j : Int) < b := by omega
                          obtain ⟨G, hG⟩ : ∃ G : Nat → Nat, ∀ t, G t = du[t]! := ⟨fun t => du[t]!, fun _ => rfl⟩
                          have hcw : ∀ t, t < d.size → wr.cell? ⟨blk, off + t, none⟩ = some (en (G t)) := fun t ht => by
                            rw [hw3, hG]; exact cell?_putRow _ _ _ _ d du (holds_ahead _ _ _ _ _ _ HH.out) hsu t (by omega)
                          have hfw : ∀ t, t < d.size → wr.frozen? ⟨blk, off + t, none⟩ = false := fun t ht => by
                            rw [hw3, frozen?_putRow]; exact ((holds_ahead _ _ m3 _ _ _ HH.out) t ht).2
                          have HW := Lib.hid hw3
                          have HG := Lib.hid hG
                          clear hw3 hG
                          cases hl : ltn (G j) (G (j - 1)) with
                          | true =>
                            go_wp2
                            go_quiet (first | (go_at_call 42; refine Calls.quiet_of_same (less _ _ _)))
                            go_wp2
                            go_region
                            all_goals go_wp2
                            go_roundw
                            case rel =>
                              refine ⟨j + 1, m3 + (nq + 1), swp du j (j - 1), by go_num, by omega, by omega, by rw [size_swp]; exact hsu, ?_, ?_⟩
                              · rw [HW.out, HG.out, HG.out]
                                exact swap_worldA _ w m3 (nq + 1) blk off du j (j - 1) (by omega) (by omega)
                              · show _ = _
                                rw [← hU.out, shiftUp_go ltn b j du (by omega) (by rw [← HG.out, ← HG.out]; exact hl)]
                            case measure => first | (simp [intO]; done) | (simp [intO]; omega)
                          | false =>
                            have HUP : Hid (fixUp ltn b k dC = du) := by
                              show _ = _
                              unfold fixUp; rw [if_pos hb2, ← hU.out, shiftUp_stop ltn b j du (Or.inr (by rw [← HG.out, ← HG.out]; exact hl))]
                            go_wp2
                            go_quiet (first | (go_at_call 42; refine Calls.quiet_of_same (less _ _ _)))
                            go_wp2
                            go_roundw
                            case rel =>
                              refine ⟨k, s + 1, m3 + nq, du, rfl, by go_num, by omega, by omega, by omega, hsu, by rw [HW.out]; exact putRow_drewN _ _ _ _ _ _ _, ?_⟩
                              show _ = _
                              rw [← hO.out, pi_go ltn a b s i k dk hs HK.out (by omega) (by omega), HD.out, HUP.out]
                            case measure => first | (simp [intO]; done) | (simp [intO]; omega)
                        · have hjlti : ¬ (j : Int) < b := by omega
                          clear hw3
                          have HUP : Hid (fixUp ltn b k dC = du) := by
                            show _ = _
                            unfold fixUp; rw [if_pos hb2, ← hU.out, shiftUp_stop ltn b j du (Or.inl hjlt)]
                          go_wp2
                          go_roundw
                          case rel =>
                            refine ⟨k, s + 1, m3, du, rfl, by go_num, by omega, by omega, by omega, hsu, HW3.out, ?_⟩
                            show _ = _
                            rw [← hO.out, pi_go ltn a b s i k dk hs HK.out (by omega) (by omega), HD.out, HUP.out]
                          case measure => first | (simp [intO]; done) | (simp [intO]; omega)
                    · have hb2i : ¬ (2 : Int) ≤ (b : Int) - (k : Int) := by omega
                      have HUP : Hid (fixUp ltn b k dC = dC) := by show _ = _; unfold fixUp; rw [if_neg (by omega)]
                      go_wp2
                      go_roundw
                      case rel =>
                        refine ⟨k, s + 1, mC, dC, rfl, by go_num, by omega, by omega, by omega, hsC, HWC.out, ?_⟩
                        show _ = _
                        rw [← hO.out, pi_go ltn a b s i k dk hs HK.out (by omega) (by omega), HD.out, HUP.out]
                      case measure => first | (simp [intO]; done) | (simp [intO]; omega)
              · have hkai : ¬ (2 : Int) ≤ (k : Int) - a := by omega
                have HD : Hid (fixDown ltn a k (swp dk k (k - 1)) = swp dk k (k - 1)) := by show _ = _; unfold fixDown; rw [if_neg (by omega)]
                obtain ⟨dC, hdC⟩ : ∃ dC, swp dk k (k - 1) = dC := ⟨_, rfl⟩
                have hsC := hs1
                have hsw2 := hsw
                rw [hdC] at hsC hsw2
                have HD2 := HD
                have hdC2 := hdC
                clear hl
                obtain ⟨mC, HWC⟩ : ∃ mC, Hid (((wr.drewN (nq + 1)).setCell ⟨blk, off + k, none⟩ (en (G (k - 1)))).setCell ⟨blk, off + (k - 1), none⟩ (en (G k)) = putRow en (Sort.ahead w mC) blk off dC) := ⟨_, hsw2⟩
                replace HD : Hid (fixDown ltn a k (swp dk k (k - 1)) = dC) := by show _ = _; rw [HD.out, hdC]
                clear hsw hsw2 hdC hdC2 HD2
                by_cases hb2 : 2 ≤ b - k
                · have hb2i : (2 : Int) ≤ (b : Int) - (k : Int) := by omega
                  go_wp2
                  rw [HWC.out]
                  generalize hwC : putRow en (Sort.ahead w mC) blk off dC = wC
                  have HWD : Hid (wC = putRow en (Sort.ahead w mC) blk off dC) := hwC.symm
                  clear hwC HWC
                  go_loopw [10] (fun vj wr2 => ∃ (j m3 : Nat) (du : Array Nat), vj = .int .i64 j ∧ k + 1 ≤ j ∧ j ≤ b ∧ du.size = d.size ∧ wr2 = putRow en (Sort.ahead w m3) blk off du ∧ Hid (shiftUp ltn b j du = shiftUp ltn b (k + 1) dC)) (fun vj _ => b - (intO vj).toNat)
                  case atStart => exact ⟨k + 1, mC, dC, by go_num, Nat.le_refl _, by omega, hsC, HWD.out, rfl⟩
                  case round =>
                    obtain ⟨j, m3, du, rfl, hkj, hjb, hsu, hw3, hU⟩ := hrel
                    have HW3 := Lib.hid hw3
                    by_cases hjlt : j < b
                    · have hjlti : (j : Int) < b := by omega
                      obtain ⟨G, hG⟩ : ∃ G : Nat → Nat, ∀ t, G t = du[t]! := ⟨fun t => du[t]!, fun _ => rfl⟩
                      have hcw : ∀ t, t < d.size → wr.cell? ⟨blk, off + t, none⟩ = some (en (G t)) := fun t ht => by
                        rw [hw3, hG]; exact cell?_putRow _ _ _ _ d du (holds_ahead _ _ _ _ _ _ HH.out) hsu t (by omega)
                      have hfw : ∀ t, t < d.size → wr.frozen? ⟨blk, off + t, none⟩ = false := fun t ht => by
                        rw [hw3, frozen?_putRow]; exact ((holds_ahead _ _ m3 _ _ _ HH.out) t ht).2
                      have HW := Lib.hid hw3
                      have HG := Lib.hid hG
                      clear hw3 hG
                      cases hl : ltn (G j) (G (j - 1)) with
                      | true =>
                        go_wp2
                        go_quiet (first | (go_at_call 42; refine Calls.quiet_of_same (less _ _ _)))
                        go_wp2
                        go_region
                        all_goals go_wp2
                        go_roundw
                        case rel =>
                          refine ⟨j + 1, m3 + (nq + 1), swp du j (j - 1), by go_num, by omega, by omega, by rw [size_swp]; exact hsu, ?_, ?_⟩
                          · rw [HW.out, HG.out, HG.out]
                            exact swap_worldA _ w m3 (nq + 1) blk off du j (j - 1) (by omega) (by omega)
                          · show _ = _
                            rw [← hU.out, shiftUp_go ltn b j du (by omega) (by rw [← HG.out, ← HG.out]; exact hl)]
                        case measure => first | (simp [intO]; done) | (simp [intO]; omega)
                      | false =>
                        have HUP : Hid (fixUp ltn b k dC = du) := by
                          show _ = _
                          unfold fixUp; rw [if_pos hb2, ← hU.out, shiftUp_stop ltn b j du (Or.inr (by rw [← HG.out, ← HG.out]; exact hl))]
                        go_wp2
                        go_quiet (first | (go_at_call 42; refine Calls.quiet_of_same (less _ _ _)))
                        go_wp2
                        go_roundw
                        case rel =>
                          refine ⟨k, s + 1, m3 + nq, du, rfl, by go_num, by omega, by omega, by omega, hsu, by rw [HW.out]; exact putRow_drewN _ _ _ _ _ _ _, ?_⟩
                          show _ = _
                          rw [← hO.out, pi_go ltn a b s i k dk hs HK.out (by omega) (by omega), HD.out, HUP.out]
                        case measure => first | (simp [intO]; done) | (simp [intO]; omega)
                    · have hjlti : ¬ (j : Int) < b := by omega
                      clear hw3
                      have HUP : Hid (fixUp ltn b k dC = du) := by
                        show _ = _
                        unfold fixUp; rw [if_pos hb2, ← hU.out, shiftUp_stop ltn b j du (Or.inl hjlt)]
                      go_wp2
                      go_roundw
                      case rel =>
                        refine ⟨k, s + 1, m3, du, rfl, by go_num, by omega, by omega, by omega, hsu, HW3.out, ?_⟩
                        show _ = _
                        rw [← hO.out, pi_go ltn a b s i k dk hs HK.out (by omega) (by omega), HD.out, HUP.out]
                      case measure => first | (simp [intO]; done) | (simp [intO]; omega)
                · have hb2i : ¬ (2 : Int) ≤ (b : Int) - (k : Int) := by omega
                  have HUP : Hid (fixUp ltn b k dC = dC) := by show _ = _; unfold fixUp; rw [if_neg (by omega)]
                  go_wp2
                  go_roundw
                  case rel =>
                    refine ⟨k, s + 1, mC, dC, rfl, by go_num, by omega, by omega, by omega, hsC, HWC.out, ?_⟩
                    show _ = _
                    rw [← hO.out, pi_go ltn a b s i k dk hs HK.out (by omega) (by omega), HD.out, HUP.out]
                  case measure => first | (simp [intO]; done) | (simp [intO]; omega)
        · have hkbi : ¬ (k : Int) < b := by omega
          have hv : Sort.partialInsertionSort ltn d a b = (dk, true) := by
            unfold Sort.partialInsertionSort
            rw [← hO.out, pi_true ltn a b s i dk hs (by rw [← hS.out, scanSorted_stop ltn dk b k (Or.inl hkb')]; omega)]
          have HV := Lib.hid hv
          have hkeq : ((k : Int) == b) = true := by rw [beq_iff_eq]; omega
          clear hv
          go_wp2
          go_quiet (first | (go_at_call 42; refine Calls.quiet_of_same (less _ _ _)))
          go_wp2
          go_ret
          exact ⟨by rw [HV.out]; rfl, m + nq, by rw [HV.out, HW.out]; exact putRow_drewN _ _ _ _ _ _ _⟩
    · have hsi : ¬ (s : Int) < 5 := by omega
      have hv : Sort.partialInsertionSort ltn d a b = (dk, false) := by
        unfold Sort.partialInsertionSort
        obtain rfl : s = 5 := by omega
        rw [← hO.out, pi_end]
      have HV := Lib.hid hv
      have HWR := Lib.hid hwr
      clear hv hwr
      go_wp2
      go_ret
      exact ⟨by rw [HV.out]; rfl, n, by rw [HV.out]; exact HWR.out⟩
end Go.Proofs.Ythnlggecjdifnaa.sortUint32
