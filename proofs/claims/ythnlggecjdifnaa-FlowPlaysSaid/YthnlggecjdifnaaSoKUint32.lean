/- The library's sort at uint32: what is less than the pivot before it, the rest behind. -/
import Derived.Test.YthnlggecjdifnaaSoAUint32
import Derived.Sort.WalkC4
import Derived.Sort.WalkA6
namespace Go.Proofs.Ythnlggecjdifnaa.sortUint32
set_option linter.unusedVariables false
set_option linter.unusedSimpArgs false
open Go.RowKit Go.Sort Go.Proofs.Ythnlggecjdifnaa
set_option maxRecDepth 100000 in
set_option maxHeartbeats 16000000 in
theorem partU (blk off cap a b pivot : Nat) (d : Array Nat) (w : World) (hH : Holds en w blk off d) (hap : a ≤ pivot) (hpb : pivot < b) (hb : b ≤ d.size) (hsz : d.size < 4611686018427387904) :
    Calls Try.prog 44 #[.slice (some ⟨blk, off, none⟩) d.size cap, .int .i64 a, .int .i64 b, .int .i64 pivot] w fun e w' =>
      e = .returned (.tuple #[.int .i64 (Sort.partition ltn d a b pivot).1, .bool (Sort.partition ltn d a b pivot).2.1]) ∧ ∃ n, w' = putRow en (Sort.ahead w n) blk off (Sort.partition ltn d a b pivot).2.2 := by
  obtain ⟨G, hG⟩ : ∃ G : Nat → Nat, ∀ t, G t = d[t]! := ⟨fun t => d[t]!, fun _ => rfl⟩
  have hcw : ∀ t, t < d.size → w.cell? ⟨blk, off + t, none⟩ = some (en (G t)) := fun t ht => by rw [hG]; exact (hH t ht).1
  have hfw : ∀ t, t < d.size → w.frozen? ⟨blk, off + t, none⟩ = false := fun t ht => (hH t ht).2
  have hsw : ((w.drewN 1).setCell ⟨blk, off + a, none⟩ (en (G pivot))).setCell ⟨blk, off + pivot, none⟩ (en (G a)) = putRow en (Sort.ahead w (0 + 1)) blk off (swp d a pivot) := by
    have e := swap_worldA en w 0 1 blk off d a pivot (by omega) (by omega)
    rw [ahead_zero, putRow_self _ w blk off d hH] at e
    rw [hG, hG]
    exact e
  have hla : a < d.size := by omega
  have hlp : pivot < d.size := by omega
  obtain ⟨v', hy'⟩ := cell?_setCell_some (w := w) (p := ⟨blk, off + a, none⟩) (x := en (G pivot)) (q := ⟨blk, off + pivot, none⟩) (hcw pivot hlp)
  have HH := Lib.hid hH
  have HSW := Lib.hid hsw
  clear hH hG hsw
  go_enter Try.func44, Try.ntmps44
  go_wp2
  go_region
  go_wp2
  clear hcw hfw hy'
  have e1 : ((a : Int) + 1) = ((a + 1 : Nat) : Int) := by omega
  have e2 : ((b : Int) - 1) = ((b - 1 : Nat) : Int) := by omega
  rw [e1, e2]
  clear e1 e2
  obtain ⟨i, hi⟩ : ∃ i, i = a + 1 := ⟨_, rfl⟩
  obtain ⟨j, hj⟩ : ∃ j, j = b - 1 := ⟨_, rfl⟩
  obtain ⟨dk, hdk⟩ : ∃ dk, dk = swp d a pivot := ⟨_, rfl⟩
  rw [← hi, ← hj]
  rw [← hdk] at HSW
  have hai : a < i := by omega
  have hij : i ≤ j + 1 := by omega
  have hjb : j < b := by omega
  have hsk : dk.size = d.size := by rw [hdk, size_swp]
  obtain ⟨n, HWR⟩ : ∃ n, Hid (((w.drewN 1).setCell ⟨blk, off + a, none⟩ (en (G pivot))).setCell ⟨blk, off + pivot, none⟩ (en (G a)) = putRow en (Sort.ahead w n) blk off dk) := ⟨_, HSW.out⟩
  have HI := Lib.hid hi
  have HJ := Lib.hid hj
  have HDK := Lib.hid hdk
  clear hi hj hdk HSW
  obtain ⟨G, hG⟩ : ∃ G : Nat → Nat, ∀ t, G t = dk[t]! := ⟨fun t => dk[t]!, fun _ => rfl⟩
  have HG := Lib.hid hG
  clear hG
  go_loopw [10] (fun vi wr2 => ∃ (i' m : Nat), vi = .int .i64 i' ∧ i ≤ i' ∧ i' ≤ j + 1 ∧ wr2 = putRow en (Sort.ahead w m) blk off dk ∧
      Hid (scanUp (fun x => ltn x dk[a]!) dk j i' = scanUp (fun x => ltn x dk[a]!) dk j i)) (fun vi _ => j + 1 - (intO vi).toNat)
  case atStart => exact ⟨i, n, rfl, Nat.le_refl _, hij, HWR.out, rfl⟩
  case round =>
    obtain ⟨i', m, rfl, hii, hij', hw1, hsc⟩ := hrel
    have hcw : ∀ t, t < d.size → wr.cell? ⟨blk, off + t, none⟩ = some (en (G t)) := fun t ht => by
      rw [hw1, HG.out]; exact cell?_putRow _ _ _ _ d dk (holds_ahead _ _ _ _ _ _ HH.out) hsk t (by omega)
    have hfw : ∀ t, t < d.size → wr.frozen? ⟨blk, off + t, none⟩ = false := fun t ht => by
      rw [hw1, frozen?_putRow]; exact ((holds_ahead _ _ m _ _ _ HH.out) t ht).2
    have HW1 := Lib.hid hw1
    clear hw1
    by_cases hle : i' ≤ j
    · have hlei : (i' : Int) ≤ j := by omega
      cases hl : ltn (G i') (G a) with
      | true =>
        go_wp2
        go_quiet (first | (go_at_call 42; refine Calls.quiet_of_same (less _ _ _)))
        go_wp2
        go_roundw
        case rel =>
          refine ⟨i' + 1, m + nq, by go_num, by omega, by omega, by rw [HW1.out]; exact putRow_drewN _ _ _ _ _ _ _, ?_⟩
          show _ = _
          rw [← hsc.out]
          exact (scanUp_go (fun x => ltn x dk[a]!) dk j i' hle (by rw [← HG.out, ← HG.out]; exact hl)).symm
        case measure => first | (simp [intO]; done) | (simp [intO]; omega)
      | false =>
        have hi2 : Hid (i' = scanUp (fun x => ltn x dk[a]!) dk j i) := (scanUp_end (fun x => ltn x dk[a]!) dk j i' (Or.inr (by rw [← HG.out, ← HG.out]; exact hl))).symm.trans hsc.out
        go_wp2
        go_quiet (first | (go_at_call 42; refine Calls.quiet_of_same (less _ _ _)))
        obtain ⟨mU, HWU⟩ : ∃ mU, Hid (wr.drewN nq = putRow en (Sort.ahead w mU) blk off dk) := ⟨m + nq, by show _ = _; rw [HW1.out]; exact putRow_drewN _ _ _ _ _ _ _⟩
        clear hcw hfw HW1 hsc
        go_wp2
        go_loopw [11] (fun vj wr2 => ∃ (j' m2 : Nat), vj = .int .i64 j' ∧ j' ≤ j ∧ i' ≤ j' + 1 ∧ wr2 = putRow en (Sort.ahead w m2) blk off dk ∧
            Hid (scanDown (fun x => !ltn x dk[a]!) dk i' j' = scanDown (fun x => !ltn x dk[a]!) dk i' j)) (fun vj _ => (intO vj).toNat)
        case atStart => exact ⟨j, mU, rfl, Nat.le_refl _, hij', HWU.out, rfl⟩
        case round =>
          obtain ⟨j', m2, rfl, hjj, hij2, hw2, hsd⟩ := hrel
          have hcw : ∀ t, t < d.size → wr.cell? ⟨blk, off + t, none⟩ = some (en (G t)) := fun t ht => by
            rw [hw2, HG.out]; exact cell?_putRow _ _ _ _ d dk (holds_ahead _ _ _ _ _ _ HH.out) hsk t (by omega)
          have hfw : ∀ t, t < d.size → wr.frozen? ⟨blk, off + t, none⟩ = false := fun t ht => by
            rw [hw2, frozen?_putRow]; exact ((holds_ahead _ _ m2 _ _ _ HH.out) t ht).2
          have HW2 := Lib.hid hw2
          clear hw2
          by_cases hle2 : i' ≤ j'
          · have hle2i : (i' : Int) ≤ j' := by omega
            cases hl2 : ltn (G j') (G a) with
            | false =>
              go_wp2
              go_quiet (first | (go_at_call 42; refine Calls.quiet_of_same (less _ _ _)))
              go_wp2
              go_roundw
              case rel =>
                refine ⟨j' - 1, m2 + nq, by congr 1; omega, by omega, by omega, by rw [HW2.out]; exact putRow_drewN _ _ _ _ _ _ _, ?_⟩
                show _ = _
                rw [← hsd.out]
                exact (scanDown_go (fun x => !ltn x dk[a]!) dk i' j' hle2 (by omega) (by rw [← HG.out, ← HG.out, hl2]; rfl)).symm
              case measure => first | (simp [intO]; done) | (simp [intO]; omega)
            | true =>
              have hj2 : Hid (j' = scanDown (fun x => !ltn x dk[a]!) dk i' j) := (scanDown_end (fun x => !ltn x dk[a]!) dk i' j' (Or.inr (by rw [← HG.out, ← HG.out, hl2]; rfl))).symm.trans hsd.out
              have hlt3 := part_scans_lt ltn a i j dk (by omega) hi2.out hj2.out hle2
              have hgt : ¬ (j' : Int) < i' := by omega
              go_wp2
              go_quiet (first | (go_at_call 42; refine Calls.quiet_of_same (less _ _ _)))
              go_wp2
              go_region
              all_goals go_wp2
              obtain ⟨dn, hdn⟩ : ∃ dn, swp dk i' j' = dn := ⟨_, rfl⟩
              have hsn : dn.size = d.size := by rw [← hdn, size_swp]; exact hsk
              obtain ⟨R, hR⟩ : ∃ R, partLoop ltn a (i' + 1) (j' - 1) dn = R := ⟨_, rfl⟩
              have hP : Sort.partition ltn d a b pivot = (R.1, false, swp R.2 R.1 a) := by
                rw [part_first_go ltn d a b pivot HI.out HJ.out HDK.out hi2.out hj2.out (by omega), hdn, hR]
              have hWn : ((wr.drewN (nq + 1)).setCell ⟨blk, off + i', none⟩ (en (G j'))).setCell ⟨blk, off + j', none⟩ (en (G i')) = putRow en (Sort.ahead w (m2 + (nq + 1))) blk off dn := by
                rw [HW2.out, HG.out, HG.out, ← hdn]
                exact swap_worldA _ w m2 (nq + 1) blk off dk i' j' (by omega) (by omega)
              have HP := Lib.hid hP
              have HR := Lib.hid hR
              have HWn := Lib.hid hWn
              clear hP hR hWn hdn hcw hfw HG HW2 HI HJ HDK hi2 hj2 hsd
              generalize Value.bool (decide (j' < i')) = x65
              generalize Value.bool (ltn (G j') (G a)) = x58
              go_loopw [10, 11] (fun vi vj wr => ∃ (i j n : Nat) (dk : Array Nat), vi = .int .i64 i ∧ vj = .int .i64 j ∧ a < i ∧ i ≤ j + 1 ∧ j < b ∧ dk.size = d.size ∧ wr = putRow en (Sort.ahead w n) blk off dk ∧
                  Hid (partLoop ltn a i j dk = partLoop ltn a (i' + 1) (j' - 1) dn)) (fun vi vj _ => (intO vj).toNat + 1 - (intO vi).toNat)
              case atStart => exact ⟨i' + 1, j' - 1, _, dn, by go_num, by congr 1; omega, by omega, by omega, by omega, hsn, HWn.out, rfl⟩
              case round =>
                clear HWn hsk hai hij hjb hij' hij2 hlt3
                rename_i i1 j1 _ _
                obtain ⟨i, j, n, dk, rfl, rfl, hai, hij, hjb, hsk, hwr, hE⟩ := hrel
                obtain ⟨G, hG⟩ : ∃ G : Nat → Nat, ∀ t, G t = dk[t]! := ⟨fun t => dk[t]!, fun _ => rfl⟩
                have HG := Lib.hid hG
                have HWR := Lib.hid hwr
                clear hG hwr
                go_wp2
                go_loopw [10] (fun vi wr2 => ∃ (i' m : Nat), vi = .int .i64 i' ∧ i ≤ i' ∧ i' ≤ j + 1 ∧ wr2 = putRow en (Sort.ahead w m) blk off dk ∧
                    Hid (scanUp (fun x => ltn x dk[a]!) dk j i' = scanUp (fun x => ltn x dk[a]!) dk j i)) (fun vi _ => j + 1 - (intO vi).toNat)
                case atStart => exact ⟨i, n, rfl, Nat.le_refl _, hij, HWR.out, rfl⟩
                case round =>
                  obtain ⟨i', m, rfl, hii, hij', hw1, hsc⟩ := hrel
                  have hcw : ∀ t, t < d.size → wr.cell? ⟨blk, off + t, none⟩ = some (en (G t)) := fun t ht => by
                    rw [hw1, HG.out]; exact cell?_putRow _ _ _ _ d dk (holds_ahead _ _ _ _ _ _ HH.out) hsk t (by omega)
                  have hfw : ∀ t, t < d.size → wr.frozen? ⟨blk, off + t, none⟩ = false := fun t ht => by
                    rw [hw1, frozen?_putRow]; exact ((holds_ahead _ _ m _ _ _ HH.out) t ht).2
                  have HW1 := Lib.hid hw1
                  clear hw1
                  by_cases hle : i' ≤ j
                  · have hlei : (i' : Int) ≤ j := by omega
                    cases hl : ltn (G i') (G a) with
                    | true =>
                      go_wp2
                      go_quiet (first | (go_at_call 42; refine Calls.quiet_of_same (less _ _ _)))
                      go_wp2
                      go_roundw
                      case rel =>
                        refine ⟨i' + 1, m + nq, by go_num, by omega, by omega, by rw [HW1.out]; exact putRow_drewN _ _ _ _ _ _ _, ?_⟩
                        show _ = _
                        rw [← hsc.out]
                        exact (scanUp_go (fun x => ltn x dk[a]!) dk j i' hle (by rw [← HG.out, ← HG.out]; exact hl)).symm
                      case measure => first | (simp [intO]; done) | (simp [intO]; omega)
                    | false =>
                      have hi2 : Hid (i' = scanUp (fun x => ltn x dk[a]!) dk j i) := (scanUp_end (fun x => ltn x dk[a]!) dk j i' (Or.inr (by rw [← HG.out, ← HG.out]; exact hl))).symm.trans hsc.out
                      go_wp2
                      go_quiet (first | (go_at_call 42; refine Calls.quiet_of_same (less _ _ _)))
                      obtain ⟨mU, HWU⟩ : ∃ mU, Hid (wr.drewN nq = putRow en (Sort.ahead w mU) blk off dk) := ⟨m + nq, by show _ = _; rw [HW1.out]; exact putRow_drewN _ _ _ _ _ _ _⟩
                      clear hcw hfw HW1 hsc
                      go_wp2
                      go_loopw [11] (fun vj wr2 => ∃ (j' m2 : Nat), vj = .int .i64 j' ∧ j' ≤ j ∧ i' ≤ j' + 1 ∧ wr2 = putRow en (Sort.ahead w m2) blk off dk ∧
                          Hid (scanDown (fun x => !ltn x dk[a]!) dk i' j' = scanDown (fun x => !ltn x dk[a]!) dk i' j)) (fun vj _ => (intO vj).toNat)
                      case atStart => exact ⟨j, mU, rfl, Nat.le_refl _, hij', HWU.out, rfl⟩
                      case round =>
                        obtain ⟨j', m2, rfl, hjj, hij2, hw2, hsd⟩ := hrel
                        have hcw : ∀ t, t < d.size → wr.cell? ⟨blk, off + t, none⟩ = some (en (G t)) := fun t ht => by
                          rw [hw2, HG.out]; exact cell?_putRow _ _ _ _ d dk (holds_ahead _ _ _ _ _ _ HH.out) hsk t (by omega)
                        have hfw : ∀ t, t < d.size → wr.frozen? ⟨blk, off + t, none⟩ = false := fun t ht => by
                          rw [hw2, frozen?_putRow]; exact ((holds_ahead _ _ m2 _ _ _ HH.out) t ht).2
                        have HW2 := Lib.hid hw2
                        clear hw2
                        by_cases hle2 : i' ≤ j'
                        · have hle2i : (i' : Int) ≤ j' := by omega
                          cases hl2 : ltn (G j') (G a) with
                          | false =>
                            go_wp2
                            go_quiet (first | (go_at_call 42; refine Calls.quiet_of_same (less _ _ _)))
                            go_wp2
                            go_roundw
                            case rel =>
                              refine ⟨j' - 1, m2 + nq, by congr 1; omega, by omega, by omega, by rw [HW2.out]; exact putRow_drewN _ _ _ _ _ _ _, ?_⟩
                              show _ = _
                              rw [← hsd.out]
                              exact (scanDown_go (fun x => !ltn x dk[a]!) dk i' j' hle2 (by omega) (by rw [← HG.out, ← HG.out, hl2]; rfl)).symm
                            case measure => first | (simp [intO]; done) | (simp [intO]; omega)
                          | true =>
                            have hj2 : Hid (j' = scanDown (fun x => !ltn x dk[a]!) dk i' j) := (scanDown_end (fun x => !ltn x dk[a]!) dk i' j' (Or.inr (by rw [← HG.out, ← HG.out, hl2]; rfl))).symm.trans hsd.out
                            have hlt3 := part_scans_lt ltn a i j dk (by omega) hi2.out hj2.out hle2
                            have hgt : ¬ (j' : Int) < i' := by omega
                            go_wp2
                            go_quiet (first | (go_at_call 42; refine Calls.quiet_of_same (less _ _ _)))
                            go_wp2
                            go_region
                            all_goals go_wp2
                            go_roundw
                            case rel =>
                              refine ⟨i' + 1, j' - 1, m2 + (nq + 1), swp dk i' j', by go_num, by congr 1; omega, by omega, by omega, by omega, by rw [size_swp]; exact hsk, ?_, ?_⟩
                              · rw [HW2.out, HG.out, HG.out]
                                exact swap_worldA _ w m2 (nq + 1) blk off dk i' j' (by omega) (by omega)
                              · show _ = _
                                rw [← hE.out]; exact (part_go ltn a i j dk hi2.out hj2.out (by omega)).symm
                            case measure => first | (simp [intO]; done) | (simp [intO]; omega)
                        · have hle2i : ¬ (i' : Int) ≤ j' := by omega
                          have hj2 : Hid (j' = scanDown (fun x => !ltn x dk[a]!) dk i' j) := (scanDown_end (fun x => !ltn x dk[a]!) dk i' j' (Or.inl hle2)).symm.trans hsd.out
                          have hgt : (j' : Int) < i' := by omega
                          have hjd : j' < d.size := by omega
                          have had : a < d.size := by omega
                          have hv : Sort.partition ltn d a b pivot = (j', false, swp dk j' a) := by
                            rw [HP.out, ← HR.out, ← hE.out, part_break ltn a i j dk hi2.out hj2.out (by omega)]
                          have HV := Lib.hid hv
                          clear hv
                          go_wp2
                          go_quiet (first | (go_at_call 42; refine Calls.quiet_of_same (less _ _ _)))
                          obtain ⟨v', hy'⟩ := cell?_setCell_some (w := wr.drewN (nq + 1)) (p := ⟨blk, off + j', none⟩) (x := en (G a)) (q := ⟨blk, off + a, none⟩) (hcw a had)
                          go_wp2
                          go_region
                          go_wp2
                          go_ret2
                          refine ⟨by rw [HV.out]; rfl, m2 + (nq + 1), ?_⟩
                          rw [HV.out, HW2.out, HG.out, HG.out]
                          exact swap_worldA _ w m2 (nq + 1) blk off dk j' a (by omega) (by omega)
                  · have hlei : ¬ (i' : Int) ≤ j := by omega
                    have hi2 : Hid (i' = scanUp (fun x => ltn x dk[a]!) dk j i) := (scanUp_end (fun x => ltn x dk[a]!) dk j i' (Or.inl hle)).symm.trans hsc.out
                    go_wp2
                    go_quiet (first | (go_at_call 42; refine Calls.quiet_of_same (less _ _ _)))
                    obtain ⟨mU, HWU⟩ : ∃ mU, Hid (wr.drewN nq = putRow en (Sort.ahead w mU) blk off dk) := ⟨m + nq, by show _ = _; rw [HW1.out]; exact putRow_drewN _ _ _ _ _ _ _⟩
                    clear hcw hfw HW1 hsc
                    go_wp2
                    go_loopw [11] (fun vj wr2 => ∃ (j' m2 : Nat), vj = .int .i64 j' ∧ j' ≤ j ∧ i' ≤ j' + 1 ∧ wr2 = putRow en (Sort.ahead w m2) blk off dk ∧
                        Hid (scanDown (fun x => !ltn x dk[a]!) dk i' j' = scanDown (fun x => !ltn x dk[a]!) dk i' j)) (fun vj _ => (intO vj).toNat)
                    case atStart => exact ⟨j, mU, rfl, Nat.le_refl _, hij', HWU.out, rfl⟩
                    case round =>
                      obtain ⟨j', m2, rfl, hjj, hij2, hw2, hsd⟩ := hrel
                      have hcw : ∀ t, t < d.size → wr.cell? ⟨blk, off + t, none⟩ = some (en (G t)) := fun t ht => by
                        rw [hw2, HG.out]; exact cell?_putRow _ _ _ _ d dk (holds_ahead _ _ _ _ _ _ HH.out) hsk t (by omega)
                      have hfw : ∀ t, t < d.size → wr.frozen? ⟨blk, off + t, none⟩ = false := fun t ht => by
                        rw [hw2, frozen?_putRow]; exact ((holds_ahead _ _ m2 _ _ _ HH.out) t ht).2
                      have HW2 := Lib.hid hw2
                      clear hw2
                      by_cases hle2 : i' ≤ j'
                      · exfalso; omega
                      · have hle2i : ¬ (i' : Int) ≤ j' := by omega
                        have hj2 : Hid (j' = scanDown (fun x => !ltn x dk[a]!) dk i' j) := (scanDown_end (fun x => !ltn x dk[a]!) dk i' j' (Or.inl hle2)).symm.trans hsd.out
                        have hgt : (j' : Int) < i' := by omega
                        have hjd : j' < d.size := by omega
                        have had : a < d.size := by omega
                        have hv : Sort.partition ltn d a b pivot = (j', false, swp dk j' a) := by
                          rw [HP.out, ← HR.out, ← hE.out, part_break ltn a i j dk hi2.out hj2.out (by omega)]
                        have HV := Lib.hid hv
                        clear hv
                        go_wp2
                        go_quiet (first | (go_at_call 42; refine Calls.quiet_of_same (less _ _ _)))
                        obtain ⟨v', hy'⟩ := cell?_setCell_some (w := wr.drewN (nq + 1)) (p := ⟨blk, off + j', none⟩) (x := en (G a)) (q := ⟨blk, off + a, none⟩) (hcw a had)
                        go_wp2
                        go_region
                        go_wp2
                        go_ret2
                        refine ⟨by rw [HV.out]; rfl, m2 + (nq + 1), ?_⟩
                        rw [HV.out, HW2.out, HG.out, HG.out]
                        exact swap_worldA _ w m2 (nq + 1) blk off dk j' a (by omega) (by omega)
          · have hle2i : ¬ (i' : Int) ≤ j' := by omega
            have hj2 : Hid (j' = scanDown (fun x => !ltn x dk[a]!) dk i' j) := (scanDown_end (fun x => !ltn x dk[a]!) dk i' j' (Or.inl hle2)).symm.trans hsd.out
            have hgt : (j' : Int) < i' := by omega
            have hjd : j' < d.size := by omega
            have had : a < d.size := by omega
            have hv : Sort.partition ltn d a b pivot = (j', true, swp dk j' a) := part_first_break ltn d a b pivot HI.out HJ.out HDK.out hi2.out hj2.out (by omega)
            have HV := Lib.hid hv
            clear hv
            go_wp2
            go_quiet (first | (go_at_call 42; refine Calls.quiet_of_same (less _ _ _)))
            obtain ⟨v', hy'⟩ := cell?_setCell_some (w := wr.drewN (nq + 1)) (p := ⟨blk, off + j', none⟩) (x := en (G a)) (q := ⟨blk, off + a, none⟩) (hcw a had)
            go_wp2
            go_region
            go_wp2
            go_ret2
            refine ⟨by rw [HV.out]; rfl, m2 + (nq + 1), ?_⟩
            rw [HV.out, HW2.out, HG.out, HG.out]
            exact swap_worldA _ w m2 (nq + 1) blk off dk j' a (by omega) (by omega)
    · have hlei : ¬ (i' : Int) ≤ j := by omega
      have hi2 : Hid (i' = scanUp (fun x => ltn x dk[a]!) dk j i) := (scanUp_end (fun x => ltn x dk[a]!) dk j i' (Or.inl hle)).symm.trans hsc.out
      go_wp2
      go_quiet (first | (go_at_call 42; refine Calls.quiet_of_same (less _ _ _)))
      obtain ⟨mU, HWU⟩ : ∃ mU, Hid (wr.drewN nq = putRow en (Sort.ahead w mU) blk off dk) := ⟨m + nq, by show _ = _; rw [HW1.out]; exact putRow_drewN _ _ _ _ _ _ _⟩
      clear hcw hfw HW1 hsc
      go_wp2
      go_loopw [11] (fun vj wr2 => ∃ (j' m2 : Nat), vj = .int .i64 j' ∧ j' ≤ j ∧ i' ≤ j' + 1 ∧ wr2 = putRow en (Sort.ahead w m2) blk off dk ∧
          Hid (scanDown (fun x => !ltn x dk[a]!) dk i' j' = scanDown (fun x => !ltn x dk[a]!) dk i' j)) (fun vj _ => (intO vj).toNat)
      case atStart => exact ⟨j, mU, rfl, Nat.le_refl _, hij', HWU.out, rfl⟩
      case round =>
        obtain ⟨j', m2, rfl, hjj, hij2, hw2, hsd⟩ := hrel
        have hcw : ∀ t, t < d.size → wr.cell? ⟨blk, off + t, none⟩ = some (en (G t)) := fun t ht => by
          rw [hw2, HG.out]; exact cell?_putRow _ _ _ _ d dk (holds_ahead _ _ _ _ _ _ HH.out) hsk t (by omega)
        have hfw : ∀ t, t < d.size → wr.frozen? ⟨blk, off + t, none⟩ = false := fun t ht => by
          rw [hw2, frozen?_putRow]; exact ((holds_ahead _ _ m2 _ _ _ HH.out) t ht).2
        have HW2 := Lib.hid hw2
        clear hw2
        by_cases hle2 : i' ≤ j'
        · exfalso; omega
        · have hle2i : ¬ (i' : Int) ≤ j' := by omega
          have hj2 : Hid (j' = scanDown (fun x => !ltn x dk[a]!) dk i' j) := (scanDown_end (fun x => !ltn x dk[a]!) dk i' j' (Or.inl hle2)).symm.trans hsd.out
          have hgt : (j' : Int) < i' := by omega
          have hjd : j' < d.size := by omega
          have had : a < d.size := by omega
          have hv : Sort.partition ltn d a b pivot = (j', true, swp dk j' a) := part_first_break ltn d a b pivot HI.out HJ.out HDK.out hi2.out hj2.out (by omega)
          have HV := Lib.hid hv
          clear hv
          go_wp2
          go_quiet (first | (go_at_call 42; refine Calls.quiet_of_same (less _ _ _)))
          obtain ⟨v', hy'⟩ := cell?_setCell_some (w := wr.drewN (nq + 1)) (p := ⟨blk, off + j', none⟩) (x := en (G a)) (q := ⟨blk, off + a, none⟩) (hcw a had)
          go_wp2
          go_region
          go_wp2
          go_ret2
          refine ⟨by rw [HV.out]; rfl, m2 + (nq + 1), ?_⟩
          rw [HV.out, HW2.out, HG.out, HG.out]
          exact swap_worldA _ w m2 (nq + 1) blk off dk j' a (by omega) (by omega)
end Go.Proofs.Ythnlggecjdifnaa.sortUint32
