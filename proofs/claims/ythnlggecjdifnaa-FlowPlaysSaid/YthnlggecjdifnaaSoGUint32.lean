/- The library's sort at uint32: the heap sort. -/
import Derived.Test.YthnlggecjdifnaaSoFUint32
namespace Go.Proofs.Ythnlggecjdifnaa.sortUint32
set_option linter.unusedVariables false
set_option linter.unusedSimpArgs false
open Go.RowKit Go.Sort Go.Proofs.Ythnlggecjdifnaa
set_option maxRecDepth 100000 in
set_option maxHeartbeats 8000000 in
theorem heapU (blk off cap a b : Nat) (d : Array Nat) (w : World) (hH : Holds en w blk off d) (hab : a ≤ b) (hb : b ≤ d.size) (hsz : d.size < 2305843009213693952) :
    Calls Try.prog 37 #[.slice (some ⟨blk, off, none⟩) d.size cap, .int .i64 a, .int .i64 b] w fun e w' => e = .returned (.tuple #[]) ∧ ∃ n, w' = putRow en (Sort.ahead w n) blk off (Sort.heapSort ltn d a b) := by
  obtain ⟨h, hh⟩ : ∃ h, b - a = h := ⟨_, rfl⟩
  have hhI : (b : Int) - (a : Int) = (h : Int) := by omega
  obtain ⟨k0, hk0⟩ : ∃ k, (h - 1) / 2 + 1 = k := ⟨_, rfl⟩
  have hq : ((h : Int) - 1).tdiv 2 = (k0 : Int) - 1 := by
    by_cases h0 : h = 0
    · subst h0; subst hk0; rfl
    · rw [Int.tdiv_eq_ediv_of_nonneg (by omega)]; omega
  have hFH : a + h ≤ d.size := by omega
  have HS : Hid (heapPop ltn a h (heapBuild ltn h a k0 d) = Sort.heapSort ltn d a b) := by show _ = _; unfold Sort.heapSort; rw [hh, hk0]
  have hk0b : k0 ≤ h + 1 := by omega
  have HD := Lib.hid (fun (lo hi : Nat) (D : Array Nat) (W : World) (h1 : Holds en W blk off D) (h2 : lo ≤ hi) (h3 : a + hi ≤ D.size) (h4 : D.size = d.size) => (by have := siftDownU blk off cap lo hi a D W h1 h2 h3 (by omega); rw [h4] at this; exact this : Calls Try.prog 47 #[.slice (some ⟨blk, off, none⟩) d.size cap, .int .i64 lo, .int .i64 hi, .int .i64 a] W fun e w' => e = .returned (.tuple #[]) ∧ ∃ n, w' = putRow en (Sort.ahead W n) blk off (Sort.siftDown ltn hi a lo D)))
  have HH := Lib.hid hH
  clear hh hk0 hH
  go_enter Try.func37, Try.ntmps37
  go_wp2_with fail
  go_loopw [9] (fun v wr => ∃ (k n : Nat) (D : Array Nat), v = .int .i64 ((k : Int) - 1) ∧ k ≤ k0 ∧ D.size = d.size ∧ wr = putRow en (Sort.ahead w n) blk off D ∧ Hid (heapBuild ltn h a k D = heapBuild ltn h a k0 d)) (fun v _ => (intO v + 1).toNat)
  case atStart => exact ⟨k0, 0, d, rfl, by omega, rfl, (putRow_self _ _ _ _ _ HH.out).symm, rfl⟩
  case round =>
    obtain ⟨k, n, D, rfl, hk, hDs, hwr, hO⟩ := hrel
    have hHr : Holds en wr blk off D := by rw [hwr]; exact holds_putRow _ _ _ _ d D (holds_ahead _ _ _ _ _ _ HH.out) hDs
    have HW := Lib.hid hwr
    cases k with
    | succ j =>
      have hjI : ((j + 1 : Nat) : Int) - 1 = (j : Int) := by omega
      simp only [hjI]
      have T := Lib.hid (HD.out j h D wr hHr (by omega) (by omega) hDs)
      clear hjI hwr hHr
      go_wp2_with fail
      refine T.out.mono ?_
      rintro e w5 ⟨rfl, m, rfl⟩
      have hs : (siftDown ltn h a j D).size = D.size := sd_size h a _ j D (Nat.le_refl _)
      have HS5 := Lib.hid hs
      go_wp2_with fail
      go_roundw
      case rel => exact ⟨j, n + m, siftDown ltn h a j D, rfl, by omega, by rw [HS5.out]; exact hDs, by rw [HW.out]; exact putRow_ahead_putRow _ _ _ _ _ _ _ _ HS5.out, hO.out⟩
      case measure => first | (simp [intO]; done) | (simp [intO]; omega)
    | zero =>
      have hO2 : D = heapBuild ltn h a k0 d := hO.out
      have HO2 := Lib.hid hO2
      clear hO2 hO hwr hHr
      have h01 : ((0 : Nat) : Int) - 1 = -1 := rfl
      simp only [h01]
      go_wp2_with fail
      go_loopw [10] (fun v wr => ∃ (k n : Nat) (E : Array Nat), v = .int .i64 ((k : Int) - 1) ∧ k ≤ h ∧ E.size = d.size ∧ wr = putRow en (Sort.ahead w n) blk off E ∧ Hid (heapPop ltn a k E = heapPop ltn a h D)) (fun v _ => (intO v + 1).toNat)
      case atStart => exact ⟨h, n, D, rfl, by omega, hDs, HW.out, rfl⟩
      case round =>
        obtain ⟨k, n2, E, rfl, hk, hEs, hwr, hO⟩ := hrel
        cases k with
        | zero =>
          have hO2 : E = heapPop ltn a h D := hO.out
          have HO3 := Lib.hid hO2
          have HW3 := Lib.hid hwr
          clear hO2 hO hwr
          go_wp2
          go_end0
          exact ⟨rfl, n2, by rw [HW3.out, HO3.out, HO2.out, HS.out]⟩
        | succ j =>
          have hjI : ((j + 1 : Nat) : Int) - 1 = (j : Int) := by omega
          simp only [hjI]
          obtain ⟨G, hG⟩ : ∃ G : Nat → Nat, ∀ t, G t = E[t]! := ⟨fun t => E[t]!, fun _ => rfl⟩
          have hcw : ∀ t, t < d.size → wr.cell? ⟨blk, off + t, none⟩ = some (en (G t)) := fun t ht => by
            rw [hwr, hG]; exact cell?_putRow _ _ _ _ d E (holds_ahead _ _ _ _ _ _ HH.out) hEs t (by omega)
          have hfw : ∀ t, t < d.size → wr.frozen? ⟨blk, off + t, none⟩ = false := fun t ht => by
            rw [hwr, frozen?_putRow]; exact ((holds_ahead _ _ n2 _ _ _ HH.out) t ht).2
          have hws : ((wr.drewN 1).setCell ⟨blk, off + a, none⟩ (en (G (a + j)))).setCell ⟨blk, off + (a + j), none⟩ (en (G a)) = putRow en (Sort.ahead w (n2 + 1)) blk off (swp E a (a + j)) := by
            rw [hwr, hG, hG]; exact swap_worldA _ w n2 1 blk off E a (a + j) (by omega) (by omega)
          have hH5 : Holds en (putRow en (Sort.ahead w (n2 + 1)) blk off (swp E a (a + j))) blk off (swp E a (a + j)) := holds_putRow _ _ _ _ d _ (holds_ahead _ _ _ _ _ _ HH.out) (by rw [size_swp]; exact hEs)
          have T := HD.out 0 j (swp E a (a + j)) _ hH5 (Nat.zero_le _) (by rw [size_swp]; omega) (by rw [size_swp]; exact hEs)
          rw [← hws] at T
          have HWS := Lib.hid hws
          have HT := Lib.hid T
          have hajd : a + j < d.size := by omega
          clear hjI T hws hH5 hwr hG HW
          rcases Nat.eq_zero_or_pos j with rfl | hj1
          · go_wp2_with fail
            go_region
            all_goals go_wp2_with fail
            refine HT.out.mono ?_
            rintro e w5 ⟨rfl, m, hw5⟩
            rw [HWS.out] at hw5
            have HW5 := Lib.hid hw5
            have hs : (siftDown ltn 0 a 0 (swp E a (a + 0))).size = E.size := by rw [sd_size 0 a _ 0 _ (Nat.le_refl _), size_swp]
            have HS5 := Lib.hid hs
            clear hw5 hs hcw hfw
            go_wp2_with fail
            go_roundw
            case rel => exact ⟨0, n2 + 1 + m, siftDown ltn 0 a 0 (swp E a (a + 0)), rfl, by omega, by rw [HS5.out]; exact hEs, by rw [HW5.out]; exact putRow_ahead_putRow _ _ _ _ _ _ _ _ (by rw [HS5.out, size_swp]), hO.out⟩
            case measure => first | (simp [intO]; done) | (simp [intO]; omega)
          · go_wp2_with fail
            go_region
            all_goals go_wp2_with fail
            refine HT.out.mono ?_
            rintro e w5 ⟨rfl, m, hw5⟩
            rw [HWS.out] at hw5
            have HW5 := Lib.hid hw5
            have hs : (siftDown ltn j a 0 (swp E a (a + j))).size = E.size := by rw [sd_size j a _ 0 _ (Nat.le_refl _), size_swp]
            have HS5 := Lib.hid hs
            clear hw5 hs hcw hfw
            go_wp2_with fail
            go_roundw
            case rel => exact ⟨j, n2 + 1 + m, _, rfl, by omega, by rw [HS5.out]; exact hEs, by rw [HW5.out]; exact putRow_ahead_putRow _ _ _ _ _ _ _ _ (by rw [HS5.out, size_swp]), hO.out⟩
            case measure => first | (simp [intO]; done) | (simp [intO]; omega)
end Go.Proofs.Ythnlggecjdifnaa.sortUint32
