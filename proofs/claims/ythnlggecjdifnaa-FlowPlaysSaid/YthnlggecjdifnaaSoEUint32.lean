/- The library's sort at uint32: a heap's top sifted down. -/
import Derived.Test.YthnlggecjdifnaaSoAUint32
import Derived.Sort.WalkB2
namespace Go.Proofs.Ythnlggecjdifnaa.sortUint32
set_option linter.unusedVariables false
set_option linter.unusedSimpArgs false
open Go.RowKit Go.Sort Go.Proofs.Ythnlggecjdifnaa
set_option maxRecDepth 100000 in
set_option maxHeartbeats 8000000 in
theorem siftDownU (blk off cap lo H F : Nat) (d : Array Nat) (w : World) (hH : Holds en w blk off d) (hlo : lo ≤ H) (hb : F + H ≤ d.size) (hsz : d.size < 2305843009213693952) :
    Calls Try.prog 47 #[.slice (some ⟨blk, off, none⟩) d.size cap, .int .i64 lo, .int .i64 H, .int .i64 F] w fun e w' => e = .returned (.tuple #[]) ∧ ∃ n, w' = putRow en (Sort.ahead w n) blk off (Sort.siftDown ltn H F lo d) := by
  go_enter Try.func47, Try.ntmps47
  go_wp2
  go_loopw [8] (fun vr wr => ∃ (r n : Nat) (D : Array Nat), vr = .int .i64 r ∧ r ≤ H ∧ D.size = d.size ∧ wr = putRow en (Sort.ahead w n) blk off D ∧ Hid (siftDown ltn H F r D = siftDown ltn H F lo d)) (fun vr _ => H - (intO vr).toNat)
  case atStart => exact ⟨lo, 0, d, rfl, hlo, rfl, (putRow_self _ _ _ _ _ hH).symm, rfl⟩
  case round =>
    obtain ⟨r, n, D, rfl, hr, hDs, hwr, hO⟩ := hrel
    by_cases he : H ≤ 2 * r + 1
    · have hei : (H : Int) ≤ 2 * (r : Int) + 1 := by omega
      have hO2 := hO.out
      rw [sd_end ltn D he] at hO2
      have HO2 := Lib.hid hO2
      clear hO2 hO
      go_wp2
      go_end0
      exact ⟨rfl, n, by first | (rw [← HO2.out]; done) | (rw [← HO2.out]; exact hwr)⟩
    · have hei : ¬ (H : Int) ≤ 2 * (r : Int) + 1 := by omega
      obtain ⟨c, hc⟩ : ∃ c, 2 * r + 1 = c := ⟨_, rfl⟩
      have hcI : 2 * (r : Int) + 1 = (c : Int) := by omega
      have hcH : c < H := by omega
      obtain ⟨G, hG⟩ : ∃ G : Nat → Nat, ∀ t, G t = D[t]! := ⟨fun t => D[t]!, fun _ => rfl⟩
      have hcw : ∀ t, t < d.size → wr.cell? ⟨blk, off + t, none⟩ = some (en (G t)) := fun t ht => by
        rw [hwr, hG]; exact cell?_putRow _ _ _ _ d D (holds_ahead _ _ _ _ _ _ hH) hDs t (by omega)
      have hfw : ∀ t, t < d.size → wr.frozen? ⟨blk, off + t, none⟩ = false := fun t ht => by
        rw [hwr, frozen?_putRow]; exact ((holds_ahead _ _ n _ _ _ hH) t ht).2
      have HW := Lib.hid hwr
      have HG := Lib.hid hG
      clear hwr hG hH
      by_cases hcc : c + 1 < H
      · obtain ⟨e, hce⟩ : ∃ e, c + 1 = e := ⟨_, rfl⟩
        have hceI : (c : Int) + 1 = (e : Int) := by omega
        have hcci : (e : Int) < H := by omega
        have hdec : decide ((e : Int) < (H : Int)) = true := decide_eq_true hcci
        go_wp2_with fail
        go_quiet (first | (go_at_call 42; refine Calls.quiet_of_same (less _ _ _)))
        obtain ⟨n1, rfl⟩ : ∃ n1, n1 = nq := ⟨_, rfl⟩
        have hcw2 : ∀ t, t < d.size → (wr.drewN n1).cell? ⟨blk, off + t, none⟩ = some (en (G t)) := hcw
        have hfw2 : ∀ t, t < d.size → (wr.drewN n1).frozen? ⟨blk, off + t, none⟩ = false := hfw
        have HW2 : Hid (wr.drewN n1 = putRow en (Sort.ahead w (n + n1)) blk off D) := by show _ = _; rw [HW.out]; exact putRow_drewN _ _ _ _ _ _ _
        clear hcw hfw HW
        generalize wr.drewN n1 = wr2 at hcw2 hfw2 HW2 ⊢
        have hFr : (F : Int) + (r : Int) < 2305843009213693952 := by omega
        have hFr2 : F + r < d.size := by omega
        have hGe : G (F + c + 1) = G (F + e) := by rw [← hce]; rfl
        by_cases hl : ltn (G (F + c)) (G (F + c + 1)) = true
        · have hl2 : ltn D[F + (2 * r + 1)]! D[F + (2 * r + 2)]! = true := by rw [← HG.out, ← HG.out, hc, show F + (2 * r + 2) = F + c + 1 by omega]; exact hl
          have he2 : Hid (2 * r + 2 = e) := by show _ = _; omega
          have hre : r < e := by omega
          have hFe : F + e < d.size := by omega
          have hFeI : (F : Int) + (e : Int) < 2305843009213693952 := by omega
          have heH : e < H := by omega
          have hd1 : 2 * r + 1 < H ∧ 2 * r + 2 < H := by omega
          have HL2 := Lib.hid hl2
          have HD1 := Lib.hid hd1
          clear hGe hce hcI hc hei he hdec hl2 hd1 hcc
          simp only [hl]
          clear hl
          by_cases h3 : ltn (G (F + r)) (G (F + e)) = true
          · go_wp2_with fail
            go_quiet (first | (go_at_call 42; refine Calls.quiet_of_same (less _ _ _)))
            go_wp2_with fail
            go_region
            all_goals go_wp2
            go_roundw
            case rel =>
              refine ⟨e, n + n1 + (nq + 1), swp D (F + r) (F + e), rfl, by omega, by rw [size_swp]; exact hDs, ?_, ?_⟩
              rotate_left
              · show _ = _
                rw [← hO.out, sd_right_go ltn D HD1.out.2 HL2.out (by rw [he2.out, ← HG.out, ← HG.out]; exact h3), he2.out]
              · rw [HW2.out, HG.out, HG.out]
                exact swap_worldA _ w (n + n1) _ blk off D (F + r) (F + e) (by omega) (by omega)
            case measure => first | (simp [intO]; done) | (simp [intO]; omega)
          · have h3' : ltn (G (F + r)) (G (F + e)) = false := by simpa using h3
            have hO2 := hO.out
            rw [sd_right_stop ltn D HD1.out.2 HL2.out (by rw [he2.out, ← HG.out, ← HG.out]; exact h3')] at hO2
            have HO2 := Lib.hid hO2
            clear hO2 hO h3
            go_wp2_with fail
            go_quiet (first | (go_at_call 42; refine Calls.quiet_of_same (less _ _ _)))
            go_wp2
            (try simp only [Exit.inBlock, Exit.then]); refine bodyPost_ret (results_none rfl _ _ _) rfl ?_
            exact ⟨rfl, _, by rw [HW2.out, ← HO2.out]; exact putRow_drewN _ _ _ _ _ _ _⟩
        · have hl0 : ltn (G (F + c)) (G (F + c + 1)) = false := by simpa using hl
          have hl2 : ltn D[F + (2 * r + 1)]! D[F + (2 * r + 2)]! = false := by rw [← HG.out, ← HG.out, hc, show F + (2 * r + 2) = F + c + 1 by omega]; exact hl0
          have HL2 := Lib.hid hl2
          have hd1 : 2 * r + 1 < H := by omega
          have HD1 := Lib.hid hd1
          have hc2 : Hid (2 * r + 1 = c) := hc
          have hre : r < c := by omega
          clear hGe hl hce hceI hcI hc hei he hdec hl2 hd1 hcc hcci
          simp only [hl0]
          clear hl0
          by_cases h3 : ltn (G (F + r)) (G (F + c)) = true
          · go_wp2_with fail
            go_quiet (first | (go_at_call 42; refine Calls.quiet_of_same (less _ _ _)))
            go_wp2_with fail
            go_region
            all_goals go_wp2
            go_roundw
            case rel =>
              refine ⟨c, n + n1 + (nq + 1), swp D (F + r) (F + c), rfl, by omega, by rw [size_swp]; exact hDs, ?_, ?_⟩
              rotate_left
              · show _ = _
                rw [← hO.out, sd_left_go ltn D HD1.out (fun _ => HL2.out) (by rw [hc2.out, ← HG.out, ← HG.out]; exact h3), hc2.out]
              · rw [HW2.out, HG.out, HG.out]
                exact swap_worldA _ w (n + n1) _ blk off D (F + r) (F + c) (by omega) (by omega)
            case measure => first | (simp [intO]; done) | (simp [intO]; omega)
          · have h3' : ltn (G (F + r)) (G (F + c)) = false := by simpa using h3
            have hO2 := hO.out
            rw [sd_left_stop ltn D HD1.out (fun _ => HL2.out) (by rw [hc2.out, ← HG.out, ← HG.out]; exact h3')] at hO2
            have HO2 := Lib.hid hO2
            clear hO2 hO h3
            go_wp2_with fail
            go_quiet (first | (go_at_call 42; refine Calls.quiet_of_same (less _ _ _)))
            go_wp2
            (try simp only [Exit.inBlock, Exit.then]); refine bodyPost_ret (results_none rfl _ _ _) rfl ?_
            exact ⟨rfl, _, by rw [HW2.out, ← HO2.out]; exact putRow_drewN _ _ _ _ _ _ _⟩
      · have hcci : ¬ (c : Int) + 1 < H := by omega
        have hdec : decide ((c : Int) + 1 < (H : Int)) = false := decide_eq_false hcci
        go_wp2_with fail
        go_quiet (first | (go_at_call 42; refine Calls.quiet_of_same (less _ _ _)))
        obtain ⟨n1, rfl⟩ : ∃ n1, n1 = nq := ⟨_, rfl⟩
        have hcw2 : ∀ t, t < d.size → (wr.drewN n1).cell? ⟨blk, off + t, none⟩ = some (en (G t)) := hcw
        have hfw2 : ∀ t, t < d.size → (wr.drewN n1).frozen? ⟨blk, off + t, none⟩ = false := hfw
        have HW2 : Hid (wr.drewN n1 = putRow en (Sort.ahead w (n + n1)) blk off D) := by show _ = _; rw [HW.out]; exact putRow_drewN _ _ _ _ _ _ _
        clear hcw hfw HW
        generalize wr.drewN n1 = wr2 at hcw2 hfw2 HW2 ⊢
        have hFr : (F : Int) + (r : Int) < 2305843009213693952 := by omega
        have hFr2 : F + r < d.size := by omega
        by_cases h3 : ltn (G (F + r)) (G (F + c)) = true
        · go_wp2_with fail
          go_quiet (first | (go_at_call 42; refine Calls.quiet_of_same (less _ _ _)))
          go_wp2_with fail
          go_region
          all_goals go_wp2
          go_roundw
          case rel =>
            refine ⟨c, n + n1 + (nq + 1), swp D (F + r) (F + c), rfl, by omega, by rw [size_swp]; exact hDs, ?_, ?_⟩
            rotate_left
            · show _ = _
              rw [← hO.out, sd_left_go ltn D (by omega) (fun h => absurd h (by omega)) (by rw [hc, ← HG.out, ← HG.out]; exact h3), hc]
            · rw [HW2.out, HG.out, HG.out]
              exact swap_worldA _ w (n + n1) _ blk off D (F + r) (F + c) (by omega) (by omega)
          case measure => first | (simp [intO]; done) | (simp [intO]; omega)
        · have h3' : ltn (G (F + r)) (G (F + c)) = false := by simpa using h3
          have hO2 := hO.out
          rw [sd_left_stop ltn D (by omega) (fun h => absurd h (by omega)) (by rw [hc, ← HG.out, ← HG.out]; exact h3')] at hO2
          have HO2 := Lib.hid hO2
          clear hO2 hO h3
          go_wp2_with fail
          go_quiet (first | (go_at_call 42; refine Calls.quiet_of_same (less _ _ _)))
          go_wp2
          (try simp only [Exit.inBlock, Exit.then]); refine bodyPost_ret (results_none rfl _ _ _) rfl ?_
          exact ⟨rfl, _, by rw [HW2.out, ← HO2.out]; exact putRow_drewN _ _ _ _ _ _ _⟩
end Go.Proofs.Ythnlggecjdifnaa.sortUint32
