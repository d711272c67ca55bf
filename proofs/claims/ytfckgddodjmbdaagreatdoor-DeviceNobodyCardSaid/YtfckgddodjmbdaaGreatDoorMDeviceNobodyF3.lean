/- Heaps (layer 9): down. -/
import Derived.Test.YtfckgddodjmbdaaGreatDoorMDeviceNobodyF2
import Derived.BigQuiet
import Derived.Deep.QuietTactic
import Derived.Deep.RegionHeld3
import Derived.Deep.Cut
namespace Go.Proofs.YtfckgddodjmbdaaGreatDoor
set_option linter.unusedVariables false
set_option linter.unusedSimpArgs false
open Go Go.RowKit Go.Shelf
set_option maxRecDepth 100000 in
set_option maxHeartbeats 1000000 in
theorem hDown (z : En Pk) {B hb g cap n : Nat} {u1 u2 : Value} (l : List (En Pk)) (hln : l.length = n) (hn : n ≤ 100000) (i : Nat) (hU : DownOk z l i) (hi : i ≤ n) (w : World)
    (hbk : Blk w hb [.slice (some ⟨g, 0, none⟩) n cap, u1, u2] 281) (ho : w.ownsRow B 355 5 (.slice (some ⟨g, 0, none⟩) n cap) n (l.flatMap enE)) :
    Calls Tryz.prog 189 #[.pointer (some ⟨hb, 0, none⟩), .int .i64 i] w fun e w' => e = .returned (.tuple #[]) ∧ ∃ l', HeapOk z l' ∧ l'.Perm l ∧ w'.ownsRow B 355 5 (.slice (some ⟨g, 0, none⟩) n cap) n (l'.flatMap enE) ∧ Kp (fun b => b = g) w w' := by
  have hne : g ≠ hb := fun e => own_ne_blk ho hbk (by decide) (by rw [e]; rfl)
  have HB := Lib.hid hbk; have HO := Lib.hid ho; have HU := Lib.hid hU
  clear hbk ho hU
  go_enter Tryz.func189, Tryz.ntmps189
  go_wp2_with fail
  go_loopw [1] (fun i0 wr => ∃ (i : Nat) (m : List (En Pk)), i0 = .int .i64 i ∧ i ≤ n ∧ m.length = n ∧ Hid (DownOk z m i ∧ m.Perm l) ∧ Hid (wr.ownsRow B 355 5 (.slice (some ⟨g, 0, none⟩) n cap) n (m.flatMap enE)) ∧ Hid (Kp (fun b => b = g) w wr)) (fun i0 _ => n + 1 - (intOf i0).toNat)
  case atStart => exact ⟨i, l, rfl, hi, hln, Lib.hid ⟨HU.out, List.Perm.refl _⟩, HO, Lib.hid (Kp.refl _ _)⟩
  case round =>
    obtain ⟨i, m, rfl, hi, hm, HU, HO, HK⟩ := hrel
    have c0 : _ = some (Value.slice (some ⟨g, 0, none⟩) n cap) := (HB.out.kp HK.out (fun e => hne e.symm)).cell 0 rfl
    by_cases hu : n ≤ 2 * i + 1
    · have hu' : (n : Int) ≤ 2 * (i : Int) + 1 := by omega
      have HH := Lib.hid (down_stop HU.out.1 (fun j hj h0 hji => by omega))
      go_wp2_with fail
      refine bodyPost_ret (results_none rfl _ _ _) rfl ?_
      exact ⟨rfl, m, HH.out, HU.out.2, HO.out, HK.out⟩
    · have hu' : ¬ ((n : Int) ≤ 2 * (i : Int) + 1) := by omega
      obtain ⟨u, hue⟩ : ∃ u, 2 * i + 1 = u := ⟨_, rfl⟩
      have hui : 2 * (i : Int) + 1 = (u : Int) := by omega
      have hun : u < n := by omega
      have huz : (u : Int) < n := by omega
      by_cases hv : u + 1 < n
      · have hv' : (u : Int) + 1 < n := by omega
        have L1 := Lib.hid (ent_load HO.out (u + 1) (by omega))
        have L2 := Lib.hid (ent_load HO.out u (by omega))
        have E1 := Lib.hid (atE_get (z := z) (l := m) (i := u + 1) (by omega))
        have E2 := Lib.hid (atE_get (z := z) (l := m) (i := u) (by omega))
        obtain ⟨a, ha⟩ : ∃ a, m[u + 1]'(by omega) = a := ⟨_, rfl⟩
        obtain ⟨b, hb2⟩ : ∃ b, m[u]'(by omega) = b := ⟨_, rfl⟩
        rw [ha] at L1 E1
        rw [hb2] at L2 E2
        have HAH := Lib.hid (fun W => hAhead a b W)
        clear ha hb2
        have HW : Hid (IntKind.i64.wrap ((u : Int) + 1) = (u : Int) + 1) := Lib.hid (by rw [IntKind.wrap_i64]; omega)
        have HV : Hid (decide ((u : Int) + 1 < n) = true) := Lib.hid (by simpa using hv')
        have HI : Hid (((u : Int) + 1).toNat = u + 1) := Lib.hid (by omega)
        go_wp2_with fail
        refine wp_region_kept2 [] [0, 1, 2, 3, 4, 5, 6, 7, 8, 9, 10, 11, 12, 13, 14, 15, 16, 17, 18, 19, 20, 21, 22, 23, 24] 25 (by kernel_rfl) (by kernel_rfl) (fun c a d u w h => by cases d <;> exact h) ?_
        simp only [pick, List.getElem?_cons_succ, List.getElem?_cons_zero, List.drop_succ_cons, List.drop_zero]
        show wpKL _ _ _ _ _ _
        repeat (first
          | (refine wpKL_op (by exact rfl) (load_at rfl rfl L1.out) ?_; simp only [Act.put, List.setIfInBounds_toArray, List.set_cons_succ, List.set_cons_zero])
          | (refine wpKL_op (by exact rfl) (load_at rfl rfl L2.out) ?_; simp only [Act.put, List.setIfInBounds_toArray, List.set_cons_succ, List.set_cons_zero])
          | (refine wpKL_op (by exact rfl) (by as_aux_lemma => intro W hK; have e0 := hK.cell c0 (fun x => x); have e1 := HW.out; have e2 := HV.out; have e3 := HI.out; go_simp; exact rfl) ?_; simp only [Act.put, List.setIfInBounds_toArray, List.set_cons_succ, List.set_cons_zero])
          | (refine wpKL_off (by exact rfl) ?_; simp only [Act.put, List.setIfInBounds_toArray, List.set_cons_succ, List.set_cons_zero])
          | (refine wpKL_call (by exact rfl) (by as_aux_lemma => intro W; go_simp; exact ⟨rfl, rfl⟩) (by intro W hK; with_reducible first | exact HAH.out W) ?_; simp only [Act.put, List.setIfInBounds_toArray, List.set_cons_succ, List.set_cons_zero]))
        show ∀ W, _ → wpList _ _ _ _ _ _
        intro W2 hK2
        have HO2 := Lib.hid (own_kp HO.out hK2 (fun _ _ x => x))
        have c2 := hK2.cell c0 (fun x => x)
        have HK2 : Hid (Kp (fun b => b = g) w W2) := Lib.hid (HK.out.trans (hK2.mono (fun _ _ x => x.elim)))
        clear hK2 c0
        cases hab : ahd a b with
        | true =>
          have HBS : Hid (∀ j, j < m.length → 0 < j → (j - 1) / 2 = i → ahd (atE z m j) (atE z m (u + 1)) = false) := Lib.hid (fun j hj h0 hji => by
            have : j = u ∨ j = u + 1 := by omega
            rcases this with rfl | rfl
            · rw [E1.out, E2.out]; exact ahd_asymm hab
            · exact ahd_refl _)
          obtain ⟨q, hq⟩ : ∃ q, u + 1 = q := ⟨_, rfl⟩
          have hqz : (u : Int) + 1 = (q : Int) := by omega
          have hqn : q < n := by omega
          rw [hq] at HBS
          clear hab E1 E2 L1 L2
          have HQI : Hid ((q - 1) / 2 = i) := Lib.hid (by omega)
          have hqn' : (q : Int) < n := by omega
          have hin' : (i : Int) < n := by omega
          have L5 := Lib.hid (ent_load HO2.out q (by omega))
          have L6 := Lib.hid (ent_load HO2.out i (by omega))
          have E5 := Lib.hid (atE_get (z := z) (l := m) (i := q) (by omega))
          have E6 := Lib.hid (atE_get (z := z) (l := m) (i := i) (by omega))
          obtain ⟨x, hx⟩ : ∃ x, m[q]'(by omega) = x := ⟨_, rfl⟩
          obtain ⟨y, hy⟩ : ∃ y, m[i]'(by omega) = y := ⟨_, rfl⟩
          rw [hx] at L5 E5
          rw [hy] at L6 E6
          have HX := Lib.hid hx
          have HY := Lib.hid hy
          have HAX := Lib.hid (fun W => hAhead x y W)
          clear hx hy
          go_wp2_with fail
          refine wp_region_kept2 [] [0, 1, 2, 3, 4, 5, 6, 7, 8, 9, 10, 11, 12, 13, 14] 15 (by kernel_rfl) (by kernel_rfl) (fun c a d u w h => by cases d <;> exact h) ?_
          simp only [pick, List.getElem?_cons_succ, List.getElem?_cons_zero, List.drop_succ_cons, List.drop_zero]
          show wpKL _ _ _ _ _ _
          repeat (first
            | (refine wpKL_op (by exact rfl) (load_at rfl rfl L5.out) ?_; simp only [Act.put, List.setIfInBounds_toArray, List.set_cons_succ, List.set_cons_zero])
            | (refine wpKL_op (by exact rfl) (load_at rfl rfl L6.out) ?_; simp only [Act.put, List.setIfInBounds_toArray, List.set_cons_succ, List.set_cons_zero])
            | (refine wpKL_op (by exact rfl) (by as_aux_lemma => intro W hK; have e0 := hK.cell c2 (fun x => x); go_simp; exact rfl) ?_; simp only [Act.put, List.setIfInBounds_toArray, List.set_cons_succ, List.set_cons_zero])
            | (refine wpKL_off (by exact rfl) ?_; simp only [Act.put, List.setIfInBounds_toArray, List.set_cons_succ, List.set_cons_zero])
            | (refine wpKL_call (by exact rfl) (by as_aux_lemma => intro W; go_simp; exact ⟨rfl, rfl⟩) (by intro W hK; with_reducible first | exact HAX.out W) ?_; simp only [Act.put, List.setIfInBounds_toArray, List.set_cons_succ, List.set_cons_zero]))
          show ∀ W, _ → wpList _ _ _ _ _ _
          intro W3 hK3
          have HO3 := Lib.hid (own_kp HO2.out hK3 (fun _ _ x => x))
          have c3 := hK3.cell c2 (fun x => x)
          have HK3 : Hid (Kp (fun b => b = g) w W3) := Lib.hid (HK2.out.trans (hK3.mono (fun _ _ x => x.elim)))
          clear hK3 c2
          cases hah : ahd x y with
          | false =>
            have HH := Lib.hid (down_stop HU.out.1 (fun j hj h0 hji => by
              have h1 := HBS.out j hj h0 hji
              have h2 := hah
              rw [← E5.out, ← E6.out] at h2
              exact ahd_trans h1 h2))
            go_wp2
            refine bodyPost_ret (results_none rfl _ _ _) rfl ?_
            exact ⟨rfl, m, HH.out, HU.out.2, HO3.out, HK3.out⟩
          | true =>
            have L7 := Lib.hid (ent_load HO3.out q (by omega))
            have L8 := Lib.hid (ent_load HO3.out i (by omega))
            rw [HX.out] at L7
            rw [HY.out] at L8
            have HSW : Hid ((m.set i x).set q y = swp z m i q) := by
              show _ = _
              unfold swp
              rw [E5.out, E6.out]
            have HUS := Lib.hid (down_step HU.out.1 (by omega) HQI.out (by omega) (by rw [E5.out, E6.out]; exact hah) HBS.out)
            have HPM := Lib.hid ((swp_perm (z := z) (l := m) (i := i) (p := q) (by omega) (by omega) (by omega)).trans HU.out.2)
            go_wp2_with fail
            refine wp_region_kept2 [9] [0, 1, 2, 3, 4, 5, 6, 7, 8, 10, 11, 12, 13, 14, 15, 16, 17, 18, 19, 20, 21, 22, 23] 24 (by kernel_rfl) (by kernel_rfl) (fun c a d u w h => by cases d <;> exact h) ?_
            simp only [pick, List.getElem?_cons_succ, List.getElem?_cons_zero, List.drop_succ_cons, List.drop_zero]
            repeat (first
              | (refine wpHeads_op (by exact rfl) (by as_aux_lemma => intro W; go_simp; exact rfl) ?_; simp only [Act.put, List.setIfInBounds_toArray, List.set_cons_succ, List.set_cons_zero])
              | (refine wpHeads_off (by exact rfl) ?_; simp only [Act.put, List.setIfInBounds_toArray, List.set_cons_succ, List.set_cons_zero]))
            show wpKL _ _ _ _ _ _
            repeat (first
              | (refine wpKL_op (by exact rfl) (load_at rfl rfl L7.out) ?_; simp only [Act.put, List.setIfInBounds_toArray, List.set_cons_succ, List.set_cons_zero])
              | (refine wpKL_op (by exact rfl) (load_at rfl rfl L8.out) ?_; simp only [Act.put, List.setIfInBounds_toArray, List.set_cons_succ, List.set_cons_zero])
              | (refine wpKL_op (by exact rfl) (by as_aux_lemma => intro W hK; have e0 := hK.cell c3 (fun x => x); go_simp; exact rfl) ?_; simp only [Act.put, List.setIfInBounds_toArray, List.set_cons_succ, List.set_cons_zero])
              | (refine wpKL_off (by exact rfl) ?_; simp only [Act.put, List.setIfInBounds_toArray, List.set_cons_succ, List.set_cons_zero]))
            show ∀ W, _ → wpList _ _ _ _ _ _
            intro W4 hK4
            have HO4 := Lib.hid (own_kp HO3.out hK4 (fun _ _ x => x))
            have HK4 : Hid (Kp (fun b => b = g) w W4) := Lib.hid (HK3.out.trans (hK4.mono (fun _ _ x => x.elim)))
            clear hK4 c3
            go_wp2_with (first
              | (refine wp_set_ent rfl 355 (.tmp 83) (.tmp 75) rfl enE 5 enE_len m HO4.out i (by omega) x rfl rfl rfl (infoEn x) rfl ?_
                 intro W5 ho5 hk5
                 have HO5 := Lib.hid ho5
                 have HK5 : Hid (Kp (fun b => b = g) w W5) := Lib.hid (HK4.out.trans hk5)
                 clear ho5 hk5)
              | (refine wp_set_ent rfl 355 (.tmp 84) (.tmp 82) rfl enE 5 enE_len (m.set i x) HO5.out q (by rw [List.length_set]; omega) y rfl rfl rfl (infoEn y) rfl ?_
                 intro W6 ho6 hk6
                 rw [HSW.out] at ho6
                 have HO6 := Lib.hid ho6
                 have HK6 : Hid (Kp (fun b => b = g) w W6) := Lib.hid (HK5.out.trans hk6)
                 clear ho6 hk6))
            go_roundw
            case rel => exact ⟨q, swp z m i q, rfl, by omega, by rw [swp_len]; exact hm, Lib.hid ⟨HUS.out, HPM.out⟩, HO6, HK6⟩
            case measure => simp [intOf]; omega
        | false =>
          have HBS : Hid (∀ j, j < m.length → 0 < j → (j - 1) / 2 = i → ahd (atE z m j) (atE z m u) = false) := Lib.hid (fun j hj h0 hji => by
            have : j = u ∨ j = u + 1 := by omega
            rcases this with rfl | rfl
            · exact ahd_refl _
            · rw [E1.out, E2.out]; exact hab)
          obtain ⟨q, hq⟩ : ∃ q, q = u := ⟨_, rfl⟩
          have hqn : q < n := by omega
          subst hq
          clear hab E1 E2 L1 L2
          have HQI : Hid ((q - 1) / 2 = i) := Lib.hid (by omega)
          have hqn' : (q : Int) < n := by omega
          have hin' : (i : Int) < n := by omega
          have L5 := Lib.hid (ent_load HO2.out q (by omega))
          have L6 := Lib.hid (ent_load HO2.out i (by omega))
          have E5 := Lib.hid (atE_get (z := z) (l := m) (i := q) (by omega))
          have E6 := Lib.hid (atE_get (z := z) (l := m) (i := i) (by omega))
          obtain ⟨x, hx⟩ : ∃ x, m[q]'(by omega) = x := ⟨_, rfl⟩
          obtain ⟨y, hy⟩ : ∃ y, m[i]'(by omega) = y := ⟨_, rfl⟩
          rw [hx] at L5 E5
          rw [hy] at L6 E6
          have HX := Lib.hid hx
          have HY := Lib.hid hy
          have HAX := Lib.hid (fun W => hAhead x y W)
          clear hx hy
          go_wp2_with fail
          refine wp_region_kept2 [] [0, 1, 2, 3, 4, 5, 6, 7, 8, 9, 10, 11, 12, 13, 14] 15 (by kernel_rfl) (by kernel_rfl) (fun c a d u w h => by cases d <;> exact h) ?_
          simp only [pick, List.getElem?_cons_succ, List.getElem?_cons_zero, List.drop_succ_cons, List.drop_zero]
          show wpKL _ _ _ _ _ _
          repeat (first
            | (refine wpKL_op (by exact rfl) (load_at rfl rfl L5.out) ?_; simp only [Act.put, List.setIfInBounds_toArray, List.set_cons_succ, List.set_cons_zero])
            | (refine wpKL_op (by exact rfl) (load_at rfl rfl L6.out) ?_; simp only [Act.put, List.setIfInBounds_toArray, List.set_cons_succ, List.set_cons_zero])
            | (refine wpKL_op (by exact rfl) (by as_aux_lemma => intro W hK; have e0 := hK.cell c2 (fun x => x); go_simp; exact rfl) ?_; simp only [Act.put, List.setIfInBounds_toArray, List.set_cons_succ, List.set_cons_zero])
            | (refine wpKL_off (by exact rfl) ?_; simp only [Act.put, List.setIfInBounds_toArray, List.set_cons_succ, List.set_cons_zero])
            | (refine wpKL_call (by exact rfl) (by as_aux_lemma => intro W; go_simp; exact ⟨rfl, rfl⟩) (by intro W hK; with_reducible first | exact HAX.out W) ?_; simp only [Act.put, List.setIfInBounds_toArray, List.set_cons_succ, List.set_cons_zero]))
          show ∀ W, _ → wpList _ _ _ _ _ _
          intro W3 hK3
          have HO3 := Lib.hid (own_kp HO2.out hK3 (fun _ _ x => x))
          have c3 := hK3.cell c2 (fun x => x)
          have HK3 : Hid (Kp (fun b => b = g) w W3) := Lib.hid (HK2.out.trans (hK3.mono (fun _ _ x => x.elim)))
          clear hK3 c2
          cases hah : ahd x y with
          | false =>
            have HH := Lib.hid (down_stop HU.out.1 (fun j hj h0 hji => by
              have h1 := HBS.out j hj h0 hji
              have h2 := hah
              rw [← E5.out, ← E6.out] at h2
              exact ahd_trans h1 h2))
            go_wp2
            refine bodyPost_ret (results_none rfl _ _ _) rfl ?_
            exact ⟨rfl, m, HH.out, HU.out.2, HO3.out, HK3.out⟩
          | true =>
            have L7 := Lib.hid (ent_load HO3.out q (by omega))
            have L8 := Lib.hid (ent_load HO3.out i (by omega))
            rw [HX.out] at L7
            rw [HY.out] at L8
            have HSW : Hid ((m.set i x).set q y = swp z m i q) := by
              show _ = _
              unfold swp
              rw [E5.out, E6.out]
            have HUS := Lib.hid (down_step HU.out.1 (by omega) HQI.out (by omega) (by rw [E5.out, E6.out]; exact hah) HBS.out)
            have HPM := Lib.hid ((swp_perm (z := z) (l := m) (i := i) (p := q) (by omega) (by omega) (by omega)).trans HU.out.2)
            go_wp2_with fail
            refine wp_region_kept2 [9] [0, 1, 2, 3, 4, 5, 6, 7, 8, 10, 11, 12, 13, 14, 15, 16, 17, 18, 19, 20, 21, 22, 23] 24 (by kernel_rfl) (by kernel_rfl) (fun c a d u w h => by cases d <;> exact h) ?_
            simp only [pick, List.getElem?_cons_succ, List.getElem?_cons_zero, List.drop_succ_cons, List.drop_zero]
            repeat (first
              | (refine wpHeads_op (by exact rfl) (by as_aux_lemma => intro W; go_simp; exact rfl) ?_; simp only [Act.put, List.setIfInBounds_toArray, List.set_cons_succ, List.set_cons_zero])
              | (refine wpHeads_off (by exact rfl) ?_; simp only [Act.put, List.setIfInBounds_toArray, List.set_cons_succ, List.set_cons_zero]))
            show wpKL _ _ _ _ _ _
            repeat (first
              | (refine wpKL_op (by exact rfl) (load_at rfl rfl L7.out) ?_; simp only [Act.put, List.setIfInBounds_toArray, List.set_cons_succ, List.set_cons_zero])
              | (refine wpKL_op (by exact rfl) (load_at rfl rfl L8.out) ?_; simp only [Act.put, List.setIfInBounds_toArray, List.set_cons_succ, List.set_cons_zero])
              | (refine wpKL_op (by exact rfl) (by as_aux_lemma => intro W hK; have e0 := hK.cell c3 (fun x => x); go_simp; exact rfl) ?_; simp only [Act.put, List.setIfInBounds_toArray, List.set_cons_succ, List.set_cons_zero])
              | (refine wpKL_off (by exact rfl) ?_; simp only [Act.put, List.setIfInBounds_toArray, List.set_cons_succ, List.set_cons_zero]))
            show ∀ W, _ → wpList _ _ _ _ _ _
            intro W4 hK4
            have HO4 := Lib.hid (own_kp HO3.out hK4 (fun _ _ x => x))
            have HK4 : Hid (Kp (fun b => b = g) w W4) := Lib.hid (HK3.out.trans (hK4.mono (fun _ _ x => x.elim)))
            clear hK4 c3
            go_wp2_with (first
              | (refine wp_set_ent rfl 355 (.tmp 83) (.tmp 75) rfl enE 5 enE_len m HO4.out i (by omega) x rfl rfl rfl (infoEn x) rfl ?_
                 intro W5 ho5 hk5
                 have HO5 := Lib.hid ho5
                 have HK5 : Hid (Kp (fun b => b = g) w W5) := Lib.hid (HK4.out.trans hk5)
                 clear ho5 hk5)
              | (refine wp_set_ent rfl 355 (.tmp 84) (.tmp 82) rfl enE 5 enE_len (m.set i x) HO5.out q (by rw [List.length_set]; omega) y rfl rfl rfl (infoEn y) rfl ?_
                 intro W6 ho6 hk6
                 rw [HSW.out] at ho6
                 have HO6 := Lib.hid ho6
                 have HK6 : Hid (Kp (fun b => b = g) w W6) := Lib.hid (HK5.out.trans hk6)
                 clear ho6 hk6))
            go_roundw
            case rel => exact ⟨q, swp z m i q, rfl, by omega, by rw [swp_len]; exact hm, Lib.hid ⟨HUS.out, HPM.out⟩, HO6, HK6⟩
            case measure => simp [intOf]; omega
      · have hv' : ¬ ((u : Int) + 1 < n) := by omega
        have HBS : Hid (∀ j, j < m.length → 0 < j → (j - 1) / 2 = i → ahd (atE z m j) (atE z m u) = false) := Lib.hid (fun j hj h0 hji => by
          have : j = u := by omega
          subst this; exact ahd_refl _)
        have HW : Hid (IntKind.i64.wrap ((u : Int) + 1) = (u : Int) + 1) := Lib.hid (by rw [IntKind.wrap_i64]; omega)
        have HV : Hid (decide ((u : Int) + 1 < n) = false) := Lib.hid (by simpa using hv')
        go_wp2_with fail
        refine wp_region_kept2 [] [0, 1, 2, 3, 4, 5, 6, 7, 8, 9, 10, 11, 12, 13, 14, 15, 16, 17, 18, 19, 20, 21, 22, 23, 24] 25 (by kernel_rfl) (by kernel_rfl) (fun c a d u w h => by cases d <;> exact h) ?_
        simp only [pick, List.getElem?_cons_succ, List.getElem?_cons_zero, List.drop_succ_cons, List.drop_zero]
        show wpKL _ _ _ _ _ _
        repeat (first
          | (refine wpKL_op (by exact rfl) (by as_aux_lemma => intro W hK; have e0 := hK.cell c0 (fun x => x); have e1 := HW.out; have e2 := HV.out; go_simp; exact rfl) ?_; simp only [Act.put, List.setIfInBounds_toArray, List.set_cons_succ, List.set_cons_zero])
          | (refine wpKL_off (by exact rfl) ?_; simp only [Act.put, List.setIfInBounds_toArray, List.set_cons_succ, List.set_cons_zero]))
        show ∀ W, _ → wpList _ _ _ _ _ _
        intro W2 hK2
        have HO2 := Lib.hid (own_kp HO.out hK2 (fun _ _ x => x))
        have c2 := hK2.cell c0 (fun x => x)
        have HK2 : Hid (Kp (fun b => b = g) w W2) := Lib.hid (HK.out.trans (hK2.mono (fun _ _ x => x.elim)))
        clear hK2 c0
        obtain ⟨q, hq⟩ : ∃ q, q = u := ⟨_, rfl⟩
        have hqn : q < n := by omega
        subst hq
        have HQI : Hid ((q - 1) / 2 = i) := Lib.hid (by omega)
        have hqn' : (q : Int) < n := by omega
        have hin' : (i : Int) < n := by omega
        have L5 := Lib.hid (ent_load HO2.out q (by omega))
        have L6 := Lib.hid (ent_load HO2.out i (by omega))
        have E5 := Lib.hid (atE_get (z := z) (l := m) (i := q) (by omega))
        have E6 := Lib.hid (atE_get (z := z) (l := m) (i := i) (by omega))
        obtain ⟨x, hx⟩ : ∃ x, m[q]'(by omega) = x := ⟨_, rfl⟩
        obtain ⟨y, hy⟩ : ∃ y, m[i]'(by omega) = y := ⟨_, rfl⟩
        rw [hx] at L5 E5
        rw [hy] at L6 E6
        have HX := Lib.hid hx
        have HY := Lib.hid hy
        have HAX := Lib.hid (fun W => hAhead x y W)
        clear hx hy
        go_wp2_with fail
        refine wp_region_kept2 [] [0, 1, 2, 3, 4, 5, 6, 7, 8, 9, 10, 11, 12, 13, 14] 15 (by kernel_rfl) (by kernel_rfl) (fun c a d u w h => by cases d <;> exact h) ?_
        simp only [pick, List.getElem?_cons_succ, List.getElem?_cons_zero, List.drop_succ_cons, List.drop_zero]
        show wpKL _ _ _ _ _ _
        repeat (first
          | (refine wpKL_op (by exact rfl) (load_at rfl rfl L5.out) ?_; simp only [Act.put, List.setIfInBounds_toArray, List.set_cons_succ, List.set_cons_zero])
          | (refine wpKL_op (by exact rfl) (load_at rfl rfl L6.out) ?_; simp only [Act.put, List.setIfInBounds_toArray, List.set_cons_succ, List.set_cons_zero])
          | (refine wpKL_op (by exact rfl) (by as_aux_lemma => intro W hK; have e0 := hK.cell c2 (fun x => x); go_simp; exact rfl) ?_; simp only [Act.put, List.setIfInBounds_toArray, List.set_cons_succ, List.set_cons_zero])
          | (refine wpKL_off (by exact rfl) ?_; simp only [Act.put, List.setIfInBounds_toArray, List.set_cons_succ, List.set_cons_zero])
          | (refine wpKL_call (by exact rfl) (by as_aux_lemma => intro W; go_simp; exact ⟨rfl, rfl⟩) (by intro W hK; with_reducible first | exact HAX.out W) ?_; simp only [Act.put, List.setIfInBounds_toArray, List.set_cons_succ, List.set_cons_zero]))
        show ∀ W, _ → wpList _ _ _ _ _ _
        intro W3 hK3
        have HO3 := Lib.hid (own_kp HO2.out hK3 (fun _ _ x => x))
        have c3 := hK3.cell c2 (fun x => x)
        have HK3 : Hid (Kp (fun b => b = g) w W3) := Lib.hid (HK2.out.trans (hK3.mono (fun _ _ x => x.elim)))
        clear hK3 c2
        cases hah : ahd x y with
        | false =>
          have HH := Lib.hid (down_stop HU.out.1 (fun j hj h0 hji => by
            have h1 := HBS.out j hj h0 hji
            have h2 := hah
            rw [← E5.out, ← E6.out] at h2
            exact ahd_trans h1 h2))
          go_wp2
          refine bodyPost_ret (results_none rfl _ _ _) rfl ?_
          exact ⟨rfl, m, HH.out, HU.out.2, HO3.out, HK3.out⟩
        | true =>
          have L7 := Lib.hid (ent_load HO3.out q (by omega))
          have L8 := Lib.hid (ent_load HO3.out i (by omega))
          rw [HX.out] at L7
          rw [HY.out] at L8
          have HSW : Hid ((m.set i x).set q y = swp z m i q) := by
            show _ = _
            unfold swp
            rw [E5.out, E6.out]
          have HUS := Lib.hid (down_step HU.out.1 (by omega) HQI.out (by omega) (by rw [E5.out, E6.out]; exact hah) HBS.out)
          have HPM := Lib.hid ((swp_perm (z := z) (l := m) (i := i) (p := q) (by omega) (by omega) (by omega)).trans HU.out.2)
          go_wp2_with fail
          refine wp_region_kept2 [9] [0, 1, 2, 3, 4, 5, 6, 7, 8, 10, 11, 12, 13, 14, 15, 16, 17, 18, 19, 20, 21, 22, 23] 24 (by kernel_rfl) (by kernel_rfl) (fun c a d u w h => by cases d <;> exact h) ?_
          simp only [pick, List.getElem?_cons_succ, List.getElem?_cons_zero, List.drop_succ_cons, List.drop_zero]
          repeat (first
            | (refine wpHeads_op (by exact rfl) (by as_aux_lemma => intro W; go_simp; exact rfl) ?_; simp only [Act.put, List.setIfInBounds_toArray, List.set_cons_succ, List.set_cons_zero])
            | (refine wpHeads_off (by exact rfl) ?_; simp only [Act.put, List.setIfInBounds_toArray, List.set_cons_succ, List.set_cons_zero]))
          show wpKL _ _ _ _ _ _
          repeat (first
            | (refine wpKL_op (by exact rfl) (load_at rfl rfl L7.out) ?_; simp only [Act.put, List.setIfInBounds_toArray, List.set_cons_succ, List.set_cons_zero])
            | (refine wpKL_op (by exact rfl) (load_at rfl rfl L8.out) ?_; simp only [Act.put, List.setIfInBounds_toArray, List.set_cons_succ, List.set_cons_zero])
            | (refine wpKL_op (by exact rfl) (by as_aux_lemma => intro W hK; have e0 := hK.cell c3 (fun x => x); go_simp; exact rfl) ?_; simp only [Act.put, List.setIfInBounds_toArray, List.set_cons_succ, List.set_cons_zero])
            | (refine wpKL_off (by exact rfl) ?_; simp only [Act.put, List.setIfInBounds_toArray, List.set_cons_succ, List.set_cons_zero]))
          show ∀ W, _ → wpList _ _ _ _ _ _
          intro W4 hK4
          have HO4 := Lib.hid (own_kp HO3.out hK4 (fun _ _ x => x))
          have HK4 : Hid (Kp (fun b => b = g) w W4) := Lib.hid (HK3.out.trans (hK4.mono (fun _ _ x => x.elim)))
          clear hK4 c3
          go_wp2_with (first
            | (refine wp_set_ent rfl 355 (.tmp 83) (.tmp 75) rfl enE 5 enE_len m HO4.out i (by omega) x rfl rfl rfl (infoEn x) rfl ?_
               intro W5 ho5 hk5
               have HO5 := Lib.hid ho5
               have HK5 : Hid (Kp (fun b => b = g) w W5) := Lib.hid (HK4.out.trans hk5)
               clear ho5 hk5)
            | (refine wp_set_ent rfl 355 (.tmp 84) (.tmp 82) rfl enE 5 enE_len (m.set i x) HO5.out q (by rw [List.length_set]; omega) y rfl rfl rfl (infoEn y) rfl ?_
               intro W6 ho6 hk6
               rw [HSW.out] at ho6
               have HO6 := Lib.hid ho6
               have HK6 : Hid (Kp (fun b => b = g) w W6) := Lib.hid (HK5.out.trans hk6)
               clear ho6 hk6))
          go_roundw
          case rel => exact ⟨q, swp z m i q, rfl, by omega, by rw [swp_len]; exact hm, Lib.hid ⟨HUS.out, HPM.out⟩, HO6, HK6⟩
          case measure => simp [intOf]; omega

theorem step_app1_at {P : Program} {t e : TypeId} {z : Value} {size bytes : Nat} (T : SlT P t e z size bytes) {ops : Array Oper} {o : Oper} {a : Act} {w : World} {K : Act → World → Prop} {Q : Exit → Act → World → Prop} {E : Prop} (s x : Operand)
    (hgd : o.guard = none) (ho : o.op = .call { callee := .builtin .append, args := #[s, x], argTypes := #[t, t] }) (base : Nat) {v : Value} {n : Nat} {xs : List Value} (hown : w.ownsRow base e size v n xs)
    {b c : Nat} (news : List Value) (hs : a.eval s = v) (hx : a.eval x = .slice (some ⟨b, 0, none⟩) 1 c) (hl : news.length = size) {fr : Nat × Nat} (hblk : w.heap[b]? = some (.cells news.toArray e fr)) (h1 : news.all (·.oneCell') = true)
    (hbytes : (n + 1) * bytes ≤ 140737488355328) (h63 : n < 9223372036854775807) (hbase : base ≤ w.heap.size)
    (h : ∀ g cap w', w'.ownsRow base e size (.slice (some ⟨g, 0, none⟩) (n + 1) cap) (n + 1) (xs ++ news) → w.grownBy w' v.ownBlock → (v.ownBlock = some g ∨ g = w.heap.size) → K (a.put o.dst (.slice (some ⟨g, 0, none⟩) (n + 1) cap)) w') :
    if Region.wanted o (yielded ops a.tmps) = true then Oper.wp P o a w K Q else E := by
  have hw : Region.wanted o (yielded ops a.tmps) = true := by simp [Region.wanted, hgd]
  rw [if_pos hw]
  obtain ⟨i, hi, hz0, hz1, hz2⟩ := info_parts T.info
  obtain ⟨v', w', hr, hown', hg, hnil, hat⟩ := run_append_own_at (P := P) w base t o.type e i z size bytes T.ht hi hz0 hz1 hz2 T.hz T.pos v n xs hown ⟨b, 0, none⟩ 1 c news (by simpa using hl) (by
    intro j u hu
    have e : (⟨b, 0, none⟩ : Addr).add j = ⟨b, j, none⟩ := by unfold Addr.add; split <;> simp_all
    rw [e]; simp [World.cell?, hblk, hu]) (by simpa using h1) (by unfold maxLen; omega) hbytes hbase
  unfold Oper.wp execOp
  simp only [ho, resolve, invoke, builtin, Sem.run_bind, Sem.run_pure, Result.andThen_ok, List.map_toArray, List.map_cons, List.map_nil, hs, hx, hr]
  rcases hown'.2 with ⟨_, h0⟩ | ⟨g, cap, cur, rfl, _⟩
  · omega
  · exact h g cap w' hown' hg (by rcases hat with e | e; (exact .inl (e.symm.trans rfl)); exact .inr (by simpa [Value.ownBlock] using e))
structure HMem (w : World) (B hb : Nat) (vc : Value) (came room : Nat) (l : List (En Pk)) : Prop where
  top : Blk w hb [vc, .int .u64 came, .int .i64 room] 281
  row : w.ownsRow B 355 5 vc l.length (l.flatMap enE)
def HF (hb : Nat) (vc : Value) : Nat → Prop := fun b => b = hb ∨ vc.ownBlock = some b
theorem HMem.kp {S : Nat → Prop} {w w' : World} {B hb : Nat} {vc : Value} {came room : Nat} {l : List (En Pk)} (h : HMem w B hb vc came room l) (k : Kp S w w') (hs : ∀ b, HF hb vc b → ¬ S b) : HMem w' B hb vc came room l :=
  ⟨h.top.kp k (hs _ (.inl rfl)), own_kp h.row k (fun b hb => hs b (.inr hb))⟩
theorem HMem.old {w w' : World} {B hb : Nat} {vc : Value} {came room : Nat} {l : List (En Pk)} (h : HMem w B hb vc came room l) (k : Kp none' w w') : HMem w' B hb vc came room l := h.kp k (fun _ _ x => x)
theorem HMem.lt {w : World} {B hb : Nat} {vc : Value} {came room : Nat} {l : List (En Pk)} (h : HMem w B hb vc came room l) {b : Nat} (hb : HF hb vc b) : b < w.heap.size := by
  rcases hb with rfl | hb
  · exact h.top.lt
  · exact (own_block h.row hb).2
set_option maxHeartbeats 400000 in
theorem hLen (w : World) (B hb : Nat) (vc : Value) (came room : Nat) (l : List (En Pk)) (h : HMem w B hb vc came room l) : Calls Tryz.prog 181 #[.pointer (some ⟨hb, 0, none⟩)] w fun e w' => e = .returned (.int .i64 l.length) ∧ w = w' := by
  have c := h.top.cell 0 rfl
  obtain ⟨ao, cap, rfl⟩ := own_shape h.row
  clear h
  go_enter Tryz.func181, Tryz.ntmps181
  go_wp2
  go_ret
  exact ⟨rfl, rfl⟩
set_option maxHeartbeats 400000 in
theorem hNew (room : Nat) (h1 : 1 ≤ room) (h2 : room ≤ 4096) (w : World) : Calls Tryz.prog 110 #[.int .i64 room] w fun e w' => ∃ hb, e = .returned (.tuple #[.pointer (some ⟨hb, 0, none⟩), .int .i64 0]) ∧ HMem w' w.heap.size hb (.slice none 0 0) 0 room [] ∧ w.heap.size ≤ hb ∧ Kp none' w w' := by
  have h1' : ¬ (room : Int) < 1 := by omega
  have h2' : ¬ (room : Int) > 4096 := by omega
  go_enter Tryz.func110, Tryz.ntmps110
  go_wp2
  go_ret2
  exact ⟨_, rfl, ⟨Blk.new _ _ _, rfl, .inl ⟨rfl, rfl⟩⟩, Nat.le_refl _, (Kp.refl _ _).alloc _⟩
def zPk : Pk := ⟨0, 0, 0⟩
def zEn : En Pk := ⟨0, 0, zPk⟩
def zvEn : Value := .agg #[.int .u64 0, .int .u64 0, .int .u32 0, .int .u32 0, .int .u64 0]
theorem tEn : SlT Tryz.prog 279 355 zvEn 5 32 := ⟨Tryz.underlying279, by kernel_rfl, rfl, by decide⟩
set_option maxRecDepth 100000 in
set_option maxHeartbeats 2000000 in
theorem hPush (w : World) (B hb : Nat) (vc : Value) (came room : Nat) (l : List (En Pk)) (h : HMem w B hb vc came room l) (hB : B ≤ w.heap.size) (hl : l.length < room) (hr : room ≤ 4096) (hc : came < 9223372036854775807) (hH : HeapOk zEn l) (r : Nat) (x : Pk) :
    Calls Tryz.prog 188 #[.pointer (some ⟨hb, 0, none⟩), .int .u64 r, .agg (enP x).toArray] w fun e w' => e = .returned (.bool true) ∧ ∃ vc' l', HMem w' B hb vc' (came + 1) room l' ∧ HeapOk zEn l' ∧ l'.Perm (l ++ [⟨r, came, x⟩]) ∧
      Kp (HF hb vc) w w' ∧ (vc'.ownBlock = vc.ownBlock ∨ ∃ g, vc'.ownBlock = some g ∧ w.heap.size ≤ g) := by
  obtain ⟨fl, id, ln⟩ := x
  obtain ⟨ao, cap, rfl⟩ := own_shape h.row
  have HM := Lib.hid h
  have c0 := h.top.cell 0 rfl
  have c1 := h.top.cell 1 rfl
  have c2 := h.top.cell 2 rfl
  have HU := Lib.hid (up_first (z := zEn) (⟨r, came, ⟨fl, id, ln⟩⟩ : En Pk) hH)
  have hbl := h.top.lt
  clear h hH
  generalize hN : l.length = n at *
  have hnr : ((n : Int) ≥ room) = False := by simp; omega
  show Calls Tryz.prog _ #[.pointer (some ⟨hb, 0, none⟩), .int .u64 r, .agg #[.int .u32 (fl : Int), .int .u32 (id : Int), .int .u64 (ln : Int)]] w _
  go_enter Tryz.func188, Tryz.ntmps188
  go_wp2
  go_quiet (fail)
  go_wp2_with fail
  have HK1 := Lib.hid (((Kp.refl none' w).alloc (.cells #[.int .u32 (fl : Int), .int .u32 (id : Int), .int .u64 (ln : Int)] 65)).drewN nq)
  have HX1 := Lib.hid ((Blk.new w [.int .u32 (fl : Int), .int .u32 (id : Int), .int .u64 (ln : Int)] 65).drewN nq)
  generalize (w.alloc (.cells #[.int .u32 (fl : Int), .int .u32 (id : Int), .int .u64 (ln : Int)] 65)).drewN nq = W1 at *
  have HM1 := Lib.hid (HM.out.old HK1.out)
  have hsz1 := HK1.out.size
  have d0 := HM1.out.top.cell 0 rfl
  have d1 := HM1.out.top.cell 1 rfl
  have x0 := HX1.out.cell 0 rfl
  have x1 := HX1.out.cell 1 rfl
  have x2 := HX1.out.cell 2 rfl
  have N1 : Hid (some hb ≠ (Value.slice ao n cap).ownBlock) := fun e => own_ne_blk HM1.out.row HM1.out.top (by decide) e.symm
  have N2 : Hid (some w.heap.size ≠ (Value.slice ao n cap).ownBlock) := fun e => own_ne_blk HM1.out.row HX1.out (by decide) e.symm
  have HR1 : Hid (W1.ownsRow B 355 5 (.slice ao n cap) n (l.flatMap enE)) := by have := HM1.out.row; rw [hN] at this; exact this
  have N3 : Hid (w.heap.size ≠ hb) := by show _ ≠ _; omega
  have hbl1 : hb < W1.heap.size := by omega
  have hxl1 : w.heap.size < W1.heap.size := HX1.out.lt
  clear c0 c1 c2
  go_cut [] from 21 (fun wc => ∃ g cap2, Hid (Blk wc hb [.slice (some ⟨g, 0, none⟩) (n + 1) cap2, .int .u64 came, .int .i64 room] 281) ∧ Hid (wc.ownsRow B 355 5 (.slice (some ⟨g, 0, none⟩) (n + 1) cap2) (n + 1) ((l ++ [(⟨r, came, ⟨fl, id, ln⟩⟩ : En Pk)]).flatMap enE)) ∧ Hid (Kp (HF hb (.slice ao n cap)) w wc) ∧ Hid ((Value.slice ao n cap).ownBlock = some g ∨ w.heap.size ≤ g))
  case first =>
    go_region_law ((refine step_app1_at tEn (.tmp 25) (.tmp 33) rfl rfl B (v := .slice ao n cap) ((HR1.out.alloc _).drew) (enE ⟨r, came, ⟨fl, id, ln⟩⟩) rfl rfl rfl (fr := (0, 0)) (heap_new2 _ _ _ (by simp)) rfl (by omega) (by omega) (by simp; omega) ?_); intro g3 cap3 w3 hown hgrow hat; have HT3 := ((HM1.out.top.alloc (.cells #[.int .u64 (r : Int), .int .u64 (came : Int), .int .u32 (fl : Int), .int .u32 (id : Int), .int .u64 (ln : Int)] 355)).drew).grown hgrow N1.out; have fz3 := HT3.fz 0; have e30 := HT3.cell 0 rfl)
    all_goals
      have HO4 := own_setNe hown (a := ⟨hb, 0, none⟩) (fun b hbb e => own_ne_blk hown HT3 (by decide) (by rw [hbb, e])) (.slice (some ⟨g3, 0, none⟩) (n + 1) cap3)
      have HB4 := HT3.set 0 (.slice (some ⟨g3, 0, none⟩) (n + 1) cap3)
      have HK4 : Kp (HF hb (.slice ao n cap)) w (w3.setCell ⟨hb, 0, none⟩ (.slice (some ⟨g3, 0, none⟩) (n + 1) cap3)) := ((((HK1.out.mono (fun _ _ x => x.elim)).alloc _).drew).grown hgrow (fun k e => .inl (.inr e))).set (.inl (.inl rfl)) _
      have HG4 : (Value.slice ao n cap).ownBlock = some g3 ∨ w.heap.size ≤ g3 := hat.imp_right (fun e => by rw [e]; simp; omega)
      go_wp2_with fail
      go_meet
      case rel => exact ⟨g3, cap3, Lib.hid HB4, Lib.hid (by show World.ownsRow _ _ _ _ _ _ _; rw [List.flatMap_append]; simpa using HO4), Lib.hid HK4, Lib.hid HG4⟩
  case rest =>
    obtain ⟨g, cap2, HB, HO, HK, HG⟩ := hcut
    have b0 := HB.out.cell 0 rfl
    have b1 := HB.out.cell 1 rfl
    have fz := HB.out.fz 1
    have HW : IntKind.u64.wrap ((came : Int) + 1) = (came : Int) + 1 := by rw [IntKind.wrap_u64]; omega
    have HB5 := Lib.hid (HB.out.set 1 (.int .u64 ((came : Int) + 1)))
    have HO5 := Lib.hid (own_setNe HO.out (a := ⟨hb, 1, none⟩) (fun b hbb e => own_ne_blk HO.out HB.out (by decide) (by rw [hbb, e])) (.int .u64 ((came : Int) + 1)))
    have HK5 : Hid (Kp (HF hb (.slice ao n cap)) w (wc.setCell ⟨hb, 1, none⟩ (.int .u64 ((came : Int) + 1)))) := Lib.hid (HK.out.set (.inl (.inl rfl)) _)
    go_wp2_with fail
    refine (hUp zEn (n := n + 1) (l ++ [(⟨r, came, ⟨fl, id, ln⟩⟩ : En Pk)]) (by simp [hN]) (by omega) n HU.out (by omega) _ HB5.out HO5.out).mono ?_
    rintro e w6 ⟨rfl, l', h1, h2, h3, h4⟩
    have hne : hb ≠ g := fun e => own_ne_blk HO.out HB.out (by decide) (by rw [e]; rfl)
    have HB6 := Lib.hid (HB5.out.kp h4 (fun e => hne e))
    have HH6 := Lib.hid h1
    have HP6 := Lib.hid h2
    have HO6 := Lib.hid h3
    have HK6 : Hid (Kp (HF hb (.slice ao n cap)) w w6) := Lib.hid (HK5.out.then h4 (fun b hb2 hg => by
      subst hg
      rcases HG.out with e | e
      · exact .inr e
      · omega))
    clear h1 h2 h3 h4 b0 b1 fz
    go_wp2_with fail
    go_ret
    have hl' : l'.length = n + 1 := by rw [HP6.out.length_eq]; simp [hN]
    refine ⟨rfl, _, l', ⟨by have := HB6.out; simpa using this, by rw [hl']; exact HO6.out⟩, HH6.out, HP6.out, HK6.out, ?_⟩
    rcases HG.out with e | e
    · exact .inl e.symm
    · exact .inr ⟨g, rfl, e⟩
end Go.Proofs.YtfckgddodjmbdaaGreatDoor
