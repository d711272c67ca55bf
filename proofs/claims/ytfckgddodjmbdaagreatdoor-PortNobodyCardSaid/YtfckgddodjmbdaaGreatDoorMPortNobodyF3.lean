/- Heaps (layer 9): up. -/
import Derived.Test.YtfckgddodjmbdaaGreatDoorMPortNobodyF2
namespace Go.Proofs.YtfckgddodjmbdaaGreatDoor
set_option linter.unusedVariables false
set_option linter.unusedSimpArgs false
open Go Go.RowKit Go.Shelf
set_option maxRecDepth 100000 in
set_option maxHeartbeats 1000000 in
theorem hUp (z : En Pk) {B hb g cap n : Nat} {u1 u2 : Value} (l : List (En Pk)) (hln : l.length = n) (hn : n ≤ 100000) (i : Nat) (hU : UpOk z l i) (hi : i < n) (w : World)
    (hbk : Blk w hb [.slice (some ⟨g, 0, none⟩) n cap, u1, u2] 281) (ho : w.ownsRow B 355 5 (.slice (some ⟨g, 0, none⟩) n cap) n (l.flatMap enE)) :
    Calls Tryz.prog 190 #[.pointer (some ⟨hb, 0, none⟩), .int .i64 i] w fun e w' => e = .returned (.tuple #[]) ∧ ∃ l', HeapOk z l' ∧ l'.Perm l ∧ w'.ownsRow B 355 5 (.slice (some ⟨g, 0, none⟩) n cap) n (l'.flatMap enE) ∧ Kp (fun b => b = g) w w' := by
  have hne : g ≠ hb := fun e => own_ne_blk ho hbk (by decide) (by rw [e]; rfl)
  have HB := Lib.hid hbk; have HO := Lib.hid ho; have HU := Lib.hid hU
  clear hbk ho hU
  go_enter Tryz.func190, Tryz.ntmps190
  go_wp2_with fail
  go_loopw [1] (fun i0 wr => ∃ (i : Nat) (m : List (En Pk)), i0 = .int .i64 i ∧ i < n ∧ m.length = n ∧ Hid (UpOk z m i ∧ m.Perm l) ∧ Hid (wr.ownsRow B 355 5 (.slice (some ⟨g, 0, none⟩) n cap) n (m.flatMap enE)) ∧ Hid (Kp (fun b => b = g) w wr)) (fun i0 _ => (intOf i0).toNat)
  case atStart => exact ⟨i, l, rfl, hi, hln, Lib.hid ⟨HU.out, List.Perm.refl _⟩, HO, Lib.hid (Kp.refl _ _)⟩
  case round =>
    obtain ⟨i, m, rfl, hi, hm, HU, HO, HK⟩ := hrel
    have c0 : _ = some (Value.slice (some ⟨g, 0, none⟩) n cap) := (HB.out.kp HK.out (fun e => hne e.symm)).cell 0 rfl
    by_cases h0 : i = 0
    · subst h0
      have HH := Lib.hid (up_stop HU.out.1 (.inl rfl))
      go_wp2_with fail
      go_end0
      exact ⟨rfl, m, HH.out, HU.out.2, HO.out, HK.out⟩
    · have h0' : (0 : Int) < (i : Int) := by omega
      obtain ⟨p, hp⟩ : ∃ p, (i - 1) / 2 = p := ⟨_, rfl⟩
      have hpq : ((i : Int) - 1) / 2 = (p : Int) := by omega
      have hpi : p < i := by omega
      have HP := Lib.hid hp
      have hpn : (p : Int) < n := by omega
      have hin : (i : Int) < n := by omega
      have L1 := Lib.hid (ent_load HO.out i (by omega))
      have L2 := Lib.hid (ent_load HO.out p (by omega))
      have E1 := Lib.hid (atE_get (z := z) (l := m) (i := i) (by omega))
      have E2 := Lib.hid (atE_get (z := z) (l := m) (i := p) (by omega))
      obtain ⟨a, ha⟩ : ∃ a, m[i]'(by omega) = a := ⟨_, rfl⟩
      obtain ⟨b, hb2⟩ : ∃ b, m[p]'(by omega) = b := ⟨_, rfl⟩
      rw [ha] at L1 E1
      rw [hb2] at L2 E2
      have HAH := Lib.hid (fun W => hAhead a b W)
      have HAE := Lib.hid ha
      have HBE := Lib.hid hb2
      clear ha hb2 hp h0
      go_wp2_with fail
      refine wp_region_kept2 [] [0, 1, 2, 3, 4, 5, 6, 7, 8, 9, 10, 11, 12, 13, 14] 15 (by kernel_rfl) (by kernel_rfl) (fun c a d u w h => by cases d <;> exact h) ?_
      simp only [pick, List.getElem?_cons_succ, List.getElem?_cons_zero, List.drop_succ_cons, List.drop_zero]
      show wpKL _ _ _ _ _ _
      repeat (first
        | (refine wpKL_op (by exact rfl) (load_at rfl rfl L1.out) ?_; simp only [Act.put, List.setIfInBounds_toArray, List.set_cons_succ, List.set_cons_zero])
        | (refine wpKL_op (by exact rfl) (load_at rfl rfl L2.out) ?_; simp only [Act.put, List.setIfInBounds_toArray, List.set_cons_succ, List.set_cons_zero])
        | (refine wpKL_op (by exact rfl) (by as_aux_lemma => intro W hK; have e0 := hK.cell c0 id; go_simp; exact rfl) ?_; simp only [Act.put, List.setIfInBounds_toArray, List.set_cons_succ, List.set_cons_zero])
        | (refine wpKL_off (by exact rfl) ?_; simp only [Act.put, List.setIfInBounds_toArray, List.set_cons_succ, List.set_cons_zero])
        | (refine wpKL_call (by exact rfl) (by as_aux_lemma => intro W; go_simp; exact ⟨rfl, rfl⟩) (by intro W hK; with_reducible first | exact HAH.out W) ?_; simp only [Act.put, List.setIfInBounds_toArray, List.set_cons_succ, List.set_cons_zero]))
      show ∀ W, _ → wpList _ _ _ _ _ _
      intro W2 hK2
      have HK2 := Lib.hid hK2
      have HO2 := Lib.hid (own_kp HO.out hK2 (fun _ _ x => x))
      have c2 := hK2.cell c0 id
      clear hK2 c0
      cases hah : ahd a b with
      | false =>
        have HH := Lib.hid (up_stop HU.out.1 (.inr (by rw [HP.out, E1.out, E2.out]; exact hah)))
        have HK3 : Hid (Kp (fun b => b = g) w W2) := Lib.hid (HK.out.trans (HK2.out.mono (fun _ _ x => x.elim)))
        go_wp2
        refine bodyPost_ret (results_none rfl _ _ _) rfl ?_
        exact ⟨rfl, m, HH.out, HU.out.2, HO2.out, HK3.out⟩
      | true =>
        have L3 := Lib.hid (ent_load HO2.out i (by omega))
        have L4 := Lib.hid (ent_load HO2.out p (by omega))
        rw [HAE.out] at L3
        rw [HBE.out] at L4
        go_wp2_with fail
        refine wp_region_kept2 [9] [0, 1, 2, 3, 4, 5, 6, 7, 8, 10, 11, 12, 13, 14, 15, 16, 17, 18, 19, 20, 21, 22, 23] 24 (by kernel_rfl) (by kernel_rfl) (fun c a d u w h => by cases d <;> exact h) ?_
        simp only [pick, List.getElem?_cons_succ, List.getElem?_cons_zero, List.drop_succ_cons, List.drop_zero]
        refine wpHeads_op (by exact rfl) (by as_aux_lemma => intro W; go_simp; exact rfl) ?_; simp only [Act.put, List.setIfInBounds_toArray, List.set_cons_succ, List.set_cons_zero]
        show wpKL _ _ _ _ _ _
        repeat (first
          | (refine wpKL_op (by exact rfl) (load_at rfl rfl L3.out) ?_; simp only [Act.put, List.setIfInBounds_toArray, List.set_cons_succ, List.set_cons_zero])
          | (refine wpKL_op (by exact rfl) (load_at rfl rfl L4.out) ?_; simp only [Act.put, List.setIfInBounds_toArray, List.set_cons_succ, List.set_cons_zero])
          | (refine wpKL_op (by exact rfl) (by as_aux_lemma => intro W hK; have e0 := hK.cell c2 id; go_simp; exact rfl) ?_; simp only [Act.put, List.setIfInBounds_toArray, List.set_cons_succ, List.set_cons_zero])
          | (refine wpKL_off (by exact rfl) ?_; simp only [Act.put, List.setIfInBounds_toArray, List.set_cons_succ, List.set_cons_zero]))
        show ∀ W, _ → wpList _ _ _ _ _ _
        intro W3 hK3
        have HO3 := Lib.hid (own_kp HO2.out hK3 (fun _ _ x => x))
        have HK3 : Hid (Kp (fun b => b = g) w W3) := Lib.hid (HK.out.trans ((HK2.out.trans hK3).mono (fun _ _ x => x.elim)))
        clear hK3 c2
        have HSW : Hid ((m.set i b).set p a = swp z m i p) := by
          show _ = _
          unfold swp
          rw [E1.out, E2.out]
        have HUS := Lib.hid (up_step HU.out.1 (by omega) (by omega) (by rw [HP.out, E1.out, E2.out]; exact hah))
        rw [HP.out] at HUS
        have HPM := Lib.hid ((swp_perm (z := z) (l := m) (i := i) (p := p) (by omega) (by omega) (by omega)).trans HU.out.2)
        go_wp2_with (first
          | (refine wp_set_ent rfl 355 (.tmp 50) (.tmp 42) rfl enE 5 enE_len m HO3.out i (by omega) b rfl rfl rfl (infoEn b) rfl ?_
             intro W4 ho4 hk4
             have HO4 := Lib.hid ho4
             have HK4 : Hid (Kp (fun b => b = g) w W4) := Lib.hid (HK3.out.trans hk4)
             clear ho4 hk4)
          | (refine wp_set_ent rfl 355 (.tmp 51) (.tmp 49) rfl enE 5 enE_len (m.set i b) HO4.out p (by rw [List.length_set]; omega) a rfl rfl rfl (infoEn a) rfl ?_
             intro W5 ho5 hk5
             rw [HSW.out] at ho5
             have HO5 := Lib.hid ho5
             have HK5 : Hid (Kp (fun b => b = g) w W5) := Lib.hid (HK4.out.trans hk5)
             clear ho5 hk5))
        go_roundw
        case rel => exact ⟨p, swp z m i p, rfl, by omega, by rw [swp_len]; exact hm, Lib.hid ⟨HUS.out, HPM.out⟩, HO5, HK5⟩
        case measure => simp [intOf]; omega
end Go.Proofs.YtfckgddodjmbdaaGreatDoor

namespace Go.Proofs.YtfckgddodjmbdaaGreatDoor
set_option linter.unusedVariables false
set_option linter.unusedSimpArgs false
open Go Go.RowKit Go.Shelf
set_option maxRecDepth 100000 in
set_option maxHeartbeats 1000000 in
theorem hDown (z : En Pk) {B hb g cap n : Nat} {u1 u2 : Value} (l : List (En Pk)) (hln : l.length = n) (hn : n ≤ 100000) (i : Nat) (hU : DownOk z l i) (hi : i ≤ n) (w : World)
    (hbk : Blk w hb [.slice (some ⟨g, 0, none⟩) n cap, u1, u2] 281) (ho : w.ownsRow B 355 5 (.slice (some ⟨g, 0, none⟩) n cap) n (l.flatMap enE)) :
    Calls Tryz.prog 189 #[.pointer (some ⟨hb, 0, none⟩), .int .i64 i] w fun e w' => e = .returned (.tuple #[]) ∧ ∃ l', HeapOk z l' ∧ l'.Perm l ∧ w'.ownsRow B 355 5 (.slice (some ⟨g, 0, none⟩) n cap) n (l'.flatMap enE) ∧ Kp (fun b => b = g) w w' := by
  have hne : g ≠ hb := fun e => own_ne_blk ho hbk (by decide) (by rw [e]; rfl)
  have HB := Lib.hid hbk; have HO := Lib.hid ho; have HU := Lib.hid hU
  clear hbk ho hU
  go_enter Tryz.func189, Tryz.ntmps189
  go_wp2_with fail
  go_loopw [1] (fun i0 wr => ∃ (i : Nat) (m : List (En Pk)), i0 = .int .i64 i ∧ i ≤ n ∧ m.length = n ∧ Hid (DownOk z m i ∧ m.Perm l) ∧ Hid (wr.ownsRow B 355 5 (.slice (some ⟨g, 0, none⟩) n cap) n (m.flatMap enE)) ∧ Hid (Kp (fun b => b = g) w wr)) (fun i0 _ => n + 1 - (intOf i0).toNat)
  case atStart => exact ⟨i, l, rfl, hi, hln, Lib.hid ⟨HU.out, List.Perm.refl _⟩, HO, Lib.hid (Kp.refl _ _)⟩
  case round =>
    obtain ⟨i, m, rfl, hi, hm, HU, HO, HK⟩ := hrel
    have c0 : _ = some (Value.slice (some ⟨g, 0, none⟩) n cap) := (HB.out.kp HK.out (fun e => hne e.symm)).cell 0 rfl
    by_cases hu : n ≤ 2 * i + 1
    · have hu' : (n : Int) ≤ 2 * (i : Int) + 1 := by omega
      have HH := Lib.hid (down_stop HU.out.1 (fun j hj h0 hji => by omega))
      go_wp2_with fail
      refine bodyPost_ret (results_none rfl _ _ _) rfl ?_
      exact ⟨rfl, m, HH.out, HU.out.2, HO.out, HK.out⟩
    · have hu' : ¬ ((n : Int) ≤ 2 * (i : Int) + 1) := by omega
      obtain ⟨u, hue⟩ : ∃ u, 2 * i + 1 = u := ⟨_, rfl⟩
      have hui : 2 * (i : Int) + 1 = (u : Int) := by omega
      have hun : u < n := by omega
      have huz : (u : Int) < n := by omega
      by_cases hv : u + 1 < n
      · have hv' : (u : Int) + 1 < n := by omega
        have L1 := Lib.hid (ent_load HO.out (u + 1) (by omega))
        have L2 := Lib.hid (ent_load HO.out u (by omega))
        have E1 := Lib.hid (atE_get (z := z) (l := m) (i := u + 1) (by omega))
        have E2 := Lib.hid (atE_get (z := z) (l := m) (i := u) (by omega))
        obtain ⟨a, ha⟩ : ∃ a, m[u + 1]'(by omega) = a := ⟨_, rfl⟩
        obtain ⟨b, hb2⟩ : ∃ b, m[u]'(by omega) = b := ⟨_, rfl⟩
        rw [ha] at L1 E1
        rw [hb2] at L2 E2
        have HAH := Lib.hid (fun W => hAhead a b W)
        clear ha hb2
        have HW : Hid (IntKind.i64.wrap ((u : Int) + 1) = (u : Int) + 1) := Lib.hid (by rw [IntKind.wrap_i64]; omega)
        have HV : Hid (decide ((u : Int) + 1 < n) = true) := Lib.hid (by simpa using hv')
        have HI : Hid (((u : Int) + 1).toNat = u + 1) := Lib.hid (by omega)
        go_wp2_with fail
        refine wp_region_kept2 [] [0, 1, 2, 3, 4, 5, 6, 7, 8, 9, 10, 11, 12, 13, 14, 15, 16, 17, 18, 19, 20, 21, 22, 23, 24] 25 (by kernel_rfl) (by kernel_rfl) (fun c a d u w h => by cases d <;> exact h) ?_
        simp only [pick, List.getElem?_cons_succ, List.getElem?_cons_zero, List.drop_succ_cons, List.drop_zero]
        show wpKL _ _ _ _ _ _
        repeat (first
          | (refine wpKL_op (by exact rfl) (load_at rfl rfl L1.out) ?_; simp only [Act.put, List.setIfInBounds_toArray, List.set_cons_succ, List.set_cons_zero])
          | (refine wpKL_op (by exact rfl) (load_at rfl rfl L2.out) ?_; simp only [Act.put, List.setIfInBounds_toArray, List.set_cons_succ, List.set_cons_zero])
          | (refine wpKL_op (by exact rfl) (by as_aux_lemma => intro W hK; have e0 := hK.cell c0 (fun x => x); have e1 := HW.out; have e2 := HV.out; have e3 := HI.out; go_simp; exact rfl) ?_; simp only [Act.put, List.setIfInBounds_toArray, List.set_cons_succ, List.set_cons_zero])
          | (refine wpKL_off (by exact rfl) ?_; simp only [Act.put, List.setIfInBounds_toArray, List.set_cons_succ, List.set_cons_zero])
          | (refine wpKL_call (by exact rfl) (by as_aux_lemma => intro W; go_simp; exact ⟨rfl, rfl⟩) (by intro W hK; with_reducible first | exact HAH.out W) ?_; simp only [Act.put, List.setIfInBounds_toArray, List.set_cons_succ, List.set_cons_zero]))
        show ∀ W, _ → wpList _ _ _ _ _ _
        intro W2 hK2
        have HO2 := Lib.hid (own_kp HO.out hK2 (fun _ _ x => x))
        have c2 := hK2.cell c0 (fun x => x)
        have HK2 : Hid (Kp (fun b => b = g) w W2) := Lib.hid (HK.out.trans (hK2.mono (fun _ _ x => x.elim)))
        clear hK2 c0
        cases hab : ahd a b with
        | true =>
          have HBS : Hid (∀ j, j < m.length → 0 < j → (j - 1) / 2 = i → ahd (atE z m j) (atE z m (u + 1)) = false) := Lib.hid (fun j hj h0 hji => by
            have : j = u ∨ j = u + 1 := by omega
            rcases this with rfl | rfl
            · rw [E1.out, E2.out]; exact ahd_asymm hab
            · exact ahd_refl _)
          obtain ⟨q, hq⟩ : ∃ q, u + 1 = q := ⟨_, rfl⟩
          have hqz : (u : Int) + 1 = (q : Int) := by omega
          have hqn : q < n := by omega
          rw [hq] at HBS
          clear hab E1 E2 L1 L2
          have HQI : Hid ((q - 1) / 2 = i) := Lib.hid (by omega)
          have hqn' : (q : Int) < n := by omega
          have hin' : (i : Int) < n := by omega
          have L5 := Lib.hid (ent_load HO2.out q (by omega))
          have L6 := Lib.hid (ent_load HO2.out i (by omega))
          have E5 := Lib.hid (atE_get (z := z) (l := m) (i := q) (by omega))
          have E6 := Lib.hid (atE_get (z := z) (l := m) (i := i) (by omega))
          obtain ⟨x, hx⟩ : ∃ x, m[q]'(by omega) = x := ⟨_, rfl⟩
          obtain ⟨y, hy⟩ : ∃ y, m[i]'(by omega) = y := ⟨_, rfl⟩
          rw [hx] at L5 E5
          rw [hy] at L6 E6
          have HX := Lib.hid hx
          have HY := Lib.hid hy
          have HAX := Lib.hid (fun W => hAhead x y W)
          clear hx hy
          go_wp2_with fail
          refine wp_region_kept2 [] [0, 1, 2, 3, 4, 5, 6, 7, 8, 9, 10, 11, 12, 13, 14] 15 (by kernel_rfl) (by kernel_rfl) (fun c a d u w h => by cases d <;> exact h) ?_
          simp only [pick, List.getElem?_cons_succ, List.getElem?_cons_zero, List.drop_succ_cons, List.drop_zero]
          show wpKL _ _ _ _ _ _
          repeat (first
            | (refine wpKL_op (by exact rfl) (load_at rfl rfl L5.out) ?_; simp only [Act.put, List.setIfInBounds_toArray, List.set_cons_succ, List.set_cons_zero])
            | (refine wpKL_op (by exact rfl) (load_at rfl rfl L6.out) ?_; simp only [Act.put, List.setIfInBounds_toArray, List.set_cons_succ, List.set_cons_zero])
            | (refine wpKL_op (by exact rfl) (by as_aux_lemma => intro W hK; have e0 := hK.cell c2 (fun x => x); go_simp; exact rfl) ?_; simp only [Act.put, List.setIfInBounds_toArray, List.set_cons_succ, List.set_cons_zero])
            | (refine wpKL_off (by exact rfl) ?_; simp only [Act.put, List.setIfInBounds_toArray, List.set_cons_succ, List.set_cons_zero])
            | (refine wpKL_call (by exact rfl) (by as_aux_lemma => intro W; go_simp; exact ⟨rfl, rfl⟩) (by intro W hK; with_reducible first | exact HAX.out W) ?_; simp only [Act.put, List.setIfInBounds_toArray, List.set_cons_succ, List.set_cons_zero]))
          show ∀ W, _ → wpList _ _ _ _ _ _
          intro W3 hK3
          have HO3 := Lib.hid (own_kp HO2.out hK3 (fun _ _ x => x))
          have c3 := hK3.cell c2 (fun x => x)
          have HK3 : Hid (Kp (fun b => b = g) w W3) := Lib.hid (HK2.out.trans (hK3.mono (fun _ _ x => x.elim)))
          clear hK3 c2
          cases hah : ahd x y with
          | false =>
            have HH := Lib.hid (down_stop HU.out.1 (fun j hj h0 hji => by
              have h1 := HBS.out j hj h0 hji
              have h2 := hah
              rw [← E5.out, ← E6.out] at h2
              exact ahd_trans h1 h2))
            go_wp2
            refine bodyPost_ret (results_none rfl _ _ _) rfl ?_
            exact ⟨rfl, m, HH.out, HU.out.2, HO3.out, HK3.out⟩
          | true =>
            have L7 := Lib.hid (ent_load HO3.out q (by omega))
            have L8 := Lib.hid (ent_load HO3.out i (by omega))
            rw [HX.out] at L7
            rw [HY.out] at L8
            have HSW : Hid ((m.set i x).set q y = swp z m i q) := by
              show _ = _
              unfold swp
              rw [E5.out, E6.out]
            have HUS := Lib.hid (down_step HU.out.1 (by omega) HQI.out (by omega) (by rw [E5.out, E6.out]; exact hah) HBS.out)
            have HPM := Lib.hid ((swp_perm (z := z) (l := m) (i := i) (p := q) (by omega) (by omega) (by omega)).trans HU.out.2)
            go_wp2_with fail
            refine wp_region_kept2 [9] [0, 1, 2, 3, 4, 5, 6, 7, 8, 10, 11, 12, 13, 14, 15, 16, 17, 18, 19, 20, 21, 22, 23] 24 (by kernel_rfl) (by kernel_rfl) (fun c a d u w h => by cases d <;> exact h) ?_
            simp only [pick, List.getElem?_cons_succ, List.getElem?_cons_zero, List.drop_succ_cons, List.drop_zero]
            repeat (first
              | (refine wpHeads_op (by exact rfl) (by as_aux_lemma => intro W; go_simp; exact rfl) ?_; simp only [Act.put, List.setIfInBounds_toArray, List.set_cons_succ, List.set_cons_zero])
              | (refine wpHeads_off (by exact rfl) ?_; simp only [Act.put, List.setIfInBounds_toArray, List.set_cons_succ, List.set_cons_zero]))
            show wpKL _ _ _ _ _ _
            repeat (first
              | (refine wpKL_op (by exact rfl) (load_at rfl rfl L7.out) ?_; simp only [Act.put, List.setIfInBounds_toArray, List.set_cons_succ, List.set_cons_zero])
              | (refine wpKL_op (by exact rfl) (load_at rfl rfl L8.out) ?_; simp only [Act.put, List.setIfInBounds_toArray, List.set_cons_succ, List.set_cons_zero])
              | (refine wpKL_op (by exact rfl) (by as_aux_lemma => intro W hK; have e0 := hK.cell c3 (fun x => x); go_simp; exact rfl) ?_; simp only [Act.put, List.setIfInBounds_toArray, List.set_cons_succ, List.set_cons_zero])
              | (refine wpKL_off (by exact rfl) ?_; simp only [Act.put, List.setIfInBounds_toArray, List.set_cons_succ, List.set_cons_zero]))
            show ∀ W, _ → wpList _ _ _ _ _ _
            intro W4 hK4
            have HO4 := Lib.hid (own_kp HO3.out hK4 (fun _ _ x => x))
            have HK4 : Hid (Kp (fun b => b = g) w W4) := Lib.hid (HK3.out.trans (hK4.mono (fun _ _ x => x.elim)))
            clear hK4 c3
            go_wp2_with (first
              | (refine wp_set_ent rfl 355 (.tmp 83) (.tmp 75) rfl enE 5 enE_len m HO4.out i (by omega) x rfl rfl rfl (infoEn x) rfl ?_
                 intro W5 ho5 hk5
                 have HO5 := Lib.hid ho5
                 have HK5 : Hid (Kp (fun b => b = g) w W5) := Lib.hid (HK4.out.trans hk5)
                 clear ho5 hk5)
              | (refine wp_set_ent rfl 355 (.tmp 84) (.tmp 82) rfl enE 5 enE_len (m.set i x) HO5.out q (by rw [List.length_set]; omega) y rfl rfl rfl (infoEn y) rfl ?_
                 intro W6 ho6 hk6
                 rw [HSW.out] at ho6
                 have HO6 := Lib.hid ho6
                 have HK6 : Hid (Kp (fun b => b = g) w W6) := Lib.hid (HK5.out.trans hk6)
                 clear ho6 hk6))
            go_roundw
            case rel => exact ⟨q, swp z m i q, rfl, by omega, by rw [swp_len]; exact hm, Lib.hid ⟨HUS.out, HPM.out⟩, HO6, HK6⟩
            case measure => simp [intOf]; omega
        | false =>
          have HBS : Hid (∀ j, j < m.length → 0 < j → (j - 1) / 2 = i → ahd (atE z m j) (atE z m u) = false) := Lib.hid (fun j hj h0 hji => by
            have : j = u ∨ j = u + 1 := by omega
            rcases this with rfl | rfl
            · exact ahd_refl _
            · rw [E1.out, E2.out]; exact hab)
          obtain ⟨q, hq⟩ : ∃ q, q = u := ⟨_, rfl⟩
          have hqn : q < n := by omega
          subst hq
          clear hab E1 E2 L1 L2
          have HQI : Hid ((q - 1) / 2 = i) := Lib.hid (by omega)
          have hqn' : (q : Int) < n := by omega
          have hin' : (i : Int) < n := by omega
          have L5 := Lib.hid (ent_load HO2.out q (by omega))
          have L6 := Lib.hid (ent_load HO2.out i (by omega))
          have E5 := Lib.hid (atE_get (z := z) (l := m) (i := q) (by omega))
          have E6 := Lib.hid (atE_get (z := z) (l := m) (i := i) (by omega))
          obtain ⟨x, hx⟩ : ∃ x, m[q]'(by omega) = x := ⟨_, rfl⟩
          obtain ⟨y, hy⟩ : ∃ y, m[i]'(by omega) = y := ⟨_, rfl⟩
          rw [hx] at L5 E5
          rw [hy] at L6 E6
          have HX := Lib.hid hx
          have HY := Lib.hid hy
          have HAX := Lib.hid (fun W => hAhead x y W)
          clear hx hy
          go_wp2_with fail
          refine wp_region_kept2 [] [0, 1, 2, 3, 4, 5, 6, 7, 8, 9, 10, 11, 12, 13, 14] 15 (by kernel_rfl) (by kernel_rfl) (fun c a d u w h => by cases d <;> exact h) ?_
          simp only [pick, List.getElem?_cons_succ, List.getElem?_cons_zero, List.drop_succ_cons, List.drop_zero]
          show wpKL _ _ _ _ _ _
          repeat (first
            | (refine wpKL_op (by exact rfl) (load_at rfl rfl L5.out) ?_; simp only [Act.put, List.setIfInBounds_toArray, List.set_cons_succ, List.set_cons_zero])
            | (refine wpKL_op (by exact rfl) (load_at rfl rfl L6.out) ?_; simp only [Act.put, List.setIfInBounds_toArray, List.set_cons_succ, List.set_cons_zero])
            | (refine wpKL_op (by exact rfl) (by as_aux_lemma => intro W hK; have e0 := hK.cell c2 (fun x => x); go_simp; exact rfl) ?_; simp only [Act.put, List.setIfInBounds_toArray, List.set_cons_succ, List.set_cons_zero])
            | (refine wpKL_off (by exact rfl) ?_; simp only [Act.put, List.setIfInBounds_toArray, List.set_cons_succ, List.set_cons_zero])
            | (refine wpKL_call (by exact rfl) (by as_aux_lemma => intro W; go_simp; exact ⟨rfl, rfl⟩) (by intro W hK; with_reducible first | exact HAX.out W) ?_; simp only [Act.put, List.setIfInBounds_toArray, List.set_cons_succ, List.set_cons_zero]))
          show ∀ W, _ → wpList _ _ _ _ _ _
          intro W3 hK3
          have HO3 := Lib.hid (own_kp HO2.out hK3 (fun _ _ x => x))
          have c3 := hK3.cell c2 (fun x => x)
          have HK3 : Hid (Kp (fun b => b = g) w W3) := Lib.hid (HK2.out.trans (hK3.mono (fun _ _ x => x.elim)))
          clear hK3 c2
          cases hah : ahd x y with
          | false =>
            have HH := Lib.hid (down_stop HU.out.1 (fun j hj h0 hji => by
              have h1 := HBS.out j hj h0 hji
              have h2 := hah
              rw [← E5.out, ← E6.out] at h2
              exact ahd_trans h1 h2))
            go_wp2
            refine bodyPost_ret (results_none rfl _ _ _) rfl ?_
            exact ⟨rfl, m, HH.out, HU.out.2, HO3.out, HK3.out⟩
          | true =>
            have L7 := Lib.hid (ent_load HO3.out q (by omega))
            have L8 := Lib.hid (ent_load HO3.out i (by omega))
            rw [HX.out] at L7
            rw [HY.out] at L8
            have HSW : Hid ((m.set i x).set q y = swp z m i q) := by
              show _ = _
              unfold swp
              rw [E5.out, E6.out]
            have HUS := Lib.hid (down_step HU.out.1 (by omega) HQI.out (by omega) (by rw [E5.out, E6.out]; exact hah) HBS.out)
            have HPM := Lib.hid ((swp_perm (z := z) (l := m) (i := i) (p := q) (by omega) (by omega) (by omega)).trans HU.out.2)
            go_wp2_with fail
            refine wp_region_kept2 [9] [0, 1, 2, 3, 4, 5, 6, 7, 8, 10, 11, 12, 13, 14, 15, 16, 17, 18, 19, 20, 21, 22, 23] 24 (by kernel_rfl) (by kernel_rfl) (fun c a d u w h => by cases d <;> exact h) ?_
            simp only [pick, List.getElem?_cons_succ, List.getElem?_cons_zero, List.drop_succ_cons, List.drop_zero]
            repeat (first
              | (refine wpHeads_op (by exact rfl) (by as_aux_lemma => intro W; go_simp; exact rfl) ?_; simp only [Act.put, List.setIfInBounds_toArray, List.set_cons_succ, List.set_cons_zero])
              | (refine wpHeads_off (by exact rfl) ?_; simp only [Act.put, List.setIfInBounds_toArray, List.set_cons_succ, List.set_cons_zero]))
            show wpKL _ _ _ _ _ _
            repeat (first
              | (refine wpKL_op (by exact rfl) (load_at rfl rfl L7.out) ?_; simp only [Act.put, List.setIfInBounds_toArray, List.set_cons_succ, List.set_cons_zero])
              | (refine wpKL_op (by exact rfl) (load_at rfl rfl L8.out) ?_; simp only [Act.put, List.setIfInBounds_toArray, List.set_cons_succ, List.set_cons_zero])
              | (refine wpKL_op (by exact rfl) (by as_aux_lemma => intro W hK; have e0 := hK.cell c3 (fun x => x); go_simp; exact rfl) ?_; simp only [Act.put, List.setIfInBounds_toArray, List.set_cons_succ, List.set_cons_zero])
              | (refine wpKL_off (by exact rfl) ?_; simp only [Act.put, List.setIfInBounds_toArray, List.set_cons_succ, List.set_cons_zero]))
            show ∀ W, _ → wpList _ _ _ _ _ _
            intro W4 hK4
            have HO4 := Lib.hid (own_kp HO3.out hK4 (fun _ _ x => x))
            have HK4 : Hid (Kp (fun b => b = g) w W4) := Lib.hid (HK3.out.trans (hK4.mono (fun _ _ x => x.elim)))
            clear hK4 c3
            go_wp2_with (first
              | (refine wp_set_ent rfl 355 (.tmp 83) (.tmp 75) rfl enE 5 enE_len m HO4.out i (by omega) x rfl rfl rfl (infoEn x) rfl ?_
                 intro W5 ho5 hk5
                 have HO5 := Lib.hid ho5
                 have HK5 : Hid (Kp (fun b => b = g) w W5) := Lib.hid (HK4.out.trans hk5)
                 clear ho5 hk5)
              | (refine wp_set_ent rfl 355 (.tmp 84) (.tmp 82) rfl enE 5 enE_len (m.set i x) HO5.out q (by rw [List.length_set]; omega) y rfl rfl rfl (infoEn y) rfl ?_
                 intro W6 ho6 hk6
                 rw [HSW.out] at ho6
                 have HO6 := Lib.hid ho6
                 have HK6 : Hid (Kp (fun b => b = g) w W6) := Lib.hid (HK5.out.trans hk6)
                 clear ho6 hk6))
            go_roundw
            case rel => exact ⟨q, swp z m i q, rfl, by omega, by rw [swp_len]; exact hm, Lib.hid ⟨HUS.out, HPM.out⟩, HO6, HK6⟩
            case measure => simp [intOf]; omega
      · have hv' : ¬ ((u : Int) + 1 < n) := by omega
        have HBS : Hid (∀ j, j < m.length → 0 < j → (j - 1) / 2 = i → ahd (atE z m j) (atE z m u) = false) := Lib.hid (fun j hj h0 hji => by
          have : j = u := by omega
          subst this; exact ahd_refl _)
        have HW : Hid (IntKind.i64.wrap ((u : Int) + 1) = (u : Int) + 1) := Lib.hid (by rw [IntKind.wrap_i64]; omega)
        have HV : Hid (decide ((u : Int) + 1 < n) = false) := Lib.hid (by simpa using hv')
        go_wp2_with fail
        refine wp_region_kept2 [] [0, 1, 2, 3, 4, 5, 6, 7, 8, 9, 10, 11, 12, 13, 14, 15, 16, 17, 18, 19, 20, 21, 22, 23, 24] 25 (by kernel_rfl) (by kernel_rfl) (fun c a d u w h => by cases d <;> exact h) ?_
        simp only [pick, List.getElem?_cons_succ, List.getElem?_cons_zero, List.drop_succ_cons, List.drop_zero]
        show wpKL _ _ _ _ _ _
        repeat (first
          | (refine wpKL_op (by exact rfl) (by as_aux_lemma => intro W hK; have e0 := hK.cell c0 (fun x => x); have e1 := HW.out; have e2 := HV.out; go_simp; exact rfl) ?_; simp only [Act.put, List.setIfInBounds_toArray, List.set_cons_succ, List.set_cons_zero])
          | (refine wpKL_off (by exact rfl) ?_; simp only [Act.put, List.setIfInBounds_toArray, List.set_cons_succ, List.set_cons_zero]))
        show ∀ W, _ → wpList _ _ _ _ _ _
        intro W2 hK2
        have HO2 := Lib.hid (own_kp HO.out hK2 (fun _ _ x => x))
        have c2 := hK2.cell c0 (fun x => x)
        have HK2 : Hid (Kp (fun b => b = g) w W2) := Lib.hid (HK.out.trans (hK2.mono (fun _ _ x => x.elim)))
        clear hK2 c0
        obtain ⟨q, hq⟩ : ∃ q, q = u := ⟨_, rfl⟩
        have hqn : q < n := by omega
        subst hq
        have HQI : Hid ((q - 1) / 2 = i) := Lib.hid (by omega)
        have hqn' : (q : Int) < n := by omega
        have hin' : (i : Int) < n := by omega
        have L5 := Lib.hid (ent_load HO2.out q (by omega))
        have L6 := Lib.hid (ent_load HO2.out i (by omega))
        have E5 := Lib.hid (atE_get (z := z) (l := m) (i := q) (by omega))
        have E6 := Lib.hid (atE_get (z := z) (l := m) (i := i) (by omega))
        obtain ⟨x, hx⟩ : ∃ x, m[q]'(by omega) = x := ⟨_, rfl⟩
        obtain ⟨y, hy⟩ : ∃ y, m[i]'(by omega) = y := ⟨_, rfl⟩
        rw [hx] at L5 E5
        rw [hy] at L6 E6
        have HX := Lib.hid hx
        have HY := Lib.hid hy
        have HAX := Lib.hid (fun W => hAhead x y W)
        clear hx hy
        go_wp2_with fail
        refine wp_region_kept2 [] [0, 1, 2, 3, 4, 5, 6, 7, 8, 9, 10, 11, 12, 13, 14] 15 (by kernel_rfl) (by kernel_rfl) (fun c a d u w h => by cases d <;> exact h) ?_
        simp only [pick, List.getElem?_cons_succ, List.getElem?_cons_zero, List.drop_succ_cons, List.drop_zero]
        show wpKL _ _ _ _ _ _
        repeat (first
          | (refine wpKL_op (by exact rfl) (load_at rfl rfl L5.out) ?_; simp only [Act.put, List.setIfInBounds_toArray, List.set_cons_succ, List.set_cons_zero])
          | (refine wpKL_op (by exact rfl) (load_at rfl rfl L6.out) ?_; simp only [Act.put, List.setIfInBounds_toArray, List.set_cons_succ, List.set_cons_zero])
          | (refine wpKL_op (by exact rfl) (by as_aux_lemma => intro W hK; have e0 := hK.cell c2 (fun x => x); go_simp; exact rfl) ?_; simp only [Act.put, List.setIfInBounds_toArray, List.set_cons_succ, List.set_cons_zero])
          | (refine wpKL_off (by exact rfl) ?_; simp only [Act.put, List.setIfInBounds_toArray, List.set_cons_succ, List.set_cons_zero])
          | (refine wpKL_call (by exact rfl) (by as_aux_lemma => intro W; go_simp; exact ⟨rfl, rfl⟩) (by intro W hK; with_reducible first | exact HAX.out W) ?_; simp only [Act.put, List.setIfInBounds_toArray, List.set_cons_succ, List.set_cons_zero]))
        show ∀ W, _ → wpList _ _ _ _ _ _
        intro W3 hK3
        have HO3 := Lib.hid (own_kp HO2.out hK3 (fun _ _ x => x))
        have c3 := hK3.cell c2 (fun x => x)
        have HK3 : Hid (Kp (fun b => b = g) w W3) := Lib.hid (HK2.out.trans (hK3.mono (fun _ _ x => x.elim)))
        clear hK3 c2
        cases hah : ahd x y with
        | false =>
          have HH := Lib.hid (down_stop HU.out.1 (fun j hj h0 hji => by
            have h1 := HBS.out j hj h0 hji
            have h2 := hah
            rw [← E5.out, ← E6.out] at h2
            exact ahd_trans h1 h2))
          go_wp2
          refine bodyPost_ret (results_none rfl _ _ _) rfl ?_
          exact ⟨rfl, m, HH.out, HU.out.2, HO3.out, HK3.out⟩
        | true =>
          have L7 := Lib.hid (ent_load HO3.out q (by omega))
          have L8 := Lib.hid (ent_load HO3.out i (by omega))
          rw [HX.out] at L7
          rw [HY.out] at L8
          have HSW : Hid ((m.set i x).set q y = swp z m i q) := by
            show _ = _
            unfold swp
            rw [E5.out, E6.out]
          have HUS := Lib.hid (down_step HU.out.1 (by omega) HQI.out (by omega) (by rw [E5.out, E6.out]; exact hah) HBS.out)
          have HPM := Lib.hid ((swp_perm (z := z) (l := m) (i := i) (p := q) (by omega) (by omega) (by omega)).trans HU.out.2)
          go_wp2_with fail
          refine wp_region_kept2 [9] [0, 1, 2, 3, 4, 5, 6, 7, 8, 10, 11, 12, 13, 14, 15, 16, 17, 18, 19, 20, 21, 22, 23] 24 (by kernel_rfl) (by kernel_rfl) (fun c a d u w h => by cases d <;> exact h) ?_
          simp only [pick, List.getElem?_cons_succ, List.getElem?_cons_zero, List.drop_succ_cons, List.drop_zero]
          repeat (first
            | (refine wpHeads_op (by exact rfl) (by as_aux_lemma => intro W; go_simp; exact rfl) ?_; simp only [Act.put, List.setIfInBounds_toArray, List.set_cons_succ, List.set_cons_zero])
            | (refine wpHeads_off (by exact rfl) ?_; simp only [Act.put, List.setIfInBounds_toArray, List.set_cons_succ, List.set_cons_zero]))
          show wpKL _ _ _ _ _ _
          repeat (first
            | (refine wpKL_op (by exact rfl) (load_at rfl rfl L7.out) ?_; simp only [Act.put, List.setIfInBounds_toArray, List.set_cons_succ, List.set_cons_zero])
            | (refine wpKL_op (by exact rfl) (load_at rfl rfl L8.out) ?_; simp only [Act.put, List.setIfInBounds_toArray, List.set_cons_succ, List.set_cons_zero])
            | (refine wpKL_op (by exact rfl) (by as_aux_lemma => intro W hK; have e0 := hK.cell c3 (fun x => x); go_simp; exact rfl) ?_; simp only [Act.put, List.setIfInBounds_toArray, List.set_cons_succ, List.set_cons_zero])
            | (refine wpKL_off (by exact rfl) ?_; simp only [Act.put, List.setIfInBounds_toArray, List.set_cons_succ, List.set_cons_zero]))
          show ∀ W, _ → wpList _ _ _ _ _ _
          intro W4 hK4
          have HO4 := Lib.hid (own_kp HO3.out hK4 (fun _ _ x => x))
          have HK4 : Hid (Kp (fun b => b = g) w W4) := Lib.hid (HK3.out.trans (hK4.mono (fun _ _ x => x.elim)))
          clear hK4 c3
          go_wp2_with (first
            | (refine wp_set_ent rfl 355 (.tmp 83) (.tmp 75) rfl enE 5 enE_len m HO4.out i (by omega) x rfl rfl rfl (infoEn x) rfl ?_
               intro W5 ho5 hk5
               have HO5 := Lib.hid ho5
               have HK5 : Hid (Kp (fun b => b = g) w W5) := Lib.hid (HK4.out.trans hk5)
               clear ho5 hk5)
            | (refine wp_set_ent rfl 355 (.tmp 84) (.tmp 82) rfl enE 5 enE_len (m.set i x) HO5.out q (by rw [List.length_set]; omega) y rfl rfl rfl (infoEn y) rfl ?_
               intro W6 ho6 hk6
               rw [HSW.out] at ho6
               have HO6 := Lib.hid ho6
               have HK6 : Hid (Kp (fun b => b = g) w W6) := Lib.hid (HK5.out.trans hk6)
               clear ho6 hk6))
          go_roundw
          case rel => exact ⟨q, swp z m i q, rfl, by omega, by rw [swp_len]; exact hm, Lib.hid ⟨HUS.out, HPM.out⟩, HO6, HK6⟩
          case measure => simp [intOf]; omega
end Go.Proofs.YtfckgddodjmbdaaGreatDoor
