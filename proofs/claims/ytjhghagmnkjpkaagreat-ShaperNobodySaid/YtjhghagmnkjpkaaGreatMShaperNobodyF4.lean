/- Heaps (layer 9): up. -/
import Derived.Test.YtjhghagmnkjpkaaGreatMShaperNobodyF3
namespace Go.Proofs.YtjhghagmnkjpkaaGreat
set_option linter.unusedVariables false
set_option linter.unusedSimpArgs false
open Go Go.RowKit Go.Shelf
theorem own_there {w : World} {B g cap n : Nat} {xs : List Value} (h : w.ownsRow B 210 5 (.slice (some ⟨g, 0, none⟩) n cap) n xs) (i : Nat) (hi : i < n) (e : En Pk) : w.there g (i * 5) (enE e).toArray.size := fun j hj => by
  have hj : j < 5 := hj
  have hl : xs.length = n * 5 := h.1
  have hlt : i * 5 + j < xs.length := by omega
  exact ⟨by rw [own_cell h (i * 5 + j) (List.getElem?_eq_getElem hlt)]; rfl, own_fz h _⟩
set_option maxRecDepth 100000 in
set_option maxHeartbeats 1000000 in
theorem hUp (z : En Pk) {B hb g cap n : Nat} {u1 u2 : Value} (l : List (En Pk)) (hln : l.length = n) (hn : n ≤ 100000) (i : Nat) (hU : UpOk z l i) (hi : i < n) (w : World)
    (hbk : Blk w hb [.slice (some ⟨g, 0, none⟩) n cap, u1, u2] 139) (ho : w.ownsRow B 210 5 (.slice (some ⟨g, 0, none⟩) n cap) n (l.flatMap enE)) :
    Calls Tryz.prog 118 #[.pointer (some ⟨hb, 0, none⟩), .int .i64 i] w fun e w' => e = .returned (.tuple #[]) ∧ ∃ l', HeapOk z l' ∧ l'.Perm l ∧ w'.ownsRow B 210 5 (.slice (some ⟨g, 0, none⟩) n cap) n (l'.flatMap enE) ∧ Kp (fun b => b = g) w w' := by
  have hne : g ≠ hb := fun e => own_ne_blk ho hbk (by decide) (by rw [e]; rfl)
  have HB := Lib.hid hbk; have HO := Lib.hid ho; have HU := Lib.hid hU
  clear hbk ho hU
  go_enter Tryz.func118, Tryz.ntmps118
  go_wp2_with fail
  go_loopw [1] (fun i0 wr => ∃ (i : Nat) (m : List (En Pk)), i0 = .int .i64 i ∧ i < n ∧ m.length = n ∧ Hid (UpOk z m i ∧ m.Perm l) ∧ Hid (wr.ownsRow B 210 5 (.slice (some ⟨g, 0, none⟩) n cap) n (m.flatMap enE)) ∧ Hid (Kp (fun b => b = g) w wr)) (fun i0 _ => (intOf i0).toNat)
  case atStart => exact ⟨i, l, rfl, hi, hln, Lib.hid ⟨HU.out, List.Perm.refl _⟩, HO, Lib.hid (Kp.refl _ _)⟩
  case round =>
    obtain ⟨i, m, rfl, hi, hm, HU, HO, HK⟩ := hrel
    have c0 : _ = some (Value.slice (some ⟨g, 0, none⟩) n cap) := (HB.out.kp HK.out (fun e => hne e.symm)).cell 0 rfl
    by_cases h0 : i = 0
    · subst h0
      have HH := Lib.hid (up_stop HU.out.1 (.inl rfl))
      go_wp2_with fail
      go_end0
      exact ⟨rfl, m, HH.out, HU.out.2, HO.out, HK.out⟩
    · have h0' : (0 : Int) < (i : Int) := by omega
      obtain ⟨p, hp⟩ : ∃ p, (i - 1) / 2 = p := ⟨_, rfl⟩
      have hpq : ((i : Int) - 1) / 2 = (p : Int) := by omega
      have hpi : p < i := by omega
      have HP := Lib.hid hp
      have hpn : (p : Int) < n := by omega
      have hin : (i : Int) < n := by omega
      have L1 := Lib.hid (ent_load HO.out i (by omega))
      have L2 := Lib.hid (ent_load HO.out p (by omega))
      have E1 := Lib.hid (atE_get (z := z) (l := m) (i := i) (by omega))
      have E2 := Lib.hid (atE_get (z := z) (l := m) (i := p) (by omega))
      obtain ⟨a, ha⟩ : ∃ a, m[i]'(by omega) = a := ⟨_, rfl⟩
      obtain ⟨b, hb2⟩ : ∃ b, m[p]'(by omega) = b := ⟨_, rfl⟩
      rw [ha] at L1 E1
      rw [hb2] at L2 E2
      have HAH := Lib.hid (fun W => hAhead a b W)
      have HAE := Lib.hid ha
      have HBE := Lib.hid hb2
      clear ha hb2 hp h0
      go_wp2_with fail
      refine wp_region_kept2 [] [0, 1, 2, 3, 4, 5, 6, 7, 8, 9, 10, 11, 12, 13, 14] 15 (by kernel_rfl) (by kernel_rfl) (fun c a d u w h => by cases d <;> exact h) ?_
      simp only [pick, List.getElem?_cons_succ, List.getElem?_cons_zero, List.drop_succ_cons, List.drop_zero]
      show wpKL _ _ _ _ _ _
      repeat (first
        | (refine wpKL_op (by exact rfl) (load_at rfl rfl L1.out) ?_; simp only [Act.put, List.setIfInBounds_toArray, List.set_cons_succ, List.set_cons_zero])
        | (refine wpKL_op (by exact rfl) (load_at rfl rfl L2.out) ?_; simp only [Act.put, List.setIfInBounds_toArray, List.set_cons_succ, List.set_cons_zero])
        | (refine wpKL_op (by exact rfl) (by as_aux_lemma => intro W hK; have e0 := hK.cell c0 id; go_simp; exact rfl) ?_; simp only [Act.put, List.setIfInBounds_toArray, List.set_cons_succ, List.set_cons_zero])
        | (refine wpKL_off (by exact rfl) ?_; simp only [Act.put, List.setIfInBounds_toArray, List.set_cons_succ, List.set_cons_zero])
        | (refine wpKL_call (by exact rfl) (by as_aux_lemma => intro W; go_simp; exact ⟨rfl, rfl⟩) (by intro W hK; with_reducible first | exact HAH.out W) ?_; simp only [Act.put, List.setIfInBounds_toArray, List.set_cons_succ, List.set_cons_zero]))
      show ∀ W, _ → wpList _ _ _ _ _ _
      intro W2 hK2
      have HK2 := Lib.hid hK2
      have HO2 := Lib.hid (own_kp HO.out hK2 (fun _ _ x => x))
      have c2 := hK2.cell c0 id
      clear hK2 c0
      cases hah : ahd a b with
      | false =>
        have HH := Lib.hid (up_stop HU.out.1 (.inr (by rw [HP.out, E1.out, E2.out]; exact hah)))
        have HK3 : Hid (Kp (fun b => b = g) w W2) := Lib.hid (HK.out.trans (HK2.out.mono (fun _ _ x => x.elim)))
        go_wp2
        refine bodyPost_ret (results_none rfl _ _ _) rfl ?_
        exact ⟨rfl, m, HH.out, HU.out.2, HO2.out, HK3.out⟩
      | true =>
        have L3 := Lib.hid (ent_load HO2.out i (by omega))
        have L4 := Lib.hid (ent_load HO2.out p (by omega))
        rw [HAE.out] at L3
        rw [HBE.out] at L4
        go_wp2_with fail
        refine wp_region_kept2 [9] [0, 1, 2, 3, 4, 5, 6, 7, 8, 10, 11, 12, 13, 14, 15, 16, 17, 18, 19, 20, 21, 22, 23] 24 (by kernel_rfl) (by kernel_rfl) (fun c a d u w h => by cases d <;> exact h) ?_
        simp only [pick, List.getElem?_cons_succ, List.getElem?_cons_zero, List.drop_succ_cons, List.drop_zero]
        refine wpHeads_op (by exact rfl) (by as_aux_lemma => intro W; go_simp; exact rfl) ?_; simp only [Act.put, List.setIfInBounds_toArray, List.set_cons_succ, List.set_cons_zero]
        show wpKL _ _ _ _ _ _
        repeat (first
          | (refine wpKL_op (by exact rfl) (load_at rfl rfl L3.out) ?_; simp only [Act.put, List.setIfInBounds_toArray, List.set_cons_succ, List.set_cons_zero])
          | (refine wpKL_op (by exact rfl) (load_at rfl rfl L4.out) ?_; simp only [Act.put, List.setIfInBounds_toArray, List.set_cons_succ, List.set_cons_zero])
          | (refine wpKL_op (by exact rfl) (by as_aux_lemma => intro W hK; have e0 := hK.cell c2 id; go_simp; exact rfl) ?_; simp only [Act.put, List.setIfInBounds_toArray, List.set_cons_succ, List.set_cons_zero])
          | (refine wpKL_off (by exact rfl) ?_; simp only [Act.put, List.setIfInBounds_toArray, List.set_cons_succ, List.set_cons_zero]))
        show ∀ W, _ → wpList _ _ _ _ _ _
        intro W3 hK3
        have HO3 := Lib.hid (own_kp HO2.out hK3 (fun _ _ x => x))
        have HK3 : Hid (Kp (fun b => b = g) w W3) := Lib.hid (HK.out.trans ((HK2.out.trans hK3).mono (fun _ _ x => x.elim)))
        clear hK3 c2
        have HSW : Hid ((m.set i b).set p a = swp z m i p) := by
          show _ = _
          unfold swp
          rw [E1.out, E2.out]
        have HUS := Lib.hid (up_step HU.out.1 (by omega) (by omega) (by rw [HP.out, E1.out, E2.out]; exact hah))
        rw [HP.out] at HUS
        have HPM := Lib.hid ((swp_perm (z := z) (l := m) (i := i) (p := p) (by omega) (by omega) (by omega)).trans HU.out.2)
        go_wp2_with (first
          | (refine wp_set_ent rfl 210 (.tmp 50) (.tmp 42) rfl enE 5 enE_len m HO3.out i (by omega) b rfl rfl rfl (infoEn b) rfl ?_
             intro W4 ho4 hk4
             have HO4 := Lib.hid ho4
             have HK4 : Hid (Kp (fun b => b = g) w W4) := Lib.hid (HK3.out.trans hk4)
             clear ho4 hk4)
          | (refine wp_set_ent rfl 210 (.tmp 51) (.tmp 49) rfl enE 5 enE_len (m.set i b) HO4.out p (by rw [List.length_set]; omega) a rfl rfl rfl (infoEn a) rfl ?_
             intro W5 ho5 hk5
             rw [HSW.out] at ho5
             have HO5 := Lib.hid ho5
             have HK5 : Hid (Kp (fun b => b = g) w W5) := Lib.hid (HK4.out.trans hk5)
             clear ho5 hk5))
        go_roundw
        case rel => exact ⟨p, swp z m i p, rfl, by omega, by rw [swp_len]; exact hm, Lib.hid ⟨HUS.out, HPM.out⟩, HO5, HK5⟩
        case measure => simp [intOf]; omega
end Go.Proofs.YtjhghagmnkjpkaaGreat
