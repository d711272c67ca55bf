/- The trie of layer 32: a node laid below another one. -/
import Derived.Test.YtfckgddodjmbdaaGreatDoorMDeviceNobodyF22
namespace Go.Proofs.YtfckgddodjmbdaaGreatDoor
set_option linter.unusedVariables false
set_option linter.unusedSimpArgs false
open Go.RowKit
abbrev ndT : TypeId := 272
def covTop (T : Tr) (np : Px) : Prop := match T with | .nil => False | .node _ kp _ _ _ _ => covP kp np = true
def LayOk (T : Tr) : Prop := ∀ (w : World) (nb : Nat) (np : Px) (nx : Nat), covTop T np → TrM w T → T.WF → T.blks.Nodup → Blk w nb (enNd np true nx .nil .nil) ndT → nb ∉ T.blks → okP np → np ∉ T.prs →
  Calls Tryz.prog 137 #[T.ptr, .pointer (some ⟨nb, 0, none⟩)] w fun e w' => e = .returned (.tuple #[]) ∧ ∃ fb, w.heap.size ≤ fb ∧ TrM w' (T.lay nb np nx fb) ∧ Kp (fun b => b ∈ T.blks ∨ b = nb) w w'
theorem lay_ptr {k2 : Nat} {p2 : Px} {u2 : Bool} {x2 : Nat} {l2 r2 : Tr} {np : Px} (h : covP p2 np = true) (nb nx fb : Nat) : ((Tr.node k2 p2 u2 x2 l2 r2).lay nb np nx fb).ptr = .pointer (some ⟨k2, 0, none⟩) := by
  unfold Tr.lay
  rw [if_pos h]
  split <;> rfl
theorem lay_up {W : World} {k2 : Nat} {p2 : Px} {u2 : Bool} {x2 : Nat} {l2 r2 : Tr} {np : Px} {nb nx a : Nat} (fb : Nat) (hc : covP p2 np = false) (hcn : comN p2 np = np) (ha : sideN np p2.1 = a) (hB : Blk W nb ((enNd np true nx .nil .nil).set (4 + a) (.pointer (some ⟨k2, 0, none⟩))) ndT) (hT : TrM W (.node k2 p2 u2 x2 l2 r2)) :
    TrM W ((Tr.node k2 p2 u2 x2 l2 r2).lay nb np nx fb) ∧ ((Tr.node k2 p2 u2 x2 l2 r2).lay nb np nx fb).ptr = .pointer (some ⟨nb, 0, none⟩) := by
  unfold Tr.lay
  rw [if_neg (by rw [hc]; decide), if_pos hcn, ha]
  have h2 := side_two np p2.1
  rw [ha] at h2
  rcases h2 with rfl | rfl
  · exact ⟨⟨hB, hT, trivial⟩, rfl⟩
  · exact ⟨⟨hB, trivial, hT⟩, rfl⟩
theorem lay_fork {W : World} {k2 : Nat} {p2 : Px} {u2 : Bool} {x2 : Nat} {l2 r2 : Tr} {np c : Px} {nb nx fb a1 a2 : Nat} (hok : okP p2) (hon : okP np) (hc : covP p2 np = false) (hce : comN p2 np = c) (hcn : c ≠ np) (h1 : sideN c np.1 = a1) (h2 : sideN c p2.1 = a2)
    (hB : Blk W fb (((enNd c false 0 .nil .nil).set (4 + a1) (.pointer (some ⟨nb, 0, none⟩))).set (4 + a2) (.pointer (some ⟨k2, 0, none⟩))) ndT) (hN : Blk W nb (enNd np true nx .nil .nil) ndT) (hT : TrM W (.node k2 p2 u2 x2 l2 r2)) :
    TrM W ((Tr.node k2 p2 u2 x2 l2 r2).lay nb np nx fb) ∧ ((Tr.node k2 p2 u2 x2 l2 r2).lay nb np nx fb).ptr = .pointer (some ⟨fb, 0, none⟩) := by
  subst hce
  have hs := com_side hok hon hc (com_lt2 hok hon hcn)
  rw [h1, h2] at hs
  have t1 := side_two (comN p2 np) np.1
  have t2 := side_two (comN p2 np) p2.1
  rw [h1] at t1
  rw [h2] at t2
  unfold Tr.lay
  rw [if_neg (by rw [hc]; decide), if_neg hcn, h1]
  have hNt : TrM W (.node nb np true nx .nil .nil) := ⟨hN, trivial, trivial⟩
  rcases t1 with rfl | rfl
  · rcases t2 with rfl | rfl
    · exact absurd rfl hs
    · exact ⟨⟨hB, hNt, hT⟩, rfl⟩
  · rcases t2 with rfl | rfl
    · exact ⟨⟨hB, hT, hNt⟩, rfl⟩
    · exact absurd rfl hs
theorem set_same {cs : List Value} {i : Nat} {v : Value} (h : cs[i]? = some v) : cs.set i v = cs := by
  obtain ⟨hi, rfl⟩ := List.getElem?_eq_some_iff.1 h
  exact List.set_getElem_self hi
theorem keep2 {w : World} {b : Nat} {u v x : Value} {a : Addr} (h : w.cell? a = some x) (hne : a.block ≠ b) : ((w.setCell ⟨b, 0, none⟩ u).setCell ⟨b, 1, none⟩ v).cell? a = some x :=
  (((Kp.refl (fun i => i = b) w).set (p := ⟨b, 0, none⟩) (.inl rfl) u).set (p := ⟨b, 1, none⟩) (.inl rfl) v).cell h hne
set_option maxRecDepth 100000 in
set_option maxHeartbeats 8000000 in
theorem layAt (w : World) (kb nb nx s : Nat) (kp np : Px) (cs : List Value) (t : Tr) (hB : Blk w kb cs ndT) (hc1 : cs[1]? = some (.int .i64 kp.2)) (hs : sideN kp np.1 = s) (hk : cs[4 + s]? = some t.ptr) (h31 : kp.2 ≤ 31)
    (hM : TrM w t) (hw : t.WF) (hnd : t.blks.Nodup) (hkb : kb ∉ t.blks) (hN : Blk w nb (enNd np true nx .nil .nil) ndT) (hnb : nb ∉ t.blks) (hne : nb ≠ kb) (hok : okP np) (hnp : np ∉ t.prs) (ih : LayOk t) :
    Calls Tryz.prog 137 #[.pointer (some ⟨kb, 0, none⟩), .pointer (some ⟨nb, 0, none⟩)] w fun e w' => e = .returned (.tuple #[]) ∧ ∃ fb, w.heap.size ≤ fb ∧ TrM w' (t.lay nb np nx fb) ∧ Blk w' kb (cs.set (4 + s) (t.lay nb np nx fb).ptr) ndT ∧ Kp (fun b => b ∈ t.blks ∨ b = nb ∨ b = kb) w w' := by
  have hs2 : s < 2 := by have := side_two kp np.1; omega
  have GS := Lib.hid (fun W (k : Kp none' w W) => calls_same (tSide W kb kp ((hB.kp k (fun x => x)).cell 1 hc1) h31 np.1 hok.2))
  rw [hs] at GS
  have b4 := hB.cell (4 + s) hk
  have m0 := hN.cell 0 rfl
  have HB := Lib.hid hB; have HM := Lib.hid hM; have HW := Lib.hid hw; have HND := Lib.hid hnd; have HKB := Lib.hid hkb; have HN := Lib.hid hN; have HNB := Lib.hid hnb; have HNE := Lib.hid hne; have HNP := Lib.hid hnp; have HIH := Lib.hid ih; have HCS := Lib.hid hk
  clear hB hc1 hM hw hnd hkb hN hnb hne hnp ih hk hs
  go_enter Tryz.func137, Tryz.ntmps137
  go_wp2_with fail
  refine wp_region_kept2 [] [0, 1, 2, 3, 4, 5, 6, 7, 8, 9] 10 (by kernel_rfl) (by kernel_rfl) (fun c a d u w h => by cases d <;> exact h) ?_
  simp only [pick, List.getElem?_cons_succ, List.getElem?_cons_zero, List.drop_succ_cons, List.drop_zero]
  show wpKL _ _ _ _ _ _
  repeat (first
    | (refine wpKL_op (by exact rfl) (by as_aux_lemma => intro W hK; have e0 := hK.cell m0 (fun x => x); go_simp; exact rfl) ?_; simp only [Act.put, List.setIfInBounds_toArray, List.set_cons_succ, List.set_cons_zero])
    | (refine wpKL_off (by exact rfl) ?_; simp only [Act.put, List.setIfInBounds_toArray, List.set_cons_succ, List.set_cons_zero])
    | (refine wpKL_call (by exact rfl) (by as_aux_lemma => intro W; go_simp; exact ⟨rfl, rfl⟩) (by intro W hK; with_reducible first | exact GS.out W hK) ?_; simp only [Act.put, List.setIfInBounds_toArray, List.set_cons_succ, List.set_cons_zero]))
  show ∀ W, _ → wpList _ _ _ _ _ _
  intro W1 hK1
  have b4 := hK1.cell b4 (fun x => x)
  have HB1 := Lib.hid (HB.out.kp hK1 (fun x => x)); have HN1 := Lib.hid (HN.out.kp hK1 (fun x => x)); have HM1 := Lib.hid (HM.out.old hK1); have HK1 := Lib.hid hK1
  clear hK1 m0 GS HB HN HM
  cases t with
  | nil =>
    simp only [Tr.ptr] at b4
    have f4 := HB1.out.fz (4 + s)
    go_wp2_with fail
    refine bodyPost_ret (results_none rfl _ _ _) rfl ?_
    have hks : Kp (fun b => b = kb) W1 (W1.setCell ⟨kb, 4 + s, none⟩ (.pointer (some ⟨nb, 0, none⟩))) := (Kp.refl (fun b => b = kb) W1).set (p := ⟨kb, 4 + s, none⟩) (.inl rfl) _
    exact ⟨rfl, w.heap.size, Nat.le_refl _, ⟨HN1.out.kp hks HNE.out, trivial, trivial⟩, HB1.out.set (4 + s) _, (HK1.out.mono (fun _ _ x => x.elim)).trans (hks.mono (fun _ _ x => .inr (.inr x)))⟩
  | node k2 p2 u2 x2 l2 r2 =>
    obtain ⟨hk2, hml, hmr⟩ := HM1.out
    have ok2 := HW.out.1
    have d0 := hk2.cell 0 rfl
    have d1 := hk2.cell 1 rfl
    have n0 := HN1.out.cell 0 rfl
    have n1 := HN1.out.cell 1 rfl
    have hpe : p2 ≠ np := fun e => HNP.out (by rw [e]; simp [Tr.prs])
    have hpd : decide (p2 = np) = false := decide_eq_false hpe
    have EQ := eqlP p2 np
    simp only [hpd] at EQ
    simp only [Tr.ptr] at b4
    have h32 := (right_iff.1 ok2.1).1
    have h32n := (right_iff.1 hok.1).1
    have HC := Lib.hid (fun W => aCovers p2.1 np.1 p2.2 np.2 W ok2.2 hok.2 (by omega) (by omega))
    have HPE := Lib.hid hpe
    clear hk2 hml hmr hpd hpe
    go_wp2_with fail
    go_region
    go_wp2_with fail
    cases hc : covP p2 np with
    | true =>
      rw [show covB p2.1 p2.2 np.1 np.2 = true from hc] at HC
      have HCC := Lib.hid hc
      refine wp_region_kept2 [] [0, 1, 2, 3, 4, 5, 6, 7, 8] 9 (by kernel_rfl) (by kernel_rfl) (fun c a d u w h => by cases d <;> exact h) ?_
      simp only [pick, List.getElem?_cons_succ, List.getElem?_cons_zero, List.drop_succ_cons, List.drop_zero]
      show wpKL _ _ _ _ _ _
      repeat (first
        | (refine wpKL_op (by exact rfl) (by as_aux_lemma => intro W hK; have e0 := hK.cell d0 (fun x => x); have e1 := hK.cell d1 (fun x => x); have e2 := hK.cell n0 (fun x => x); have e3 := hK.cell n1 (fun x => x); go_simp; exact rfl) ?_; simp only [Act.put, List.setIfInBounds_toArray, List.set_cons_succ, List.set_cons_zero])
        | (refine wpKL_off (by exact rfl) ?_; simp only [Act.put, List.setIfInBounds_toArray, List.set_cons_succ, List.set_cons_zero])
        | (refine wpKL_call (by exact rfl) (by as_aux_lemma => intro W; go_simp; exact ⟨rfl, rfl⟩) (by intro W hK; with_reducible first | exact HC.out W) ?_; simp only [Act.put, List.setIfInBounds_toArray, List.set_cons_succ, List.set_cons_zero]))
      show ∀ W, _ → wpList _ _ _ _ _ _
      intro W2 hK2
      replace hK2 := (Kp.refl none' W1).drew.trans hK2
      have HK2 := Lib.hid hK2
      have HI := Lib.hid (HIH.out W2 nb np nx hc (HM1.out.old hK2) HW.out HND.out (HN1.out.kp hK2 (fun x => x)) HNB.out hok HNP.out)
      clear hK2 d0 d1 n0 n1 hc EQ b4
      go_wp2_with (go_at_call 137; refine HI.out.mono ?_; rintro e w3 ⟨rfl, fb, hfb, hm3, hk3⟩
                   have HK3 := Lib.hid hk3; have HM3 := Lib.hid hm3; have HFB := Lib.hid hfb; clear hk3 hm3 hfb)
      refine bodyPost_ret (results_none rfl _ _ _) rfl ?_
      refine ⟨rfl, fb, Nat.le_trans HK1.out.size (Nat.le_trans HK2.out.size HFB.out), HM3.out, ?_, ?_⟩
      · rw [lay_ptr HCC.out, set_same (v := .pointer (some ⟨k2, 0, none⟩)) HCS.out]
        exact (HB1.out.kp HK2.out (fun x => x)).kp HK3.out (fun h => h.elim HKB.out (fun e => HNE.out e.symm))
      · exact ((HK1.out.trans HK2.out).mono (fun _ _ x => x.elim)).trans (HK3.out.mono (fun _ _ x => x.imp_right .inl))
    | false =>
      rw [show covB p2.1 p2.2 np.1 np.2 = false from hc] at HC
      have HCC := Lib.hid hc
      refine wp_region_kept2 [] [0, 1, 2, 3, 4, 5, 6, 7, 8] 9 (by kernel_rfl) (by kernel_rfl) (fun c a d u w h => by cases d <;> exact h) ?_
      simp only [pick, List.getElem?_cons_succ, List.getElem?_cons_zero, List.drop_succ_cons, List.drop_zero]
      show wpKL _ _ _ _ _ _
      repeat (first
        | (refine wpKL_op (by exact rfl) (by as_aux_lemma => intro W hK; have e0 := hK.cell d0 (fun x => x); have e1 := hK.cell d1 (fun x => x); have e2 := hK.cell n0 (fun x => x); have e3 := hK.cell n1 (fun x => x); go_simp; exact rfl) ?_; simp only [Act.put, List.setIfInBounds_toArray, List.set_cons_succ, List.set_cons_zero])
        | (refine wpKL_off (by exact rfl) ?_; simp only [Act.put, List.setIfInBounds_toArray, List.set_cons_succ, List.set_cons_zero])
        | (refine wpKL_call (by exact rfl) (by as_aux_lemma => intro W; go_simp; exact ⟨rfl, rfl⟩) (by intro W hK; with_reducible first | exact HC.out W) ?_; simp only [Act.put, List.setIfInBounds_toArray, List.set_cons_succ, List.set_cons_zero]))
      show ∀ W, _ → wpList _ _ _ _ _ _
      intro W2 hK2
      replace hK2 := (Kp.refl none' W1).drew.trans hK2
      have HK2 := Lib.hid hK2
      have d0 := hK2.cell d0 (fun x => x); have d1 := hK2.cell d1 (fun x => x); have n0 := hK2.cell n0 (fun x => x); have n1 := hK2.cell n1 (fun x => x)
      have b4 := hK2.cell b4 (fun x => x)
      have HCM := Lib.hid (fun W => tCommon W p2 np ok2 hok)
      clear hK2 hc EQ HC
      have lk : k2 < W2.heap.size := Nat.lt_of_lt_of_le (HM1.out.lt k2 (by simp [Tr.blks])) HK2.out.size
      have ln : nb < W2.heap.size := Nat.lt_of_lt_of_le HN1.out.lt HK2.out.size
      have ek : k2 ≠ W2.heap.size := by omega
      have en : nb ≠ W2.heap.size := by omega
      go_wp2_with fail
      go_region_held3 (fun w' => w'.cell? ⟨k2, 0, none⟩ = some (.int .u32 p2.1) ∧ w'.cell? ⟨k2, 1, none⟩ = some (.int .i64 p2.2) ∧ w'.cell? ⟨nb, 0, none⟩ = some (.int .u32 np.1) ∧ w'.cell? ⟨nb, 1, none⟩ = some (.int .i64 np.2)) (first | exact ⟨keep2 e0 ek, keep2 e1 ek, keep2 e2 en, keep2 e3 en⟩ | go_keep)
        ((go_at_call 140; refine (HCM.out _).mono ?_; rintro e w3 ⟨rfl, hk3⟩
          have hk4 : Kp none' W2 w3 := by first | exact (Kp.refl none' W2).drew.trans hk3 | exact ((Kp.refl none' W2).drew.alloc _).trans hk3
          have e0 := hk4.cell d0 (fun x => x); have e1 := hk4.cell d1 (fun x => x); have e2 := hk4.cell n0 (fun x => x); have e3 := hk4.cell n1 (fun x => x)
          have ls := hk4.size
          have ek3 : k2 ≠ w3.heap.size := by omega
          have en3 : nb ≠ w3.heap.size := by omega
          clear ls
          first
            | (have hb3 := (Blk.new W2.drew [.int .u32 0, .int .i64 0] 88).kp hk3 (fun x => x)
               have z0 : w3.cell? ⟨W2.heap.size, 0, none⟩ = some (.int .u32 0) := hb3.cell 0 rfl
               have z1 : w3.cell? ⟨W2.heap.size, 1, none⟩ = some (.int .i64 0) := hb3.cell 1 rfl
               have y0 : w3.frozen? ⟨W2.heap.size, 0, none⟩ = false := hb3.fz 0
               have y1 : w3.frozen? ⟨W2.heap.size, 1, none⟩ = false := hb3.fz 1
               have HB3 := Lib.hid hb3; clear hb3)
            | skip
          have HK3 := Lib.hid hk3; have HK4 := Lib.hid hk4; clear hk3 hk4))
      · have hK3 : Kp none' W2 (w3.alloc (.cells #[.int .u32 (comN p2 np).1, .int .i64 (comN p2 np).2] 88)) := HK4.out.alloc _
        have hBc : Blk (w3.alloc (.cells #[.int .u32 (comN p2 np).1, .int .i64 (comN p2 np).2] 88)) w3.heap.size [.int .u32 (comN p2 np).1, .int .i64 (comN p2 np).2] 88 := Blk.new w3 [.int .u32 (comN p2 np).1, .int .i64 (comN p2 np).2] _
        obtain ⟨W3, hW3⟩ : ∃ W, w3.alloc (.cells #[.int .u32 (comN p2 np).1, .int .i64 (comN p2 np).2] 88) = W := ⟨_, rfl⟩
        rw [hW3] at hK3 hBc ⊢
        obtain ⟨g, hg⟩ : ∃ g, w3.heap.size = g := ⟨_, rfl⟩
        rw [hg] at hBc ⊢
        clear hW3 hg
        have HK3 := Lib.hid hK3; have HBc := Lib.hid hBc
        have k13 := HK2.out.trans hK3
        have HM3 := Lib.hid (HM1.out.old k13); have HN3 := Lib.hid (HN1.out.kp k13 (fun x => x)); have HB3 := Lib.hid (HB1.out.kp k13 (fun x => x)); have HK13 := Lib.hid (HK1.out.trans k13)
        have hl : comBits p2 np < p2.2 := com_lt ok2 hok HCC.out
        have hlc : (comN p2 np).2 < p2.2 := hl
        have hok' := com_right (q := np) ok2.1
        have d0 := hK3.cell d0 (fun x => x); have b4 := hK3.cell b4 (fun x => x); have n0 := hK3.cell n0 (fun x => x); have n1 := hK3.cell n1 (fun x => x)
        have c0 := hBc.cell 0 rfl
        have c1 := hBc.cell 1 rfl
        obtain ⟨c, hcc⟩ : ∃ c, comN p2 np = c := ⟨_, rfl⟩
        rw [hcc] at c0 c1 hlc hok'
        have HCE := Lib.hid hcc; have HL := Lib.hid hl
        clear hK3 hBc k13 hcc hl d1 lk ln ek en HCM
        by_cases hcn : c = np
        · have hd : decide (c = np) = true := decide_eq_true hcn
          have NQ := neqP c np
          simp only [hd] at NQ
          have HCN := Lib.hid hcn
          have h31n : np.2 ≤ 31 := by rw [← hcn]; omega
          obtain ⟨a, ha⟩ : ∃ a, sideN np p2.1 = a := ⟨_, rfl⟩
          have ha2 : a < 2 := by have := side_two np p2.1; omega
          have GS2 := Lib.hid (fun W (k : Kp none' W3 W) => calls_same (tSide W nb np ((HN3.out.kp k (fun x => x)).cell 1 rfl) h31n p2.1 ok2.2))
          rw [ha] at GS2
          have HA := Lib.hid ha
          clear hd hcn ha
          go_wp2_with fail
          go_region
          go_wp2_with fail
          refine wp_region_kept2 [] [0, 1, 2, 3, 4, 5, 6, 7, 8, 9, 10] 11 (by kernel_rfl) (by kernel_rfl) (fun c a d u w h => by cases d <;> exact h) ?_
          simp only [pick, List.getElem?_cons_succ, List.getElem?_cons_zero, List.drop_succ_cons, List.drop_zero]
          show wpKL _ _ _ _ _ _
          repeat (first
            | (refine wpKL_op (by exact rfl) (by as_aux_lemma => intro W hK; have e0 := hK.cell d0 (fun x => x); go_simp; exact rfl) ?_; simp only [Act.put, List.setIfInBounds_toArray, List.set_cons_succ, List.set_cons_zero])
            | (refine wpKL_off (by exact rfl) ?_; simp only [Act.put, List.setIfInBounds_toArray, List.set_cons_succ, List.set_cons_zero])
            | (refine wpKL_call (by exact rfl) (by as_aux_lemma => intro W; go_simp; exact ⟨rfl, rfl⟩) (by intro W hK; with_reducible first | exact GS2.out W ((Kp.refl none' W3).drew.trans hK)) ?_; simp only [Act.put, List.setIfInBounds_toArray, List.set_cons_succ, List.set_cons_zero]))
          show ∀ W, _ → wpList _ _ _ _ _ _
          intro W4 hK4
          replace hK4 := (Kp.refl none' W3).drew.trans hK4
          have HK4' := Lib.hid hK4
          have HN4 := Lib.hid (HN3.out.kp hK4 (fun x => x)); have HB4 := Lib.hid (HB3.out.kp hK4 (fun x => x)); have HT4 := Lib.hid (HM3.out.old hK4)
          obtain ⟨v, hv⟩ : ∃ v, (enNd np true nx .nil .nil)[4 + a]? = some v := ⟨_, List.getElem?_eq_getElem (by simp [enNd]; omega)⟩
          have m4 := HN4.out.cell (4 + a) hv
          have y4 := HN4.out.fz (4 + a)
          have b5 := hK4.cell b4 (fun x => x)
          have y5 := HB4.out.fz (4 + s)
          have ne1 : nb ≠ kb := HNE.out
          have ne2 : kb ≠ nb := fun e => HNE.out e.symm
          clear hK4 b4 d0 n0 n1 c0 c1 NQ hv
          go_wp2_with fail
          go_end0
          have hks : Kp (fun b => b = nb ∨ b = kb) W4 ((W4.setCell ⟨nb, 4 + a, none⟩ (.pointer (some ⟨k2, 0, none⟩))).setCell ⟨kb, 4 + s, none⟩ (.pointer (some ⟨nb, 0, none⟩))) := ((Kp.refl (fun b => b = nb ∨ b = kb) W4).set (p := ⟨nb, 4 + a, none⟩) (.inl (.inl rfl)) _).set (p := ⟨kb, 4 + s, none⟩) (.inl (.inr rfl)) _
          obtain ⟨m, pe⟩ := lay_up (nx := nx) (u2 := u2) (x2 := x2) (l2 := l2) (r2 := r2) w.heap.size HCC.out (HCE.out.trans HCN.out) HA.out ((HN4.out.set (4 + a) (.pointer (some ⟨k2, 0, none⟩))).setNe (a := ⟨kb, 4 + s, none⟩) ne1 (.pointer (some ⟨nb, 0, none⟩))) (HT4.out.kp hks (fun b hb e => e.elim (fun e => HNB.out (e ▸ hb)) (fun e => HKB.out (e ▸ hb))))
          refine ⟨rfl, w.heap.size, Nat.le_refl _, m, ?_, (((HK13.out.trans HK4'.out).mono (fun _ _ x => x.elim)).trans (hks.mono (fun _ _ x => .inr x)))⟩
          rw [pe]
          exact (HB4.out.setNe (a := ⟨nb, 4 + a, none⟩) ne2 _).set (4 + s) _
        · have hd : decide (c = np) = false := decide_eq_false hcn
          have NQ := neqP c np
          simp only [hd] at NQ
          have HCN := Lib.hid hcn
          obtain ⟨a1, h1⟩ : ∃ a, sideN c np.1 = a := ⟨_, rfl⟩
          obtain ⟨a2, h2⟩ : ∃ a, sideN c p2.1 = a := ⟨_, rfl⟩
          have l1 : a1 < 2 := by have := side_two c np.1; omega
          have l2' : a2 < 2 := by have := side_two c p2.1; omega
          have HA1 := Lib.hid h1; have HA2 := Lib.hid h2
          clear hd hcn
          go_wp2_with fail
          go_region
          go_wp2_with fail
          have hK4 : Kp none' W3 (W3.alloc (.cells #[.int .u32 c.1, .int .i64 c.2, .bool false, .int .u64 0, .pointer none, .pointer none] 272)).drew := ((Kp.refl none' W3).alloc _).drew
          have hG : Blk (W3.alloc (.cells #[.int .u32 c.1, .int .i64 c.2, .bool false, .int .u64 0, .pointer none, .pointer none] 272)).drew W3.heap.size (enNd c false 0 .nil .nil) ndT := (Blk.new W3 (enNd c false 0 .nil .nil) ndT).drew
          obtain ⟨W4, hW4⟩ : ∃ W, (W3.alloc (.cells #[.int .u32 c.1, .int .i64 c.2, .bool false, .int .u64 0, .pointer none, .pointer none] 272)).drew = W := ⟨_, rfl⟩
          have gn : nb ≠ W3.heap.size := Nat.ne_of_lt HN3.out.lt
          have gk : kb ≠ W3.heap.size := Nat.ne_of_lt HB3.out.lt
          have gt : ∀ b ∈ (Tr.node k2 p2 u2 x2 l2 r2).blks, b ≠ W3.heap.size := fun b hb => Nat.ne_of_lt (HM3.out.lt b hb)
          have gw : w.heap.size ≤ W3.heap.size := HK13.out.size
          obtain ⟨g2, hg2⟩ : ∃ g, W3.heap.size = g := ⟨_, rfl⟩
          rw [hg2] at hG gn gk gt gw ⊢
          rw [hW4] at hK4 hG ⊢
          have HGT := Lib.hid gt; have HGW := Lib.hid gw; have HG2 := Lib.hid hg2
          have GS1 := Lib.hid (fun W (k : Kp none' W4 W) => calls_same (tSide W g2 c ((hG.kp k (fun x => x)).cell 1 rfl) (by omega) np.1 hok.2))
          rw [h1] at GS1
          have HK4' := Lib.hid hK4; have HG := Lib.hid hG
          have n0 := hK4.cell n0 (fun x => x); have d0 := hK4.cell d0 (fun x => x); have b4 := hK4.cell b4 (fun x => x)
          clear hW4 hg2 hK4 hG gt gw h1 c0 c1 n1 NQ
          refine wp_region_kept2 [] [0, 1, 2, 3, 4, 5, 6, 7, 8, 9, 10] 11 (by kernel_rfl) (by kernel_rfl) (fun c a d u w h => by cases d <;> exact h) ?_
          simp only [pick, List.getElem?_cons_succ, List.getElem?_cons_zero, List.drop_succ_cons, List.drop_zero]
          show wpKL _ _ _ _ _ _
          repeat (first
            | (refine wpKL_op (by exact rfl) (by as_aux_lemma => intro W hK; have e0 := hK.cell n0 (fun x => x); go_simp; exact rfl) ?_; simp only [Act.put, List.setIfInBounds_toArray, List.set_cons_succ, List.set_cons_zero])
            | (refine wpKL_off (by exact rfl) ?_; simp only [Act.put, List.setIfInBounds_toArray, List.set_cons_succ, List.set_cons_zero])
            | (refine wpKL_call (by exact rfl) (by as_aux_lemma => intro W; go_simp; exact ⟨rfl, rfl⟩) (by intro W hK; with_reducible first | exact GS1.out W hK) ?_; simp only [Act.put, List.setIfInBounds_toArray, List.set_cons_succ, List.set_cons_zero]))
          show ∀ W, _ → wpList _ _ _ _ _ _
          intro W5 hK5
          have HK5 := Lib.hid hK5
          have HG5 := Lib.hid (HG.out.kp hK5 (fun x => x))
          obtain ⟨v, hv⟩ : ∃ v, (enNd c false 0 .nil .nil)[4 + a1]? = some v := ⟨_, List.getElem?_eq_getElem (by simp [enNd]; omega)⟩
          have m4 := HG5.out.cell (4 + a1) hv
          have y4 := HG5.out.fz (4 + a1)
          have d0 := hK5.cell d0 (fun x => x); have b4 := hK5.cell b4 (fun x => x)
          clear hK5 hv n0 GS1
          go_wp2_with fail
          have hks : Kp (fun b => b = g2) W5 (W5.setCell ⟨g2, 4 + a1, none⟩ (.pointer (some ⟨nb, 0, none⟩))) := (Kp.refl (fun b => b = g2) W5).set (p := ⟨g2, 4 + a1, none⟩) (.inl rfl) _
          have hG6 := HG5.out.set (4 + a1) (.pointer (some ⟨nb, 0, none⟩))
          obtain ⟨W6, hW6⟩ : ∃ W, W5.setCell ⟨g2, 4 + a1, none⟩ (.pointer (some ⟨nb, 0, none⟩)) = W := ⟨_, rfl⟩
          rw [hW6] at hks hG6 ⊢
          have hlow : ∀ i, i < W3.heap.size → i ≠ g2 := fun i hi => by rw [← HG2.out]; omega
          have hK36 : Kp none' W3 W6 := (HK4'.out.trans HK5.out).then hks (fun i hi e => absurd e (hlow i hi))
          have d0 := hks.cell d0 (HGT.out k2 (by simp [Tr.blks])); have b4 := hks.cell b4 gk
          have GS3 := Lib.hid (fun W (k : Kp none' W6 W) => calls_same (tSide W g2 c ((hG6.kp k (fun x => x)).cell 1 (by rw [List.getElem?_set_ne (by omega)]; rfl)) (by omega) p2.1 ok2.2))
          rw [h2] at GS3
          have HG6 := Lib.hid hG6; have HK36 := Lib.hid hK36
          clear hW6 hks hG6 hlow hK36 m4 y4 h2
          refine wp_region_kept2 [] [0, 1, 2, 3, 4, 5, 6, 7, 8, 9, 10] 11 (by kernel_rfl) (by kernel_rfl) (fun c a d u w h => by cases d <;> exact h) ?_
          simp only [pick, List.getElem?_cons_succ, List.getElem?_cons_zero, List.drop_succ_cons, List.drop_zero]
          show wpKL _ _ _ _ _ _
          repeat (first
            | (refine wpKL_op (by exact rfl) (by as_aux_lemma => intro W hK; have e0 := hK.cell d0 (fun x => x); go_simp; exact rfl) ?_; simp only [Act.put, List.setIfInBounds_toArray, List.set_cons_succ, List.set_cons_zero])
            | (refine wpKL_off (by exact rfl) ?_; simp only [Act.put, List.setIfInBounds_toArray, List.set_cons_succ, List.set_cons_zero])
            | (refine wpKL_call (by exact rfl) (by as_aux_lemma => intro W; go_simp; exact ⟨rfl, rfl⟩) (by intro W hK; with_reducible first | exact GS3.out W hK) ?_; simp only [Act.put, List.setIfInBounds_toArray, List.set_cons_succ, List.set_cons_zero]))
          show ∀ W, _ → wpList _ _ _ _ _ _
          intro W7 hK7
          have HK37 := Lib.hid (HK36.out.trans hK7)
          have HG7 := Lib.hid (HG6.out.kp hK7 (fun x => x))
          obtain ⟨v2, hv⟩ : ∃ v, ((enNd c false 0 .nil .nil).set (4 + a1) (.pointer (some ⟨nb, 0, none⟩)))[4 + a2]? = some v := ⟨_, List.getElem?_eq_getElem (by simp [enNd]; omega)⟩
          have m4 := HG7.out.cell (4 + a2) hv
          have y4 := HG7.out.fz (4 + a2)
          have HB7 := Lib.hid (HB3.out.kp HK37.out (fun x => x)); have HN7 := Lib.hid (HN3.out.kp HK37.out (fun x => x)); have HT7 := Lib.hid (HM3.out.old HK37.out)
          have b5 := hK7.cell b4 (fun x => x)
          have y5 := HB7.out.fz (4 + s)
          have gk2 : g2 ≠ kb := fun e => gk e.symm
          clear hK7 hv b4 d0 GS3
          go_wp2_with fail
          go_end0
          have hks : Kp (fun b => b = g2 ∨ b = kb) W7 ((W7.setCell ⟨g2, 4 + a2, none⟩ (.pointer (some ⟨k2, 0, none⟩))).setCell ⟨kb, 4 + s, none⟩ (.pointer (some ⟨g2, 0, none⟩))) := ((Kp.refl (fun b => b = g2 ∨ b = kb) W7).set (p := ⟨g2, 4 + a2, none⟩) (.inl (.inl rfl)) _).set (p := ⟨kb, 4 + s, none⟩) (.inl (.inr rfl)) _
          obtain ⟨m, pe⟩ := lay_fork (nx := nx) (u2 := u2) (x2 := x2) (l2 := l2) (r2 := r2) ok2 hok HCC.out HCE.out HCN.out HA1.out HA2.out ((HG7.out.set (4 + a2) (.pointer (some ⟨k2, 0, none⟩))).setNe (a := ⟨kb, 4 + s, none⟩) gk2 (.pointer (some ⟨g2, 0, none⟩))) (HN7.out.kp hks (fun e => e.elim gn HNE.out)) (HT7.out.kp hks (fun b hb e => e.elim (HGT.out b hb) (fun e => HKB.out (e ▸ hb))))
          refine ⟨rfl, g2, HGW.out, m, ?_, ?_⟩
          · rw [pe]
            exact (HB7.out.setNe (a := ⟨g2, 4 + a2, none⟩) gk _).set (4 + s) _
          · exact ((HK13.out.trans HK37.out).mono (T := fun b => b ∈ (Tr.node k2 p2 u2 x2 l2 r2).blks ∨ b = nb ∨ b = kb) (fun _ _ x => x.elim)).then hks (fun i hi e => e.elim (fun e => by have := HGW.out; omega) (fun e => .inr (.inr e)))
      · have hK3 : Kp none' W2 ((w3.setCell ⟨W2.heap.size, 0, none⟩ (.int .u32 (comN p2 np).1)).setCell ⟨W2.heap.size, 1, none⟩ (.int .i64 (comN p2 np).2)) := HK4.out.then (((Kp.refl (fun b => b = W2.heap.size) w3).set (p := ⟨W2.heap.size, 0, none⟩) (.inl rfl) _).set (p := ⟨W2.heap.size, 1, none⟩) (.inl rfl) _) (fun i hi e => by omega)
        have hBc : Blk ((w3.setCell ⟨W2.heap.size, 0, none⟩ (.int .u32 (comN p2 np).1)).setCell ⟨W2.heap.size, 1, none⟩ (.int .i64 (comN p2 np).2)) W2.heap.size [.int .u32 (comN p2 np).1, .int .i64 (comN p2 np).2] 88 := (HB3.out.set 0 (.int .u32 (comN p2 np).1)).set 1 (.int .i64 (comN p2 np).2)
        obtain ⟨W3, hW3⟩ : ∃ W, ((w3.setCell ⟨W2.heap.size, 0, none⟩ (.int .u32 (comN p2 np).1)).setCell ⟨W2.heap.size, 1, none⟩ (.int .i64 (comN p2 np).2)) = W := ⟨_, rfl⟩
        rw [hW3] at hK3 hBc ⊢
        obtain ⟨g, hg⟩ : ∃ g, W2.heap.size = g := ⟨_, rfl⟩
        rw [hg] at hBc ⊢
        clear hW3
        have HK3 := Lib.hid hK3; have HBc := Lib.hid hBc
        have k13 := HK2.out.trans hK3
        have HM3 := Lib.hid (HM1.out.old k13); have HN3 := Lib.hid (HN1.out.kp k13 (fun x => x)); have HB3 := Lib.hid (HB1.out.kp k13 (fun x => x)); have HK13 := Lib.hid (HK1.out.trans k13)
        have hl : comBits p2 np < p2.2 := com_lt ok2 hok HCC.out
        have hlc : (comN p2 np).2 < p2.2 := hl
        have hok' := com_right (q := np) ok2.1
        have d0 := hK3.cell d0 (fun x => x); have b4 := hK3.cell b4 (fun x => x); have n0 := hK3.cell n0 (fun x => x); have n1 := hK3.cell n1 (fun x => x)
        have c0 := hBc.cell 0 rfl
        have c1 := hBc.cell 1 rfl
        obtain ⟨c, hcc⟩ : ∃ c, comN p2 np = c := ⟨_, rfl⟩
        rw [hcc] at c0 c1 hlc hok'
        have HCE := Lib.hid hcc; have HL := Lib.hid hl
        clear hK3 hBc k13 hcc hl d1 lk ln ek en HCM
        by_cases hcn : c = np
        · have hd : decide (c = np) = true := decide_eq_true hcn
          have NQ := neqP c np
          simp only [hd] at NQ
          have HCN := Lib.hid hcn
          have h31n : np.2 ≤ 31 := by rw [← hcn]; omega
          obtain ⟨a, ha⟩ : ∃ a, sideN np p2.1 = a := ⟨_, rfl⟩
          have ha2 : a < 2 := by have := side_two np p2.1; omega
          have GS2 := Lib.hid (fun W (k : Kp none' W3 W) => calls_same (tSide W nb np ((HN3.out.kp k (fun x => x)).cell 1 rfl) h31n p2.1 ok2.2))
          rw [ha] at GS2
          have HA := Lib.hid ha
          clear hd hcn ha
          go_wp2_with fail
          go_region
          go_wp2_with fail
          refine wp_region_kept2 [] [0, 1, 2, 3, 4, 5, 6, 7, 8, 9, 10] 11 (by kernel_rfl) (by kernel_rfl) (fun c a d u w h => by cases d <;> exact h) ?_
          simp only [pick, List.getElem?_cons_succ, List.getElem?_cons_zero, List.drop_succ_cons, List.drop_zero]
          show wpKL _ _ _ _ _ _
          repeat (first
            | (refine wpKL_op (by exact rfl) (by as_aux_lemma => intro W hK; have e0 := hK.cell d0 (fun x => x); go_simp; exact rfl) ?_; simp only [Act.put, List.setIfInBounds_toArray, List.set_cons_succ, List.set_cons_zero])
            | (refine wpKL_off (by exact rfl) ?_; simp only [Act.put, List.setIfInBounds_toArray, List.set_cons_succ, List.set_cons_zero])
            | (refine wpKL_call (by exact rfl) (by as_aux_lemma => intro W; go_simp; exact ⟨rfl, rfl⟩) (by intro W hK; with_reducible first | exact GS2.out W ((Kp.refl none' W3).drew.trans hK)) ?_; simp only [Act.put, List.setIfInBounds_toArray, List.set_cons_succ, List.set_cons_zero]))
          show ∀ W, _ → wpList _ _ _ _ _ _
          intro W4 hK4
          replace hK4 := (Kp.refl none' W3).drew.trans hK4
          have HK4' := Lib.hid hK4
          have HN4 := Lib.hid (HN3.out.kp hK4 (fun x => x)); have HB4 := Lib.hid (HB3.out.kp hK4 (fun x => x)); have HT4 := Lib.hid (HM3.out.old hK4)
          obtain ⟨v, hv⟩ : ∃ v, (enNd np true nx .nil .nil)[4 + a]? = some v := ⟨_, List.getElem?_eq_getElem (by simp [enNd]; omega)⟩
          have m4 := HN4.out.cell (4 + a) hv
          have y4 := HN4.out.fz (4 + a)
          have b5 := hK4.cell b4 (fun x => x)
          have y5 := HB4.out.fz (4 + s)
          have ne1 : nb ≠ kb := HNE.out
          have ne2 : kb ≠ nb := fun e => HNE.out e.symm
          clear hK4 b4 d0 n0 n1 c0 c1 NQ hv
          go_wp2_with fail
          go_end0
          have hks : Kp (fun b => b = nb ∨ b = kb) W4 ((W4.setCell ⟨nb, 4 + a, none⟩ (.pointer (some ⟨k2, 0, none⟩))).setCell ⟨kb, 4 + s, none⟩ (.pointer (some ⟨nb, 0, none⟩))) := ((Kp.refl (fun b => b = nb ∨ b = kb) W4).set (p := ⟨nb, 4 + a, none⟩) (.inl (.inl rfl)) _).set (p := ⟨kb, 4 + s, none⟩) (.inl (.inr rfl)) _
          obtain ⟨m, pe⟩ := lay_up (nx := nx) (u2 := u2) (x2 := x2) (l2 := l2) (r2 := r2) w.heap.size HCC.out (HCE.out.trans HCN.out) HA.out ((HN4.out.set (4 + a) (.pointer (some ⟨k2, 0, none⟩))).setNe (a := ⟨kb, 4 + s, none⟩) ne1 (.pointer (some ⟨nb, 0, none⟩))) (HT4.out.kp hks (fun b hb e => e.elim (fun e => HNB.out (e ▸ hb)) (fun e => HKB.out (e ▸ hb))))
          refine ⟨rfl, w.heap.size, Nat.le_refl _, m, ?_, (((HK13.out.trans HK4'.out).mono (fun _ _ x => x.elim)).trans (hks.mono (fun _ _ x => .inr x)))⟩
          rw [pe]
          exact (HB4.out.setNe (a := ⟨nb, 4 + a, none⟩) ne2 _).set (4 + s) _
        · have hd : decide (c = np) = false := decide_eq_false hcn
          have NQ := neqP c np
          simp only [hd] at NQ
          have HCN := Lib.hid hcn
          obtain ⟨a1, h1⟩ : ∃ a, sideN c np.1 = a := ⟨_, rfl⟩
          obtain ⟨a2, h2⟩ : ∃ a, sideN c p2.1 = a := ⟨_, rfl⟩
          have l1 : a1 < 2 := by have := side_two c np.1; omega
          have l2' : a2 < 2 := by have := side_two c p2.1; omega
          have HA1 := Lib.hid h1; have HA2 := Lib.hid h2
          clear hd hcn
          go_wp2_with fail
          go_region
          go_wp2_with fail
          have hK4 : Kp none' W3 (W3.alloc (.cells #[.int .u32 c.1, .int .i64 c.2, .bool false, .int .u64 0, .pointer none, .pointer none] 272)).drew := ((Kp.refl none' W3).alloc _).drew
          have hG : Blk (W3.alloc (.cells #[.int .u32 c.1, .int .i64 c.2, .bool false, .int .u64 0, .pointer none, .pointer none] 272)).drew W3.heap.size (enNd c false 0 .nil .nil) ndT := (Blk.new W3 (enNd c false 0 .nil .nil) ndT).drew
          obtain ⟨W4, hW4⟩ : ∃ W, (W3.alloc (.cells #[.int .u32 c.1, .int .i64 c.2, .bool false, .int .u64 0, .pointer none, .pointer none] 272)).drew = W := ⟨_, rfl⟩
          have gn : nb ≠ W3.heap.size := Nat.ne_of_lt HN3.out.lt
          have gk : kb ≠ W3.heap.size := Nat.ne_of_lt HB3.out.lt
          have gt : ∀ b ∈ (Tr.node k2 p2 u2 x2 l2 r2).blks, b ≠ W3.heap.size := fun b hb => Nat.ne_of_lt (HM3.out.lt b hb)
          have gw : w.heap.size ≤ W3.heap.size := HK13.out.size
          obtain ⟨g2, hg2⟩ : ∃ g, W3.heap.size = g := ⟨_, rfl⟩
          rw [hg2] at hG gn gk gt gw ⊢
          rw [hW4] at hK4 hG ⊢
          have HGT := Lib.hid gt; have HGW := Lib.hid gw; have HG2 := Lib.hid hg2
          have GS1 := Lib.hid (fun W (k : Kp none' W4 W) => calls_same (tSide W g2 c ((hG.kp k (fun x => x)).cell 1 rfl) (by omega) np.1 hok.2))
          rw [h1] at GS1
          have HK4' := Lib.hid hK4; have HG := Lib.hid hG
          have n0 := hK4.cell n0 (fun x => x); have d0 := hK4.cell d0 (fun x => x); have b4 := hK4.cell b4 (fun x => x)
          clear hW4 hg2 hK4 hG gt gw h1 c0 c1 n1 NQ
          refine wp_region_kept2 [] [0, 1, 2, 3, 4, 5, 6, 7, 8, 9, 10] 11 (by kernel_rfl) (by kernel_rfl) (fun c a d u w h => by cases d <;> exact h) ?_
          simp only [pick, List.getElem?_cons_succ, List.getElem?_cons_zero, List.drop_succ_cons, List.drop_zero]
          show wpKL _ _ _ _ _ _
          repeat (first
            | (refine wpKL_op (by exact rfl) (by as_aux_lemma => intro W hK; have e0 := hK.cell n0 (fun x => x); go_simp; exact rfl) ?_; simp only [Act.put, List.setIfInBounds_toArray, List.set_cons_succ, List.set_cons_zero])
            | (refine wpKL_off (by exact rfl) ?_; simp only [Act.put, List.setIfInBounds_toArray, List.set_cons_succ, List.set_cons_zero])
            | (refine wpKL_call (by exact rfl) (by as_aux_lemma => intro W; go_simp; exact ⟨rfl, rfl⟩) (by intro W hK; with_reducible first | exact GS1.out W hK) ?_; simp only [Act.put, List.setIfInBounds_toArray, List.set_cons_succ, List.set_cons_zero]))
          show ∀ W, _ → wpList _ _ _ _ _ _
          intro W5 hK5
          have HK5 := Lib.hid hK5
          have HG5 := Lib.hid (HG.out.kp hK5 (fun x => x))
          obtain ⟨v, hv⟩ : ∃ v, (enNd c false 0 .nil .nil)[4 + a1]? = some v := ⟨_, List.getElem?_eq_getElem (by simp [enNd]; omega)⟩
          have m4 := HG5.out.cell (4 + a1) hv
          have y4 := HG5.out.fz (4 + a1)
          have d0 := hK5.cell d0 (fun x => x); have b4 := hK5.cell b4 (fun x => x)
          clear hK5 hv n0 GS1
          go_wp2_with fail
          have hks : Kp (fun b => b = g2) W5 (W5.setCell ⟨g2, 4 + a1, none⟩ (.pointer (some ⟨nb, 0, none⟩))) := (Kp.refl (fun b => b = g2) W5).set (p := ⟨g2, 4 + a1, none⟩) (.inl rfl) _
          have hG6 := HG5.out.set (4 + a1) (.pointer (some ⟨nb, 0, none⟩))
          obtain ⟨W6, hW6⟩ : ∃ W, W5.setCell ⟨g2, 4 + a1, none⟩ (.pointer (some ⟨nb, 0, none⟩)) = W := ⟨_, rfl⟩
          rw [hW6] at hks hG6 ⊢
          have hlow : ∀ i, i < W3.heap.size → i ≠ g2 := fun i hi => by rw [← HG2.out]; omega
          have hK36 : Kp none' W3 W6 := (HK4'.out.trans HK5.out).then hks (fun i hi e => absurd e (hlow i hi))
          have d0 := hks.cell d0 (HGT.out k2 (by simp [Tr.blks])); have b4 := hks.cell b4 gk
          have GS3 := Lib.hid (fun W (k : Kp none' W6 W) => calls_same (tSide W g2 c ((hG6.kp k (fun x => x)).cell 1 (by rw [List.getElem?_set_ne (by omega)]; rfl)) (by omega) p2.1 ok2.2))
          rw [h2] at GS3
          have HG6 := Lib.hid hG6; have HK36 := Lib.hid hK36
          clear hW6 hks hG6 hlow hK36 m4 y4 h2
          refine wp_region_kept2 [] [0, 1, 2, 3, 4, 5, 6, 7, 8, 9, 10] 11 (by kernel_rfl) (by kernel_rfl) (fun c a d u w h => by cases d <;> exact h) ?_
          simp only [pick, List.getElem?_cons_succ, List.getElem?_cons_zero, List.drop_succ_cons, List.drop_zero]
          show wpKL _ _ _ _ _ _
          repeat (first
            | (refine wpKL_op (by exact rfl) (by as_aux_lemma => intro W hK; have e0 := hK.cell d0 (fun x => x); go_simp; exact rfl) ?_; simp only [Act.put, List.setIfInBounds_toArray, List.set_cons_succ, List.set_cons_zero])
            | (refine wpKL_off (by exact rfl) ?_; simp only [Act.put, List.setIfInBounds_toArray, List.set_cons_succ, List.set_cons_zero])
            | (refine wpKL_call (by exact rfl) (by as_aux_lemma => intro W; go_simp; exact ⟨rfl, rfl⟩) (by intro W hK; with_reducible first | exact GS3.out W hK) ?_; simp only [Act.put, List.setIfInBounds_toArray, List.set_cons_succ, List.set_cons_zero]))
          show ∀ W, _ → wpList _ _ _ _ _ _
          intro W7 hK7
          have HK37 := Lib.hid (HK36.out.trans hK7)
          have HG7 := Lib.hid (HG6.out.kp hK7 (fun x => x))
          obtain ⟨v2, hv⟩ : ∃ v, ((enNd c false 0 .nil .nil).set (4 + a1) (.pointer (some ⟨nb, 0, none⟩)))[4 + a2]? = some v := ⟨_, List.getElem?_eq_getElem (by simp [enNd]; omega)⟩
          have m4 := HG7.out.cell (4 + a2) hv
          have y4 := HG7.out.fz (4 + a2)
          have HB7 := Lib.hid (HB3.out.kp HK37.out (fun x => x)); have HN7 := Lib.hid (HN3.out.kp HK37.out (fun x => x)); have HT7 := Lib.hid (HM3.out.old HK37.out)
          have b5 := hK7.cell b4 (fun x => x)
          have y5 := HB7.out.fz (4 + s)
          have gk2 : g2 ≠ kb := fun e => gk e.symm
          clear hK7 hv b4 d0 GS3
          go_wp2_with fail
          go_end0
          have hks : Kp (fun b => b = g2 ∨ b = kb) W7 ((W7.setCell ⟨g2, 4 + a2, none⟩ (.pointer (some ⟨k2, 0, none⟩))).setCell ⟨kb, 4 + s, none⟩ (.pointer (some ⟨g2, 0, none⟩))) := ((Kp.refl (fun b => b = g2 ∨ b = kb) W7).set (p := ⟨g2, 4 + a2, none⟩) (.inl (.inl rfl)) _).set (p := ⟨kb, 4 + s, none⟩) (.inl (.inr rfl)) _
          obtain ⟨m, pe⟩ := lay_fork (nx := nx) (u2 := u2) (x2 := x2) (l2 := l2) (r2 := r2) ok2 hok HCC.out HCE.out HCN.out HA1.out HA2.out ((HG7.out.set (4 + a2) (.pointer (some ⟨k2, 0, none⟩))).setNe (a := ⟨kb, 4 + s, none⟩) gk2 (.pointer (some ⟨g2, 0, none⟩))) (HN7.out.kp hks (fun e => e.elim gn HNE.out)) (HT7.out.kp hks (fun b hb e => e.elim (HGT.out b hb) (fun e => HKB.out (e ▸ hb))))
          refine ⟨rfl, g2, HGW.out, m, ?_, ?_⟩
          · rw [pe]
            exact (HB7.out.setNe (a := ⟨g2, 4 + a2, none⟩) gk _).set (4 + s) _
          · exact ((HK13.out.trans HK37.out).mono (T := fun b => b ∈ (Tr.node k2 p2 u2 x2 l2 r2).blks ∨ b = nb ∨ b = kb) (fun _ _ x => x.elim)).then hks (fun i hi e => e.elim (fun e => by have := HGW.out; omega) (fun e => .inr (.inr e)))
end Go.Proofs.YtfckgddodjmbdaaGreatDoor
