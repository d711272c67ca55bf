/- Queues with bounds (layer 12): Push, its walk. -/
import Derived.Test.YtfckgddodjmbdaaGreatDoorMDeviceNobodyF8
namespace Go.Proofs.YtfckgddodjmbdaaGreatDoor
set_option linter.unusedVariables false
set_option linter.unusedSimpArgs false
open Go Go.RowKit Go.Shelf
set_option maxRecDepth 100000 in
set_option maxHeartbeats 2000000 in
theorem qPushB {w : World} {qb g1 c1 g2 c2 n room m p A : Nat} {G : Nat → Prop} {Q : List It} {bs : List Nat} (r fl id ln : Nat)
    (hb : Blk w qb [.slice (some ⟨g1, 0, none⟩) n c1, .slice (some ⟨g2, 0, none⟩) n c2, .int .i64 room, .int .i64 m] 292) (ho : w.ownsRow 0 22 1 (.slice (some ⟨g2, 0, none⟩) n c2) n (bs.map eN8))
    (hxp : w.cell? ⟨g1, A, none⟩ = some (.pointer (some ⟨p, 0, none⟩))) (hg2 : g2 ≠ qb ∧ ¬ G g2) (hg1 : g1 ≠ g2) (hG : ¬ G qb) (hm : m < room) (hroom : room ≤ 4096) (hn : 1 ≤ n ∧ n ≤ 32) (hl : bs.length = n) (hA : atB bs r (n - 1) = A)
    (hput : PutOk w g2 p room G Q r fl id ln) (hB : ¬ (A = 0 ∧ r < bs.getD 0 0)) :
    Calls Tryz.prog 228 #[.pointer (some ⟨qb, 0, none⟩), .int .u64 r, .agg #[.int .u32 fl, .int .u32 id, .int .u64 ln]] w fun e w' => PushPost w qb g1 c1 g2 c2 n room m p A G Q (bs.set A r) r fl id ln e w' := by
  refine calls_post ?_
  intro PP HP
  have HPUT : Hid (∀ W, Kp (fun b => b = g2) w W → Calls Tryz.prog 232 #[.pointer (some ⟨p, 0, none⟩), .agg #[.int .u64 r, .int .u32 fl, .int .u32 id, .int .u64 ln]] W fun e w' => e = .returned (.bool true) ∧ ∃ F', Rg w' F' p room (Q ++ [⟨r, ⟨fl, id, ln⟩⟩]) ∧ Kp G W w' ∧ Nw W G F') := Lib.hid hput
  have HNE := Lib.hid hg2
  have HN1 := Lib.hid hg1
  have HG := Lib.hid hG
  have HBN := Lib.hid hB
  have HL := Lib.hid hl
  have HGL := Lib.hid ((own_block ho rfl).2)
  have HA := Lib.hid hA
  have hAl : A ≤ n - 1 := by rw [← hA]; exact atB_le _ _ _
  have hmr : (m : Int) < room := by omega
  have HX := Lib.hid (Blk.new w [.int .u32 fl, .int .u32 id, .int .u64 ln] 65)
  have HK0 := Lib.hid ((Kp.refl none' w).alloc (.cells #[.int .u32 fl, .int .u32 id, .int .u64 ln] 65))
  have HB0 := Lib.hid (hb.kp HK0.out (fun x => x))
  have HO0 := Lib.hid (own_kp ho HK0.out (fun _ _ x => x))
  have XP0 := Lib.hid (HK0.out.cell hxp (fun x => x))
  have y2 := HB0.out.cell 2 rfl
  have y3 := HB0.out.cell 3 rfl
  clear hput hg2 hg1 hG hB hl hA hb ho hxp
  go_enter Tryz.func228, Tryz.ntmps228
  go_wp2_with fail
  have hdm : decide ((room : Int) ≤ m) = false := by rw [decide_eq_false_iff_not]; omega
  have hdm2 : decide (room ≤ m) = false := by rw [decide_eq_false_iff_not]; omega
  refine wp_region_kept2 [] [0, 1, 2, 3, 4, 5, 6, 7, 8, 9, 10, 11] 12 (by kernel_rfl) (by kernel_rfl) (fun c a d u w h => by cases d <;> exact h) ?_
  simp only [pick, List.getElem?_cons_succ, List.getElem?_cons_zero, List.drop_succ_cons, List.drop_zero]
  show wpKL _ _ _ _ _ _
  repeat (first
    | (refine wpKL_op (by exact rfl) (by as_aux_lemma => intro W hK; have e0 := hK.cell y3 (fun x => x); have e1 := hK.cell y2 (fun x => x); have e9 := hdm; have e8 := hdm2; go_simp; exact rfl) ?_; simp only [Act.put, List.setIfInBounds_toArray, List.set_cons_succ, List.set_cons_zero])
    | (refine wpKL_off (by exact rfl) ?_; simp only [Act.put, List.setIfInBounds_toArray, List.set_cons_succ, List.set_cons_zero]))
  show ∀ W, _ → wpList _ _ _ _ _ _
  intro W1 hK1
  have HK1 := Lib.hid (HK0.out.trans hK1)
  have HB1 := Lib.hid (HB0.out.kp hK1 (fun x => x))
  have HO1 := Lib.hid (own_kp HO0.out hK1 (fun _ _ x => x))
  have HX1 := Lib.hid (HX.out.kp hK1 (fun x => x))
  have XP1 := Lib.hid (hK1.cell XP0.out (fun x => x))
  have y1 := HB1.out.cell 1 rfl
  clear hK1 y2 y3 HB0 HO0 HX XP0 HK0
  have hw9 : IntKind.i64.wrap ((n : Int) - 1) = ((n - 1 : Nat) : Int) := by rw [IntKind.wrap_i64]; omega
  go_wp2_with fail
  clear y1
  go_loopw [8] (fun i0 wr => ∃ k : Nat, i0 = .int .i64 k ∧ k ≤ n - 1 ∧ Hid (atB bs r k = A) ∧ Hid (Kp none' W1 wr)) (fun i0 _ => (intOf i0).toNat)
  case atStart => exact ⟨n - 1, rfl, Nat.le_refl _, HA.out, Kp.refl _ _⟩
  case round =>
    obtain ⟨k, rfl, hk, HAt, HKr⟩ := hrel
    have hki : (k : Int) < n := by omega
    have HBr := Lib.hid (HB1.out.kp HKr.out (fun x => x))
    have HOr := Lib.hid (own_kp HO1.out HKr.out (fun _ _ x => x))
    have HXr := Lib.hid (HX1.out.kp HKr.out (fun x => x))
    have XPr := Lib.hid (HKr.out.cell XP1.out (fun x => x))
    have r1 := HBr.out.cell 1 rfl
    have rk : wr.cell? ⟨g2, k, none⟩ = some (.int .u64 (bs.getD k 0)) := own_cell HOr.out k (by
      rw [List.getElem?_map, List.getD_eq_getElem?_getD, List.getElem?_eq_getElem (by rw [HL.out]; omega)]; rfl)
    have r0 : wr.cell? ⟨g2, 0, none⟩ = some (.int .u64 (bs.getD 0 0)) := own_cell HOr.out 0 (by
      rw [List.getElem?_map, List.getD_eq_getElem?_getD, List.getElem?_eq_getElem (by rw [HL.out]; omega)]; rfl)
    by_cases h0 : k = 0
    · subst h0
      have hAe : A = 0 := by rw [← HAt.out]; rfl
      subst hAe
      obtain ⟨b0, hb0⟩ : ∃ b0, bs.getD 0 0 = b0 := ⟨_, rfl⟩
      have hlt : ¬ r < b0 := fun h => HBN.out ⟨rfl, by rw [hb0]; exact h⟩
      rw [hb0] at r0 rk
      clear hb0 hAl
      have hd1 : decide ((r : Int) < b0) = false := by rw [decide_eq_false_iff_not]; omega
      have hd2 : decide (r < b0) = false := by rw [decide_eq_false_iff_not]; omega
      have hkA : (0 : Int) < n := by omega
      have hkB : 0 < n := by omega
      have hkC : (0 : Int) < n := by omega
      have hkD : 0 < n := by omega
      have hgl : g2 < w.heap.size := HGL.out
      have hkq : Kp (fun b => b = g2) wr (wr.setCell ⟨g2, 0, none⟩ (.int .u64 r)) := (Kp.refl (fun b => b = g2) wr).set (p := ⟨g2, 0, none⟩) (.inl rfl) _
      have HB4 := Lib.hid (HBr.out.kp hkq (fun e => HNE.out.1 e.symm))
      have HX4 := Lib.hid (HXr.out.kp hkq (fun e => by omega))
      have XP4 := Lib.hid (hkq.cell XPr.out (fun e => HN1.out e))
      have HO4 : Hid ((wr.setCell ⟨g2, 0, none⟩ (.int .u64 r)).ownsRow 0 22 1 (.slice (some ⟨g2, 0, none⟩) n c2) n ((bs.set 0 r).map eN8)) := Lib.hid (by rw [List.map_set]; exact own_set HOr.out 0 _)
      have HK4 : Hid (Kp (fun b => b = g2) w (wr.setCell ⟨g2, 0, none⟩ (.int .u64 r))) := Lib.hid (((HK1.out.trans HKr.out).mono (fun _ _ x => x.elim)).trans hkq)
      have z := own_fz HOr.out 0
      clear hkq
      go_wp2_with fail
      generalize wr.setCell ⟨g2, _, none⟩ (.int .u64 (r : Int)) = W4 at *
      have xp := XP4.out
      have q0 := HB4.out.cell 0 rfl
      have HLD := Lib.hid (pk_load HX4.out)
      go_wp2_with fail
      refine wp_region_kept2 [] [0, 1, 2, 3, 4, 5, 6, 7, 8, 9] 10 (by kernel_rfl) (by kernel_rfl) (fun c a d u w h => by cases d <;> exact h) ?_
      simp only [pick, List.getElem?_cons_succ, List.getElem?_cons_zero, List.drop_succ_cons, List.drop_zero]
      show wpKL _ _ _ _ _ _
      repeat (first
        | (refine wpKL_op (by exact rfl) (load_at rfl rfl HLD.out) ?_; simp only [Act.put, List.setIfInBounds_toArray, List.set_cons_succ, List.set_cons_zero])
        | (refine wpKL_op (by exact rfl) (by as_aux_lemma => intro W hK; have e0 := hK.cell q0 (fun x => x); have e1 := hK.cell xp (fun x => x); have e2 := hkA; have e3 := hkB; have e4 := hkC; have e5 := hkD; go_simp; exact rfl) ?_; simp only [Act.put, List.setIfInBounds_toArray, List.set_cons_succ, List.set_cons_zero])
        | (refine wpKL_off (by exact rfl) ?_; simp only [Act.put, List.setIfInBounds_toArray, List.set_cons_succ, List.set_cons_zero]))
      show ∀ W, _ → wpList _ _ _ _ _ _
      intro W5 hK5
      have HK5 := Lib.hid hK5
      go_wp2_with fail
      refine (HPUT.out W5 (HK4.out.then hK5 (fun b hb x => x.elim))).mono ?_
      rintro e W6 ⟨rfl, F', hr6, hk6, hn6⟩
      have HR6 := Lib.hid hr6
      have HK6 := Lib.hid hk6
      have HN6 := Lib.hid hn6
      have HB6 := Lib.hid ((HB4.out.kp hK5 (fun x => x)).kp hk6 HG.out)
      have q3 := HB6.out.cell 3 rfl
      have qf := HB6.out.fz 3
      clear hK5 hr6 hk6 hn6 q0 xp
      go_wp2_with fail
      have hqs : qb < W5.heap.size := (HB4.out.kp HK5.out (fun x => x)).lt
      exact HP.out _ _ (pushPost HNE.out HG.out HB4.out HO4.out HK4.out HK5.out HR6.out HK6.out HN6.out (fun h => by
        rcases HN6.out _ h with h | h
        · exact HG.out h
        · omega))
    · obtain ⟨j, rfl⟩ : ∃ j, k = j + 1 := ⟨k - 1, by omega⟩
      obtain ⟨bk, hbk⟩ : ∃ bk, bs.getD (j + 1) 0 = bk := ⟨_, rfl⟩
      rw [hbk] at rk
      have hd0 : decide ((0 : Int) < ((j + 1 : Nat) : Int)) = true := by rw [decide_eq_true_eq]; omega
      have hd9 : ((((j + 1 : Nat) : Int)) == 0) = false := by rw [beq_eq_false_iff_ne]; omega
      by_cases hle : bk ≤ r
      · have hAe : A = j + 1 := by rw [← HAt.out]; unfold atB; rw [if_pos (by rw [hbk]; exact hle)]
        subst hAe
        clear h0 hAl hbk
        have hd1 : decide ((r : Int) < bk) = false := by rw [decide_eq_false_iff_not]; omega
        have hd2 : decide (r < bk) = false := by rw [decide_eq_false_iff_not]; omega
        have hkA : (j : Int) + 1 < n := by omega
        have hkB : j + 1 < n := by omega
        have hkC : (0 : Int) ≤ (j : Int) + 1 := by omega
        have hkD : ((j + 1 : Nat) : Int) < n := by omega
        have hgl : g2 < w.heap.size := HGL.out
        have hkq : Kp (fun b => b = g2) wr (wr.setCell ⟨g2, j + 1, none⟩ (.int .u64 r)) := (Kp.refl (fun b => b = g2) wr).set (p := ⟨g2, j + 1, none⟩) (.inl rfl) _
        have HB4 := Lib.hid (HBr.out.kp hkq (fun e => HNE.out.1 e.symm))
        have HX4 := Lib.hid (HXr.out.kp hkq (fun e => by omega))
        have XP4 := Lib.hid (hkq.cell XPr.out (fun e => HN1.out e))
        have HO4 : Hid ((wr.setCell ⟨g2, j + 1, none⟩ (.int .u64 r)).ownsRow 0 22 1 (.slice (some ⟨g2, 0, none⟩) n c2) n ((bs.set (j + 1) r).map eN8)) := Lib.hid (by rw [List.map_set]; exact own_set HOr.out (j + 1) _)
        have HK4 : Hid (Kp (fun b => b = g2) w (wr.setCell ⟨g2, j + 1, none⟩ (.int .u64 r))) := Lib.hid (((HK1.out.trans HKr.out).mono (fun _ _ x => x.elim)).trans hkq)
        have z := own_fz HOr.out (j + 1)
        clear hkq
        go_wp2_with fail
        generalize wr.setCell ⟨g2, _, none⟩ (.int .u64 (r : Int)) = W4 at *
        have xp := XP4.out
        have q0 := HB4.out.cell 0 rfl
        have HLD := Lib.hid (pk_load HX4.out)
        go_wp2_with fail
        refine wp_region_kept2 [] [0, 1, 2, 3, 4, 5, 6, 7, 8, 9] 10 (by kernel_rfl) (by kernel_rfl) (fun c a d u w h => by cases d <;> exact h) ?_
        simp only [pick, List.getElem?_cons_succ, List.getElem?_cons_zero, List.drop_succ_cons, List.drop_zero]
        show wpKL _ _ _ _ _ _
        repeat (first
          | (refine wpKL_op (by exact rfl) (load_at rfl rfl HLD.out) ?_; simp only [Act.put, List.setIfInBounds_toArray, List.set_cons_succ, List.set_cons_zero])
          | (refine wpKL_op (by exact rfl) (by as_aux_lemma => intro W hK; have e0 := hK.cell q0 (fun x => x); have e1 := hK.cell xp (fun x => x); have e2 := hkA; have e3 := hkB; have e4 := hkC; have e5 := hkD; go_simp; exact rfl) ?_; simp only [Act.put, List.setIfInBounds_toArray, List.set_cons_succ, List.set_cons_zero])
          | (refine wpKL_off (by exact rfl) ?_; simp only [Act.put, List.setIfInBounds_toArray, List.set_cons_succ, List.set_cons_zero]))
        show ∀ W, _ → wpList _ _ _ _ _ _
        intro W5 hK5
        have HK5 := Lib.hid hK5
        go_wp2_with fail
        refine (HPUT.out W5 (HK4.out.then hK5 (fun b hb x => x.elim))).mono ?_
        rintro e W6 ⟨rfl, F', hr6, hk6, hn6⟩
        have HR6 := Lib.hid hr6
        have HK6 := Lib.hid hk6
        have HN6 := Lib.hid hn6
        have HB6 := Lib.hid ((HB4.out.kp hK5 (fun x => x)).kp hk6 HG.out)
        have q3 := HB6.out.cell 3 rfl
        have qf := HB6.out.fz 3
        clear hK5 hr6 hk6 hn6 q0 xp
        go_wp2_with fail
        have hqs : qb < W5.heap.size := (HB4.out.kp HK5.out (fun x => x)).lt
        exact HP.out _ _ (pushPost HNE.out HG.out HB4.out HO4.out HK4.out HK5.out HR6.out HK6.out HN6.out (fun h => by
          rcases HN6.out _ h with h | h
          · exact HG.out h
          · omega))
      · have HAn : Hid (atB bs r j = A) := Lib.hid (by rw [← HAt.out]; conv => rhs; unfold atB
                                                       rw [if_neg (by rw [hbk]; exact hle)])
        clear h0 hbk
        have hd1 : decide ((r : Int) < bk) = true := by rw [decide_eq_true_eq]; omega
        have hd2 : decide (r < bk) = true := by rw [decide_eq_true_eq]; omega
        have hw8 : IntKind.i64.wrap (((j + 1 : Nat) : Int) - 1) = (j : Int) := by rw [IntKind.wrap_i64]; omega
        go_wp2_with fail
        go_roundw
        case rel => exact ⟨j, rfl, by omega, HAn.out, HKr.out⟩
        case measure => simp [intOf]

def shB (bs : List Nat) (r b : Nat) : Nat := b - (bs.getD 0 0 - r)
theorem sh_set (f : Nat → Nat) (bs : List Nat) (i : Nat) (h : i < bs.length) : (((bs.take i).map f ++ bs.drop i).set i (f bs[i])) = (bs.take (i + 1)).map f ++ bs.drop (i + 1) := by
  rw [List.set_append_right _ _ (by rw [List.length_map, List.length_take]; omega), List.length_map, List.length_take]
  have h1 : i - min i bs.length = 0 := by omega
  rw [h1, List.drop_eq_getElem_cons h, List.set_cons_zero, List.take_succ_eq_append_getElem h, List.map_append]
  simp
theorem sh_get (f : Nat → Nat) (bs : List Nat) (i : Nat) (h : i < bs.length) : ((bs.take i).map f ++ bs.drop i)[i]? = some bs[i] := by
  rw [List.getElem?_append_right (by rw [List.length_map, List.length_take]; omega), List.length_map, List.length_take]
  have h1 : i - min i bs.length = 0 := by omega
  rw [h1, List.drop_eq_getElem_cons h]; rfl
set_option maxRecDepth 100000 in
set_option maxHeartbeats 2000000 in
theorem qPushA {w : World} {qb g1 c1 g2 c2 n room m p A : Nat} {G : Nat → Prop} {Q : List It} {bs : List Nat} (r fl id ln : Nat)
    (hb : Blk w qb [.slice (some ⟨g1, 0, none⟩) n c1, .slice (some ⟨g2, 0, none⟩) n c2, .int .i64 room, .int .i64 m] 292) (ho : w.ownsRow 0 22 1 (.slice (some ⟨g2, 0, none⟩) n c2) n (bs.map eN8))
    (hxp : w.cell? ⟨g1, A, none⟩ = some (.pointer (some ⟨p, 0, none⟩))) (hg2 : g2 ≠ qb ∧ ¬ G g2) (hg1 : g1 ≠ g2) (hG : ¬ G qb) (hm : m < room) (hroom : room ≤ 4096) (hn : 1 ≤ n ∧ n ≤ 32) (hl : bs.length = n) (hA : atB bs r (n - 1) = A)
    (hput : PutOk w g2 p room G Q r fl id ln) (hA0 : A = 0) (hB : r < bs.getD 0 0) (hU : Upw bs) (hbk : ∀ b ∈ bs, b < 18446744073709551616) :
    Calls Tryz.prog 228 #[.pointer (some ⟨qb, 0, none⟩), .int .u64 r, .agg #[.int .u32 fl, .int .u32 id, .int .u64 ln]] w fun e w' => PushPost w qb g1 c1 g2 c2 n room m p A G Q (bs.map (shB bs r)) r fl id ln e w' := by
  refine calls_post ?_
  intro PP HP
  have HPUT : Hid (∀ W, Kp (fun b => b = g2) w W → Calls Tryz.prog 232 #[.pointer (some ⟨p, 0, none⟩), .agg #[.int .u64 r, .int .u32 fl, .int .u32 id, .int .u64 ln]] W fun e w' => e = .returned (.bool true) ∧ ∃ F', Rg w' F' p room (Q ++ [⟨r, ⟨fl, id, ln⟩⟩]) ∧ Kp G W w' ∧ Nw W G F') := Lib.hid hput
  have HNE := Lib.hid hg2
  have HN1 := Lib.hid hg1
  have HG := Lib.hid hG
  have HBN := Lib.hid hB
  have HUP := Lib.hid hU
  have HBK := Lib.hid hbk
  have hAx := Lib.hid hA0
  have HL := Lib.hid hl
  have HGL := Lib.hid ((own_block ho rfl).2)
  have HA := Lib.hid hA
  have hAl : A ≤ n - 1 := by rw [← hA]; exact atB_le _ _ _
  have hmr : (m : Int) < room := by omega
  have HX := Lib.hid (Blk.new w [.int .u32 fl, .int .u32 id, .int .u64 ln] 65)
  have HK0 := Lib.hid ((Kp.refl none' w).alloc (.cells #[.int .u32 fl, .int .u32 id, .int .u64 ln] 65))
  have HB0 := Lib.hid (hb.kp HK0.out (fun x => x))
  have HO0 := Lib.hid (own_kp ho HK0.out (fun _ _ x => x))
  have XP0 := Lib.hid (HK0.out.cell hxp (fun x => x))
  have y2 := HB0.out.cell 2 rfl
  have y3 := HB0.out.cell 3 rfl
  clear hU hbk hA0 hput hg2 hg1 hG hB hl hA hb ho hxp
  go_enter Tryz.func228, Tryz.ntmps228
  go_wp2_with fail
  have hdm : decide ((room : Int) ≤ m) = false := by rw [decide_eq_false_iff_not]; omega
  have hdm2 : decide (room ≤ m) = false := by rw [decide_eq_false_iff_not]; omega
  refine wp_region_kept2 [] [0, 1, 2, 3, 4, 5, 6, 7, 8, 9, 10, 11] 12 (by kernel_rfl) (by kernel_rfl) (fun c a d u w h => by cases d <;> exact h) ?_
  simp only [pick, List.getElem?_cons_succ, List.getElem?_cons_zero, List.drop_succ_cons, List.drop_zero]
  show wpKL _ _ _ _ _ _
  repeat (first
    | (refine wpKL_op (by exact rfl) (by as_aux_lemma => intro W hK; have e0 := hK.cell y3 (fun x => x); have e1 := hK.cell y2 (fun x => x); have e9 := hdm; have e8 := hdm2; go_simp; exact rfl) ?_; simp only [Act.put, List.setIfInBounds_toArray, List.set_cons_succ, List.set_cons_zero])
    | (refine wpKL_off (by exact rfl) ?_; simp only [Act.put, List.setIfInBounds_toArray, List.set_cons_succ, List.set_cons_zero]))
  show ∀ W, _ → wpList _ _ _ _ _ _
  intro W1 hK1
  have HK1 := Lib.hid (HK0.out.trans hK1)
  have HB1 := Lib.hid (HB0.out.kp hK1 (fun x => x))
  have HO1 := Lib.hid (own_kp HO0.out hK1 (fun _ _ x => x))
  have HX1 := Lib.hid (HX.out.kp hK1 (fun x => x))
  have XP1 := Lib.hid (hK1.cell XP0.out (fun x => x))
  have y1 := HB1.out.cell 1 rfl
  clear hK1 y2 y3 HB0 HO0 HX XP0 HK0
  have hw9 : IntKind.i64.wrap ((n : Int) - 1) = ((n - 1 : Nat) : Int) := by rw [IntKind.wrap_i64]; omega
  go_wp2_with fail
  clear y1
  go_loopw [8] (fun i0 wr => ∃ k : Nat, i0 = .int .i64 k ∧ k ≤ n - 1 ∧ Hid (atB bs r k = A) ∧ Hid (Kp none' W1 wr)) (fun i0 _ => (intOf i0).toNat)
  case atStart => exact ⟨n - 1, rfl, Nat.le_refl _, HA.out, Kp.refl _ _⟩
  case round =>
    obtain ⟨k, rfl, hk, HAt, HKr⟩ := hrel
    have hki : (k : Int) < n := by omega
    have HBr := Lib.hid (HB1.out.kp HKr.out (fun x => x))
    have HOr := Lib.hid (own_kp HO1.out HKr.out (fun _ _ x => x))
    have HXr := Lib.hid (HX1.out.kp HKr.out (fun x => x))
    have XPr := Lib.hid (HKr.out.cell XP1.out (fun x => x))
    have r1 := HBr.out.cell 1 rfl
    have rk : wr.cell? ⟨g2, k, none⟩ = some (.int .u64 (bs.getD k 0)) := own_cell HOr.out k (by
      rw [List.getElem?_map, List.getD_eq_getElem?_getD, List.getElem?_eq_getElem (by rw [HL.out]; omega)]; rfl)
    have r0 : wr.cell? ⟨g2, 0, none⟩ = some (.int .u64 (bs.getD 0 0)) := own_cell HOr.out 0 (by
      rw [List.getElem?_map, List.getD_eq_getElem?_getD, List.getElem?_eq_getElem (by rw [HL.out]; omega)]; rfl)
    by_cases h0 : k = 0
    · subst h0
      have hAe : A = 0 := by rw [← HAt.out]; rfl
      subst hAe
      obtain ⟨b0, hb0⟩ : ∃ b0, bs.getD 0 0 = b0 := ⟨_, rfl⟩
      have hlt : r < b0 := by have := HBN.out; rw [hb0] at this; exact this
      have HB0E := Lib.hid hb0
      rw [hb0] at r0 rk
      have hb64 : b0 < 18446744073709551616 := by
        rw [← hb0, List.getD_eq_getElem?_getD, List.getElem?_eq_getElem (by rw [HL.out]; omega)]
        exact HBK.out _ (List.getElem_mem _)
      clear hb0 hAl
      have hd1 : decide ((r : Int) < b0) = true := by rw [decide_eq_true_eq]; omega
      have hd2 : decide (r < b0) = true := by rw [decide_eq_true_eq]; omega
      go_wp2_with fail
      clear r1 rk r0
      go_loopw [63] (fun i0 wv => ∃ i : Nat, i0 = .int .i64 i ∧ i ≤ n ∧ Hid (wv.ownsRow 0 22 1 (.slice (some ⟨g2, 0, none⟩) n c2) n (((bs.take i).map (shB bs r) ++ bs.drop i).map eN8)) ∧ Hid (Kp (fun b => b = g2) wr wv)) (fun i0 _ => n - (intOf i0).toNat)
      case atStart => exact ⟨0, rfl, Nat.zero_le _, Lib.hid (by simpa using HOr.out), Lib.hid (Kp.refl _ _)⟩
      case round =>
        obtain ⟨i, rfl, hi, HOv, HKv⟩ := hrel
        have hgl : g2 < w.heap.size := HGL.out
        have HBv := Lib.hid (HBr.out.kp HKv.out (fun e => HNE.out.1 e.symm))
        by_cases hin : i < n
        · have hii : (i : Int) < n := by omega
          have v1 := HBv.out.cell 1 rfl
          have hil : i < bs.length := by rw [HL.out]; exact hin
          have vi : wr.cell? ⟨g2, i, none⟩ = some (.int .u64 bs[i]) := own_cell HOv.out i (by rw [List.getElem?_map, sh_get _ _ _ hil]; rfl)
          have vf := own_fz HOv.out i
          have HSET := Lib.hid (sh_set (shB bs r) bs i hil)
          have hup : b0 ≤ bs[i] := by
            have := HUP.out i hil
            rw [HB0E.out, List.getD_eq_getElem?_getD, List.getElem?_eq_getElem hil] at this
            exact this
          have hbi : bs[i] < 18446744073709551616 := HBK.out _ (List.getElem_mem hil)
          obtain ⟨f, hf⟩ : ∃ f, shB bs r bs[i] = f := ⟨_, rfl⟩
          have hf2 : f = bs[i] - (b0 - r) := by rw [← hf]; unfold shB; rw [HB0E.out]
          rw [hf] at HSET
          obtain ⟨x, hx⟩ : ∃ x, bs[i] = x := ⟨_, rfl⟩
          rw [hx] at vi hup hbi hf2
          obtain ⟨D, hD⟩ : ∃ D, b0 - r = D := ⟨_, rfl⟩
          rw [hD] at hf2
          have hw1 : IntKind.u64.wrap ((b0 : Int) - r) = (D : Int) := by rw [IntKind.wrap_u64]; omega
          have hw2 : IntKind.u64.wrap ((x : Int) - D) = (f : Int) := by rw [IntKind.wrap_u64]; omega
          have hkq : Kp (fun b => b = g2) wr (wr.setCell ⟨g2, i, none⟩ (.int .u64 f)) := (Kp.refl (fun b => b = g2) wr).set (p := ⟨g2, i, none⟩) (.inl rfl) _
          have HKn := Lib.hid (HKv.out.trans hkq)
          have HOn : Hid ((wr.setCell ⟨g2, i, none⟩ (.int .u64 f)).ownsRow 0 22 1 (.slice (some ⟨g2, 0, none⟩) n c2) n (((bs.take (i + 1)).map (shB bs r) ++ bs.drop (i + 1)).map eN8)) := Lib.hid (by
            rw [← HSET.out, List.map_set]; exact own_set HOv.out i _)
          clear hf hx hD hf2 hup hbi hil hkq
          go_wp2_with fail
          go_roundw
          case rel => exact ⟨i + 1, by go_num, by omega, HOn, HKn⟩
          case measure => simp [intOf]; omega
        · obtain rfl : i = n := by omega
          have HB4 := HBv
          have HX4 := Lib.hid (HXr.out.kp HKv.out (fun e => by omega))
          have XP4 := Lib.hid (HKv.out.cell XPr.out (fun e => HN1.out e))
          have HO4 : Hid (wr.ownsRow 0 22 1 (.slice (some ⟨g2, 0, none⟩) i c2) i ((bs.map (shB bs r)).map eN8)) := Lib.hid (by
            have := HOv.out
            rw [List.take_of_length_le (by rw [HL.out]; exact Nat.le_refl _), List.drop_of_length_le (by rw [HL.out]; exact Nat.le_refl _), List.append_nil] at this
            exact this)
          have HK4 : Hid (Kp (fun b => b = g2) w wr) := Lib.hid (((HK1.out.trans HKr.out).mono (fun _ _ x => x.elim)).trans HKv.out)
          have xp := XP4.out
          have hkA : (0 : Int) < i := by omega
          have hkB : 0 < i := by omega
          have hkC : (0 : Int) < i := by omega
          have hkD : 0 < i := by omega
          go_wp2_with fail
          have q0 := HB4.out.cell 0 rfl
          have HLD := Lib.hid (pk_load HX4.out)
          go_wp2_with fail
          refine wp_region_kept2 [] [0, 1, 2, 3, 4, 5, 6, 7, 8, 9] 10 (by kernel_rfl) (by kernel_rfl) (fun c a d u w h => by cases d <;> exact h) ?_
          simp only [pick, List.getElem?_cons_succ, List.getElem?_cons_zero, List.drop_succ_cons, List.drop_zero]
          show wpKL _ _ _ _ _ _
          repeat (first
            | (refine wpKL_op (by exact rfl) (load_at rfl rfl HLD.out) ?_; simp only [Act.put, List.setIfInBounds_toArray, List.set_cons_succ, List.set_cons_zero])
            | (refine wpKL_op (by exact rfl) (by as_aux_lemma => intro W hK; have e0 := hK.cell q0 (fun x => x); have e1 := hK.cell xp (fun x => x); have e2 := hkA; have e3 := hkB; have e4 := hkC; have e5 := hkD; go_simp; exact rfl) ?_; simp only [Act.put, List.setIfInBounds_toArray, List.set_cons_succ, List.set_cons_zero])
            | (refine wpKL_off (by exact rfl) ?_; simp only [Act.put, List.setIfInBounds_toArray, List.set_cons_succ, List.set_cons_zero]))
          show ∀ W, _ → wpList _ _ _ _ _ _
          intro W5 hK5
          have HK5 := Lib.hid hK5
          go_wp2_with fail
          refine (HPUT.out W5 (HK4.out.then hK5 (fun b hb x => x.elim))).mono ?_
          rintro e W6 ⟨rfl, F', hr6, hk6, hn6⟩
          have HR6 := Lib.hid hr6
          have HK6 := Lib.hid hk6
          have HN6 := Lib.hid hn6
          have HB6 := Lib.hid ((HB4.out.kp hK5 (fun x => x)).kp hk6 HG.out)
          have q3 := HB6.out.cell 3 rfl
          have qf := HB6.out.fz 3
          clear hK5 hr6 hk6 hn6 q0 xp
          go_wp2_with fail
          have hqs : qb < W5.heap.size := (HB4.out.kp HK5.out (fun x => x)).lt
          exact HP.out _ _ (pushPost HNE.out HG.out HB4.out HO4.out HK4.out HK5.out HR6.out HK6.out HN6.out (fun h => by
            rcases HN6.out _ h with h | h
            · exact HG.out h
            · omega))
    · obtain ⟨j, rfl⟩ : ∃ j, k = j + 1 := ⟨k - 1, by omega⟩
      obtain ⟨bk, hbk⟩ : ∃ bk, bs.getD (j + 1) 0 = bk := ⟨_, rfl⟩
      rw [hbk] at rk
      have hd0 : decide ((0 : Int) < ((j + 1 : Nat) : Int)) = true := by rw [decide_eq_true_eq]; omega
      by_cases hle : bk ≤ r
      · have hAe : A = j + 1 := by rw [← HAt.out]; unfold atB; rw [if_pos (by rw [hbk]; exact hle)]
        have := hAx.out
        omega
      · have HAn : Hid (atB bs r j = A) := Lib.hid (by rw [← HAt.out]; conv => rhs; unfold atB
                                                       rw [if_neg (by rw [hbk]; exact hle)])
        clear h0 hbk
        have hd1 : decide ((r : Int) < bk) = true := by rw [decide_eq_true_eq]; omega
        have hd2 : decide (r < bk) = true := by rw [decide_eq_true_eq]; omega
        have hw8 : IntKind.i64.wrap (((j + 1 : Nat) : Int) - 1) = (j : Int) := by rw [IntKind.wrap_i64]; omega
        go_wp2_with fail
        go_roundw
        case rel => exact ⟨j, rfl, by omega, HAn.out, HKr.out⟩
        case measure => simp [intOf]

theorem atB_above (bs : List Nat) (r : Nat) : ∀ k i, atB bs r k < i → i ≤ k → r < bs.getD i 0
  | 0, i, h1, h2 => by omega
  | k + 1, i, h1, h2 => by
    unfold atB at h1
    split at h1
    · omega
    · rename_i h3
      by_cases e : i = k + 1
      · subst e; omega
      · exact atB_above bs r k i h1 (by omega)
theorem atB_at (bs : List Nat) (r : Nat) : ∀ k, atB bs r k ≠ 0 → bs.getD (atB bs r k) 0 ≤ r
  | 0, h => absurd rfl h
  | k + 1, h => by
    unfold atB at h ⊢
    split
    · rename_i h3; exact h3
    · rename_i h3; rw [if_neg h3] at h; exact atB_at bs r k h
theorem getD_set {α : Type} (l : List α) (i j : Nat) (x d : α) (hi : i < l.length) : (l.set i x).getD j d = if j = i then x else l.getD j d := by
  rw [List.getD_eq_getElem?_getD, List.getD_eq_getElem?_getD]
  by_cases e : j = i
  · subst e; rw [if_pos rfl, List.getElem?_set_self hi]; rfl
  · rw [if_neg e, List.getElem?_set_ne (fun h => e h.symm)]
theorem pushB_len (bs : List Nat) (r : Nat) : (pushB bs r).length = bs.length := by unfold pushB; split <;> simp
theorem pushB_up {bs : List Nat} (h : Upw bs) (hn : 1 ≤ bs.length) (r : Nat) : Upw (pushB bs r) := by
  intro i hi
  rw [pushB_len] at hi
  have h0 := h i hi
  unfold pushB
  split
  · have hg : ∀ j, j < bs.length → (bs.map (fun b => b - (bs.getD 0 0 - r))).getD j 0 = bs.getD j 0 - (bs.getD 0 0 - r) := fun j hj => by
      have e1 : bs.getD j 0 = bs[j] := by rw [List.getD_eq_getElem?_getD, List.getElem?_eq_getElem hj]; rfl
      rw [e1, List.getD_eq_getElem?_getD, List.getElem?_map, List.getElem?_eq_getElem hj]; rfl
    rw [hg 0 (by omega), hg i hi]; omega
  · rename_i h1
    have hA := atB_le bs r (bs.length - 1)
    rw [getD_set _ _ _ _ _ (by omega), getD_set _ _ _ _ _ (by omega)]
    by_cases e : atB bs r (bs.length - 1) = 0
    · rw [if_pos e.symm]
      by_cases e2 : i = atB bs r (bs.length - 1)
      · rw [if_pos e2]; exact Nat.le_refl _
      · rw [if_neg e2]
        exact Nat.le_of_lt (atB_above bs r (bs.length - 1) i (by omega) (by omega))
    · rw [if_neg (fun e2 => e e2.symm)]
      by_cases e2 : i = atB bs r (bs.length - 1)
      · rw [if_pos e2]; have := atB_at bs r _ e; have := h _ (show atB bs r (bs.length - 1) < bs.length by omega); omega
      · rw [if_neg e2]; exact h0
theorem pushB_ok {bs : List Nat} (h : ∀ b ∈ bs, b < 18446744073709551616) (r : Nat) (hr : r < 18446744073709551616) : ∀ b ∈ pushB bs r, b < 18446744073709551616 := by
  intro b hb
  unfold pushB at hb
  split at hb
  · obtain ⟨x, hx, rfl⟩ := List.mem_map.1 hb
    have := h x hx; omega
  · rcases List.mem_or_eq_of_mem_set hb with h1 | h1
    · exact h b h1
    · rw [h1]; exact hr
theorem tot_set {Qs : List (List It)} {i : Nat} {Q : List It} (h : Qs[i]? = some Q) (x : It) : totQ (Qs.set i (Q ++ [x])) = totQ Qs + 1 := by
  induction Qs generalizing i with
  | nil => simp at h
  | cons a r ih =>
    cases i with
    | zero =>
      simp only [List.getElem?_cons_zero, Option.some.injEq] at h
      subst h
      simp [totQ]; omega
    | succ i =>
      have := ih (i := i) (by simpa using h)
      simp only [totQ, List.set_cons_succ, List.map_cons, List.sum_cons] at *
      omega
theorem tot_le {Qs : List (List It)} {i : Nat} {Q : List It} (h : Qs[i]? = some Q) : Q.length ≤ totQ Qs := by
  induction Qs generalizing i with
  | nil => simp at h
  | cons a r ih =>
    cases i with
    | zero =>
      simp only [List.getElem?_cons_zero, Option.some.injEq] at h
      subst h
      simp [totQ]
    | succ i =>
      have := ih (i := i) (by simpa using h)
      simp only [totQ, List.map_cons, List.sum_cons] at *
      omega
theorem qPush {w : World} {F : Nat → Prop} {qb room : Nat} {bs : List Nat} {Qs : List (List It)} (h : Qu w F qb room bs Qs) (hl : totQ Qs < room) (r fl id ln : Nat) (hr : r < 18446744073709551616) :
    Calls Tryz.prog 228 #[.pointer (some ⟨qb, 0, none⟩), .int .u64 r, .agg #[.int .u32 fl, .int .u32 id, .int .u64 ln]] w fun e w' => e = .returned (.tuple #[.int .i64 (atB bs r (bs.length - 1) : Nat), .bool true]) ∧ ∃ F', Qu w' F' qb room (pushB bs r) (pushQ bs Qs r ⟨r, ⟨fl, id, ln⟩⟩) ∧ Kp F w w' ∧ Nw w F F' := by
  obtain ⟨v1, v2, ps, Fs, rfl, hm⟩ := h
  obtain ⟨A, hA⟩ : ∃ A, atB bs r (bs.length - 1) = A := ⟨_, rfl⟩
  have hle : A ≤ bs.length - 1 := by rw [← hA]; exact atB_le _ _ _
  have hfew := hm.few
  have hAQ : A < Qs.length := by have := hm.blen; omega
  have hAp : A < ps.length := by rw [hm.plen]; exact hAQ
  have hp := List.getElem?_eq_getElem hAp
  have hQ := List.getElem?_eq_getElem hAQ
  obtain ⟨p, hpe⟩ : ∃ p, ps[A] = p := ⟨_, rfl⟩
  obtain ⟨Q, hQe⟩ : ∃ Q, Qs[A] = Q := ⟨_, rfl⟩
  rw [hpe] at hp
  rw [hQe] at hQ
  have hring := hm.rings A p Q hp hQ
  obtain ⟨g1, c1, rfl, _⟩ := own_shape1 hm.prow (by omega)
  obtain ⟨g2, c2, rfl, _⟩ := own_shape1 hm.brow (by have := hm.blen; omega)
  have n1 : g1 ≠ qb := fun e => own_ne_blk hm.prow hm.top (by decide) (by rw [e]; rfl)
  have n2 : g2 ≠ qb := fun e => own_ne_blk hm.brow hm.top (by decide) (by rw [e]; rfl)
  have n3 : g1 ≠ g2 := fun e => own_ne_own hm.prow hm.brow (by decide) g1 rfl (by rw [e]; rfl)
  have hG : ∀ i, i < ps.length → ¬ Fs i qb ∧ ¬ Fs i g1 ∧ ¬ Fs i g2 := fun i hi => by
    have hri := hm.rings i _ _ (List.getElem?_eq_getElem hi) (List.getElem?_eq_getElem (by rw [← hm.plen]; exact hi))
    exact ⟨hri.ne hm.top (by decide) (by decide), hri.neO hm.prow (by decide) (by decide) g1 rfl, hri.neO hm.brow (by decide) (by decide) g2 rfl⟩
  obtain ⟨hGq, hGg1, hGg2⟩ := hG A hAp
  have hput : PutOk w g2 p room (Fs A) Q r fl id ln := fun W k => by
    refine (rgPut (hring.kp k (fun b hb e => hGg2 (e ▸ hb))) (by have := tot_le hQ; omega) ⟨r, ⟨fl, id, ln⟩⟩).mono ?_
    rintro e w' ⟨a, F', b, c, d⟩
    exact ⟨a, F', b, c, d⟩
  have hxp : w.cell? ⟨g1, A, none⟩ = some (.pointer (some ⟨p, 0, none⟩)) := own_cell hm.prow A (by rw [List.getElem?_map, hp]; rfl)
  have hpl := hm.plen
  have hbl := hm.blen
  have key : Calls Tryz.prog 228 #[.pointer (some ⟨qb, 0, none⟩), .int .u64 r, .agg #[.int .u32 fl, .int .u32 id, .int .u64 ln]] w fun e w' => PushPost w qb g1 c1 g2 c2 bs.length room (totQ Qs) p A (Fs A) Q (pushB bs r) r fl id ln e w' := by
    have htop := hm.top
    rw [show ps.length = bs.length by omega] at htop
    unfold pushB
    rw [hA]
    by_cases hc : A = 0 ∧ r < bs.getD 0 0
    · rw [if_pos hc]
      exact qPushA r fl id ln htop hm.brow hxp ⟨n2, hGg2⟩ n3 hGq hl hm.tot.2 (by omega) rfl hA hput hc.1 hc.2 hm.up hm.bok
    · rw [if_neg hc]
      exact qPushB r fl id ln htop hm.brow hxp ⟨n2, hGg2⟩ n3 hGq hl hm.tot.2 (by omega) rfl hA hput hc
  refine key.mono ?_
  rintro e w' ⟨he, hT, hO, ⟨F', hR, hN⟩, hK⟩
  have hQD : Qs.getD A [] = Q := by rw [List.getD_eq_getElem?_getD, hQ]; rfl
  have hpush : pushQ bs Qs r ⟨r, ⟨fl, id, ln⟩⟩ = Qs.set A (Q ++ [⟨r, ⟨fl, id, ln⟩⟩]) := by unfold pushQ; rw [hA, hQD]
  have hlt : ∀ i, i < ps.length → ∀ b, Fs i b → b < w.heap.size := fun i hi b hb =>
    (hm.rings i _ _ (List.getElem?_eq_getElem hi) (List.getElem?_eq_getElem (by rw [← hm.plen]; exact hi))).lt hb
  have hsub : ∀ b, (b = qb ∨ b = g2 ∨ Fs A b) → QuF qb (.slice (some ⟨g1, 0, none⟩) ps.length c1) (.slice (some ⟨g2, 0, none⟩) bs.length c2) ps Fs b := fun b hb => by
    rcases hb with rfl | rfl | hb
    · exact .inl rfl
    · exact .inr (.inr (.inl rfl))
    · exact .inr (.inr (.inr ⟨A, hAp, hb⟩))
  refine ⟨by rw [he, hA], QuF qb (.slice (some ⟨g1, 0, none⟩) ps.length c1) (.slice (some ⟨g2, 0, none⟩) bs.length c2) ps (fun i => if i = A then F' else Fs i), ⟨_, _, ps, _, rfl, ?_⟩, hK.mono (fun b _ => hsub b), ?_⟩
  · rw [hpush]
    refine { top := ?_, prow := own_kp hm.prow hK (fun b hb hc => ?_), brow := by rw [pushB_len]; exact hO, plen := by rw [List.length_set]; exact hm.plen, blen := by rw [List.length_set, pushB_len]; exact hm.blen, few := by rw [List.length_set]; exact hm.few, tot := by rw [tot_set hQ]; exact ⟨by omega, hm.tot.2⟩, up := pushB_up hm.up (by omega) r, bok := pushB_ok hm.bok r hr, rings := fun i p' Q' hp' hQ' => ?_, apart := fun i j b hi hj hij h1 h2 => ?_ }
    · rw [tot_set hQ, hpl.trans hbl.symm]; exact hT
    · have hb' : g1 = b := Option.some.inj hb
      subst hb'
      rcases hc with e | e | e
      · exact n1 e
      · exact n3 e
      · exact hGg1 e
    · by_cases e : i = A
      · subst e
        rw [List.getElem?_set_self hAQ] at hQ'
        injection hQ' with hQ'
        rw [hp] at hp'
        injection hp' with hp'
        subst hp' hQ'
        rw [if_pos rfl]; exact hR
      · rw [List.getElem?_set_ne (fun h => e h.symm)] at hQ'
        rw [if_neg e]
        have hi : i < ps.length := (List.getElem?_eq_some_iff.1 hp').1
        obtain ⟨a1, a2, a3⟩ := hG i hi
        exact (hm.rings i p' Q' hp' hQ').kp hK (fun b hb hc => by
          rcases hc with rfl | rfl | hc
          · exact a1 hb
          · exact a3 hb
          · exact hm.apart i A b hi hAp e hb hc)
    · by_cases e1 : i = A
      · rw [if_pos e1] at h1
        rw [if_neg (fun e => hij (e1.trans e.symm))] at h2
        subst e1
        rcases hN b h1 with h3 | h3
        · exact hm.apart i j b hi hj hij h3 h2
        · have := hlt j hj b h2; omega
      · rw [if_neg e1] at h1
        by_cases e2 : j = A
        · rw [if_pos e2] at h2
          subst e2
          rcases hN b h2 with h3 | h3
          · exact hm.apart i j b hi hj hij h1 h3
          · have := hlt i hi b h1; omega
        · rw [if_neg e2] at h2
          exact hm.apart i j b hi hj hij h1 h2
  · intro b hb
    rcases hb with rfl | hb | hb | ⟨i, hi, hb⟩
    · exact .inl (.inl rfl)
    · exact .inl (.inr (.inl hb))
    · exact .inl (.inr (.inr (.inl hb)))
    · by_cases e : i = A
      · rw [if_pos e] at hb
        rcases hN b hb with h | h
        · exact .inl (hsub b (.inr (.inr h)))
        · exact .inr h
      · rw [if_neg e] at hb
        exact .inl (.inr (.inr (.inr ⟨i, hi, hb⟩)))
end Go.Proofs.YtfckgddodjmbdaaGreatDoor
