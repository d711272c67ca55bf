/- The trie of layer 32: the node of a prefix. -/
import Derived.Test.YtfckgddodjmbdaaGreatDoorMDeviceNobodyF21
import Derived.Laws.StructEq
namespace Go.Proofs.YtfckgddodjmbdaaGreatDoor
set_option linter.unusedVariables false
set_option linter.unusedSimpArgs false
open Go.RowKit
theorem eqInP (p q : Px) (w : World) : (Op.equalIn 10000 88 (.agg #[.int .u32 p.1, .int .i64 p.2]) (.agg #[.int .u32 q.1, .int .i64 q.2])).run Tryz.prog w = .ok (decide (p = q)) w := by
  go_simp
  obtain ⟨p1, p2⟩ := p
  obtain ⟨q1, q2⟩ := q
  by_cases h : (p1, p2) = (q1, q2)
  · cases h; simp
  · rw [decide_eq_false h]
    split
    · split
      · exact absurd (Prod.ext (by simp; omega) (by simp; omega)) h
      · rfl
    · rfl
theorem eqlP (p q : Px) (w : World) : (binOp .eql 88 (.agg #[.int .u32 p.1, .int .i64 p.2]) (.agg #[.int .u32 q.1, .int .i64 q.2])).run Tryz.prog w = .ok (.bool (decide (p = q))) w := by
  rw [run_eql_struct, eqInP]; rfl
theorem neqP (p q : Px) (w : World) : (binOp .neq 88 (.agg #[.int .u32 p.1, .int .i64 p.2]) (.agg #[.int .u32 q.1, .int .i64 q.2])).run Tryz.prog w = .ok (.bool (!decide (p = q))) w := by
  rw [run_neq_struct, eqInP]; rfl
def atP (T : Tr) (p : Px) : Value := match T.at_ p with | some (b, _, _) => .pointer (some ⟨b, 0, none⟩) | none => .pointer none
structure FdI (w wr : World) (T t : Tr) (p : Px) : Prop where
  mem : TrM wr t
  wf : t.WF
  eq : atP t p = atP T p
  pb : Blk wr w.heap.size [.int .u32 p.1, .int .i64 p.2] 88
  kp : Kp none' w wr
theorem FdI.old {w wr w' : World} {T t : Tr} {p : Px} (h : FdI w wr T t p) (k : Kp none' wr w') : FdI w w' T t p :=
  ⟨h.mem.old k, h.wf, h.eq, h.pb.kp k (fun x => x), h.kp.trans k⟩
set_option maxRecDepth 100000 in
set_option maxHeartbeats 8000000 in
theorem tFindP (w : World) (tb : Nat) (T : Tr) (n : Int) (hT : Blk w tb [T.ptr, .int .i64 n] 269) (hM : TrM w T) (hw : T.WF) (p : Px) (hp : okP p) :
    Calls Tryz.prog 136 #[.pointer (some ⟨tb, 0, none⟩), .agg #[.int .u32 p.1, .int .i64 p.2]] w fun e w' => e = .returned (atP T p) ∧ Kp none' w w' := by
  have hk1 := (Kp.refl none' w).alloc (.cells #[.int .u32 p.1, .int .i64 p.2] 88)
  have hb1 : Blk (w.alloc (.cells #[.int .u32 p.1, .int .i64 p.2] 88)) w.heap.size [.int .u32 p.1, .int .i64 p.2] 88 := Blk.new w [.int .u32 p.1, .int .i64 p.2] _
  obtain ⟨W1, hW1⟩ : ∃ W, W = w.alloc (.cells #[.int .u32 p.1, .int .i64 p.2] 88) := ⟨_, rfl⟩
  rw [← hW1] at hk1 hb1
  have hp32 := (right_iff.1 hp.1).1
  have GR := Lib.hid (fun W => aRight p.1 p.2 W hp.2 (by omega))
  have hr : rightB p.1 p.2 = true := hp.1
  rw [hr] at GR
  have HF0 : Hid (FdI w W1 T T p) := ⟨hM.old hk1, hw, rfl, hb1, hk1⟩
  have HT := Lib.hid (hT.kp hk1 (fun x => x))
  have c0 := HT.out.cell 0 rfl
  have p0 := hb1.cell 0 rfl
  have p1 := hb1.cell 1 rfl
  obtain ⟨tp, htp⟩ : ∃ v, T.ptr = v := ⟨_, rfl⟩
  have HTP := Lib.hid htp
  rw [htp] at c0
  obtain ⟨R, hR⟩ : ∃ R, atP T p = R := ⟨_, rfl⟩
  have HR := Lib.hid hR
  rw [hR]
  clear hT hM hw hk1 hb1 htp hR hr
  subst hW1
  go_enter Tryz.func136, Tryz.ntmps136
  go_wp2_with (go_at_call 92; refine (GR.out _).mono ?_; rintro e w1 ⟨rfl, hk1⟩
               have HF := Lib.hid (HF0.out.old hk1)
               have c0 := hk1.cell c0 (fun x => x)
               clear hk1 p0 p1 HT)
  go_loopg [5] T.prs.length (fun k s5 wr => ∃ (t : Tr) (tp : Value), tp = s5 ∧ t.prs.length ≤ k ∧ Hid (t.ptr = tp ∧ FdI w wr T t p))
  case atStart => exact ⟨T, _, rfl, Nat.le_refl _, HTP.out, HF.out⟩
  case round =>
    clear HF c0
    obtain ⟨t, tp, rfl, hk, HI⟩ := hrel
    cases t with
    | nil =>
      obtain ⟨hp', hi⟩ := HI.out
      obtain rfl := hp'
      have HF := Lib.hid hi
      simp only [Tr.ptr]
      clear hi HI
      have hnil : atP T p = .pointer none := by rw [← HF.out.eq]; rfl
      have HN := Lib.hid hnil
      clear hnil
      go_wp2_with fail
      go_region
      go_wp2_with fail
      go_ret
      exact ⟨by rw [← HR.out, HN.out]; rfl, HF.out.kp.drew⟩
    | node b kp u x l r =>
      obtain ⟨hp', hi⟩ := HI.out
      obtain rfl := hp'
      have HF := Lib.hid hi
      obtain ⟨hn, hml, hmr⟩ := hi.mem
      have n0 := hn.cell 0 rfl
      have n1 := hn.cell 1 rfl
      have n4 := hn.cell 4 rfl
      have n5 := hn.cell 5 rfl
      have q0 := hi.pb.cell 0 rfl
      have q1 := hi.pb.cell 1 rfl
      have hok := hi.wf.1
      have hk32 := (right_iff.1 hok.1).1
      have NQ := neqP kp p
      simp only [Tr.ptr]
      have HN := Lib.hid hn; have HL := Lib.hid hml; have HRr := Lib.hid hmr
      clear hi HI hn hml hmr
      by_cases hkp : kp = p
      · have hd : decide (kp = p) = true := decide_eq_true hkp
        simp only [hd] at NQ
        have hat : atP T p = .pointer (some ⟨b, 0, none⟩) := by rw [← HF.out.eq]; unfold atP Tr.at_; rw [if_pos hkp]
        have HA := Lib.hid hat
        clear hat hd hkp
        go_wp2_with fail
        go_region
        go_wp2_with fail
        go_ret
        exact ⟨by rw [← HR.out, HA.out]; rfl, HF.out.kp.drew⟩
      · have hd : decide (kp = p) = false := decide_eq_false hkp
        simp only [hd] at NQ
        have hq2 := hp.2
        have hk2 := hok.2
        go_wp2_with fail
        go_region
        by_cases hb : p.2 ≤ kp.2
        · have hat : atP T p = .pointer none := by rw [← HF.out.eq]; unfold atP Tr.at_; rw [if_neg hkp, if_pos (.inl hb)]
          have HA := Lib.hid hat
          have hbi : decide ((kp.2 : Int) ≥ (p.2 : Int)) = true := by rw [decide_eq_true_eq]; omega
          clear hat hd hkp hbi
          go_wp2_with fail
          go_region
          go_wp2_with fail
          go_ret
          exact ⟨by rw [← HR.out, HA.out]; rfl, HF.out.kp.drew.drew⟩
        · have hbi : decide ((kp.2 : Int) ≥ (p.2 : Int)) = false := by rw [decide_eq_false_iff_not]; omega
          have HC := Lib.hid (fun W => aCovers kp.1 p.1 kp.2 p.2 W hk2 hq2 (by omega) (by omega))
          have HHB := Lib.hid hb; have HHP := Lib.hid hkp
          cases hc : covP kp p with
          | false =>
            have hat : atP T p = .pointer none := by rw [← HF.out.eq]; unfold atP Tr.at_; rw [if_neg hkp, if_pos (.inr hc)]
            have HA := Lib.hid hat
            rw [show covB kp.1 kp.2 p.1 p.2 = false from hc] at HC
            clear hat hd hkp hbi
            go_wp2_with fail
            refine wp_region_kept2 [] [0, 1, 2, 3, 4, 5, 6, 7, 8, 9, 10, 11, 12, 13, 14] 15 (by kernel_rfl) (by kernel_rfl) (fun c a d u w h => by cases d <;> exact h) ?_
            simp only [pick, List.getElem?_cons_succ, List.getElem?_cons_zero, List.drop_succ_cons, List.drop_zero]
            show wpKL _ _ _ _ _ _
            repeat (first
              | (refine wpKL_op (by exact rfl) (by as_aux_lemma => intro W hK; have e0 := hK.cell n0 (fun x => x); have e1 := hK.cell n1 (fun x => x); have e2 := hK.cell q0 (fun x => x); have e3 := hK.cell q1 (fun x => x); go_simp; exact rfl) ?_; simp only [Act.put, List.setIfInBounds_toArray, List.set_cons_succ, List.set_cons_zero])
              | (refine wpKL_off (by exact rfl) ?_; simp only [Act.put, List.setIfInBounds_toArray, List.set_cons_succ, List.set_cons_zero])
              | (refine wpKL_call (by exact rfl) (by as_aux_lemma => intro W; go_simp; exact ⟨rfl, rfl⟩) (by intro W hK; with_reducible first | exact HC.out W) ?_; simp only [Act.put, List.setIfInBounds_toArray, List.set_cons_succ, List.set_cons_zero]))
            show ∀ W, _ → wpList _ _ _ _ _ _
            intro W5 hK5
            have HK5 := Lib.hid ((Kp.refl none' wr).drew.trans hK5)
            clear hK5
            go_wp2_with fail
            go_ret
            exact ⟨by rw [← HR.out, HA.out]; rfl, HF.out.kp.trans HK5.out⟩
          | true =>
            rw [show covB kp.1 kp.2 p.1 p.2 = true from hc] at HC
            have HCC := Lib.hid hc
            clear hd hkp hbi
            go_wp2_with fail
            refine wp_region_kept2 [] [0, 1, 2, 3, 4, 5, 6, 7, 8, 9, 10, 11, 12, 13, 14] 15 (by kernel_rfl) (by kernel_rfl) (fun c a d u w h => by cases d <;> exact h) ?_
            simp only [pick, List.getElem?_cons_succ, List.getElem?_cons_zero, List.drop_succ_cons, List.drop_zero]
            show wpKL _ _ _ _ _ _
            repeat (first
              | (refine wpKL_op (by exact rfl) (by as_aux_lemma => intro W hK; have e0 := hK.cell n0 (fun x => x); have e1 := hK.cell n1 (fun x => x); have e2 := hK.cell q0 (fun x => x); have e3 := hK.cell q1 (fun x => x); go_simp; exact rfl) ?_; simp only [Act.put, List.setIfInBounds_toArray, List.set_cons_succ, List.set_cons_zero])
              | (refine wpKL_off (by exact rfl) ?_; simp only [Act.put, List.setIfInBounds_toArray, List.set_cons_succ, List.set_cons_zero])
              | (refine wpKL_call (by exact rfl) (by as_aux_lemma => intro W; go_simp; exact ⟨rfl, rfl⟩) (by intro W hK; with_reducible first | exact HC.out W) ?_; simp only [Act.put, List.setIfInBounds_toArray, List.set_cons_succ, List.set_cons_zero]))
            show ∀ W, _ → wpList _ _ _ _ _ _
            intro W5 hK5
            replace hK5 := (Kp.refl none' wr).drew.trans hK5
            have HF5 := Lib.hid (HF.out.old hK5)
            have HN5 := Lib.hid (HN.out.kp hK5 (fun x => x))
            have HL5 := Lib.hid (HL.out.old hK5)
            have HR5 := Lib.hid (HRr.out.old hK5)
            clear hK5 n0 n1 n4 n5 q0 q1 HC
            have n1 := HN5.out.cell 1 rfl
            have n4 := HN5.out.cell 4 rfl
            have n5 := HN5.out.cell 5 rfl
            have q0 := HF5.out.pb.cell 0 rfl
            have GS := Lib.hid (fun W (k : Kp none' W5 W) => calls_same (tSide W b kp ((HN5.out.kp k (fun x => x)).cell 1 rfl) (by have := HHB.out; omega) p.1 hq2))
            rcases side_two kp p.1 with hs | hs
            · have hat : atP l p = atP T p := by
                rw [← HF.out.eq]
                conv => rhs; unfold atP Tr.at_
                rw [if_neg HHP.out, if_neg (by rw [HCC.out]; simpa using HHB.out), if_pos hs]; rfl
              have HA := Lib.hid hat
              rw [hs] at GS
              clear hat
              go_wp2_with fail
              refine wp_region_kept2 [] [0, 1, 2, 3, 4, 5, 6, 7] 8 (by kernel_rfl) (by kernel_rfl) (fun c a d u w h => by cases d <;> exact h) ?_
              simp only [pick, List.getElem?_cons_succ, List.getElem?_cons_zero, List.drop_succ_cons, List.drop_zero]
              show wpKL _ _ _ _ _ _
              repeat (first
                | (refine wpKL_op (by exact rfl) (by as_aux_lemma => intro W hK; have e0 := hK.cell q0 (fun x => x); have e1 := hK.cell n4 (fun x => x); go_simp; exact rfl) ?_; simp only [Act.put, List.setIfInBounds_toArray, List.set_cons_succ, List.set_cons_zero])
                | (refine wpKL_off (by exact rfl) ?_; simp only [Act.put, List.setIfInBounds_toArray, List.set_cons_succ, List.set_cons_zero])
                | (refine wpKL_call (by exact rfl) (by as_aux_lemma => intro W; go_simp; exact ⟨rfl, rfl⟩) (by intro W hK; with_reducible first | exact GS.out W hK) ?_; simp only [Act.put, List.setIfInBounds_toArray, List.set_cons_succ, List.set_cons_zero]))
              show ∀ W, _ → wpList _ _ _ _ _ _
              intro W6 hK6
              have HI6 : Hid (FdI w W6 T l p) := ⟨HL5.out.old hK6, HF.out.wf.2.2.2.1, HA.out, HF5.out.pb.kp hK6 (fun x => x), HF5.out.kp.trans hK6⟩
              have hlen := hk
              simp only [Tr.prs, List.length_cons, List.length_append] at hlen
              have n4 := hK6.cell n4 (fun x => x)
              clear hK6 n5 n1 q0 GS
              go_wp2_with fail
              go_roundg l.prs.length
              case measure => omega
              case rel => exact ⟨l, _, rfl, Nat.le_refl _, rfl, HI6.out⟩
            · have hs0 : ¬ sideN kp p.1 = 0 := by omega
              have hat : atP r p = atP T p := by
                rw [← HF.out.eq]
                conv => rhs; unfold atP Tr.at_
                rw [if_neg HHP.out, if_neg (by rw [HCC.out]; simpa using HHB.out), if_neg hs0]; rfl
              have HA := Lib.hid hat
              rw [hs] at GS
              clear hat hs0
              go_wp2_with fail
              refine wp_region_kept2 [] [0, 1, 2, 3, 4, 5, 6, 7] 8 (by kernel_rfl) (by kernel_rfl) (fun c a d u w h => by cases d <;> exact h) ?_
              simp only [pick, List.getElem?_cons_succ, List.getElem?_cons_zero, List.drop_succ_cons, List.drop_zero]
              show wpKL _ _ _ _ _ _
              repeat (first
                | (refine wpKL_op (by exact rfl) (by as_aux_lemma => intro W hK; have e0 := hK.cell q0 (fun x => x); have e1 := hK.cell n5 (fun x => x); go_simp; exact rfl) ?_; simp only [Act.put, List.setIfInBounds_toArray, List.set_cons_succ, List.set_cons_zero])
                | (refine wpKL_off (by exact rfl) ?_; simp only [Act.put, List.setIfInBounds_toArray, List.set_cons_succ, List.set_cons_zero])
                | (refine wpKL_call (by exact rfl) (by as_aux_lemma => intro W; go_simp; exact ⟨rfl, rfl⟩) (by intro W hK; with_reducible first | exact GS.out W hK) ?_; simp only [Act.put, List.setIfInBounds_toArray, List.set_cons_succ, List.set_cons_zero]))
              show ∀ W, _ → wpList _ _ _ _ _ _
              intro W6 hK6
              have HI6 : Hid (FdI w W6 T r p) := ⟨HR5.out.old hK6, HF.out.wf.2.2.2.2, HA.out, HF5.out.pb.kp hK6 (fun x => x), HF5.out.kp.trans hK6⟩
              have hlen := hk
              simp only [Tr.prs, List.length_cons, List.length_append] at hlen
              have n5 := hK6.cell n5 (fun x => x)
              clear hK6 n4 n1 q0 GS
              go_wp2_with fail
              go_roundg r.prs.length
              case measure => omega
              case rel => exact ⟨r, _, rfl, Nat.le_refl _, rfl, HI6.out⟩
end Go.Proofs.YtfckgddodjmbdaaGreatDoor
