/- The trie of layer 32: Find, the longest prefix that has an address; with whole numbers. Printed by wip/ti.py. -/
import Derived.Test.YtfckgddodjmbdaaGreatDoorMDeviceNobodyF37
import Derived.Test.YtfckgddodjmbdaaGreatDoorMDeviceNobodyF20
import Derived.Test.YtfckgddodjmbdaaGreatDoorMDeviceNobodyF1
import Derived.Deep.LoopGhost
import Derived.Test.YtfckgddodjmbdaaGreatDoorMDeviceNobodyF24
import Derived.Laws.StructEq
namespace Go.Proofs.YtfckgddodjmbdaaGreatDoor.ti
set_option linter.unusedVariables false
set_option linter.unusedSimpArgs false
set_option linter.unusedVariables false
set_option linter.unusedSimpArgs false
open Go.RowKit
structure FiI (w wr : World) (T t : Tr) (a : Nat) (acc : Option (Px × Nat)) : Prop where
  mem : TrM wr t
  wf : t.WF
  low : ∀ b ∈ t.blks, b < w.heap.size
  eq : t.best a acc = T.best a none
  pb : Blk wr (w.heap.size + 1) [.int .u32 (accP acc).1, .int .i64 (accP acc).2] 88
  rb : Blk wr w.heap.size [.int .u32 0, .int .i64 0] 88
  kp : Kp none' w wr
theorem FiI.old {w wr w' : World} {T t : Tr} {a : Nat} {acc : Option (Px × Nat)} (h : FiI w wr T t a acc) (k : Kp none' wr w') : FiI w w' T t a acc :=
  ⟨h.mem.old k, h.wf, h.low, h.eq, h.pb.kp k (fun x => x), h.rb.kp k (fun x => x), h.kp.trans k⟩
theorem TrM.lt {w : World} {t : Tr} (h : TrM w t) : ∀ b ∈ t.blks, b < w.heap.size := by
  induction t with
  | nil => intro b hb; cases hb
  | node b p u x l r hl hr =>
    obtain ⟨h1, h2, h3⟩ := h
    intro b' hb
    simp only [Tr.blks, List.mem_cons, List.mem_append] at hb
    rcases hb with rfl | hb | hb
    · exact h1.lt
    · exact hl h2 b' hb
    · exact hr h3 b' hb
set_option maxRecDepth 100000 in
set_option maxHeartbeats 8000000 in
theorem tFind (w : World) (tb : Nat) (T : Tr) (n : Int) (hT : Blk w tb [T.ptr, .int .i64 n] 164) (hM : TrM w T) (hw : T.WF) (a : Nat) (ha : a < 4294967296) :
    Calls Tryz.prog 28 #[.pointer (some ⟨tb, 0, none⟩), .int .u32 a] w fun e w' => e = .returned (.tuple #[.agg #[.int .u32 (accP (T.best a none)).1, .int .i64 (accP (T.best a none)).2], .int .i64 (accX (T.best a none)), .bool (accU (T.best a none))]) ∧ Kp none' w w' := by
  have hk2 := ((Kp.refl none' w).alloc (.cells #[.int .u32 0, .int .i64 0] 88)).alloc (.cells #[.int .u32 0, .int .i64 0] 88)
  have c0 := (hT.kp hk2 (fun x => x)).cell 0 rfl
  have HI0 : Hid (FiI w ((w.alloc (.cells #[.int .u32 0, .int .i64 0] 88)).alloc (.cells #[.int .u32 0, .int .i64 0] 88)) T T a none) := by
    refine ⟨hM.old hk2, hw, hM.lt, rfl, ?_, (Blk.new w [.int .u32 0, .int .i64 0] _).alloc _, hk2⟩
    have := Blk.new (w.alloc (.cells #[.int .u32 0, .int .i64 0] 88)) [.int .u32 0, .int .i64 0] 88
    rw [World.size_alloc] at this
    exact this
  obtain ⟨tp, htp⟩ : ∃ v, T.ptr = v := ⟨_, rfl⟩
  have HTP := Lib.hid htp
  rw [htp] at c0
  obtain ⟨R, hR⟩ : ∃ R, T.best a none = R := ⟨_, rfl⟩
  have HR := Lib.hid hR
  rw [hR]
  clear hT hM hw hk2 htp hR
  go_enter Tryz.func28, Tryz.ntmps28
  go_wp2
  clear c0
  go_loopg [8, 9, 10] T.prs.length (fun k s8 s9 s10 wr => ∃ (t : Tr) (acc : Option (Px × Nat)) (tp : Value), tp = s10 ∧ s8 = .int .i64 (accX acc) ∧ s9 = .bool (accU acc) ∧ t.prs.length ≤ k ∧ Hid (t.ptr = tp ∧ FiI w wr T t a acc))
  case atStart => exact ⟨T, none, _, rfl, rfl, rfl, Nat.le_refl _, HTP.out, HI0.out⟩
  case round =>
    clear HI0
    obtain ⟨t, acc, tp, rfl, rfl, rfl, hk, HI⟩ := hrel
    cases t with
    | nil =>
      obtain ⟨hp, hi⟩ := HI.out
      obtain rfl := hp
      have HF := Lib.hid hi
      simp only [Tr.ptr]
      have p0 := HF.out.pb.cell 0 rfl
      have p1 := HF.out.pb.cell 1 rfl
      clear hi HI
      go_wp2_with (refine wp_set_row rfl 88 (.tmp 4) (.tmp 56) rfl HF.out.rb [.int .u32 (accP acc).1, .int .i64 (accP acc).2] rfl rfl (by kernel_rfl) rfl (by simp [Value.oneCell']) ?_
                   intro W2 hB2 _ hK2
                   have HB2 := Lib.hid hB2; have HK2 := Lib.hid (hK2 _ _ HF.out.kp (.inr (Nat.le_refl _))); clear hB2 hK2)
      refine ret_row3 (by rfl) HB2.out _ Tryz.underlying88 rfl (by kernel_rfl) (by rfl) ?_
      have he := HF.out.eq
      simp only [Tr.best] at he
      refine ⟨?_, HK2.out⟩
      rw [← HR.out, ← he]
      rfl
    | node b p u x l r =>
      obtain ⟨hp, hi⟩ := HI.out
      obtain rfl := hp
      have HF := Lib.hid hi
      obtain ⟨hn, hml, hmr⟩ := hi.mem
      have n0 := hn.cell 0 rfl
      have n1 := hn.cell 1 rfl
      have n2 := hn.cell 2 rfl
      have n3 := hn.cell 3 rfl
      have n4 := hn.cell 4 rfl
      have n5 := hn.cell 5 rfl
      have hok := hi.wf.1
      have hH := Lib.hid (fun W => aHas p.1 a p.2 W hok.2 ha (by have := (right_iff.1 hok.1).1; omega))
      simp only [Tr.ptr]
      have HN := Lib.hid hn; have HL := Lib.hid hml; have HRr := Lib.hid hmr
      clear hi HI hn hml hmr n4 n5
      cases hh : hasP p a with
      | false =>
        have hHf := fun W => hH.out W
        rw [show hasB p.1 p.2 a = false from hh] at hHf
        have HHf := Lib.hid hHf
        obtain ⟨accE, hE⟩ : ∃ x, x = acc := ⟨_, rfl⟩
        subst hE
        have HQ : Hid (accE = T.best a none) := by
          show _ = _
          rw [← HF.out.eq]
          unfold Tr.best
          rw [hh]
        clear hHf hH
        go_wp2_with (first
          | (go_at_call 60; refine (HHf.out _).mono ?_; rintro e w1 ⟨rfl, hk1⟩
             have HE : Hid (Kp none' w w1 ∧ Blk w1 w.heap.size [.int .u32 0, .int .i64 0] 88) := ⟨(HF.out.old hk1).kp, (HF.out.old hk1).rb⟩
             have p0 := (HF.out.old hk1).pb.cell 0 rfl
             have p1 := (HF.out.old hk1).pb.cell 1 rfl
             clear hk1)
          | (refine wp_set_row rfl 88 (.tmp 4) (.tmp 56) rfl HE.out.2 [.int .u32 (accP accE).1, .int .i64 (accP accE).2] rfl rfl (by kernel_rfl) rfl (by simp [Value.oneCell']) ?_
             intro W2 hB2 _ hK2
             have HB2 := Lib.hid hB2; have HK2 := Lib.hid (hK2 _ _ HE.out.1 (.inr (Nat.le_refl _))); clear hB2 hK2))
        refine ret_row3 (by rfl) HB2.out _ Tryz.underlying88 rfl (by kernel_rfl) (by rfl) ?_
        refine ⟨?_, HK2.out⟩
        rw [← HR.out, ← HQ.out]
        rfl
      | true =>
        have hHf := fun W => hH.out W
        rw [show hasB p.1 p.2 a = true from hh] at hHf
        have HHf := Lib.hid hHf
        clear hHf hH
        cases u with
        | false =>
          by_cases h32 : p.2 = 32
          · have h32i : ((p.2 : Int) == 32) = true := by rw [beq_iff_eq]; omega
            obtain ⟨accE, hE⟩ : ∃ x, x = acc := ⟨_, rfl⟩
            subst hE
            have hwf := HF.out.wf
            have HQ : Hid (accE = T.best a none) := by
              show _ = _
              rw [← HF.out.eq, Tr.best_node hh, Tr.kid_nil hwf.2.1 h32, Tr.kid_nil hwf.2.2.1 h32]
              simp only [Tr.best, ite_self]
            clear hwf h32
            go_wp2_with (first
              | (go_at_call 60; refine (HHf.out _).mono ?_; rintro e w1 ⟨rfl, hk1⟩
                 have HE : Hid (Kp none' w w1 ∧ Blk w1 w.heap.size [.int .u32 0, .int .i64 0] 88) := ⟨(HF.out.old hk1).kp, (HF.out.old hk1).rb⟩
                 have HN1 := Lib.hid (HN.out.kp hk1 (fun x => x))
                 have p0 := (HF.out.old hk1).pb.cell 0 rfl
                 have p1 := (HF.out.old hk1).pb.cell 1 rfl
                 have n1 := HN1.out.cell 1 rfl
                 have n2 := HN1.out.cell 2 rfl
                 clear hk1 n0 n3)
              | (refine wp_set_row rfl 88 (.tmp 4) (.tmp 56) rfl HE.out.2 [.int .u32 (accP accE).1, .int .i64 (accP accE).2] rfl rfl (by kernel_rfl) rfl (by simp [Value.oneCell']) ?_
                 intro W2 hB2 _ hK2
                 have HB2 := Lib.hid hB2; have HK2 := Lib.hid (hK2 _ _ HE.out.1 (.inr (Nat.le_refl _))); clear hB2 hK2))
            refine ret_row3 (by rfl) HB2.out _ Tryz.underlying88 rfl (by kernel_rfl) (by rfl) ?_
            refine ⟨?_, HK2.out⟩
            rw [← HR.out, ← HQ.out]
            rfl
          · have h32i : ((p.2 : Int) == 32) = false := by rw [beq_eq_false_iff_ne]; omega
            go_wp2_with (go_at_call 60; refine (HHf.out _).mono ?_; rintro e w1 ⟨rfl, hk1⟩
                         have HKr := Lib.hid hk1
                         have HW3 : Hid (Kp none' w w1 ∧ Blk w1 (w.heap.size + 1) [.int .u32 (accP acc).1, .int .i64 (accP acc).2] 88 ∧ Blk w1 w.heap.size [.int .u32 0, .int .i64 0] 88 ∧ Kp none' w w1) := ⟨(HF.out.old hk1).kp, (HF.out.old hk1).pb, (HF.out.old hk1).rb, (HF.out.old hk1).kp⟩
                         have HN3 := Lib.hid (HN.out.kp hk1 (fun x => x))
                         have n1 := HN3.out.cell 1 rfl
                         have n2 := HN3.out.cell 2 rfl
                         clear hk1 n0 n3)
            obtain ⟨acc2, hacc⟩ : ∃ z, z = acc := ⟨_, rfl⟩
            subst hacc
            rename World => W3
            have HAC : Hid (∀ t : Tr, t.best a acc2 = t.best a acc2) := fun _ => rfl
            have HLW := Lib.hid (HL.out.old HKr.out)
            have HRW := Lib.hid (HRr.out.old HKr.out)
            clear n1 n2 h32i
            have GS := Lib.hid (fun W (k : Kp none' W3 W) => calls_same (tSide W b p ((HN3.out.kp k (fun x => x)).cell 1 rfl) (by have := (right_iff.1 hok.1).1; omega) a ha))
            have q4 := HN3.out.cell 4 rfl
            have q5 := HN3.out.cell 5 rfl
            rcases side_two p a with hs | hs
            · rw [hs] at GS
              refine wp_region_kept2 [] [0, 1, 2, 3, 4, 5, 6, 7] 8 (by kernel_rfl) (by kernel_rfl) (fun c a d u w h => by cases d <;> exact h) ?_
              simp only [pick, List.getElem?_cons_succ, List.getElem?_cons_zero, List.drop_succ_cons, List.drop_zero]
              show wpKL _ _ _ _ _ _
              repeat (first
                | (refine wpKL_op (by exact rfl) (by as_aux_lemma => intro W hK; have e0 := hK.cell q4 (fun x => x); go_simp; exact rfl) ?_; simp only [Act.put, List.setIfInBounds_toArray, List.set_cons_succ, List.set_cons_zero])
                | (refine wpKL_off (by exact rfl) ?_; simp only [Act.put, List.setIfInBounds_toArray, List.set_cons_succ, List.set_cons_zero])
                | (refine wpKL_call (by exact rfl) (by as_aux_lemma => intro W; go_simp; exact ⟨rfl, rfl⟩) (by intro W hK; with_reducible first | exact GS.out W hK) ?_; simp only [Act.put, List.setIfInBounds_toArray, List.set_cons_succ, List.set_cons_zero]))
              show ∀ W, _ → wpList _ _ _ _ _ _
              intro W5 hK5
              have HI5 : Hid (FiI w W5 T l a acc2) := ⟨HLW.out.old hK5, HF.out.wf.2.2.2.1, fun b' hb => HF.out.low b' (by simp [Tr.blks, hb]), by rw [← HF.out.eq, Tr.best_node hh, if_pos hs] <;> exact HAC.out l, HW3.out.2.1.kp hK5 (fun x => x), HW3.out.2.2.1.kp hK5 (fun x => x), HW3.out.2.2.2.trans hK5⟩
              have hlen := hk
              simp only [Tr.prs, List.length_cons, List.length_append] at hlen
              clear hK5 q4 q5 GS
              go_wp2_with fail
              go_roundg l.prs.length
              case measure => omega
              case rel => exact ⟨l, acc2, _, rfl, by first | rfl | rw [HX1.out], by first | rfl | rw [HX2.out], Nat.le_refl _, rfl, HI5.out⟩
            · rw [hs] at GS
              have hs0 : ¬ sideN p a = 0 := by omega
              refine wp_region_kept2 [] [0, 1, 2, 3, 4, 5, 6, 7] 8 (by kernel_rfl) (by kernel_rfl) (fun c a d u w h => by cases d <;> exact h) ?_
              simp only [pick, List.getElem?_cons_succ, List.getElem?_cons_zero, List.drop_succ_cons, List.drop_zero]
              show wpKL _ _ _ _ _ _
              repeat (first
                | (refine wpKL_op (by exact rfl) (by as_aux_lemma => intro W hK; have e0 := hK.cell q5 (fun x => x); go_simp; exact rfl) ?_; simp only [Act.put, List.setIfInBounds_toArray, List.set_cons_succ, List.set_cons_zero])
                | (refine wpKL_off (by exact rfl) ?_; simp only [Act.put, List.setIfInBounds_toArray, List.set_cons_succ, List.set_cons_zero])
                | (refine wpKL_call (by exact rfl) (by as_aux_lemma => intro W; go_simp; exact ⟨rfl, rfl⟩) (by intro W hK; with_reducible first | exact GS.out W hK) ?_; simp only [Act.put, List.setIfInBounds_toArray, List.set_cons_succ, List.set_cons_zero]))
              show ∀ W, _ → wpList _ _ _ _ _ _
              intro W5 hK5
              have HI5 : Hid (FiI w W5 T r a acc2) := ⟨HRW.out.old hK5, HF.out.wf.2.2.2.2, fun b' hb => HF.out.low b' (by simp [Tr.blks, hb]), by rw [← HF.out.eq, Tr.best_node hh, if_neg hs0] <;> exact HAC.out r, HW3.out.2.1.kp hK5 (fun x => x), HW3.out.2.2.1.kp hK5 (fun x => x), HW3.out.2.2.2.trans hK5⟩
              have hlen := hk
              simp only [Tr.prs, List.length_cons, List.length_append] at hlen
              clear hK5 q4 q5 GS
              go_wp2_with fail
              go_roundg r.prs.length
              case measure => omega
              case rel => exact ⟨r, acc2, _, rfl, by first | rfl | rw [HX1.out], by first | rfl | rw [HX2.out], Nat.le_refl _, rfl, HI5.out⟩
        | true =>
          have hblt : b < w.heap.size := HF.out.low b (by simp [Tr.blks])
          have HLOW := Lib.hid HF.out.low
          go_wp2_with (go_at_call 60; refine (HHf.out _).mono ?_; rintro e w1 ⟨rfl, hk1⟩
                       have HF1 := Lib.hid (HF.out.old hk1)
                       have HKr := Lib.hid hk1
                       have HN1 := Lib.hid (HN.out.kp hk1 (fun x => x))
                       clear n0 n1 n2 n3
                       have n0 := HN1.out.cell 0 rfl
                       have n1 := HN1.out.cell 1 rfl
                       have n2 := HN1.out.cell 2 rfl
                       have n3 := HN1.out.cell 3 rfl
                       clear hk1)
          have t0 := HF1.out.pb.cell 0 rfl
          have t1 := HF1.out.pb.cell 1 rfl
          have y0 := HF1.out.pb.fz 0
          have y1 := HF1.out.pb.fz 1
          go_region
          have hK3 : Kp (fun b => b = w.heap.size + 1) w1 ((w1.setCell ⟨w.heap.size + 1, 0, none⟩ (.int .u32 p.1)).setCell ⟨w.heap.size + 1, 1, none⟩ (.int .i64 p.2)).drew := (((Kp.refl (fun b => b = w.heap.size + 1) w1).set (p := ⟨w.heap.size + 1, 0, none⟩) (.inl rfl) _).set (p := ⟨w.heap.size + 1, 1, none⟩) (.inl rfl) _).drew
          have hB3 : Blk ((w1.setCell ⟨w.heap.size + 1, 0, none⟩ (.int .u32 p.1)).setCell ⟨w.heap.size + 1, 1, none⟩ (.int .i64 p.2)).drew (w.heap.size + 1) [.int .u32 p.1, .int .i64 p.2] 88 := ((HF1.out.pb.set 0 (.int .u32 p.1)).set 1 (.int .i64 p.2)).drew
          obtain ⟨W3, hW3⟩ : ∃ W, ((w1.setCell ⟨w.heap.size + 1, 0, none⟩ (.int .u32 p.1)).setCell ⟨w.heap.size + 1, 1, none⟩ (.int .i64 p.2)).drew = W := ⟨_, rfl⟩
          rw [hW3] at hK3 hB3 ⊢
          clear hW3 t0 t1 y0 y1
          obtain ⟨acc2, hacc⟩ : ∃ z, z = some (p, x) := ⟨_, rfl⟩
          have HAC2 := Lib.hid hacc
          have hx1 : accX acc2 = x := by rw [hacc]; rfl
          have hx2 : accU acc2 = true := by rw [hacc]; rfl
          have hx3 : accP acc2 = p := by rw [hacc]; rfl
          have HAC : Hid (∀ t : Tr, t.best a acc2 = t.best a (some (p, x))) := fun _ => by rw [hacc]
          have HW3 : Hid (Kp none' w W3 ∧ Blk W3 (w.heap.size + 1) [.int .u32 (accP acc2).1, .int .i64 (accP acc2).2] 88 ∧ Blk W3 w.heap.size [.int .u32 0, .int .i64 0] 88 ∧ Kp none' w W3) := by
            have k := HF1.out.kp.then hK3 (fun b hb e => by omega)
            exact ⟨k, by rw [hx3]; exact hB3, HF1.out.rb.kp hK3 (by omega), k⟩
          have HN3 := Lib.hid (HN1.out.kp hK3 (by omega))
          have hkk := (HKr.out.mono (T := fun b => b = w.heap.size + 1) (fun _ _ x => x.elim)).trans hK3
          have HLW := Lib.hid (HL.out.kp hkk (fun b' hb e => by have := HLOW.out b' (by simp [Tr.blks, hb]); omega))
          have HRW := Lib.hid (HRr.out.kp hkk (fun b' hb e => by have := HLOW.out b' (by simp [Tr.blks, hb]); omega))
          have m1 := HN3.out.cell 1 rfl
          have HX1 := Lib.hid hx1; have HX2 := Lib.hid hx2
          clear hB3 hK3 hkk hacc hx1 hx2 hx3 n0 n1 n2 n3
          by_cases h32 : p.2 = 32
          · have h32i : ((p.2 : Int) == 32) = true := by rw [beq_iff_eq]; omega
            obtain ⟨accE, hE⟩ : ∃ x, x = acc2 := ⟨_, rfl⟩
            subst hE
            have hwf := HF.out.wf
            have HQ : Hid (accE = T.best a none) := by
              show _ = _
              rw [← HF.out.eq, Tr.best_node hh, Tr.kid_nil hwf.2.1 h32, Tr.kid_nil hwf.2.2.1 h32]
              simp only [Tr.best, ite_self]
              exact HAC2.out
            have HE : Hid (Kp none' w W3 ∧ Blk W3 w.heap.size [.int .u32 0, .int .i64 0] 88) := ⟨HW3.out.1, HW3.out.2.2.1⟩
            have p0 := HW3.out.2.1.cell 0 rfl
            have p1 := HW3.out.2.1.cell 1 rfl
            clear hwf h32
            go_wp2_with (refine wp_set_row rfl 88 (.tmp 4) (.tmp 56) rfl HE.out.2 [.int .u32 (accP accE).1, .int .i64 (accP accE).2] rfl rfl (by kernel_rfl) rfl (by simp [Value.oneCell']) ?_
                         intro W2 hB2 _ hK2
                         have HB2 := Lib.hid hB2; have HK2 := Lib.hid (hK2 _ _ HE.out.1 (.inr (Nat.le_refl _))); clear hB2 hK2)
            refine ret_row3 (by rfl) HB2.out _ Tryz.underlying88 rfl (by kernel_rfl) (by rfl) ?_
            refine ⟨?_, HK2.out⟩
            rw [← HR.out, ← HQ.out, HX1.out, HX2.out]
            rfl
          · have h32i : ((p.2 : Int) == 32) = false := by rw [beq_eq_false_iff_ne]; omega
            go_wp2_with fail
            clear m1 h32i
            have GS := Lib.hid (fun W (k : Kp none' W3 W) => calls_same (tSide W b p ((HN3.out.kp k (fun x => x)).cell 1 rfl) (by have := (right_iff.1 hok.1).1; omega) a ha))
            have q4 := HN3.out.cell 4 rfl
            have q5 := HN3.out.cell 5 rfl
            rcases side_two p a with hs | hs
            · rw [hs] at GS
              refine wp_region_kept2 [] [0, 1, 2, 3, 4, 5, 6, 7] 8 (by kernel_rfl) (by kernel_rfl) (fun c a d u w h => by cases d <;> exact h) ?_
              simp only [pick, List.getElem?_cons_succ, List.getElem?_cons_zero, List.drop_succ_cons, List.drop_zero]
              show wpKL _ _ _ _ _ _
              repeat (first
                | (refine wpKL_op (by exact rfl) (by as_aux_lemma => intro W hK; have e0 := hK.cell q4 (fun x => x); go_simp; exact rfl) ?_; simp only [Act.put, List.setIfInBounds_toArray, List.set_cons_succ, List.set_cons_zero])
                | (refine wpKL_off (by exact rfl) ?_; simp only [Act.put, List.setIfInBounds_toArray, List.set_cons_succ, List.set_cons_zero])
                | (refine wpKL_call (by exact rfl) (by as_aux_lemma => intro W; go_simp; exact ⟨rfl, rfl⟩) (by intro W hK; with_reducible first | exact GS.out W hK) ?_; simp only [Act.put, List.setIfInBounds_toArray, List.set_cons_succ, List.set_cons_zero]))
              show ∀ W, _ → wpList _ _ _ _ _ _
              intro W5 hK5
              have HI5 : Hid (FiI w W5 T l a acc2) := ⟨HLW.out.old hK5, HF.out.wf.2.2.2.1, fun b' hb => HF.out.low b' (by simp [Tr.blks, hb]), by rw [← HF.out.eq, Tr.best_node hh, if_pos hs] <;> exact HAC.out l, HW3.out.2.1.kp hK5 (fun x => x), HW3.out.2.2.1.kp hK5 (fun x => x), HW3.out.2.2.2.trans hK5⟩
              have hlen := hk
              simp only [Tr.prs, List.length_cons, List.length_append] at hlen
              clear hK5 q4 q5 GS
              go_wp2_with fail
              go_roundg l.prs.length
              case measure => omega
              case rel => exact ⟨l, acc2, _, rfl, by first | rfl | rw [HX1.out], by first | rfl | rw [HX2.out], Nat.le_refl _, rfl, HI5.out⟩
            · rw [hs] at GS
              have hs0 : ¬ sideN p a = 0 := by omega
              refine wp_region_kept2 [] [0, 1, 2, 3, 4, 5, 6, 7] 8 (by kernel_rfl) (by kernel_rfl) (fun c a d u w h => by cases d <;> exact h) ?_
              simp only [pick, List.getElem?_cons_succ, List.getElem?_cons_zero, List.drop_succ_cons, List.drop_zero]
              show wpKL _ _ _ _ _ _
              repeat (first
                | (refine wpKL_op (by exact rfl) (by as_aux_lemma => intro W hK; have e0 := hK.cell q5 (fun x => x); go_simp; exact rfl) ?_; simp only [Act.put, List.setIfInBounds_toArray, List.set_cons_succ, List.set_cons_zero])
                | (refine wpKL_off (by exact rfl) ?_; simp only [Act.put, List.setIfInBounds_toArray, List.set_cons_succ, List.set_cons_zero])
                | (refine wpKL_call (by exact rfl) (by as_aux_lemma => intro W; go_simp; exact ⟨rfl, rfl⟩) (by intro W hK; with_reducible first | exact GS.out W hK) ?_; simp only [Act.put, List.setIfInBounds_toArray, List.set_cons_succ, List.set_cons_zero]))
              show ∀ W, _ → wpList _ _ _ _ _ _
              intro W5 hK5
              have HI5 : Hid (FiI w W5 T r a acc2) := ⟨HRW.out.old hK5, HF.out.wf.2.2.2.2, fun b' hb => HF.out.low b' (by simp [Tr.blks, hb]), by rw [← HF.out.eq, Tr.best_node hh, if_neg hs0] <;> exact HAC.out r, HW3.out.2.1.kp hK5 (fun x => x), HW3.out.2.2.1.kp hK5 (fun x => x), HW3.out.2.2.2.trans hK5⟩
              have hlen := hk
              simp only [Tr.prs, List.length_cons, List.length_append] at hlen
              clear hK5 q4 q5 GS
              go_wp2_with fail
              go_roundg r.prs.length
              case measure => omega
              case rel => exact ⟨r, acc2, _, rfl, by first | rfl | rw [HX1.out], by first | rfl | rw [HX2.out], Nat.le_refl _, rfl, HI5.out⟩

structure FdI (w wr : World) (T t : Tr) (p : Px) : Prop where
  mem : TrM wr t
  wf : t.WF
  eq : atP t p = atP T p
  pb : Blk wr w.heap.size [.int .u32 p.1, .int .i64 p.2] 88
  kp : Kp none' w wr
theorem FdI.old {w wr w' : World} {T t : Tr} {p : Px} (h : FdI w wr T t p) (k : Kp none' wr w') : FdI w w' T t p :=
  ⟨h.mem.old k, h.wf, h.eq, h.pb.kp k (fun x => x), h.kp.trans k⟩
set_option maxRecDepth 100000 in
set_option maxHeartbeats 8000000 in
theorem tFindP (w : World) (tb : Nat) (T : Tr) (n : Int) (hT : Blk w tb [T.ptr, .int .i64 n] 164) (hM : TrM w T) (hw : T.WF) (p : Px) (hp : okP p) :
    Calls Tryz.prog 122 #[.pointer (some ⟨tb, 0, none⟩), .agg #[.int .u32 p.1, .int .i64 p.2]] w fun e w' => e = .returned (atP T p) ∧ Kp none' w w' := by
  have hk1 := (Kp.refl none' w).alloc (.cells #[.int .u32 p.1, .int .i64 p.2] 88)
  have hb1 : Blk (w.alloc (.cells #[.int .u32 p.1, .int .i64 p.2] 88)) w.heap.size [.int .u32 p.1, .int .i64 p.2] 88 := Blk.new w [.int .u32 p.1, .int .i64 p.2] _
  obtain ⟨W1, hW1⟩ : ∃ W, W = w.alloc (.cells #[.int .u32 p.1, .int .i64 p.2] 88) := ⟨_, rfl⟩
  rw [← hW1] at hk1 hb1
  have hp32 := (right_iff.1 hp.1).1
  have GR := Lib.hid (fun W => aRight p.1 p.2 W hp.2 (by omega))
  have hr : rightB p.1 p.2 = true := hp.1
  rw [hr] at GR
  have HF0 : Hid (FdI w W1 T T p) := ⟨hM.old hk1, hw, rfl, hb1, hk1⟩
  have HT := Lib.hid (hT.kp hk1 (fun x => x))
  have c0 := HT.out.cell 0 rfl
  have p0 := hb1.cell 0 rfl
  have p1 := hb1.cell 1 rfl
  obtain ⟨tp, htp⟩ : ∃ v, T.ptr = v := ⟨_, rfl⟩
  have HTP := Lib.hid htp
  rw [htp] at c0
  obtain ⟨R, hR⟩ : ∃ R, atP T p = R := ⟨_, rfl⟩
  have HR := Lib.hid hR
  rw [hR]
  clear hT hM hw hk1 hb1 htp hR hr
  subst hW1
  go_enter Tryz.func122, Tryz.ntmps122
  go_wp2_with (go_at_call 92; refine (GR.out _).mono ?_; rintro e w1 ⟨rfl, hk1⟩
               have HF := Lib.hid (HF0.out.old hk1)
               have c0 := hk1.cell c0 (fun x => x)
               clear hk1 p0 p1 HT)
  go_loopg [5] T.prs.length (fun k s5 wr => ∃ (t : Tr) (tp : Value), tp = s5 ∧ t.prs.length ≤ k ∧ Hid (t.ptr = tp ∧ FdI w wr T t p))
  case atStart => exact ⟨T, _, rfl, Nat.le_refl _, HTP.out, HF.out⟩
  case round =>
    clear HF c0
    obtain ⟨t, tp, rfl, hk, HI⟩ := hrel
    cases t with
    | nil =>
      obtain ⟨hp', hi⟩ := HI.out
      obtain rfl := hp'
      have HF := Lib.hid hi
      simp only [Tr.ptr]
      clear hi HI
      have hnil : atP T p = .pointer none := by rw [← HF.out.eq]; rfl
      have HN := Lib.hid hnil
      clear hnil
      go_wp2_with fail
      go_region
      go_wp2_with fail
      go_ret
      exact ⟨by rw [← HR.out, HN.out]; rfl, HF.out.kp.drew⟩
    | node b kp u x l r =>
      obtain ⟨hp', hi⟩ := HI.out
      obtain rfl := hp'
      have HF := Lib.hid hi
      obtain ⟨hn, hml, hmr⟩ := hi.mem
      have n0 := hn.cell 0 rfl
      have n1 := hn.cell 1 rfl
      have n4 := hn.cell 4 rfl
      have n5 := hn.cell 5 rfl
      have q0 := hi.pb.cell 0 rfl
      have q1 := hi.pb.cell 1 rfl
      have hok := hi.wf.1
      have hk32 := (right_iff.1 hok.1).1
      have NQ := neqP kp p
      simp only [Tr.ptr]
      have HN := Lib.hid hn; have HL := Lib.hid hml; have HRr := Lib.hid hmr
      clear hi HI hn hml hmr
      by_cases hkp : kp = p
      · have hd : decide (kp = p) = true := decide_eq_true hkp
        simp only [hd] at NQ
        have hat : atP T p = .pointer (some ⟨b, 0, none⟩) := by rw [← HF.out.eq]; unfold atP Tr.at_; rw [if_pos hkp]
        have HA := Lib.hid hat
        clear hat hd hkp
        go_wp2_with fail
        go_region
        go_wp2_with fail
        go_ret
        exact ⟨by rw [← HR.out, HA.out]; rfl, HF.out.kp.drew⟩
      · have hd : decide (kp = p) = false := decide_eq_false hkp
        simp only [hd] at NQ
        have hq2 := hp.2
        have hk2 := hok.2
        go_wp2_with fail
        go_region
        by_cases hb : p.2 ≤ kp.2
        · have hat : atP T p = .pointer none := by rw [← HF.out.eq]; unfold atP Tr.at_; rw [if_neg hkp, if_pos (.inl hb)]
          have HA := Lib.hid hat
          have hbi : decide ((kp.2 : Int) ≥ (p.2 : Int)) = true := by rw [decide_eq_true_eq]; omega
          clear hat hd hkp hbi
          go_wp2_with fail
          go_region
          go_wp2_with fail
          go_ret
          exact ⟨by rw [← HR.out, HA.out]; rfl, HF.out.kp.drew.drew⟩
        · have hbi : decide ((kp.2 : Int) ≥ (p.2 : Int)) = false := by rw [decide_eq_false_iff_not]; omega
          have HC := Lib.hid (fun W => aCovers kp.1 p.1 kp.2 p.2 W hk2 hq2 (by omega) (by omega))
          have HHB := Lib.hid hb; have HHP := Lib.hid hkp
          cases hc : covP kp p with
          | false =>
            have hat : atP T p = .pointer none := by rw [← HF.out.eq]; unfold atP Tr.at_; rw [if_neg hkp, if_pos (.inr hc)]
            have HA := Lib.hid hat
            rw [show covB kp.1 kp.2 p.1 p.2 = false from hc] at HC
            clear hat hd hkp hbi
            go_wp2_with fail
            refine wp_region_kept2 [] [0, 1, 2, 3, 4, 5, 6, 7, 8, 9, 10, 11, 12, 13, 14] 15 (by kernel_rfl) (by kernel_rfl) (fun c a d u w h => by cases d <;> exact h) ?_
            simp only [pick, List.getElem?_cons_succ, List.getElem?_cons_zero, List.drop_succ_cons, List.drop_zero]
            show wpKL _ _ _ _ _ _
            repeat (first
              | (refine wpKL_op (by exact rfl) (by as_aux_lemma => intro W hK; have e0 := hK.cell n0 (fun x => x); have e1 := hK.cell n1 (fun x => x); have e2 := hK.cell q0 (fun x => x); have e3 := hK.cell q1 (fun x => x); go_simp; exact rfl) ?_; simp only [Act.put, List.setIfInBounds_toArray, List.set_cons_succ, List.set_cons_zero])
              | (refine wpKL_off (by exact rfl) ?_; simp only [Act.put, List.setIfInBounds_toArray, List.set_cons_succ, List.set_cons_zero])
              | (refine wpKL_call (by exact rfl) (by as_aux_lemma => intro W; go_simp; exact ⟨rfl, rfl⟩) (by intro W hK; with_reducible first | exact HC.out W) ?_; simp only [Act.put, List.setIfInBounds_toArray, List.set_cons_succ, List.set_cons_zero]))
            show ∀ W, _ → wpList _ _ _ _ _ _
            intro W5 hK5
            have HK5 := Lib.hid ((Kp.refl none' wr).drew.trans hK5)
            clear hK5
            go_wp2_with fail
            go_ret
            exact ⟨by rw [← HR.out, HA.out]; rfl, HF.out.kp.trans HK5.out⟩
          | true =>
            rw [show covB kp.1 kp.2 p.1 p.2 = true from hc] at HC
            have HCC := Lib.hid hc
            clear hd hkp hbi
            go_wp2_with fail
            refine wp_region_kept2 [] [0, 1, 2, 3, 4, 5, 6, 7, 8, 9, 10, 11, 12, 13, 14] 15 (by kernel_rfl) (by kernel_rfl) (fun c a d u w h => by cases d <;> exact h) ?_
            simp only [pick, List.getElem?_cons_succ, List.getElem?_cons_zero, List.drop_succ_cons, List.drop_zero]
            show wpKL _ _ _ _ _ _
            repeat (first
              | (refine wpKL_op (by exact rfl) (by as_aux_lemma => intro W hK; have e0 := hK.cell n0 (fun x => x); have e1 := hK.cell n1 (fun x => x); have e2 := hK.cell q0 (fun x => x); have e3 := hK.cell q1 (fun x => x); go_simp; exact rfl) ?_; simp only [Act.put, List.setIfInBounds_toArray, List.set_cons_succ, List.set_cons_zero])
              | (refine wpKL_off (by exact rfl) ?_; simp only [Act.put, List.setIfInBounds_toArray, List.set_cons_succ, List.set_cons_zero])
              | (refine wpKL_call (by exact rfl) (by as_aux_lemma => intro W; go_simp; exact ⟨rfl, rfl⟩) (by intro W hK; with_reducible first | exact HC.out W) ?_; simp only [Act.put, List.setIfInBounds_toArray, List.set_cons_succ, List.set_cons_zero]))
            show ∀ W, _ → wpList _ _ _ _ _ _
            intro W5 hK5
            replace hK5 := (Kp.refl none' wr).drew.trans hK5
            have HF5 := Lib.hid (HF.out.old hK5)
            have HN5 := Lib.hid (HN.out.kp hK5 (fun x => x))
            have HL5 := Lib.hid (HL.out.old hK5)
            have HR5 := Lib.hid (HRr.out.old hK5)
            clear hK5 n0 n1 n4 n5 q0 q1 HC
            have n1 := HN5.out.cell 1 rfl
            have n4 := HN5.out.cell 4 rfl
            have n5 := HN5.out.cell 5 rfl
            have q0 := HF5.out.pb.cell 0 rfl
            have GS := Lib.hid (fun W (k : Kp none' W5 W) => calls_same (tSide W b kp ((HN5.out.kp k (fun x => x)).cell 1 rfl) (by have := HHB.out; omega) p.1 hq2))
            rcases side_two kp p.1 with hs | hs
            · have hat : atP l p = atP T p := by
                rw [← HF.out.eq]
                conv => rhs; unfold atP Tr.at_
                rw [if_neg HHP.out, if_neg (by rw [HCC.out]; simpa using HHB.out), if_pos hs]; rfl
              have HA := Lib.hid hat
              rw [hs] at GS
              clear hat
              go_wp2_with fail
              refine wp_region_kept2 [] [0, 1, 2, 3, 4, 5, 6, 7] 8 (by kernel_rfl) (by kernel_rfl) (fun c a d u w h => by cases d <;> exact h) ?_
              simp only [pick, List.getElem?_cons_succ, List.getElem?_cons_zero, List.drop_succ_cons, List.drop_zero]
              show wpKL _ _ _ _ _ _
              repeat (first
                | (refine wpKL_op (by exact rfl) (by as_aux_lemma => intro W hK; have e0 := hK.cell q0 (fun x => x); have e1 := hK.cell n4 (fun x => x); go_simp; exact rfl) ?_; simp only [Act.put, List.setIfInBounds_toArray, List.set_cons_succ, List.set_cons_zero])
                | (refine wpKL_off (by exact rfl) ?_; simp only [Act.put, List.setIfInBounds_toArray, List.set_cons_succ, List.set_cons_zero])
                | (refine wpKL_call (by exact rfl) (by as_aux_lemma => intro W; go_simp; exact ⟨rfl, rfl⟩) (by intro W hK; with_reducible first | exact GS.out W hK) ?_; simp only [Act.put, List.setIfInBounds_toArray, List.set_cons_succ, List.set_cons_zero]))
              show ∀ W, _ → wpList _ _ _ _ _ _
              intro W6 hK6
              have HI6 : Hid (FdI w W6 T l p) := ⟨HL5.out.old hK6, HF.out.wf.2.2.2.1, HA.out, HF5.out.pb.kp hK6 (fun x => x), HF5.out.kp.trans hK6⟩
              have hlen := hk
              simp only [Tr.prs, List.length_cons, List.length_append] at hlen
              have n4 := hK6.cell n4 (fun x => x)
              clear hK6 n5 n1 q0 GS
              go_wp2_with fail
              go_roundg l.prs.length
              case measure => omega
              case rel => exact ⟨l, _, rfl, Nat.le_refl _, rfl, HI6.out⟩
            · have hs0 : ¬ sideN kp p.1 = 0 := by omega
              have hat : atP r p = atP T p := by
                rw [← HF.out.eq]
                conv => rhs; unfold atP Tr.at_
                rw [if_neg HHP.out, if_neg (by rw [HCC.out]; simpa using HHB.out), if_neg hs0]; rfl
              have HA := Lib.hid hat
              rw [hs] at GS
              clear hat hs0
              go_wp2_with fail
              refine wp_region_kept2 [] [0, 1, 2, 3, 4, 5, 6, 7] 8 (by kernel_rfl) (by kernel_rfl) (fun c a d u w h => by cases d <;> exact h) ?_
              simp only [pick, List.getElem?_cons_succ, List.getElem?_cons_zero, List.drop_succ_cons, List.drop_zero]
              show wpKL _ _ _ _ _ _
              repeat (first
                | (refine wpKL_op (by exact rfl) (by as_aux_lemma => intro W hK; have e0 := hK.cell q0 (fun x => x); have e1 := hK.cell n5 (fun x => x); go_simp; exact rfl) ?_; simp only [Act.put, List.setIfInBounds_toArray, List.set_cons_succ, List.set_cons_zero])
                | (refine wpKL_off (by exact rfl) ?_; simp only [Act.put, List.setIfInBounds_toArray, List.set_cons_succ, List.set_cons_zero])
                | (refine wpKL_call (by exact rfl) (by as_aux_lemma => intro W; go_simp; exact ⟨rfl, rfl⟩) (by intro W hK; with_reducible first | exact GS.out W hK) ?_; simp only [Act.put, List.setIfInBounds_toArray, List.set_cons_succ, List.set_cons_zero]))
              show ∀ W, _ → wpList _ _ _ _ _ _
              intro W6 hK6
              have HI6 : Hid (FdI w W6 T r p) := ⟨HR5.out.old hK6, HF.out.wf.2.2.2.2, HA.out, HF5.out.pb.kp hK6 (fun x => x), HF5.out.kp.trans hK6⟩
              have hlen := hk
              simp only [Tr.prs, List.length_cons, List.length_append] at hlen
              have n5 := hK6.cell n5 (fun x => x)
              clear hK6 n4 n1 q0 GS
              go_wp2_with fail
              go_roundg r.prs.length
              case measure => omega
              case rel => exact ⟨r, _, rfl, Nat.le_refl _, rfl, HI6.out⟩
end Go.Proofs.YtfckgddodjmbdaaGreatDoor.ti
