/- The trie of layer 32: Find, the longest prefix that has an address. -/
import Derived.Test.YtfckgddodjmbdaaGreatDoorMDeviceNobodyF20
import Derived.Test.YtfckgddodjmbdaaGreatDoorMDeviceNobodyF1
import Derived.Deep.LoopGhost
import Derived.Test.YtfckgddodjmbdaaGreatDoorShelf
import Derived.Sort.WalkA14
namespace Go.Proofs.YtfckgddodjmbdaaGreatDoor
set_option linter.unusedVariables false
set_option linter.unusedSimpArgs false
open Go.RowKit
theorem ret_row3 {P : Program} {f : Func} {s u v : Tmp} {ty : TypeId} (hf : f.results = #[.cell s ty, .tmp u, .tmp v]) {R : Ending → World → Prop} {W : World} {g : Nat} {cs : List Value} {t : TypeId} {T : Array Value} (hb : Blk W g cs t) (d : TypeDesc) (hu : P.underlying ty = some d) (hd : (match d with | .struct _ | .array _ _ => true | _ => false) = true)
    (hi : (P.info? ty).map (·.size) = some cs.length) (h2 : T.getD s undef = .pointer (some ⟨g, 0, none⟩)) (hR : R (.returned (.tuple #[.agg cs.toArray, T.getD u undef, T.getD v undef])) W) : bodyPost P f R Exit.ret { tmps := T, defers := [] } W := by
  refine bodyPost_ret (v := .tuple #[.agg cs.toArray, T.getD u undef, T.getD v undef]) ?_ rfl hR
  have h2' : T[s]?.getD undef = .pointer (some ⟨g, 0, none⟩) := by simpa using h2
  simp [results, hf, h2', asAddr, run_loadVar_row W g t ty cs.toArray (0, 0) d hb.is hu hd (by rw [List.size_toArray]; exact hi)]
def accP (o : Option (Px × Nat)) : Px := match o with | none => (0, 0) | some e => e.1
def accX (o : Option (Px × Nat)) : Nat := match o with | none => 0 | some e => e.2
def accU (o : Option (Px × Nat)) : Bool := match o with | none => false | some _ => true
structure FiI (w wr : World) (T t : Tr) (a : Nat) (acc : Option (Px × Nat)) : Prop where
  mem : TrM wr t
  wf : t.WF
  low : ∀ b ∈ t.blks, b < w.heap.size
  eq : t.best a acc = T.best a none
  pb : Blk wr (w.heap.size + 1) [.int .u32 (accP acc).1, .int .i64 (accP acc).2] 88
  rb : Blk wr w.heap.size [.int .u32 0, .int .i64 0] 88
  kp : Kp none' w wr
theorem FiI.old {w wr w' : World} {T t : Tr} {a : Nat} {acc : Option (Px × Nat)} (h : FiI w wr T t a acc) (k : Kp none' wr w') : FiI w w' T t a acc :=
  ⟨h.mem.old k, h.wf, h.low, h.eq, h.pb.kp k (fun x => x), h.rb.kp k (fun x => x), h.kp.trans k⟩
theorem TrM.lt {w : World} {t : Tr} (h : TrM w t) : ∀ b ∈ t.blks, b < w.heap.size := by
  induction t with
  | nil => intro b hb; cases hb
  | node b p u x l r hl hr =>
    obtain ⟨h1, h2, h3⟩ := h
    intro b' hb
    simp only [Tr.blks, List.mem_cons, List.mem_append] at hb
    rcases hb with rfl | hb | hb
    · exact h1.lt
    · exact hl h2 b' hb
    · exact hr h3 b' hb
theorem Tr.best_node {b : Nat} {p : Px} {u : Bool} {x : Nat} {l r : Tr} {a : Nat} {acc : Option (Px × Nat)} (h : hasP p a = true) : (Tr.node b p u x l r).best a acc = if sideN p a = 0 then l.best a (match u with | true => some (p, x) | false => acc) else r.best a (match u with | true => some (p, x) | false => acc) := by
  conv => lhs; unfold Tr.best
  rw [h]
  rfl
theorem Tr.kid_nil {p : Px} {s : Nat} {t : Tr} (h : ∀ q ∈ t.prs, Under p s q) (hp : p.2 = 32) : t = .nil := by
  cases t with
  | nil => rfl
  | node b q u x l r =>
    have := h q (by simp [Tr.prs])
    have h1 := this.lt
    have h2 := (right_iff.1 (cov_iff.1 this.cov).1).1
    omega
set_option maxRecDepth 100000 in
set_option maxHeartbeats 8000000 in
theorem tFind (w : World) (tb : Nat) (T : Tr) (n : Int) (hT : Blk w tb [T.ptr, .int .i64 n] 269) (hM : TrM w T) (hw : T.WF) (a : Nat) (ha : a < 4294967296) :
    Calls Tryz.prog 97 #[.pointer (some ⟨tb, 0, none⟩), .int .u32 a] w fun e w' => e = .returned (.tuple #[.agg #[.int .u32 (accP (T.best a none)).1, .int .i64 (accP (T.best a none)).2], .int .u64 (accX (T.best a none)), .bool (accU (T.best a none))]) ∧ Kp none' w w' := by
  have hk2 := ((Kp.refl none' w).alloc (.cells #[.int .u32 0, .int .i64 0] 88)).alloc (.cells #[.int .u32 0, .int .i64 0] 88)
  have c0 := (hT.kp hk2 (fun x => x)).cell 0 rfl
  have HI0 : Hid (FiI w ((w.alloc (.cells #[.int .u32 0, .int .i64 0] 88)).alloc (.cells #[.int .u32 0, .int .i64 0] 88)) T T a none) := by
    refine ⟨hM.old hk2, hw, hM.lt, rfl, ?_, (Blk.new w [.int .u32 0, .int .i64 0] _).alloc _, hk2⟩
    have := Blk.new (w.alloc (.cells #[.int .u32 0, .int .i64 0] 88)) [.int .u32 0, .int .i64 0] 88
    rw [World.size_alloc] at this
    exact this
  obtain ⟨tp, htp⟩ : ∃ v, T.ptr = v := ⟨_, rfl⟩
  have HTP := Lib.hid htp
  rw [htp] at c0
  obtain ⟨R, hR⟩ : ∃ R, T.best a none = R := ⟨_, rfl⟩
  have HR := Lib.hid hR
  rw [hR]
  clear hT hM hw hk2 htp hR
  go_enter Tryz.func97, Tryz.ntmps97
  go_wp2
  clear c0
  go_loopg [8, 9, 10] T.prs.length (fun k s8 s9 s10 wr => ∃ (t : Tr) (acc : Option (Px × Nat)) (tp : Value), tp = s10 ∧ s8 = .int .u64 (accX acc) ∧ s9 = .bool (accU acc) ∧ t.prs.length ≤ k ∧ Hid (t.ptr = tp ∧ FiI w wr T t a acc))
  case atStart => exact ⟨T, none, _, rfl, rfl, rfl, Nat.le_refl _, HTP.out, HI0.out⟩
  case round =>
    clear HI0
    obtain ⟨t, acc, tp, rfl, rfl, rfl, hk, HI⟩ := hrel
    cases t with
    | nil =>
      obtain ⟨hp, hi⟩ := HI.out
      obtain rfl := hp
      have HF := Lib.hid hi
      simp only [Tr.ptr]
      have p0 := HF.out.pb.cell 0 rfl
      have p1 := HF.out.pb.cell 1 rfl
      clear hi HI
      go_wp2_with (refine wp_set_row rfl 88 (.tmp 4) (.tmp 56) rfl HF.out.rb [.int .u32 (accP acc).1, .int .i64 (accP acc).2] rfl rfl (by kernel_rfl) rfl (by simp [Value.oneCell']) ?_
                   intro W2 hB2 _ hK2
                   have HB2 := Lib.hid hB2; have HK2 := Lib.hid (hK2 _ _ HF.out.kp (.inr (Nat.le_refl _))); clear hB2 hK2)
      refine ret_row3 (by rfl) HB2.out _ Tryz.underlying88 rfl (by kernel_rfl) (by rfl) ?_
      have he := HF.out.eq
      simp only [Tr.best] at he
      refine ⟨?_, HK2.out⟩
      rw [← HR.out, ← he]
      rfl
    | node b p u x l r =>
      obtain ⟨hp, hi⟩ := HI.out
      obtain rfl := hp
      have HF := Lib.hid hi
      obtain ⟨hn, hml, hmr⟩ := hi.mem
      have n0 := hn.cell 0 rfl
      have n1 := hn.cell 1 rfl
      have n2 := hn.cell 2 rfl
      have n3 := hn.cell 3 rfl
      have n4 := hn.cell 4 rfl
      have n5 := hn.cell 5 rfl
      have hok := hi.wf.1
      have hH := Lib.hid (fun W => aHas p.1 a p.2 W hok.2 ha (by have := (right_iff.1 hok.1).1; omega))
      simp only [Tr.ptr]
      have HN := Lib.hid hn; have HL := Lib.hid hml; have HRr := Lib.hid hmr
      clear hi HI hn hml hmr n4 n5
      cases hh : hasP p a with
      | false =>
        have hHf := fun W => hH.out W
        rw [show hasB p.1 p.2 a = false from hh] at hHf
        have HHf := Lib.hid hHf
        obtain ⟨accE, hE⟩ : ∃ x, x = acc := ⟨_, rfl⟩
        subst hE
        have HQ : Hid (accE = T.best a none) := by
          show _ = _
          rw [← HF.out.eq]
          unfold Tr.best
          rw [hh]
        clear hHf hH
        go_wp2_with (first
          | (go_at_call 60; refine (HHf.out _).mono ?_; rintro e w1 ⟨rfl, hk1⟩
             have HE : Hid (Kp none' w w1 ∧ Blk w1 w.heap.size [.int .u32 0, .int .i64 0] 88) := ⟨(HF.out.old hk1).kp, (HF.out.old hk1).rb⟩
             have p0 := (HF.out.old hk1).pb.cell 0 rfl
             have p1 := (HF.out.old hk1).pb.cell 1 rfl
             clear hk1)
          | (refine wp_set_row rfl 88 (.tmp 4) (.tmp 56) rfl HE.out.2 [.int .u32 (accP accE).1, .int .i64 (accP accE).2] rfl rfl (by kernel_rfl) rfl (by simp [Value.oneCell']) ?_
             intro W2 hB2 _ hK2
             have HB2 := Lib.hid hB2; have HK2 := Lib.hid (hK2 _ _ HE.out.1 (.inr (Nat.le_refl _))); clear hB2 hK2))
        refine ret_row3 (by rfl) HB2.out _ Tryz.underlying88 rfl (by kernel_rfl) (by rfl) ?_
        refine ⟨?_, HK2.out⟩
        rw [← HR.out, ← HQ.out]
        rfl
      | true =>
        have hHf := fun W => hH.out W
        rw [show hasB p.1 p.2 a = true from hh] at hHf
        have HHf := Lib.hid hHf
        clear hHf hH
        cases u with
        | false =>
          by_cases h32 : p.2 = 32
          · have h32i : ((p.2 : Int) == 32) = true := by rw [beq_iff_eq]; omega
            obtain ⟨accE, hE⟩ : ∃ x, x = acc := ⟨_, rfl⟩
            subst hE
            have hwf := HF.out.wf
            have HQ : Hid (accE = T.best a none) := by
              show _ = _
              rw [← HF.out.eq, Tr.best_node hh, Tr.kid_nil hwf.2.1 h32, Tr.kid_nil hwf.2.2.1 h32]
              simp only [Tr.best, ite_self]
            clear hwf h32
            go_wp2_with (first
              | (go_at_call 60; refine (HHf.out _).mono ?_; rintro e w1 ⟨rfl, hk1⟩
                 have HE : Hid (Kp none' w w1 ∧ Blk w1 w.heap.size [.int .u32 0, .int .i64 0] 88) := ⟨(HF.out.old hk1).kp, (HF.out.old hk1).rb⟩
                 have HN1 := Lib.hid (HN.out.kp hk1 (fun x => x))
                 have p0 := (HF.out.old hk1).pb.cell 0 rfl
                 have p1 := (HF.out.old hk1).pb.cell 1 rfl
                 have n1 := HN1.out.cell 1 rfl
                 have n2 := HN1.out.cell 2 rfl
                 clear hk1 n0 n3)
              | (refine wp_set_row rfl 88 (.tmp 4) (.tmp 56) rfl HE.out.2 [.int .u32 (accP accE).1, .int .i64 (accP accE).2] rfl rfl (by kernel_rfl) rfl (by simp [Value.oneCell']) ?_
                 intro W2 hB2 _ hK2
                 have HB2 := Lib.hid hB2; have HK2 := Lib.hid (hK2 _ _ HE.out.1 (.inr (Nat.le_refl _))); clear hB2 hK2))
            refine ret_row3 (by rfl) HB2.out _ Tryz.underlying88 rfl (by kernel_rfl) (by rfl) ?_
            refine ⟨?_, HK2.out⟩
            rw [← HR.out, ← HQ.out]
            rfl
          · have h32i : ((p.2 : Int) == 32) = false := by rw [beq_eq_false_iff_ne]; omega
            go_wp2_with (go_at_call 60; refine (HHf.out _).mono ?_; rintro e w1 ⟨rfl, hk1⟩
                         have HKr := Lib.hid hk1
                         have HW3 : Hid (Kp none' w w1 ∧ Blk w1 (w.heap.size + 1) [.int .u32 (accP acc).1, .int .i64 (accP acc).2] 88 ∧ Blk w1 w.heap.size [.int .u32 0, .int .i64 0] 88 ∧ Kp none' w w1) := ⟨(HF.out.old hk1).kp, (HF.out.old hk1).pb, (HF.out.old hk1).rb, (HF.out.old hk1).kp⟩
                         have HN3 := Lib.hid (HN.out.kp hk1 (fun x => x))
                         have n1 := HN3.out.cell 1 rfl
                         have n2 := HN3.out.cell 2 rfl
                         clear hk1 n0 n3)
            obtain ⟨acc2, hacc⟩ : ∃ z, z = acc := ⟨_, rfl⟩
            subst hacc
            rename World => W3
            have HAC : Hid (∀ t : Tr, t.best a acc2 = t.best a acc2) := fun _ => rfl
            have HLW := Lib.hid (HL.out.old HKr.out)
            have HRW := Lib.hid (HRr.out.old HKr.out)
            clear n1 n2 h32i
            have GS := Lib.hid (fun W (k : Kp none' W3 W) => calls_same (tSide W b p ((HN3.out.kp k (fun x => x)).cell 1 rfl) (by have := (right_iff.1 hok.1).1; omega) a ha))
            have q4 := HN3.out.cell 4 rfl
            have q5 := HN3.out.cell 5 rfl
            rcases side_two p a with hs | hs
            · rw [hs] at GS
              refine wp_region_kept2 [] [0, 1, 2, 3, 4, 5, 6, 7] 8 (by kernel_rfl) (by kernel_rfl) (fun c a d u w h => by cases d <;> exact h) ?_
              simp only [pick, List.getElem?_cons_succ, List.getElem?_cons_zero, List.drop_succ_cons, List.drop_zero]
              show wpKL _ _ _ _ _ _
              repeat (first
                | (refine wpKL_op (by exact rfl) (by as_aux_lemma => intro W hK; have e0 := hK.cell q4 (fun x => x); go_simp; exact rfl) ?_; simp only [Act.put, List.setIfInBounds_toArray, List.set_cons_succ, List.set_cons_zero])
                | (refine wpKL_off (by exact rfl) ?_; simp only [Act.put, List.setIfInBounds_toArray, List.set_cons_succ, List.set_cons_zero])
                | (refine wpKL_call (by exact rfl) (by as_aux_lemma => intro W; go_simp; exact ⟨rfl, rfl⟩) (by intro W hK; with_reducible first | exact GS.out W hK) ?_; simp only [Act.put, List.setIfInBounds_toArray, List.set_cons_succ, List.set_cons_zero]))
              show ∀ W, _ → wpList _ _ _ _ _ _
              intro W5 hK5
              have HI5 : Hid (FiI w W5 T l a acc2) := ⟨HLW.out.old hK5, HF.out.wf.2.2.2.1, fun b' hb => HF.out.low b' (by simp [Tr.blks, hb]), by rw [← HF.out.eq, Tr.best_node hh, if_pos hs] <;> exact HAC.out l, HW3.out.2.1.kp hK5 (fun x => x), HW3.out.2.2.1.kp hK5 (fun x => x), HW3.out.2.2.2.trans hK5⟩
              have hlen := hk
              simp only [Tr.prs, List.length_cons, List.length_append] at hlen
              clear hK5 q4 q5 GS
              go_wp2_with fail
              go_roundg l.prs.length
              case measure => omega
              case rel => exact ⟨l, acc2, _, rfl, by first | rfl | rw [HX1.out], by first | rfl | rw [HX2.out], Nat.le_refl _, rfl, HI5.out⟩
            · rw [hs] at GS
              have hs0 : ¬ sideN p a = 0 := by omega
              refine wp_region_kept2 [] [0, 1, 2, 3, 4, 5, 6, 7] 8 (by kernel_rfl) (by kernel_rfl) (fun c a d u w h => by cases d <;> exact h) ?_
              simp only [pick, List.getElem?_cons_succ, List.getElem?_cons_zero, List.drop_succ_cons, List.drop_zero]
              show wpKL _ _ _ _ _ _
              repeat (first
                | (refine wpKL_op (by exact rfl) (by as_aux_lemma => intro W hK; have e0 := hK.cell q5 (fun x => x); go_simp; exact rfl) ?_; simp only [Act.put, List.setIfInBounds_toArray, List.set_cons_succ, List.set_cons_zero])
                | (refine wpKL_off (by exact rfl) ?_; simp only [Act.put, List.setIfInBounds_toArray, List.set_cons_succ, List.set_cons_zero])
                | (refine wpKL_call (by exact rfl) (by as_aux_lemma => intro W; go_simp; exact ⟨rfl, rfl⟩) (by intro W hK; with_reducible first | exact GS.out W hK) ?_; simp only [Act.put, List.setIfInBounds_toArray, List.set_cons_succ, List.set_cons_zero]))
              show ∀ W, _ → wpList _ _ _ _ _ _
              intro W5 hK5
              have HI5 : Hid (FiI w W5 T r a acc2) := ⟨HRW.out.old hK5, HF.out.wf.2.2.2.2, fun b' hb => HF.out.low b' (by simp [Tr.blks, hb]), by rw [← HF.out.eq, Tr.best_node hh, if_neg hs0] <;> exact HAC.out r, HW3.out.2.1.kp hK5 (fun x => x), HW3.out.2.2.1.kp hK5 (fun x => x), HW3.out.2.2.2.trans hK5⟩
              have hlen := hk
              simp only [Tr.prs, List.length_cons, List.length_append] at hlen
              clear hK5 q4 q5 GS
              go_wp2_with fail
              go_roundg r.prs.length
              case measure => omega
              case rel => exact ⟨r, acc2, _, rfl, by first | rfl | rw [HX1.out], by first | rfl | rw [HX2.out], Nat.le_refl _, rfl, HI5.out⟩
        | true =>
          have hblt : b < w.heap.size := HF.out.low b (by simp [Tr.blks])
          have HLOW := Lib.hid HF.out.low
          go_wp2_with (go_at_call 60; refine (HHf.out _).mono ?_; rintro e w1 ⟨rfl, hk1⟩
                       have HF1 := Lib.hid (HF.out.old hk1)
                       have HKr := Lib.hid hk1
                       have HN1 := Lib.hid (HN.out.kp hk1 (fun x => x))
                       clear n0 n1 n2 n3
                       have n0 := HN1.out.cell 0 rfl
                       have n1 := HN1.out.cell 1 rfl
                       have n2 := HN1.out.cell 2 rfl
                       have n3 := HN1.out.cell 3 rfl
                       clear hk1)
          have t0 := HF1.out.pb.cell 0 rfl
          have t1 := HF1.out.pb.cell 1 rfl
          have y0 := HF1.out.pb.fz 0
          have y1 := HF1.out.pb.fz 1
          go_region
          have hK3 : Kp (fun b => b = w.heap.size + 1) w1 ((w1.setCell ⟨w.heap.size + 1, 0, none⟩ (.int .u32 p.1)).setCell ⟨w.heap.size + 1, 1, none⟩ (.int .i64 p.2)).drew := (((Kp.refl (fun b => b = w.heap.size + 1) w1).set (p := ⟨w.heap.size + 1, 0, none⟩) (.inl rfl) _).set (p := ⟨w.heap.size + 1, 1, none⟩) (.inl rfl) _).drew
          have hB3 : Blk ((w1.setCell ⟨w.heap.size + 1, 0, none⟩ (.int .u32 p.1)).setCell ⟨w.heap.size + 1, 1, none⟩ (.int .i64 p.2)).drew (w.heap.size + 1) [.int .u32 p.1, .int .i64 p.2] 88 := ((HF1.out.pb.set 0 (.int .u32 p.1)).set 1 (.int .i64 p.2)).drew
          obtain ⟨W3, hW3⟩ : ∃ W, ((w1.setCell ⟨w.heap.size + 1, 0, none⟩ (.int .u32 p.1)).setCell ⟨w.heap.size + 1, 1, none⟩ (.int .i64 p.2)).drew = W := ⟨_, rfl⟩
          rw [hW3] at hK3 hB3 ⊢
          clear hW3 t0 t1 y0 y1
          obtain ⟨acc2, hacc⟩ : ∃ z, z = some (p, x) := ⟨_, rfl⟩
          have HAC2 := Lib.hid hacc
          have hx1 : accX acc2 = x := by rw [hacc]; rfl
          have hx2 : accU acc2 = true := by rw [hacc]; rfl
          have hx3 : accP acc2 = p := by rw [hacc]; rfl
          have HAC : Hid (∀ t : Tr, t.best a acc2 = t.best a (some (p, x))) := fun _ => by rw [hacc]
          have HW3 : Hid (Kp none' w W3 ∧ Blk W3 (w.heap.size + 1) [.int .u32 (accP acc2).1, .int .i64 (accP acc2).2] 88 ∧ Blk W3 w.heap.size [.int .u32 0, .int .i64 0] 88 ∧ Kp none' w W3) := by
            have k := HF1.out.kp.then hK3 (fun b hb e => by omega)
            exact ⟨k, by rw [hx3]; exact hB3, HF1.out.rb.kp hK3 (by omega), k⟩
          have HN3 := Lib.hid (HN1.out.kp hK3 (by omega))
          have hkk := (HKr.out.mono (T := fun b => b = w.heap.size + 1) (fun _ _ x => x.elim)).trans hK3
          have HLW := Lib.hid (HL.out.kp hkk (fun b' hb e => by have := HLOW.out b' (by simp [Tr.blks, hb]); omega))
          have HRW := Lib.hid (HRr.out.kp hkk (fun b' hb e => by have := HLOW.out b' (by simp [Tr.blks, hb]); omega))
          have m1 := HN3.out.cell 1 rfl
          have HX1 := Lib.hid hx1; have HX2 := Lib.hid hx2
          clear hB3 hK3 hkk hacc hx1 hx2 hx3 n0 n1 n2 n3
          by_cases h32 : p.2 = 32
          · have h32i : ((p.2 : Int) == 32) = true := by rw [beq_iff_eq]; omega
            obtain ⟨accE, hE⟩ : ∃ x, x = acc2 := ⟨_, rfl⟩
            subst hE
            have hwf := HF.out.wf
            have HQ : Hid (accE = T.best a none) := by
              show _ = _
              rw [← HF.out.eq, Tr.best_node hh, Tr.kid_nil hwf.2.1 h32, Tr.kid_nil hwf.2.2.1 h32]
              simp only [Tr.best, ite_self]
              exact HAC2.out
            have HE : Hid (Kp none' w W3 ∧ Blk W3 w.heap.size [.int .u32 0, .int .i64 0] 88) := ⟨HW3.out.1, HW3.out.2.2.1⟩
            have p0 := HW3.out.2.1.cell 0 rfl
            have p1 := HW3.out.2.1.cell 1 rfl
            clear hwf h32
            go_wp2_with (refine wp_set_row rfl 88 (.tmp 4) (.tmp 56) rfl HE.out.2 [.int .u32 (accP accE).1, .int .i64 (accP accE).2] rfl rfl (by kernel_rfl) rfl (by simp [Value.oneCell']) ?_
                         intro W2 hB2 _ hK2
                         have HB2 := Lib.hid hB2; have HK2 := Lib.hid (hK2 _ _ HE.out.1 (.inr (Nat.le_refl _))); clear hB2 hK2)
            refine ret_row3 (by rfl) HB2.out _ Tryz.underlying88 rfl (by kernel_rfl) (by rfl) ?_
            refine ⟨?_, HK2.out⟩
            rw [← HR.out, ← HQ.out, HX1.out, HX2.out]
            rfl
          · have h32i : ((p.2 : Int) == 32) = false := by rw [beq_eq_false_iff_ne]; omega
            go_wp2_with fail
            clear m1 h32i
            have GS := Lib.hid (fun W (k : Kp none' W3 W) => calls_same (tSide W b p ((HN3.out.kp k (fun x => x)).cell 1 rfl) (by have := (right_iff.1 hok.1).1; omega) a ha))
            have q4 := HN3.out.cell 4 rfl
            have q5 := HN3.out.cell 5 rfl
            rcases side_two p a with hs | hs
            · rw [hs] at GS
              refine wp_region_kept2 [] [0, 1, 2, 3, 4, 5, 6, 7] 8 (by kernel_rfl) (by kernel_rfl) (fun c a d u w h => by cases d <;> exact h) ?_
              simp only [pick, List.getElem?_cons_succ, List.getElem?_cons_zero, List.drop_succ_cons, List.drop_zero]
              show wpKL _ _ _ _ _ _
              repeat (first
                | (refine wpKL_op (by exact rfl) (by as_aux_lemma => intro W hK; have e0 := hK.cell q4 (fun x => x); go_simp; exact rfl) ?_; simp only [Act.put, List.setIfInBounds_toArray, List.set_cons_succ, List.set_cons_zero])
                | (refine wpKL_off (by exact rfl) ?_; simp only [Act.put, List.setIfInBounds_toArray, List.set_cons_succ, List.set_cons_zero])
                | (refine wpKL_call (by exact rfl) (by as_aux_lemma => intro W; go_simp; exact ⟨rfl, rfl⟩) (by intro W hK; with_reducible first | exact GS.out W hK) ?_; simp only [Act.put, List.setIfInBounds_toArray, List.set_cons_succ, List.set_cons_zero]))
              show ∀ W, _ → wpList _ _ _ _ _ _
              intro W5 hK5
              have HI5 : Hid (FiI w W5 T l a acc2) := ⟨HLW.out.old hK5, HF.out.wf.2.2.2.1, fun b' hb => HF.out.low b' (by simp [Tr.blks, hb]), by rw [← HF.out.eq, Tr.best_node hh, if_pos hs] <;> exact HAC.out l, HW3.out.2.1.kp hK5 (fun x => x), HW3.out.2.2.1.kp hK5 (fun x => x), HW3.out.2.2.2.trans hK5⟩
              have hlen := hk
              simp only [Tr.prs, List.length_cons, List.length_append] at hlen
              clear hK5 q4 q5 GS
              go_wp2_with fail
              go_roundg l.prs.length
              case measure => omega
              case rel => exact ⟨l, acc2, _, rfl, by first | rfl | rw [HX1.out], by first | rfl | rw [HX2.out], Nat.le_refl _, rfl, HI5.out⟩
            · rw [hs] at GS
              have hs0 : ¬ sideN p a = 0 := by omega
              refine wp_region_kept2 [] [0, 1, 2, 3, 4, 5, 6, 7] 8 (by kernel_rfl) (by kernel_rfl) (fun c a d u w h => by cases d <;> exact h) ?_
              simp only [pick, List.getElem?_cons_succ, List.getElem?_cons_zero, List.drop_succ_cons, List.drop_zero]
              show wpKL _ _ _ _ _ _
              repeat (first
                | (refine wpKL_op (by exact rfl) (by as_aux_lemma => intro W hK; have e0 := hK.cell q5 (fun x => x); go_simp; exact rfl) ?_; simp only [Act.put, List.setIfInBounds_toArray, List.set_cons_succ, List.set_cons_zero])
                | (refine wpKL_off (by exact rfl) ?_; simp only [Act.put, List.setIfInBounds_toArray, List.set_cons_succ, List.set_cons_zero])
                | (refine wpKL_call (by exact rfl) (by as_aux_lemma => intro W; go_simp; exact ⟨rfl, rfl⟩) (by intro W hK; with_reducible first | exact GS.out W hK) ?_; simp only [Act.put, List.setIfInBounds_toArray, List.set_cons_succ, List.set_cons_zero]))
              show ∀ W, _ → wpList _ _ _ _ _ _
              intro W5 hK5
              have HI5 : Hid (FiI w W5 T r a acc2) := ⟨HRW.out.old hK5, HF.out.wf.2.2.2.2, fun b' hb => HF.out.low b' (by simp [Tr.blks, hb]), by rw [← HF.out.eq, Tr.best_node hh, if_neg hs0] <;> exact HAC.out r, HW3.out.2.1.kp hK5 (fun x => x), HW3.out.2.2.1.kp hK5 (fun x => x), HW3.out.2.2.2.trans hK5⟩
              have hlen := hk
              simp only [Tr.prs, List.length_cons, List.length_append] at hlen
              clear hK5 q4 q5 GS
              go_wp2_with fail
              go_roundg r.prs.length
              case measure => omega
              case rel => exact ⟨r, acc2, _, rfl, by first | rfl | rw [HX1.out], by first | rfl | rw [HX2.out], Nat.le_refl _, rfl, HI5.out⟩

theorem bits_xor_u32_nat (a b : Nat) (ha : a < 4294967296) (hb : b < 4294967296) : bits .xor .u32 (a : Int) (b : Int) = ((a ^^^ b : Nat) : Int) := by
  have hx : a ^^^ b < 2 ^ 32 := Nat.xor_lt_two_pow (by omega) (by omega)
  have h1 : (BitVec.ofInt 32 (a : Int)).toNat = a := by
    rw [BitVec.ofInt_natCast, BitVec.toNat_ofNat]; exact Nat.mod_eq_of_lt (by omega)
  have h2 : (BitVec.ofInt 32 (b : Int)).toNat = b := by
    rw [BitVec.ofInt_natCast, BitVec.toNat_ofNat]; exact Nat.mod_eq_of_lt (by omega)
  show IntKind.u32.wrap ((BitVec.ofInt 32 (a : Int) ^^^ BitVec.ofInt 32 (b : Int)).toNat : Int) = _
  rw [BitVec.toNat_xor, h1, h2, wrap_u32']
  omega
theorem ret_row1 {P : Program} {f : Func} {s : Tmp} {ty : TypeId} (hf : f.results = #[.cell s ty]) {R : Ending → World → Prop} {W : World} {g : Nat} {cs : List Value} {t : TypeId} {T : Array Value} (hb : Blk W g cs t) (d : TypeDesc) (hu : P.underlying ty = some d) (hd : (match d with | .struct _ | .array _ _ => true | _ => false) = true)
    (hi : (P.info? ty).map (·.size) = some cs.length) (h2 : T.getD s undef = .pointer (some ⟨g, 0, none⟩)) (hR : R (.returned (.agg cs.toArray)) W) : bodyPost P f R Exit.ret { tmps := T, defers := [] } W := by
  refine bodyPost_ret (v := .agg cs.toArray) ?_ rfl hR
  have h2' : T[s]?.getD undef = .pointer (some ⟨g, 0, none⟩) := by simpa using h2
  simp [results, hf, h2', asAddr, run_loadVar_row W g t ty cs.toArray (0, 0) d hb.is hu hd (by rw [List.size_toArray]; exact hi)]
set_option maxRecDepth 100000 in
set_option maxHeartbeats 8000000 in
theorem tCommon (w : World) (p q : Px) (hp : okP p) (hq : okP q) :
    Calls Tryz.prog 140 #[.agg #[.int .u32 p.1, .int .i64 p.2], .agg #[.int .u32 q.1, .int .i64 q.2]] w fun e w' => e = .returned (.agg #[.int .u32 (comN p q).1, .int .i64 (comN p q).2]) ∧ Kp none' w w' := by
  obtain ⟨p1, p2⟩ := p
  obtain ⟨q1, q2⟩ := q
  obtain ⟨W0, hW0⟩ : ∃ W, W = ((w.alloc (.cells #[.int .u32 p1, .int .i64 p2] 88)).alloc (.cells #[.int .u32 q1, .int .i64 q2] 88)).alloc (.cells #[.int .u32 0, .int .i64 0] 88) := ⟨_, rfl⟩
  have hk0 : Kp none' w W0 := by rw [hW0]; exact (((Kp.refl _ _).alloc _).alloc _).alloc _
  have b0 : Blk W0 w.heap.size [.int .u32 p1, .int .i64 p2] 88 := by rw [hW0]; exact ((Blk.new w [.int .u32 p1, .int .i64 p2] _).alloc _).alloc _
  have b1 : Blk W0 (w.heap.size + 1) [.int .u32 q1, .int .i64 q2] 88 := by
    rw [hW0]
    have := Blk.new (w.alloc (.cells #[.int .u32 p1, .int .i64 p2] 88)) [.int .u32 q1, .int .i64 q2] 88
    rw [World.size_alloc] at this
    exact this.alloc _
  have HW0 := Lib.hid hW0
  have hx : p1 ^^^ q1 < 4294967296 := Nat.xor_lt_two_pow (n := 32) hp.2 hq.2
  have hxor : bits .xor .u32 (p1 : Int) (q1 : Int) = ((p1 ^^^ q1 : Nat) : Int) := bits_xor_u32_nat p1 q1 hp.2 hq.2
  have HLZ := Lib.hid (fun W => Tryz.bits_LeadingZeros32 ((p1 ^^^ q1 : Nat) : Int) W (by omega) (by omega))
  obtain ⟨X, hX⟩ : ∃ X, p1 ^^^ q1 = X := ⟨_, rfl⟩
  rw [hX] at hxor HLZ
  obtain ⟨n, hn⟩ : ∃ n, comBits (p1, p2) (q1, q2) = n := ⟨_, rfl⟩
  have hle := com_le (p1, p2) (q1, q2)
  have hp32 := (right_iff.1 hp.1).1
  have hL : Lib.bitLen X = Go.Sort.bitsLen X := bitLen_eq X (by omega)
  have hL32 : Go.Sort.bitsLen X ≤ 32 := by rw [Go.Sort.bitsLen_le_iff]; omega
  have hmin : (if (q2 : Int) < if (p2 : Int) < 32 - (Lib.bitLen X : Int) then (p2 : Int) else 32 - (Lib.bitLen X : Int) then (q2 : Int) else if (p2 : Int) < 32 - (Lib.bitLen X : Int) then (p2 : Int) else 32 - (Lib.bitLen X : Int)) = (n : Int) := by
    rw [← hn, hL]
    unfold comBits
    simp only [hX]
    split <;> split <;> omega
  have hnl : n ≤ 32 := by rw [← hn]; simp only at hle hp32; omega
  have hbits := has_bits p1 hp.2 (b := (n : Int)) (by omega) (by omega)
  rw [Int.toNat_natCast] at hbits
  have hres : comN (p1, p2) (q1, q2) = (p1 / 2 ^ (32 - n) * 2 ^ (32 - n), n) := by unfold comN; rw [hn]
  have GM := Lib.hid (fun W => aMask (n : Int) W (by omega))
  rw [hres]
  obtain ⟨M, hM⟩ : ∃ M, maskN (clampN (n : Int)) = M := ⟨_, rfl⟩
  obtain ⟨Z, hZ⟩ : ∃ Z, p1 / 2 ^ (32 - n) * 2 ^ (32 - n) = Z := ⟨_, rfl⟩
  rw [hM, hZ] at hbits
  rw [hM] at GM
  rw [hZ]
  have c0 := b0.cell 0 rfl
  have c1 := b0.cell 1 rfl
  have c2 := b1.cell 0 rfl
  have c3 := b1.cell 1 rfl
  rw [hW0] at c0 c1 c2 c3
  have HMIN := Lib.hid hmin
  clear hW0 hmin hL hn hle hres hM hZ hX hL32
  go_enter Tryz.func140, Tryz.ntmps140
  go_wp2_with fail
  refine wp_region_kept2 [] [0, 1, 2, 3, 4, 5, 6, 7, 8, 9, 10] 11 (by kernel_rfl) (by kernel_rfl) (fun c a d u w h => by cases d <;> exact h) ?_
  simp only [pick, List.getElem?_cons_succ, List.getElem?_cons_zero, List.drop_succ_cons, List.drop_zero]
  show wpKL _ _ _ _ _ _
  repeat (first
    | (refine wpKL_op (by exact rfl) (by as_aux_lemma => intro W hK; have e0 := hK.cell c0 (fun x => x); have e1 := hK.cell c1 (fun x => x); have e2 := hK.cell c2 (fun x => x); have e3 := hK.cell c3 (fun x => x); go_simp; exact rfl) ?_; simp only [Act.put, List.setIfInBounds_toArray, List.set_cons_succ, List.set_cons_zero])
    | (refine wpKL_off (by exact rfl) ?_; simp only [Act.put, List.setIfInBounds_toArray, List.set_cons_succ, List.set_cons_zero])
    | (refine wpKL_call (by exact rfl) (by as_aux_lemma => intro W; go_simp; exact ⟨rfl, rfl⟩) (by intro W hK; with_reducible first | exact calls_same ((HLZ.out W).mono fun e w' h => ⟨h.1, h.2.symm⟩)) ?_; simp only [Act.put, List.setIfInBounds_toArray, List.set_cons_succ, List.set_cons_zero]))
  show ∀ W, _ → wpList _ _ _ _ _ _
  intro W2 hK2
  rw [HMIN.out]
  have hk02 := hk0
  rw [HW0.out] at hk02
  have HK2 := Lib.hid (hk02.trans hK2)
  have d0 := hK2.cell c0 (fun x => x)
  have HB2 : Hid (Blk W2 (w.heap.size + 1 + 1) [.int .u32 0, .int .i64 0] 88) := by
    have := Blk.new ((w.alloc (.cells #[.int .u32 p1, .int .i64 p2] 88)).alloc (.cells #[.int .u32 q1, .int .i64 q2] 88)) [.int .u32 0, .int .i64 0] 88
    rw [World.size_alloc, World.size_alloc] at this
    exact this.kp hK2 (fun x => x)
  clear hK2 c0 c1 c2 c3 hxor hk0 hk02 b0 b1
  go_wp2_with fail
  refine wp_region_kept2 [] [0, 1, 2, 3, 4, 5, 6] 7 (by kernel_rfl) (by kernel_rfl) (fun c a d u w h => by cases d <;> exact h) ?_
  simp only [pick, List.getElem?_cons_succ, List.getElem?_cons_zero, List.drop_succ_cons, List.drop_zero]
  show wpKL _ _ _ _ _ _
  repeat (first
    | (refine wpKL_op (by exact rfl) (by as_aux_lemma => intro W hK; have e0 := hK.cell d0 (fun x => x); go_simp; exact rfl) ?_; simp only [Act.put, List.setIfInBounds_toArray, List.set_cons_succ, List.set_cons_zero])
    | (refine wpKL_off (by exact rfl) ?_; simp only [Act.put, List.setIfInBounds_toArray, List.set_cons_succ, List.set_cons_zero])
    | (refine wpKL_call (by exact rfl) (by as_aux_lemma => intro W; go_simp; exact ⟨rfl, rfl⟩) (by intro W hK; with_reducible first | exact calls_same (GM.out W) | exact calls_same ((GM.out W).mono fun e w2 h => ⟨h.1, h.2.symm⟩)) ?_; simp only [Act.put, List.setIfInBounds_toArray, List.set_cons_succ, List.set_cons_zero]))
  show ∀ W, _ → wpList _ _ _ _ _ _
  intro W5 hK5
  refine wp_set_row rfl 88 (.tmp 4) (.tmp 23) rfl (HB2.out.kp hK5 (fun x => x)) [.int .u32 Z, .int .i64 n] rfl rfl (by kernel_rfl) rfl (by simp [Value.oneCell']) ?_
  intro W6 hB6 _ hK6
  have HB6 := Lib.hid hB6
  have HK6 := Lib.hid (hK6 _ _ (HK2.out.trans hK5) (.inr (by omega)))
  clear hB6 hK6 hK5 d0
  simp only [Act.put]
  go_wp2_with fail
  refine ret_row1 (by rfl) HB6.out _ Tryz.underlying88 rfl (by kernel_rfl) (by rfl) ?_
  exact ⟨rfl, HK6.out⟩
end Go.Proofs.YtfckgddodjmbdaaGreatDoor
