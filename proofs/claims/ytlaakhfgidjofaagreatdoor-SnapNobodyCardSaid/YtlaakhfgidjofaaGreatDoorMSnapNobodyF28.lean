/- Walk of layer 26: whether a state can be one of a configuration's, whose backend is no queues (shaper.falls, shaper.may). -/
import Derived.Test.YtlaakhfgidjofaaGreatDoorMSnapNobodyF26
import Derived.Test.YtlaakhfgidjofaaGreatDoorMSnapNobodyF27
import Derived.Test.YtlaakhfgidjofaaGreatDoorMSnapNobodyF25
import Derived.Laws.CopyOwn
import Derived.Test.YtlaakhfgidjofaaGreatDoorMSnapNobodyF5
import Derived.Deep.MidRow
namespace Go.Proofs.YtlaakhfgidjofaaGreatDoor
set_option linter.unusedVariables false
set_option linter.unusedSimpArgs false
open Go Go.RowKit Go.Shelf
def rkA (l : List Wt) (i : Nat) : Nat := ((l[i]?).map (·.rank)).getD 0
def fallB (l : List Wt) : Bool := (List.range l.length).any fun i => decide (0 < i) && decide (rkA l i < rkA l (i - 1))
theorem rkA_get (l : List Wt) (i : Nat) (h : i < l.length) : rkA l i = l[i].rank := by unfold rkA; rw [List.getElem?_eq_getElem h]; rfl
theorem fallB_yes {l : List Wt} {j : Nat} (h : j < l.length) (h0 : 0 < j) (hr : rkA l j < rkA l (j - 1)) : fallB l = true := by
  unfold fallB
  rw [List.any_eq_true]
  exact ⟨j, List.mem_range.2 h, by simp [h0, hr]⟩
theorem fallB_no {l : List Wt} (h : ∀ i, i < l.length → ¬ (0 < i ∧ rkA l i < rkA l (i - 1))) : fallB l = false := by
  unfold fallB
  rw [List.any_eq_false]
  intro i hi
  have := h i (List.mem_range.1 hi)
  simp only [Bool.and_eq_true, decide_eq_true_eq]
  exact this
set_option maxRecDepth 100000 in
set_option maxHeartbeats 2000000 in
theorem aFalls (l : List Wt) (ok : ∀ x ∈ l, x.ok) (hn : l.length ≤ 100000) (v : Value) (w : World) (h : Sl w v l.length 4 (l.flatMap enWt)) :
    Calls Tryz.prog 90 #[v] w fun e w' => e = .returned (.bool (fallB l)) ∧ Kp none' w w' := by
  obtain ⟨ao, cap, rfl⟩ : ∃ ao cap, v = .slice ao l.length cap := by obtain ⟨ao, cap, rfl, _⟩ := h.is; exact ⟨_, _, rfl⟩
  have HS := Lib.hid h
  clear h
  go_enter Tryz.func90, Tryz.ntmps90
  go_wp2_with fail
  go_loopw [6] (fun i wr => ∃ j : Nat, i = .int .i64 j ∧ j ≤ l.length ∧ Hid ((∀ i, i < j → ¬ (0 < i ∧ rkA l i < rkA l (i - 1))) ∧ Kp none' w wr)) (fun i _ => l.length - (intOf i).toNat)
  case atStart => exact ⟨0, rfl, by omega, fun i hi => by omega, Kp.refl _ _⟩
  case round =>
    obtain ⟨j, rfl, hj, hr⟩ := hrel
    obtain ⟨r1, r2⟩ := hr.out
    by_cases hlt : j < l.length
    · obtain ⟨g, off, cap', e1, hc⟩ := (HS.out.old r2).at enWt_len (by decide) j hlt
      injection e1 with e1 _ e3
      subst e1 e3
      have c0 := hc 0 _ rfl
      simp only [Nat.add_zero] at c0
      have hRk := rkA_get l j hlt
      obtain ⟨n, hn1⟩ : ∃ n, l[j].rank = n := ⟨_, rfl⟩
      have hnu := (ok _ (List.getElem_mem hlt)).1
      rw [hn1] at c0 hRk hnu
      have HNX : Hid (¬ (0 < j ∧ rkA l j < rkA l (j - 1)) → ∀ i, i < j + 1 → ¬ (0 < i ∧ rkA l i < rkA l (i - 1))) := fun h i hi => by
        by_cases e : i = j
        · subst e; exact h
        · exact r1 i (by omega)
      have R2 := Lib.hid r2
      by_cases h0 : j = 0
      · subst h0
        have HN : Hid (∀ i, i < 0 + 1 → ¬ (0 < i ∧ rkA l i < rkA l (i - 1))) := HNX.out (fun h => by omega)
        clear r1 r2 hr hc hn1 HNX hRk
        go_wp2_with fail
        refine wp_region_kept2 [] [0, 1, 2, 3, 4, 5, 6, 7, 8, 9, 10, 11, 12, 13, 14] 15 (by kernel_rfl) (by kernel_rfl) (fun c a d u w h => by cases d <;> exact h) ?_
        simp only [pick, List.getElem?_cons_succ, List.getElem?_cons_zero, List.drop_succ_cons, List.drop_zero]
        show wpKL _ _ _ _ _ _
        repeat (first
          | (refine wpKL_op (by exact rfl) (by as_aux_lemma => intro W hK; skip; go_simp; exact rfl) ?_; simp only [Act.put, List.setIfInBounds_toArray, List.set_cons_succ, List.set_cons_zero])
          | (refine wpKL_off (by exact rfl) ?_; simp only [Act.put, List.setIfInBounds_toArray, List.set_cons_succ, List.set_cons_zero]))
        show ∀ W, _ → wpList _ _ _ _ _ _
        intro W2 hK2
        have HK2 := Lib.hid (R2.out.trans hK2)
        clear hK2
        go_wp2_with fail
        go_roundw
        case rel => exact ⟨1, rfl, by omega, HN.out, HK2.out⟩
        case measure => simp [intOf]; omega
      · obtain ⟨g', off', cap2, e1, hc2⟩ := (HS.out.old r2).at enWt_len (by decide) (j - 1) (by omega)
        injection e1 with e1 _ e3
        injection e1 with e1
        injection e1 with e1 e2 _
        subst e1 e2
        have c1 := hc2 0 _ rfl
        simp only [Nat.add_zero] at c1
        have hRk2 := rkA_get l (j - 1) (by omega)
        obtain ⟨m, hm1⟩ : ∃ m, (l[j - 1]'(by omega)).rank = m := ⟨_, rfl⟩
        rw [hm1] at c1 hRk2
        have hji : (j : Int) - 1 = ((j - 1 : Nat) : Int) := by omega
        have hw : IntKind.i64.wrap ((j : Int) - 1) = ((j - 1 : Nat) : Int) := by rw [IntWalk.i64_in _ (by omega)]; exact hji
        have hj0 : (0 : Int) < j := by omega
        have hjl : ((j - 1 : Nat) : Int) < l.length := by omega
        obtain ⟨j1, hj1⟩ : ∃ j1, j - 1 = j1 := ⟨_, rfl⟩
        rw [hj1] at c1 hw hji hjl
        have HRk : Hid (rkA l j = n ∧ rkA l (j - 1) = m) := ⟨hRk, by rw [hRk2]⟩
        have h0' : 0 < j := by omega
        have hj1l : j1 < l.length := by omega
        clear r1 r2 hr hc hc2 hn1 hRk hRk2 hm1 hj1 hji
        go_upto_region 4 with fail
        refine wp_region_kept2 [] [0, 1, 2, 3, 4, 5, 6, 7, 8, 9, 10, 11, 12, 13, 14] 15 (by kernel_rfl) (by kernel_rfl) (fun c a d u w h => by cases d <;> exact h) ?_
        simp only [pick, List.getElem?_cons_succ, List.getElem?_cons_zero, List.drop_succ_cons, List.drop_zero]
        show wpKL _ _ _ _ _ _
        repeat (first
          | (refine wpKL_op (by exact rfl) (by as_aux_lemma => intro W hK; have e0 := hK.cell c0 (fun x => x); have e1 := hK.cell c1 (fun x => x); go_simp; exact rfl) ?_; simp only [Act.put, List.setIfInBounds_toArray, List.set_cons_succ, List.set_cons_zero])
          | (refine wpKL_off (by exact rfl) ?_; simp only [Act.put, List.setIfInBounds_toArray, List.set_cons_succ, List.set_cons_zero]))
        show ∀ W, _ → wpList _ _ _ _ _ _
        intro W2 hK2
        have HK2 := Lib.hid (R2.out.trans hK2)
        clear hK2 c0 c1
        by_cases hnm : n < m
        · have HF : Hid (fallB l = true) := fallB_yes hlt h0' (by rw [HRk.out.1, HRk.out.2]; exact hnm)
          go_wp2_with fail
          go_ret
          exact ⟨by rw [HF.out]; rfl, HK2.out⟩
        · have HN : Hid (∀ i, i < j + 1 → ¬ (0 < i ∧ rkA l i < rkA l (i - 1))) := HNX.out (fun h => by rw [HRk.out.1, HRk.out.2] at h; omega)
          clear HNX
          go_wp2_with fail
          go_roundw
          case rel => exact ⟨j + 1, by go_num, by omega, HN.out, HK2.out⟩
          case measure => simp [intOf]; omega
    · have e : j = l.length := by omega
      subst e
      have HF : Hid (fallB l = false) := fallB_no r1
      have R2 := Lib.hid r2
      clear r1 r2 hr
      go_wp2_with fail
      go_ret
      exact ⟨by rw [HF.out]; rfl, R2.out⟩
def mayL (c : CfR) (s : StS) : Bool := if c.burst < s.tok ∨ s.tags.length ≠ c.flows.length ∨ fitS c s.qs = false then false else decide (s.bounds.length = 0) && (decide (s.qs.length = 1) && !fallB (s.qs.headD []))
theorem wp_get_rowG {P : Program} {ops : Array Oper} {rest : List Oper} {o : Oper} {a : Act} {w : World} {Q : Exit → Act → World → Prop} (hw : Region.wanted o (yielded ops a.tmps) = true) (ty : TypeId) (x : Operand) (ho : o.op = .load ty x) {g : Nat} {cs : List Value} {t : TypeId} (hb : Blk w g cs t) (d : TypeDesc)
    (hx : a.eval x = .pointer (some ⟨g, 0, none⟩)) (hu : P.underlying ty = some d) (hd : (match d with | .struct _ | .array _ _ => true | _ => false) = true) (hi : (P.info? ty).map (·.size) = some cs.length)
    (h : wpList P ops Q rest (a.put o.dst (.agg cs.toArray)) w) : wpList P ops Q (o :: rest) a w :=
  wpList_step fun K hK => by
    rw [if_pos hw]
    exact wp_load_row ty x ho g hx t cs.toArray (0, 0) d hb.is hu hd (by rw [List.size_toArray]; exact hi) (hK _ _ h)
theorem infoCg : (Tryz.prog.info? 25).map (·.size) = some 11 := by kernel_rfl
set_option maxRecDepth 100000 in
set_option maxHeartbeats 4000000 in
theorem aMay (c : CfR) (hc : c.ok) (hpk : 1 ≤ c.packets ∧ c.packets ≤ 4096) (hfl : c.flows.length ≤ 64) (hbk : c.back ≠ 3) (v : Value) (s : StS) (ok : s.ok) (hn : s.qs.flatten.length ≤ 100000) (hnq : s.qs.length ≤ 100000) (vt vb vq : Value) (vs : List Value) (w : World)
    (hs : Sl w v c.flows.length 5 (c.flows.flatMap enFl)) (hm : StM w s vt vb vq vs) :
    Calls Tryz.prog 39 #[.agg (enC c v).toArray, .agg (stC s.now s.tok s.virt s.ref vt vb vq).toArray] w fun e w' => e = .returned (.bool (mayL c s)) ∧ Kp none' w w' := by
  have hFI := fun W (k : Kp none' w W) => aFits c hc hpk hfl v s ok hn hnq vt vb vq vs W (hs.old k) (hm.old k)
  obtain ⟨fa, fc, rfl⟩ : ∃ fa fc, v = .slice fa c.flows.length fc := by obtain ⟨_, _, fa, fc, rfl, _⟩ := hs; exact ⟨_, _, rfl⟩
  obtain ⟨ta, tc, rfl⟩ : ∃ ta tc, vt = .slice ta s.tags.length tc := by obtain ⟨_, _, ta, tc, rfl, _⟩ := hm.t; exact ⟨_, _, rfl⟩
  obtain ⟨ba, bc, rfl⟩ : ∃ ba bc, vb = .slice ba s.bounds.length bc := by obtain ⟨_, _, ba, bc, rfl, _⟩ := hm.b; exact ⟨_, _, rfl⟩
  obtain ⟨qa, qc, rfl⟩ : ∃ qa qc, vq = .slice qa s.qs.length qc := by obtain ⟨_, _, qa, qc, rfl, _⟩ := hm.q; exact ⟨_, _, rfl⟩
  have hQ := hm.q; have hQS := hm.qs
  have o1 := ok.tok; have o4 := ok.len; have o8 := ok.qs
  have hbu := hc.burst
  unfold M64 at hbu
  unfold u64 at o1
  refine calls_post ?_
  intro PP HP
  unfold mayL at HP
  obtain ⟨fr, hfr⟩ : ∃ fr, fitS c s.qs = fr := ⟨_, rfl⟩
  rw [hfr] at HP hFI
  obtain ⟨now, tok, virt, ref, tags, bounds, qs⟩ := s
  obtain ⟨rk, bk, lv, qu, pk, bt, sh, mt, rt, bu, fl⟩ := c
  simp only [enC] at *
  obtain ⟨cs, hcs⟩ : ∃ cs, stC now tok virt ref (.slice ta tags.length tc) (.slice ba bounds.length bc) (.slice qa qs.length qc) = cs := ⟨_, rfl⟩
  have h1 : cs[1]? = some (.int .u64 tok) := by rw [← hcs]; rfl
  have h35 : cs[35]? = some (.slice ta tags.length tc) := by rw [← hcs]; exact st_35 _ _ _ _ o4 _ _ _
  have h36 : cs[36]? = some (.slice ba bounds.length bc) := by rw [← hcs]; exact st_36 _ _ _ _ o4 _ _ _
  have h37 : cs[37]? = some (.slice qa qs.length qc) := by rw [← hcs]; exact st_37 _ _ _ _ o4 _ _ _
  have hi : (Tryz.prog.info? 30).map (·.size) = some cs.length := by rw [← hcs, stC_len _ _ _ _ o4]; exact infoSt
  rw [hcs] at hFI ⊢
  have HC := Lib.hid ((Blk.new w [.int .i64 rk, .int .i64 bk, .int .i64 lv, .int .i64 qu, .int .i64 pk, .int .u64 bt, .int .i64 sh, .int .u64 mt, .int .u64 rt, .int .u64 bu, .slice fa fl.length fc] 25).alloc (.cells cs.toArray 30))
  have HB : Hid (Blk ((w.alloc (.cells #[.int .i64 rk, .int .i64 bk, .int .i64 lv, .int .i64 qu, .int .i64 pk, .int .u64 bt, .int .i64 sh, .int .u64 mt, .int .u64 rt, .int .u64 bu, .slice fa fl.length fc] 25)).alloc (.cells cs.toArray 30)) (w.heap.size + 1) cs 30) := by
    have := Blk.new (w.alloc (.cells #[.int .i64 rk, .int .i64 bk, .int .i64 lv, .int .i64 qu, .int .i64 pk, .int .u64 bt, .int .i64 sh, .int .u64 mt, .int .u64 rt, .int .u64 bu, .slice fa fl.length fc] 25)) cs 30
    rw [World.size_alloc] at this; exact this
  have HK : Hid (Kp none' w ((w.alloc (.cells #[.int .i64 rk, .int .i64 bk, .int .i64 lv, .int .i64 qu, .int .i64 pk, .int .u64 bt, .int .i64 sh, .int .u64 mt, .int .u64 rt, .int .u64 bu, .slice fa fl.length fc] 25)).alloc (.cells cs.toArray 30))) := ((Kp.refl none' w).alloc _).alloc _
  have HFI := Lib.hid hFI; have HQ := Lib.hid hQ; have HQS := Lib.hid hQS; have HI := Lib.hid hi
  have H1 := Lib.hid h1; have H35 := Lib.hid h35; have H36 := Lib.hid h36; have H37 := Lib.hid h37
  clear hFI hQ hQS hcs hs hm ok hc h1 h35 h36 h37 hi hfr
  go_enter Tryz.func39, Tryz.ntmps39
  go_upto_region 1 with fail
  generalize (w.alloc (.cells #[.int .i64 rk, .int .i64 bk, .int .i64 lv, .int .i64 qu, .int .i64 pk, .int .u64 bt, .int .i64 sh, .int .u64 mt, .int .u64 rt, .int .u64 bu, .slice fa fl.length fc] 25)).alloc (.cells cs.toArray 30) = w0 at *
  have c1 := HC.out.cell 1 rfl; have c9 := HC.out.cell 9 rfl; have c10 := HC.out.cell 10 rfl
  have d1 := HB.out.cell 1 H1.out; have d35 := HB.out.cell 35 H35.out; have d36 := HB.out.cell 36 H36.out; have d37 := HB.out.cell 37 H37.out
  by_cases z1 : bu < tok
  · rw [if_pos (.inl z1)] at HP
    go_wp2_with fail
    exact HP.out _ _ ⟨rfl, HK.out⟩
  · by_cases z2 : tags.length = fl.length
    · cases fr with
      | false =>
        rw [if_pos (.inr (.inr rfl))] at HP
        go_wp2_with (first
          | (refine wp_get_rowG (by exact rfl) 30 (.tmp 3) rfl HB.out _ rfl Tryz.underlying30 rfl HI.out ?_)
          | (refine wp_get_rowG (by exact rfl) 25 (.tmp 2) rfl HC.out _ rfl Tryz.underlying25 rfl infoCg ?_))
        refine (HFI.out w0 HK.out).mono ?_
        rintro e w1 ⟨rfl, k1⟩
        go_wp2_with fail
        exact HP.out _ _ ⟨rfl, HK.out.trans k1⟩
      | true =>
        rw [if_neg (by rintro (h | h | h); exact z1 h; exact h z2; cases h)] at HP
        go_wp2_with (first
          | (refine wp_get_rowG (by exact rfl) 30 (.tmp 3) rfl HB.out _ rfl Tryz.underlying30 rfl HI.out ?_)
          | (refine wp_get_rowG (by exact rfl) 25 (.tmp 2) rfl HC.out _ rfl Tryz.underlying25 rfl infoCg ?_))
        refine (HFI.out w0 HK.out).mono ?_
        rintro e w1 ⟨rfl, k1⟩
        have g1 := k1.cell c1 (fun x => x)
        have g36 := k1.cell d36 (fun x => x); have g37 := k1.cell d37 (fun x => x)
        have HK1 := Lib.hid (HK.out.trans k1)
        have hbk' : (bk == 3) = false := by rw [beq_eq_false_iff_ne]; exact hbk
        clear k1 c1 c9 c10 d1 d35 d36 d37 z1 z2 HFI
        by_cases y1 : bounds.length = 0
        · by_cases y2 : qs.length = 1
          · obtain ⟨Q, rfl⟩ : ∃ Q, qs = [Q] := by
              match qs, y2 with
              | [Q], _ => exact ⟨Q, rfl⟩
            obtain ⟨v, hv, hsv⟩ := HQS.out.at 0 (by simp)
            obtain ⟨ao, cap', e1, hcc⟩ := (HQ.out.old HK1.out).is
            injection e1 with e1 _ e3
            subst e1 e3
            obtain ⟨g, off, rfl, c0⟩ := hcc 0 v hv
            simp only [Nat.add_zero] at c0
            have hsv : Sl w v Q.length 4 (Q.flatMap enWt) := hsv
            have HFA := Lib.hid (aFalls Q (o8 Q (by simp)) (by simpa using hn) v w1 (hsv.old HK1.out))
            obtain ⟨sa, sc, rfl⟩ : ∃ sa sc, v = .slice sa Q.length sc := by obtain ⟨_, _, sa, sc, rfl, _⟩ := hsv; exact ⟨_, _, rfl⟩
            have HPF : Hid (∀ w', Kp none' w w' → PP (.returned (.bool (!fallB Q))) w') := fun w' k => HP.out _ _ ⟨by simp [y1], k⟩
            obtain ⟨fb, hfb⟩ : ∃ fb, fallB Q = fb := ⟨_, rfl⟩
            rw [hfb] at HFA HPF
            clear hsv hcc hv HP hfb
            go_wp2_with fail
            refine (HFA.out).mono ?_
            rintro e w2 ⟨rfl, k2⟩
            go_wp2_with fail
            exact HPF.out _ (HK1.out.trans k2)
          · have hP2 : ∀ w', Kp none' w w' → PP (.returned (.bool false)) w' := fun w' k => HP.out _ _ ⟨by simp [y1, y2], k⟩
            have HPF := Lib.hid hP2
            clear HP hP2
            go_wp2_with fail
            exact HPF.out _ HK1.out
        · have hP2 : ∀ w', Kp none' w w' → PP (.returned (.bool false)) w' := fun w' k => HP.out _ _ ⟨by simp [y1], k⟩
          have HPF := Lib.hid hP2
          clear HP hP2
          go_wp2_with fail
          exact HPF.out _ HK1.out
    · rw [if_pos (.inr (.inl z2))] at HP
      go_wp2_with fail
      exact HP.out _ _ ⟨rfl, HK.out⟩

theorem own_copied {w : World} {base : Nat} {e : TypeId} {n g cap : Nat} {xs cs : List Value} (h : w.ownsRow base e 1 (.slice (some ⟨g, 0, none⟩) n cap) n xs) (hc : cs.length = n) :
    ∃ cur, w.heap[g]? = some (.cells cur e (0, 0)) ∧ n ≤ cur.size ∧ (w.setRow g (cur.toList.take 0 ++ (cs ++ cur.toList.drop (0 + cs.length))).toArray).ownsRow base e 1 (.slice (some ⟨g, 0, none⟩) n cap) n cs := by
  rcases h.2 with ⟨h, _⟩ | ⟨g', cap', cur, hv, hb, hh, h1, h2, h3, h4⟩
  · cases h
  · cases hv
    refine ⟨cur, hh, by omega, by omega, .inr ⟨g, cap, _, rfl, hb, setRow_heap w g _ _ e _ hh, h1, h2, ?_, ?_⟩⟩
    · simp; omega
    · simp only [List.take_zero, List.nil_append, Nat.mul_one]
      rw [List.take_append_of_le_length (by omega), List.take_of_length_le (by omega)]
theorem own_setNe2 {w : World} {base : Nat} {e : TypeId} {size : Nat} {v : Value} {n : Nat} {xs : List Value} (h : w.ownsRow base e size v n xs) {g : Nat} (hne : ∀ b, v.ownBlock = some b → b ≠ g) (cs : Array Value) : (w.setRow g cs).ownsRow base e size v n xs :=
  own_kp (S := fun b => b = g) h (kpSetRow (Kp.refl (fun b => b = g) w) (.inl rfl) cs) (fun b hb e => hne b hb e)
set_option maxRecDepth 100000 in
set_option maxHeartbeats 2000000 in
theorem kLay {w : World} {F : Nat → Prop} {rb : Nat} {r : Rk} (h : RMem w F rb r) (virt : Nat) (hv : virt < 18446744073709551616) (tags : List Nat) (htl : tags.length = r.fl.length) (htu : ∀ t ∈ tags, t < 18446744073709551616) (v : Value) (hs : Sl w v tags.length 1 (n8s tags)) (hnf : ∀ z, v.ownBlock = some z → ¬ F z) :
    Calls Tryz.prog 40 #[.pointer (some ⟨rb, 0, none⟩), .int .u64 virt, v] w fun e w' => e = .returned (.int .i64 0) ∧ RMem w' F rb ⟨r.kind, r.fl, tags, virt⟩ ∧ Kp F w w' := by
  obtain ⟨v1, v2, rfl, hb, hf, ht, ok⟩ := h
  have hfew := ok.few
  have hlen := ok.len
  rw [hlen, ← htl] at ht
  obtain ⟨g, cap, rfl, hg0⟩ := own_shape1 ht (by omega)
  clear hg0
  obtain ⟨fa, fc, rfl⟩ := own_shape hf
  obtain ⟨ao, c, rfl, hc⟩ := hs.is
  obtain ⟨b, off, rfl, hb0⟩ := hc 0 _ (n8s_get tags 0 (by omega))
  clear hb0
  have hne1 : rb ≠ g := fun e => own_ne_blk ht hb (by decide) (by rw [e]; rfl)
  have hne2 : (Value.slice fa r.fl.length fc).ownBlock ≠ some rb := own_ne_blk hf hb (by decide)
  have hne3 : ∀ z, (Value.slice fa r.fl.length fc).ownBlock = some z → z ≠ g := fun z hz e => own_ne_own hf ht (by decide) z hz (by rw [e]; rfl)
  have hOK : Rk.Ok ⟨r.kind, r.fl, tags, virt⟩ := ⟨ok.kind, htl, ok.few, ok.fok, htu, hv⟩
  have ht1 := own_setNe ht (a := ⟨rb, 3, none⟩) (fun b hb e => by have hb : some g = some b := hb; exact hne1 (Option.some.inj (hb.trans (congrArg some e))).symm) (.int .u64 virt)
  have hf1 := own_setNe hf (a := ⟨rb, 3, none⟩) (fun b hb e => hne2 (hb.trans (congrArg some e))) (.int .u64 virt)
  have hb1 := hb.set 3 (.int .u64 virt)
  have hs1 : ∀ j v, (n8s tags)[j]? = some v → (w.setCell ⟨rb, 3, none⟩ (.int .u64 virt)).cell? ((⟨b, off, none⟩ : Addr).add j) = some v := fun j v hv => by
    obtain ⟨b', off', e1, h1⟩ := hc j v hv
    injection e1 with e1
    injection e1 with e1 e2
    subst e1 e2
    rw [add_plain]
    exact (kp_at w rb 3 (.int .u64 virt)).cell h1 (fun e => hnf b rfl (.inl e))
  have c0 := hb.cell 0 rfl; have c1 := hb.cell 1 rfl; have c2 := hb.cell 2 rfl; have c3 := hb.cell 3 rfl
  have f0 := fun j => hb.fz j
  obtain ⟨cur, hcur, hcs, hown⟩ := own_copied (cs := n8s tags) ht1 (n8s_len tags)
  have hrun := run_copy_row (P := Tryz.prog) (w.setCell ⟨rb, 3, none⟩ (.int .u64 virt)) 27 27 3 22 g 0 tags.length cap ⟨b, off, none⟩ tags.length c _ _ (n8s tags) Tryz.underlying27 infoU8 hcur (by rw [n8s_len]; simp) hs1 (by rw [n8s_len]; omega) (n8s_one _)
  rw [List.append_assoc, n8s_len] at hrun
  rw [n8s_len] at hown
  have HOWN := Lib.hid hown
  have HF1 := Lib.hid (own_setNe2 hf1 hne3 (cur.toList.take 0 ++ (n8s tags ++ cur.toList.drop (0 + tags.length))).toArray)
  have HB1 := Lib.hid (blkSetRowNe hb1 hne1 (cur.toList.take 0 ++ (n8s tags ++ cur.toList.drop (0 + tags.length))).toArray)
  have HK1 : Hid (Kp (fun b => b = rb ∨ (Value.slice fa r.fl.length fc).ownBlock = some b ∨ (Value.slice (some ⟨g, 0, none⟩) tags.length cap).ownBlock = some b) w _) := kpSetRow (((kp_at w rb 3 (.int .u64 virt))).mono (fun i hi e => .inl e)) (.inl (.inr (.inr rfl))) (cur.toList.take 0 ++ (n8s tags ++ cur.toList.drop (0 + tags.length))).toArray
  have e1 : ((tags.length : Int) == (r.fl.length : Int)) = true := by rw [beq_iff_eq]; omega
  have e2 : ((tags.length : Int) != (r.fl.length : Int)) = false := by rw [bne_eq_false_iff_eq]; omega
  have HOKH := Lib.hid hOK
  have HTL := Lib.hid htl; have HLN := Lib.hid hlen
  clear htl hlen
  clear hown hf1 hb1 ht1 hs1 hs hcur hcs hOK ok hnf
  refine calls_post ?_
  intro PP HP
  generalize hW : (cur.toList.take 0 ++ (n8s tags ++ cur.toList.drop (0 + tags.length))).toArray = CR at *
  go_enter Tryz.func40, Tryz.ntmps40
  go_wp2_with fail
  exact HP.out _ _ ⟨rfl, ⟨_, _, by rw [HTL.out], HB1.out, HF1.out, HOWN.out, HOKH.out⟩, HK1.out⟩
set_option maxRecDepth 100000 in
theorem kClone8 (l : List Nat) (hl : l.length ≤ 64) (h0 : 0 < l.length) (v : Value) (w : World) (h : Sl w v l.length 1 (n8s l)) : Calls Tryz.prog 120 #[v] w fun e w' => ∃ v', e = .returned v' ∧ w'.ownsRow w.heap.size 22 1 v' l.length (n8s l) ∧ Kp none' w w' := by
  obtain ⟨ao, cap, rfl, hc⟩ := h.is
  obtain ⟨b, off, rfl, hb0⟩ := hc 0 _ (n8s_get l 0 h0)
  clear hb0
  have HS := Lib.hid h
  have HS2 := Lib.hid (h.old ((Kp.refl none' w).alloc (.cells #[] 22)))
  have HON := Lib.hid (List.all_eq_true.2 (n8s_one l))
  have hnil : ∀ W : World, (binOp .eql 27 (.slice (some ⟨b, off, none⟩) l.length cap) (.slice none 0 0)).run Tryz.prog W = .ok (.bool false) W := fun W => by kernel_rfl
  clear h hc
  go_enter Tryz.func120, Tryz.ntmps120
  go_wp2_with (first
    | (refine wp_appSl tU64s (.tmp 5) (.tmp 6) rfl rfl w.heap.size (own_zero w 22 1) rfl rfl HS2.out HON.out (by omega) (by omega) (by simp) ?_; intro v8 w8 hown8 hgrow8
       have hk8 := ((Kp.refl none' w).alloc (.cells #[] 22)).grown hgrow8 (fun b hb => .inr (by cases hb; exact Nat.le_refl _))
       obtain ⟨ao8, cap8, rfl⟩ := own_shape hown8
       have HK8 := Lib.hid hk8
       have HO8 := Lib.hid hown8
       clear hown8 hgrow8 hk8))
  go_ret
  exact ⟨_, rfl, by have := HO8.out; simpa using this, HK8.out⟩
theorem kTags {w : World} {F : Nat → Prop} {rb : Nat} {r : Rk} (h : RMem w F rb r) : Calls Tryz.prog 78 #[.pointer (some ⟨rb, 0, none⟩)] w fun e w' => ∃ v, e = .returned v ∧ w'.ownsRow w.heap.size 22 1 v r.tags.length (n8s r.tags) ∧ Kp none' w w' := by
  obtain ⟨v1, v2, rfl, hb, hf, ht, ok⟩ := h
  have hfew := ok.few
  have hlen := ok.len
  have HC := Lib.hid (kClone8 r.tags (by omega) (by omega) v2 w (own_sl ht))
  have c2 := hb.cell 2 rfl
  clear hb hf ht ok hfew hlen
  go_enter Tryz.func78, Tryz.ntmps78
  go_wp2_with fail
  refine (HC.out).mono ?_
  rintro e w' ⟨v, rfl, ho, k⟩
  go_wp2_with fail
  go_ret
  exact ⟨_, rfl, ho, k⟩
theorem kVirt {w : World} {F : Nat → Prop} {rb : Nat} {r : Rk} (h : RMem w F rb r) : Calls Tryz.prog 77 #[.pointer (some ⟨rb, 0, none⟩)] w fun e w' => e = .returned (.int .u64 r.virt) ∧ Kp none' w w' := by
  obtain ⟨v1, v2, rfl, hb, hf, ht, ok⟩ := h
  have c3 := hb.cell 3 rfl
  clear hb hf ht ok
  go_enter Tryz.func77, Tryz.ntmps77
  go_wp2
  go_ret
  exact ⟨rfl, Kp.refl _ _⟩
end Go.Proofs.YtlaakhfgidjofaaGreatDoor

namespace Go.Proofs.YtlaakhfgidjofaaGreatDoor
set_option linter.unusedVariables false
set_option linter.unusedSimpArgs false
open Go Go.RowKit
variable {P : Program} {ops : Array Oper} {Q : Exit → Act → World → Prop} {md : Region.Mode}
theorem EverK.later {w0 w1 : World} {o : Oper} {v : Value} {a : Act} (hy : EverK P ops w0 o v a) (hk : Kp none' w0 w1) : EverK P ops w1 o v a := by
  rcases hy with ⟨hw, hv⟩ | h
  · exact .inl ⟨hw, fun w k => hv w (hk.trans k)⟩
  · exact .inr h
theorem wpKept.later {w0 w1 : World} {C C' : Act → Prop} (hk : Kp none' w0 w1) (hC : ∀ a, C a → C' a) : ∀ (R : List Nat) (a : Act), wpKept P ops w0 C R a → wpKept P ops w1 C' R a
  | [], a, h => hC a h
  | _ :: R, _, ⟨o, v, h0, h1, h2⟩ => ⟨o, v, h0, h1.later hk, wpKept.later hk hC R _ h2⟩
theorem wpKept.put {w0 : World} {C : Act → Prop} {s : Nat} {os : Oper} (hos : ops[s]? = some os) (hsel : ∀ (j : Nat) (o : Oper) cs b, ops[j]? = some o → o.op ≠ .select cs b) (v : Value) : ∀ (R : List Nat) (a : Act),
    (∀ p ∈ R, ∀ op, ops[p]? = some op → op.apart ops os = true) → wpKept P ops w0 (fun a' => C (a'.put os.dst v)) R a → wpKept P ops w0 C R (a.put os.dst v)
  | [], _, _, h => h
  | p :: R, a, hap, ⟨op, vp, h1, h2, h3⟩ => by
    obtain ⟨a1, a2, a3⟩ := Oper.apart_spec (hap p List.mem_cons_self op h1)
    have hsp := fun cs b => hsel p op cs b h1
    refine ⟨op, vp, h1, h2.alike (execOp_put op hsp a os.dst v a3) (wanted_put op a os.dst v a3), ?_⟩
    have := wpKept.put hos hsel v R _ (fun q hq => hap q (List.mem_cons_of_mem _ hq)) h3
    rw [Act.put_comm a vp v a2] at this
    exact this
end Go.Proofs.YtlaakhfgidjofaaGreatDoor
