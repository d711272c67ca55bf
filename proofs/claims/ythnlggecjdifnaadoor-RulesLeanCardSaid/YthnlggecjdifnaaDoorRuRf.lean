/- The document's rules: which hold, which one is the first. -/
import Derived.Test.YthnlggecjdifnaaDoorRuFi
import Derived.Test.YthnlggecjdifnaaDoorAddrZ
namespace Go.Proofs.YthnlggecjdifnaaDoor
set_option linter.unusedVariables false
set_option linter.unusedSimpArgs false
open Go.RowKit

set_option maxRecDepth 100000 in
set_option maxHeartbeats 8000000 in
theorem rHolds (a : RuN) (h : HdR) (ha : a.Ok) (hh : h.Ok) (w : World) :
    Calls Tryd.prog 28 #[.agg #[.int .u32 a.s.1, .int .i64 a.s.2, .int .u32 a.d.1, .int .i64 a.d.2, .int .u16 a.lo, .int .u16 a.hi, .int .u32 a.fl], .agg #[.int .u8 h.ds, .int .u16 h.id, .int .u8 h.ttl, .int .u32 h.s, .int .u32 h.d, .int .u16 h.sp, .int .u16 h.p]] w fun e w' => e = .returned (.bool (holdsR a h.n)) ∧ Kp none' w w' := by
  have HS := Lib.hid (fun W => rHas a.s.1 h.s a.s.2 W ha.s.1 hh.s ha.s.2)
  have HD := Lib.hid (fun W => rHas a.d.1 h.d a.d.2 W ha.d.1 hh.d ha.d.2)
  have hB2 := Blk.new (w.alloc (.cells (enR7 a).toArray 48)) (enHd h) 26
  rw [World.size_alloc] at hB2
  have HB1 := Lib.hid ((Blk.new w (enR7 a) 48).alloc (.cells (enHd h).toArray 26)); have HB2 := Lib.hid hB2
  have HK0 := Lib.hid (((Kp.refl none' w).alloc (.cells (enR7 a).toArray 48)).alloc (.cells (enHd h).toArray 26))
  obtain ⟨R, hR⟩ : ∃ R, holdsR a h.n = R := ⟨_, rfl⟩
  rw [hR]
  have hR' : (hasB a.s.1 a.s.2 h.s && hasB a.d.1 a.d.2 h.d && (decide (a.lo ≤ h.p) && decide (h.p ≤ a.hi))) = R := hR
  have HR := Lib.hid hR'
  clear hB2 ha hh hR hR'
  cases hs : hasB a.s.1 a.s.2 h.s with
  | false =>
    rw [hs] at HS
    have HE : Hid (R = false) := by show _ = _; rw [← HR.out, hs]; rfl
    clear hs HD
    go_enter Tryd.func28, Tryd.ntmps28
    go_wp2_with fail
    refine (HS.out _).mono ?_
    rintro e w1 ⟨rfl, hk1⟩
    have HK1 := Lib.hid (HK0.out.trans hk1)
    clear hk1
    go_wp2_with fail
    go_ret
    exact ⟨by rw [HE.out]; rfl, HK1.out⟩
  | true =>
    rw [hs] at HS
    cases hd : hasB a.d.1 a.d.2 h.d with
    | false =>
      rw [hd] at HD
      have HE : Hid (R = false) := by show _ = _; rw [← HR.out, hs, hd]; rfl
      clear hd hs
      go_enter Tryd.func28, Tryd.ntmps28
      go_wp2_with fail
      refine (HS.out _).mono ?_
      rintro e w1 ⟨rfl, hk1⟩
      have HK1 := Lib.hid (HK0.out.trans hk1)
      have a2 := (HB1.out.kp hk1 (fun x => x)).cell 2 rfl
      have a3 := (HB1.out.kp hk1 (fun x => x)).cell 3 rfl
      have b4 := (HB2.out.kp hk1 (fun x => x)).cell 4 rfl
      clear hk1
      go_wp2_with fail
      refine (HD.out _).mono ?_
      rintro e w2 ⟨rfl, hk2⟩
      have HK2 := Lib.hid (HK1.out.trans hk2)
      clear hk2
      go_wp2_with fail
      go_ret
      exact ⟨by rw [HE.out]; rfl, HK2.out⟩
    | true =>
      rw [hd] at HD
      have HE : Hid (R = (decide (a.lo ≤ h.p) && decide (h.p ≤ a.hi))) := by show _ = _; rw [← HR.out, hs, hd]; rfl
      clear hd hs
      go_enter Tryd.func28, Tryd.ntmps28
      go_wp2_with fail
      refine (HS.out _).mono ?_
      rintro e w1 ⟨rfl, hk1⟩
      have HK1 := Lib.hid (HK0.out.trans hk1)
      have HB3 := Lib.hid (HB1.out.kp hk1 (fun x => x)); have HB4 := Lib.hid (HB2.out.kp hk1 (fun x => x))
      have a2 := HB3.out.cell 2 rfl
      have a3 := HB3.out.cell 3 rfl
      have b4 := HB4.out.cell 4 rfl
      clear hk1
      go_wp2_with fail
      refine (HD.out _).mono ?_
      rintro e w2 ⟨rfl, hk2⟩
      have HK2 := Lib.hid (HK1.out.trans hk2)
      have a4 := (HB3.out.kp hk2 (fun x => x)).cell 4 rfl
      have a5 := (HB3.out.kp hk2 (fun x => x)).cell 5 rfl
      have b6 := (HB4.out.kp hk2 (fun x => x)).cell 6 rfl
      clear hk2 a2 a3 b4
      by_cases h1 : a.lo ≤ h.p
      · by_cases h2 : h.p ≤ a.hi
        · go_wp2_with fail
          go_ret
          exact ⟨by rw [HE.out, decide_eq_true h1, decide_eq_true h2]; rfl, HK2.out⟩
        · go_wp2_with fail
          go_ret
          exact ⟨by rw [HE.out, decide_eq_true h1, decide_eq_false h2]; rfl, HK2.out⟩
      · go_wp2_with fail
        go_ret
        exact ⟨by rw [HE.out, decide_eq_false h1]; rfl, HK2.out⟩
set_option maxRecDepth 100000 in
set_option maxHeartbeats 8000000 in
theorem rFind34 (l : List RuN) (hok : ∀ r ∈ l, r.Ok) (h : HdR) (hh : h.Ok) (v : Value) (w : World) (hS : Sl w v l.length 7 (l.flatMap enR7)) :
    Calls Tryd.prog 15 #[v, .agg #[.int .u8 h.ds, .int .u16 h.id, .int .u8 h.ttl, .int .u32 h.s, .int .u32 h.d, .int .u16 h.sp, .int .u16 h.p]] w fun e w' => e = .returned (.tuple #[.int .i64 (atN (findN l h.n) : Nat), .bool (isN (findN l h.n))]) ∧ Kp none' w w' := by
  have hmax := hS.max
  obtain ⟨ao, cap, rfl⟩ : ∃ ao cap, v = .slice ao l.length cap := by obtain ⟨ao, cap, rfl, _⟩ := hS.is; exact ⟨_, _, rfl⟩
  have HS := Lib.hid hS; have HO := Lib.hid hok; have HHO := Lib.hid hh
  have HB0 := Lib.hid (Blk.new w (enHd h) 26)
  have HK0 := Lib.hid ((Kp.refl none' w).alloc (.cells (enHd h).toArray 26))
  obtain ⟨A, B, hAB⟩ : ∃ A B, atN (findN l h.n) = A ∧ isN (findN l h.n) = B := ⟨_, _, rfl, rfl⟩
  rw [hAB.1, hAB.2]
  have HAB := Lib.hid hAB
  clear hS hok hh hAB
  go_enter Tryd.func15, Tryd.ntmps15
  go_wp2_with fail
  go_loopw [6] (fun i wr => ∃ j : Nat, i = .int .i64 j ∧ j ≤ l.length ∧ Hid ((∀ q, q < j → holdsAt l h.n q = false) ∧ Kp none' w wr ∧ Blk wr w.heap.size (enHd h) 26)) (fun i _ => l.length - (intOf i).toNat)
  case atStart => exact ⟨0, rfl, Nat.zero_le _, fun q hq => by omega, HK0.out, HB0.out⟩
  case round =>
    obtain ⟨j, rfl, hj, HI⟩ := hrel
    by_cases hlt : j < l.length
    · obtain ⟨g, off, cap', e1, hc⟩ := (HS.out.old HI.out.2.1).at enR7_len (by decide) j hlt
      injection e1 with e1 _ e3
      subst e1 e3
      have hji : (j : Int) < l.length := by omega
      have hgd := getD_at (default : RuN) hlt
      obtain ⟨o, ho⟩ : ∃ o, l[j] = o := ⟨_, rfl⟩
      have hoo := HO.out o (by rw [← ho]; exact List.getElem_mem hlt)
      rw [ho] at hc hgd
      have HGD : Hid (holdsAt l h.n j = holdsR o h.n) := by show _ = _; unfold holdsAt; rw [hgd]
      have c0 : wr.cell? ⟨g, off + j * 7, none⟩ = some (.int .u32 o.s.1) := hc 0 _ rfl
      have c1 := hc 1 _ rfl
      have c2 := hc 2 _ rfl
      have c3 := hc 3 _ rfl
      have c4 := hc 4 _ rfl
      have c5 := hc 5 _ rfl
      have c6 := hc 6 _ rfl
      have b0 := HI.out.2.2.cell 0 rfl
      have b1 := HI.out.2.2.cell 1 rfl
      have b2 := HI.out.2.2.cell 2 rfl
      have b3 := HI.out.2.2.cell 3 rfl
      have b4 := HI.out.2.2.cell 4 rfl
      have b5 := HI.out.2.2.cell 5 rfl
      have b6 := HI.out.2.2.cell 6 rfl
      have HC := Lib.hid (fun W => rHolds o h hoo HHO.out W)
      clear hc ho hoo hgd
      cases hcv : holdsR o h.n with
      | true =>
        rw [hcv] at HC
        have hf : findN l h.n = some j := findN_some.2 ⟨hlt, by rw [HGD.out]; exact hcv, HI.out.1⟩
        have HE : Hid (A = j ∧ B = true) := by
          have := HAB.out
          rw [hf] at this
          exact ⟨this.1.symm, this.2.symm⟩
        clear hf hcv
        go_wp2_with fail
        refine wp_region_kept2 [] [0, 1, 2, 3, 4] 5 (by kernel_rfl) (by kernel_rfl) (fun c a d u w h => by cases d <;> exact h) ?_
        simp only [pick, List.getElem?_cons_succ, List.getElem?_cons_zero, List.drop_succ_cons, List.drop_zero]
        show wpKL _ _ _ _ _ _
        repeat (first
          | (refine wpKL_op (by exact rfl) (by as_aux_lemma => intro W hK; have e0 := hK.cell c0 (fun x => x); have e1 := hK.cell c1 (fun x => x); have e2 := hK.cell c2 (fun x => x); have e3 := hK.cell c3 (fun x => x); have e4 := hK.cell c4 (fun x => x); have e5 := hK.cell c5 (fun x => x); have e6 := hK.cell c6 (fun x => x); have f0 := hK.cell b0 (fun x => x); have f1 := hK.cell b1 (fun x => x); have f2 := hK.cell b2 (fun x => x); have f3 := hK.cell b3 (fun x => x); have f4 := hK.cell b4 (fun x => x); have f5 := hK.cell b5 (fun x => x); have f6 := hK.cell b6 (fun x => x); go_simp; exact rfl) ?_; simp only [Act.put, List.setIfInBounds_toArray, List.set_cons_succ, List.set_cons_zero])
          | (refine wpKL_off (by exact rfl) ?_; simp only [Act.put, List.setIfInBounds_toArray, List.set_cons_succ, List.set_cons_zero]))
        show ∀ W, _ → wpList _ _ _ _ _ _
        intro W5 hK5
        have HK5 := Lib.hid (HI.out.2.1.trans hK5)
        clear hK5 c0 c1 c2 c3 c4 c5 c6 b0 b1 b2 b3 b4 b5 b6
        go_wp2_with (go_at_call 28; refine (HC.out _).mono ?_; rintro e w1 ⟨rfl, hk1⟩; have HK1 := Lib.hid (HK5.out.trans hk1); clear hk1)
        go_ret2
        exact ⟨by rw [HE.out.1, HE.out.2]; rfl, HK1.out⟩
      | false =>
        rw [hcv] at HC
        have HN : Hid (∀ q, q < j + 1 → holdsAt l h.n q = false) := fun q hq => by
          rcases Nat.lt_or_ge q j with h1 | h1
          · exact HI.out.1 q h1
          · have : q = j := by omega
            subst this; rw [HGD.out]; exact hcv
        clear hcv
        go_wp2_with fail
        refine wp_region_kept2 [] [0, 1, 2, 3, 4] 5 (by kernel_rfl) (by kernel_rfl) (fun c a d u w h => by cases d <;> exact h) ?_
        simp only [pick, List.getElem?_cons_succ, List.getElem?_cons_zero, List.drop_succ_cons, List.drop_zero]
        show wpKL _ _ _ _ _ _
        repeat (first
          | (refine wpKL_op (by exact rfl) (by as_aux_lemma => intro W hK; have e0 := hK.cell c0 (fun x => x); have e1 := hK.cell c1 (fun x => x); have e2 := hK.cell c2 (fun x => x); have e3 := hK.cell c3 (fun x => x); have e4 := hK.cell c4 (fun x => x); have e5 := hK.cell c5 (fun x => x); have e6 := hK.cell c6 (fun x => x); have f0 := hK.cell b0 (fun x => x); have f1 := hK.cell b1 (fun x => x); have f2 := hK.cell b2 (fun x => x); have f3 := hK.cell b3 (fun x => x); have f4 := hK.cell b4 (fun x => x); have f5 := hK.cell b5 (fun x => x); have f6 := hK.cell b6 (fun x => x); go_simp; exact rfl) ?_; simp only [Act.put, List.setIfInBounds_toArray, List.set_cons_succ, List.set_cons_zero])
          | (refine wpKL_off (by exact rfl) ?_; simp only [Act.put, List.setIfInBounds_toArray, List.set_cons_succ, List.set_cons_zero]))
        show ∀ W, _ → wpList _ _ _ _ _ _
        intro W5 hK5
        have HK5 := Lib.hid (HI.out.2.1.trans hK5)
        have HB5 := Lib.hid (HI.out.2.2.kp hK5 (fun x => x))
        clear hK5 c0 c1 c2 c3 c4 c5 c6 b0 b1 b2 b3 b4 b5 b6
        go_wp2_with (go_at_call 28; refine (HC.out _).mono ?_; rintro e w1 ⟨rfl, hk1⟩; have HK1 := Lib.hid (HK5.out.trans hk1); have HB1 := Lib.hid (HB5.out.kp hk1 (fun x => x)); clear hk1)
        go_roundw
        case rel => exact ⟨j + 1, by go_num, by omega, HN.out, HK1.out, HB1.out⟩
        case measure => simp [intOf]; omega
    · have hjn : j = l.length := by omega
      subst hjn
      have hf : findN l h.n = none := findN_none.2 HI.out.1
      have HE : Hid (A = 0 ∧ B = false) := by
        have := HAB.out
        rw [hf] at this
        exact ⟨this.1.symm, this.2.symm⟩
      clear hf
      go_wp2_with fail
      go_ret2
      exact ⟨by rw [HE.out.1, HE.out.2]; rfl, HI.out.2.1⟩
end Go.Proofs.YthnlggecjdifnaaDoor
