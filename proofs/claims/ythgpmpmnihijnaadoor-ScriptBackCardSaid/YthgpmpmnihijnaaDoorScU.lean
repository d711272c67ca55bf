/- Walks: operations' lists compared (layer 25); numbers (layer 41). -/
import Derived.Test.YthgpmpmnihijnaaDoorScV
import Derived.Test.YthgpmpmnihijnaaDoorOwn
import Derived.Test.YthgpmpmnihijnaaDoorSnoc
namespace Go.Proofs.YthgpmpmnihijnaaDoor
set_option linter.unusedVariables false
set_option linter.unusedSimpArgs false
open Go.RowKit Go.Shelf

set_option maxRecDepth 100000 in
set_option maxHeartbeats 1000000 in
theorem rSameO (l m : List OpR) (v u : Value) (w : World) (h : Sl w v l.length 5 (l.flatMap enO)) (g : Sl w u m.length 5 (m.flatMap enO)) :
    Calls Tryd.prog 9 #[v, u] w fun e w' => e = .returned (.bool (decide (l = m))) ∧ Kp none' w w' := by
  obtain ⟨ao, cap, rfl, _⟩ := h.is
  obtain ⟨ao2, cap2, rfl, _⟩ := g.is
  have hm := h.max
  have hm2 := g.max
  have HX := Lib.hid h; have HY := Lib.hid g
  clear h g
  by_cases hl : l.length = m.length
  · have hl' : ((l.length : Int) != m.length) = false := by simp [hl]
    have HL := Lib.hid hl; clear hl
    go_enter Tryd.func9, Tryd.ntmps9
    go_wp2
    go_loopw [5] (fun i wr => ∃ k : Nat, k ≤ l.length ∧ i = .int .i64 k ∧ Hid (l.take k = m.take k) ∧ Hid (Kp none' w wr)) (fun i _ => l.length - (intOf i).toNat)
    case atStart => exact ⟨0, Nat.zero_le _, rfl, by simp [Hid], Kp.refl _ _⟩
    case round =>
      obtain ⟨k, hk, rfl, hno, hkp⟩ := hrel
      by_cases hlt : k < l.length
      · have hlt2 : k < m.length := by rw [← HL.out]; exact hlt
        have hki : (k : Int) < l.length := by omega
        have hki2 : (k : Int) < m.length := by omega
        obtain ⟨gx, ox, cx, e1, hcx⟩ := (HX.out.old hkp.out).at enO_len (by decide) k hlt
        obtain ⟨gy, oy, cy, e2, hcy⟩ := (HY.out.old hkp.out).at enO_len (by decide) k hlt2
        injection e1 with e1 _ e3
        subst e1 e3
        injection e2 with e1 _ e3
        subst e1 e3
        obtain ⟨⟨ok, of, oi, on, ot⟩, ho⟩ : ∃ y, l[k] = y := ⟨_, rfl⟩
        obtain ⟨⟨pk, pf, pi, pn, pt⟩, hp⟩ : ∃ z, m[k] = z := ⟨_, rfl⟩
        rw [ho] at hcx
        rw [hp] at hcy
        have x0 : wr.cell? ⟨gx, ox + k * 5, none⟩ = some (.int .i64 ok) := hcx 0 _ rfl
        have x1 := hcx 1 _ rfl
        have x2 := hcx 2 _ rfl
        have x3 := hcx 3 _ rfl
        have x4 := hcx 4 _ rfl
        have y0 : wr.cell? ⟨gy, oy + k * 5, none⟩ = some (.int .i64 pk) := hcy 0 _ rfl
        have y1 := hcy 1 _ rfl
        have y2 := hcy 2 _ rfl
        have y3 := hcy 3 _ rfl
        have y4 := hcy 4 _ rfl
        have NQ : ∀ W, (binOp .neq 40 (.agg #[.int .i64 ok, .int .u32 of, .int .u32 oi, .int .u64 on, .int .u64 ot]) (.agg #[.int .i64 pk, .int .u32 pf, .int .u32 pi, .int .u64 pn, .int .u64 pt])).run Tryd.prog W = .ok (.bool (!decide ((⟨ok, of, oi, on, ot⟩ : OpR) = ⟨pk, pf, pi, pn, pt⟩))) W := neqOp ⟨ok, of, oi, on, ot⟩ ⟨pk, pf, pi, pn, pt⟩
        have HO := Lib.hid ho; have HP := Lib.hid hp
        clear ho hp hcx hcy
        by_cases hx : (⟨ok, of, oi, on, ot⟩ : OpR) = ⟨pk, pf, pi, pn, pt⟩
        · simp only [decide_eq_true hx, Bool.not_true] at NQ
          have HE := Lib.hid hx; clear hx
          go_wp2
          refine wp_region_kept2 [] [0, 1, 2, 3, 4, 5, 6, 7] 8 (by kernel_rfl) (by kernel_rfl) (fun c a d u w h => by cases d <;> exact h) ?_
          simp only [pick, List.getElem?_cons_succ, List.getElem?_cons_zero, List.drop_succ_cons, List.drop_zero]
          show wpKL _ _ _ _ _ _
          repeat (first
            | (refine wpKL_op (by exact rfl) (by as_aux_lemma => intro W hK; have e0 := hK.cell x0 (fun x => x); have e1 := hK.cell x1 (fun x => x); have e2 := hK.cell x2 (fun x => x); have e3 := hK.cell x3 (fun x => x); have e4 := hK.cell x4 (fun x => x); have f0 := hK.cell y0 (fun x => x); have f1 := hK.cell y1 (fun x => x); have f2 := hK.cell y2 (fun x => x); have f3 := hK.cell y3 (fun x => x); have f4 := hK.cell y4 (fun x => x); have q0 := NQ W; go_simp; exact rfl) ?_; simp only [Act.put, List.setIfInBounds_toArray, List.set_cons_succ, List.set_cons_zero])
            | (refine wpKL_off (by exact rfl) ?_; simp only [Act.put, List.setIfInBounds_toArray, List.set_cons_succ, List.set_cons_zero]))
          show ∀ W, _ → wpList _ _ _ _ _ _
          intro W2 hK2
          have HK2 := Lib.hid (hkp.out.trans hK2)
          have q0 := NQ W2
          clear hK2
          go_wp2
          go_roundw
          case rel => exact ⟨k + 1, by omega, by go_num, by unfold Hid; rw [take_snoc' l k hlt HO.out, take_snoc' m k hlt2 HP.out, hno.out, HE.out], HK2⟩
          case measure => simp [intOf]; omega
        · simp only [decide_eq_false hx, Bool.not_false] at NQ
          have HE := Lib.hid hx; clear hx
          go_wp2
          refine wp_region_kept2 [] [0, 1, 2, 3, 4, 5, 6, 7] 8 (by kernel_rfl) (by kernel_rfl) (fun c a d u w h => by cases d <;> exact h) ?_
          simp only [pick, List.getElem?_cons_succ, List.getElem?_cons_zero, List.drop_succ_cons, List.drop_zero]
          show wpKL _ _ _ _ _ _
          repeat (first
            | (refine wpKL_op (by exact rfl) (by as_aux_lemma => intro W hK; have e0 := hK.cell x0 (fun x => x); have e1 := hK.cell x1 (fun x => x); have e2 := hK.cell x2 (fun x => x); have e3 := hK.cell x3 (fun x => x); have e4 := hK.cell x4 (fun x => x); have f0 := hK.cell y0 (fun x => x); have f1 := hK.cell y1 (fun x => x); have f2 := hK.cell y2 (fun x => x); have f3 := hK.cell y3 (fun x => x); have f4 := hK.cell y4 (fun x => x); have q0 := NQ W; go_simp; exact rfl) ?_; simp only [Act.put, List.setIfInBounds_toArray, List.set_cons_succ, List.set_cons_zero])
            | (refine wpKL_off (by exact rfl) ?_; simp only [Act.put, List.setIfInBounds_toArray, List.set_cons_succ, List.set_cons_zero]))
          show ∀ W, _ → wpList _ _ _ _ _ _
          intro W2 hK2
          have HK2 := Lib.hid (hkp.out.trans hK2)
          have q0 := NQ W2
          clear hK2
          go_wp2
          go_ret
          exact ⟨ret_bool (by symm; rw [decide_eq_false_iff_not]; rintro rfl; exact HE.out (HO.out.symm.trans HP.out)), HK2.out⟩
      · have hke : k = l.length := by omega
        have HR : Hid (l = m) := by
          have := hno.out
          rw [hke, List.take_length, HL.out, List.take_length] at this
          exact this
        clear hke hno
        go_wp2
        go_ret
        exact ⟨ret_bool (by symm; rw [decide_eq_true_eq]; exact HR.out), hkp.out⟩
  · have hl' : ((l.length : Int) != m.length) = true := by simp; omega
    have HL := Lib.hid hl; clear hl
    go_enter Tryd.func9, Tryd.ntmps9
    go_wp2
    go_ret
    exact ⟨ret_bool (by symm; rw [decide_eq_false_iff_not]; rintro rfl; exact HL.out rfl), Kp.refl _ _⟩
end Go.Proofs.YthgpmpmnihijnaaDoor
