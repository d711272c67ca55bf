/- Walks of layers 25, 41: which operations may be; operations compared; kinds. -/
import Derived.Test.YthgpmpmnihijnaaDoorScEq
import Derived.Test.YthgpmpmnihijnaaDoorScP
import Derived.Test.YthgpmpmnihijnaaDoorShelf
import Derived.Test.YthgpmpmnihijnaaDoorKept
import Derived.Test.YthgpmpmnihijnaaDoorStrs
import Derived.BigQuiet
import Derived.Deep.QuietTactic
namespace Go.Proofs.YthgpmpmnihijnaaDoor
set_option linter.unusedVariables false
set_option linter.unusedSimpArgs false
open Go.RowKit Go.Shelf

def bareO (o : OpR) : OpR := if o.kind = 1 then ⟨o.kind, o.flow, o.id, o.len, 0⟩ else if o.kind = 3 then ⟨o.kind, 0, 0, 0, o.ticks⟩ else if o.kind = 0 then ⟨o.kind, 0, 0, o.len, 0⟩ else ⟨o.kind, 0, 0, 0, 0⟩
set_option maxHeartbeats 1000000 in
theorem oBare (o : OpR) (w : World) : Calls Tryd.prog 30 #[.agg #[.int .i64 o.kind, .int .u32 o.flow, .int .u32 o.id, .int .u64 o.len, .int .u64 o.ticks]] w fun e w' => e = .returned (.agg (enO (bareO o)).toArray) ∧ Kp none' w w' := by
  obtain ⟨k, f, i, n, t⟩ := o
  by_cases h1 : k = 1
  · subst h1
    go_enter Tryd.func30, Tryd.ntmps30
    go_wp2
    refine bodyPost_ret (v := .agg (enO (bareO ⟨1, f, i, n, t⟩)).toArray) (by simp [results, Tryd.results30, go_sem, bareO, enO]) rfl ⟨rfl, ?_⟩
    repeat (first | exact Kp.refl _ _ | refine Kp.alloc ?_ _ | refine Kp.drewN ?_ _ | refine Kp.set ?_ (Or.inr (by simp <;> omega)) _)
  · have b1 : (k == 1) = false := by rw [beq_eq_false_iff_ne]; exact h1
    by_cases h3 : k = 3
    · subst h3
      go_enter Tryd.func30, Tryd.ntmps30
      go_wp2
      refine bodyPost_ret (v := .agg (enO (bareO ⟨3, f, i, n, t⟩)).toArray) (by simp [results, Tryd.results30, go_sem, bareO, enO]) rfl ⟨rfl, ?_⟩
      repeat (first | exact Kp.refl _ _ | refine Kp.alloc ?_ _ | refine Kp.drewN ?_ _ | refine Kp.set ?_ (Or.inr (by simp <;> omega)) _)
    · have b3 : (k == 3) = false := by rw [beq_eq_false_iff_ne]; exact h3
      by_cases h0 : k = 0
      · subst h0
        go_enter Tryd.func30, Tryd.ntmps30
        go_wp2
        refine bodyPost_ret (v := .agg (enO (bareO ⟨0, f, i, n, t⟩)).toArray) (by simp [results, Tryd.results30, go_sem, bareO, enO]) rfl ⟨rfl, ?_⟩
        repeat (first | exact Kp.refl _ _ | refine Kp.alloc ?_ _ | refine Kp.drewN ?_ _ | refine Kp.set ?_ (Or.inr (by simp <;> omega)) _)
      · have b0 : (k == 0) = false := by rw [beq_eq_false_iff_ne]; exact h0
        have e : Hid (enO (bareO ⟨k, f, i, n, t⟩) = [.int .i64 k, .int .u32 0, .int .u32 0, .int .u64 0, .int .u64 0]) := by
          show _ = _
          unfold bareO; simp only [if_neg h1, if_neg h3, if_neg h0]; rfl
        clear h1 h3 h0
        go_enter Tryd.func30, Tryd.ntmps30
        go_wp2
        refine bodyPost_ret (v := .agg (enO (bareO ⟨k, f, i, n, t⟩)).toArray) (by rw [e.out]; simp [results, Tryd.results30, go_sem]) rfl ⟨rfl, ?_⟩
        repeat (first | exact Kp.refl _ _ | refine Kp.alloc ?_ _ | refine Kp.drewN ?_ _ | refine Kp.set ?_ (Or.inr (by simp <;> omega)) _)
set_option maxHeartbeats 1000000 in
theorem oBegins (n : Nat) (w : World) : Calls Tryd.prog 31 #[.int .u64 n] w fun e w' => e = .returned (.bool (decide (1 ≤ n ∧ n ≤ 4))) ∧ w = w' := by
  by_cases h : 1 ≤ n
  · have h' : (1 : Int) ≤ n := by omega
    have e : Hid (decide (1 ≤ n ∧ n ≤ 4) = decide ((n : Int) ≤ 4)) := by show _ = _; rw [decide_eq_decide]; omega
    go_enter Tryd.func31, Tryd.ntmps31
    go_wp2
    go_ret
    exact ⟨by rw [e.out]; rfl, rfl⟩
  · have h' : (n : Int) < 1 := by omega
    have e : Hid (decide (1 ≤ n ∧ n ≤ 4) = false) := by show _ = _; rw [decide_eq_false_iff_not]; omega
    go_enter Tryd.func31, Tryd.ntmps31
    go_wp2
    go_ret
    exact ⟨rfl, rfl⟩
theorem opR_bare (o : OpR) (h : 0 ≤ o.kind ∧ o.kind ≤ 4) : opR o = (decide (bareO o = o) && (!decide (o.kind = 0) || (decide (o.len < 256) && !decide (1 ≤ o.len ∧ o.len ≤ 4)))) := by
  obtain ⟨k, f, i, n, t⟩ := o
  simp only at h
  have hk : k = 0 ∨ k = 1 ∨ k = 2 ∨ k = 3 ∨ k = 4 := by omega
  rw [Bool.eq_iff_iff]
  rcases hk with rfl | rfl | rfl | rfl | rfl <;> simp [opR, bareO] <;> omega
theorem opR_out {o : OpR} (h : ¬ (0 ≤ o.kind ∧ o.kind ≤ 4)) : opR o = false := by
  unfold opR
  rw [if_neg (by omega), if_neg (by omega : ¬ o.kind = 0), if_neg (by omega : ¬ o.kind = 3)]
  split
  · rfl
  · rw [decide_eq_false_iff_not]; omega
theorem calls_begins (n : Nat) {w0 : World} (W : World) : Calls Tryd.prog 31 #[.int .u64 n] W fun e w' => e = .returned (.bool (decide (1 ≤ n ∧ n ≤ 4))) ∧ Kp none' W w' :=
  (oBegins n W).mono fun e w' ⟨h1, h2⟩ => ⟨h1, h2 ▸ Kp.refl _ _⟩
set_option maxRecDepth 100000 in
set_option maxHeartbeats 2000000 in
theorem oRight (o : OpR) (w : World) : Calls Tryd.prog 18 #[.agg #[.int .i64 o.kind, .int .u32 o.flow, .int .u32 o.id, .int .u64 o.len, .int .u64 o.ticks]] w fun e w' => e = .returned (.bool (opR o)) ∧ Kp none' w w' := by
  have hw0 := Blk.new w (enO o) 40
  have hk0 : Kp none' w (w.alloc (.cells (enO o).toArray 40)) := (Kp.refl _ _).alloc _
  obtain ⟨w0, hw0'⟩ : ∃ w0, w.alloc (.cells (enO o).toArray 40) = w0 := ⟨_, rfl⟩
  rw [hw0'] at hw0 hk0
  have hWX : w.alloc (.cells #[.int .i64 o.kind, .int .u32 o.flow, .int .u32 o.id, .int .u64 o.len, .int .u64 o.ticks] 40) = w0 := hw0'
  have HK0 := Lib.hid hk0
  have HW := Lib.hid hWX
  have c0 := hw0.cell 0 rfl
  have c1 := hw0.cell 1 rfl
  have c2 := hw0.cell 2 rfl
  have c3 := hw0.cell 3 rfl
  have c4 := hw0.cell 4 rfl
  have HB := Lib.hid (fun W => oBare o W)
  have HG := Lib.hid (fun W => calls_begins o.len (w0 := w) W)
  have NQ := neqOp (bareO o) o
  by_cases hk : 0 ≤ o.kind ∧ o.kind ≤ 4
  · have hR := Lib.hid (opR_bare o hk)
    obtain ⟨k, f, i, n, t⟩ := o
    obtain ⟨b, hb⟩ : ∃ b, bareO ⟨k, f, i, n, t⟩ = b := ⟨_, rfl⟩
    have d1 : decide (k < 0) = false := decide_eq_false (by simp only at hk; omega)
    have d2 : decide (k > 4) = false := decide_eq_false (by simp only at hk; omega)
    simp only [hb] at HB NQ hR
    have NQ1 : ∀ W, (binOp .neq 40 (.agg (enO b).toArray) (.agg #[.int .i64 k, .int .u32 f, .int .u32 i, .int .u64 n, .int .u64 t])).run Tryd.prog W = .ok (.bool (!decide (b = ⟨k, f, i, n, t⟩))) W := NQ
    simp only at c0 c1 c2 c3 c4 HW HG
    clear hw0 hw0' hWX hk0 hb hk NQ
    by_cases hbo : b = ⟨k, f, i, n, t⟩
    · simp only [decide_eq_true hbo, Bool.not_true] at NQ1
      rw [decide_eq_true hbo, Bool.true_and] at hR
      clear hbo
      by_cases hk0 : k = 0
      · subst hk0
        by_cases hn : n < 256
        · have hn' : (n : Int) < 256 := by omega
          have hR' : Hid (opR ⟨0, f, i, n, t⟩ = !decide (1 ≤ n ∧ n ≤ 4)) := by have := hR.out; rw [decide_eq_true hn] at this; exact Lib.hid (by simpa using this)
          clear hR hn
          generalize decide (1 ≤ n ∧ n ≤ 4) = bg at *
          go_enter Tryd.func18, Tryd.ntmps18
          go_wp2_with fail
          rw [HW.out]
          refine wp_region_kept2 [] [0, 1, 2, 3, 4, 5, 6, 7, 8, 9, 10, 11, 12] 13 (by kernel_rfl) (by kernel_rfl) (fun c a d u w h => by cases d <;> exact h) ?_
          simp only [pick, List.getElem?_cons_succ, List.getElem?_cons_zero, List.drop_succ_cons, List.drop_zero]
          show wpKL _ _ _ _ _ _
          repeat (first
            | (refine wpKL_op (by exact rfl) (by as_aux_lemma => intro W hK; have e0 := hK.cell c0 (fun x => x); have e1 := hK.cell c1 (fun x => x); have e2 := hK.cell c2 (fun x => x); have e3 := hK.cell c3 (fun x => x); have e4 := hK.cell c4 (fun x => x); have q0 := NQ1 W; go_simp; exact rfl) ?_; simp only [Act.put, List.setIfInBounds_toArray, List.set_cons_succ, List.set_cons_zero])
            | (refine wpKL_off (by exact rfl) ?_; simp only [Act.put, List.setIfInBounds_toArray, List.set_cons_succ, List.set_cons_zero])
            | (refine wpKL_call (by exact rfl) (by as_aux_lemma => intro W; go_simp; exact ⟨rfl, rfl⟩) (by intro W hK; with_reducible first | exact HB.out W) ?_; simp only [Act.put, List.setIfInBounds_toArray, List.set_cons_succ, List.set_cons_zero]))
          show ∀ W, _ → wpList _ _ _ _ _ _
          intro W2 hK2
          have HK2 := Lib.hid hK2
          have e0 := hK2.cell c0 (fun x => x)
          have e3 := hK2.cell c3 (fun x => x)
          clear hK2
          go_wp2_with fail
          refine (HG.out W2).mono ?_
          rintro e w3 ⟨rfl, k3⟩
          have HK3 := Lib.hid k3
          clear k3
          go_wp2_with fail
          go_ret
          exact ⟨by rw [hR'.out]; rfl, (HK0.out.trans HK2.out).trans HK3.out⟩
        · have hn' : ¬ (n : Int) < 256 := by omega
          have hR' : Hid (opR ⟨0, f, i, n, t⟩ = false) := by have := hR.out; rw [decide_eq_false hn] at this; exact Lib.hid (by simpa using this)
          clear hR hn
          go_enter Tryd.func18, Tryd.ntmps18
          go_wp2_with fail
          rw [HW.out]
          refine wp_region_kept2 [] [0, 1, 2, 3, 4, 5, 6, 7, 8, 9, 10, 11, 12] 13 (by kernel_rfl) (by kernel_rfl) (fun c a d u w h => by cases d <;> exact h) ?_
          simp only [pick, List.getElem?_cons_succ, List.getElem?_cons_zero, List.drop_succ_cons, List.drop_zero]
          show wpKL _ _ _ _ _ _
          repeat (first
            | (refine wpKL_op (by exact rfl) (by as_aux_lemma => intro W hK; have e0 := hK.cell c0 (fun x => x); have e1 := hK.cell c1 (fun x => x); have e2 := hK.cell c2 (fun x => x); have e3 := hK.cell c3 (fun x => x); have e4 := hK.cell c4 (fun x => x); have q0 := NQ1 W; go_simp; exact rfl) ?_; simp only [Act.put, List.setIfInBounds_toArray, List.set_cons_succ, List.set_cons_zero])
            | (refine wpKL_off (by exact rfl) ?_; simp only [Act.put, List.setIfInBounds_toArray, List.set_cons_succ, List.set_cons_zero])
            | (refine wpKL_call (by exact rfl) (by as_aux_lemma => intro W; go_simp; exact ⟨rfl, rfl⟩) (by intro W hK; with_reducible first | exact HB.out W) ?_; simp only [Act.put, List.setIfInBounds_toArray, List.set_cons_succ, List.set_cons_zero]))
          show ∀ W, _ → wpList _ _ _ _ _ _
          intro W2 hK2
          have HK2 := Lib.hid hK2
          have e0 := hK2.cell c0 (fun x => x)
          have e3 := hK2.cell c3 (fun x => x)
          clear hK2
          go_wp2_with fail
          go_ret
          exact ⟨by rw [hR'.out]; rfl, HK0.out.trans HK2.out⟩
      · have hkb : (k != 0) = true := by simpa using hk0
        have hR' : Hid (opR ⟨k, f, i, n, t⟩ = true) := by have := hR.out; rw [decide_eq_false hk0] at this; exact Lib.hid (by simpa using this)
        clear hR hk0
        go_enter Tryd.func18, Tryd.ntmps18
        go_wp2_with fail
        rw [HW.out]
        refine wp_region_kept2 [] [0, 1, 2, 3, 4, 5, 6, 7, 8, 9, 10, 11, 12] 13 (by kernel_rfl) (by kernel_rfl) (fun c a d u w h => by cases d <;> exact h) ?_
        simp only [pick, List.getElem?_cons_succ, List.getElem?_cons_zero, List.drop_succ_cons, List.drop_zero]
        show wpKL _ _ _ _ _ _
        repeat (first
          | (refine wpKL_op (by exact rfl) (by as_aux_lemma => intro W hK; have e0 := hK.cell c0 (fun x => x); have e1 := hK.cell c1 (fun x => x); have e2 := hK.cell c2 (fun x => x); have e3 := hK.cell c3 (fun x => x); have e4 := hK.cell c4 (fun x => x); have q0 := NQ1 W; go_simp; exact rfl) ?_; simp only [Act.put, List.setIfInBounds_toArray, List.set_cons_succ, List.set_cons_zero])
          | (refine wpKL_off (by exact rfl) ?_; simp only [Act.put, List.setIfInBounds_toArray, List.set_cons_succ, List.set_cons_zero])
          | (refine wpKL_call (by exact rfl) (by as_aux_lemma => intro W; go_simp; exact ⟨rfl, rfl⟩) (by intro W hK; with_reducible first | exact HB.out W) ?_; simp only [Act.put, List.setIfInBounds_toArray, List.set_cons_succ, List.set_cons_zero]))
        show ∀ W, _ → wpList _ _ _ _ _ _
        intro W2 hK2
        have HK2 := Lib.hid hK2
        have e0 := hK2.cell c0 (fun x => x)
        have e3 := hK2.cell c3 (fun x => x)
        clear hK2
        go_wp2_with fail
        go_ret
        exact ⟨by rw [hR'.out]; rfl, HK0.out.trans HK2.out⟩
    · simp only [decide_eq_false hbo, Bool.not_false] at NQ1
      rw [decide_eq_false hbo, Bool.false_and] at hR
      clear hbo
      go_enter Tryd.func18, Tryd.ntmps18
      go_wp2_with fail
      rw [HW.out]
      refine wp_region_kept2 [] [0, 1, 2, 3, 4, 5, 6, 7, 8, 9, 10, 11, 12] 13 (by kernel_rfl) (by kernel_rfl) (fun c a d u w h => by cases d <;> exact h) ?_
      simp only [pick, List.getElem?_cons_succ, List.getElem?_cons_zero, List.drop_succ_cons, List.drop_zero]
      show wpKL _ _ _ _ _ _
      repeat (first
        | (refine wpKL_op (by exact rfl) (by as_aux_lemma => intro W hK; have e0 := hK.cell c0 (fun x => x); have e1 := hK.cell c1 (fun x => x); have e2 := hK.cell c2 (fun x => x); have e3 := hK.cell c3 (fun x => x); have e4 := hK.cell c4 (fun x => x); have q0 := NQ1 W; go_simp; exact rfl) ?_; simp only [Act.put, List.setIfInBounds_toArray, List.set_cons_succ, List.set_cons_zero])
        | (refine wpKL_off (by exact rfl) ?_; simp only [Act.put, List.setIfInBounds_toArray, List.set_cons_succ, List.set_cons_zero])
        | (refine wpKL_call (by exact rfl) (by as_aux_lemma => intro W; go_simp; exact ⟨rfl, rfl⟩) (by intro W hK; with_reducible first | exact HB.out W) ?_; simp only [Act.put, List.setIfInBounds_toArray, List.set_cons_succ, List.set_cons_zero]))
      show ∀ W, _ → wpList _ _ _ _ _ _
      intro W2 hK2
      have HK2 := Lib.hid hK2
      clear hK2
      go_wp2_with fail
      go_ret
      exact ⟨by rw [hR.out]; rfl, HK0.out.trans HK2.out⟩
  · rw [opR_out hk]
    by_cases h0 : o.kind < 0
    · clear hw0 hw0' hWX hk0 NQ HB HG
      obtain ⟨k, f, i, n, t⟩ := o
      simp only at h0 c0 c1 c2 c3 c4 HW
      have d1 : decide (k < 0) = true := decide_eq_true h0
      clear hk
      go_enter Tryd.func18, Tryd.ntmps18
      go_wp2_with fail
      rw [HW.out]
      refine wp_region_kept2 [] [0, 1, 2, 3, 4, 5, 6, 7, 8, 9, 10, 11, 12] 13 (by kernel_rfl) (by kernel_rfl) (fun c a d u w h => by cases d <;> exact h) ?_
      simp only [pick, List.getElem?_cons_succ, List.getElem?_cons_zero, List.drop_succ_cons, List.drop_zero]
      show wpKL _ _ _ _ _ _
      repeat (first
        | (refine wpKL_op (by exact rfl) (by as_aux_lemma => intro W hK; have e0 := hK.cell c0 (fun x => x); have e1 := hK.cell c1 (fun x => x); have e2 := hK.cell c2 (fun x => x); have e3 := hK.cell c3 (fun x => x); have e4 := hK.cell c4 (fun x => x); go_simp; exact rfl) ?_; simp only [Act.put, List.setIfInBounds_toArray, List.set_cons_succ, List.set_cons_zero])
        | (refine wpKL_off (by exact rfl) ?_; simp only [Act.put, List.setIfInBounds_toArray, List.set_cons_succ, List.set_cons_zero]))
      show ∀ W, _ → wpList _ _ _ _ _ _
      intro W2 hK2
      have HK2 := Lib.hid hK2
      clear hK2
      go_wp2_with fail
      go_ret
      exact ⟨rfl, HK0.out.trans HK2.out⟩
    · clear hw0 hw0' hWX hk0 NQ HB HG
      obtain ⟨k, f, i, n, t⟩ := o
      simp only at h0 hk c0 c1 c2 c3 c4 HW
      have d1 : decide (k < 0) = false := decide_eq_false h0
      have d2 : decide (k > 4) = true := decide_eq_true (by omega)
      have d3 : decide (4 < k) = true := decide_eq_true (by omega)
      clear hk h0
      go_enter Tryd.func18, Tryd.ntmps18
      go_wp2_with fail
      rw [HW.out]
      refine wp_region_kept2 [] [0, 1, 2, 3, 4, 5, 6, 7, 8, 9, 10, 11, 12] 13 (by kernel_rfl) (by kernel_rfl) (fun c a d u w h => by cases d <;> exact h) ?_
      simp only [pick, List.getElem?_cons_succ, List.getElem?_cons_zero, List.drop_succ_cons, List.drop_zero]
      show wpKL _ _ _ _ _ _
      repeat (first
        | (refine wpKL_op (by exact rfl) (by as_aux_lemma => intro W hK; have e0 := hK.cell c0 (fun x => x); have e1 := hK.cell c1 (fun x => x); have e2 := hK.cell c2 (fun x => x); have e3 := hK.cell c3 (fun x => x); have e4 := hK.cell c4 (fun x => x); go_simp; exact rfl) ?_; simp only [Act.put, List.setIfInBounds_toArray, List.set_cons_succ, List.set_cons_zero])
        | (refine wpKL_off (by exact rfl) ?_; simp only [Act.put, List.setIfInBounds_toArray, List.set_cons_succ, List.set_cons_zero]))
      show ∀ W, _ → wpList _ _ _ _ _ _
      intro W2 hK2
      have HK2 := Lib.hid hK2
      clear hK2
      go_wp2_with fail
      go_ret
      exact ⟨rfl, HK0.out.trans HK2.out⟩
end Go.Proofs.YthgpmpmnihijnaaDoor
