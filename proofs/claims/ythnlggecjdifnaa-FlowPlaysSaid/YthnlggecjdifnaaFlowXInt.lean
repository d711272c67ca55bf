/- What the functions of package flow compute, at things of kind int: Get, Set. -/
import Derived.Test.YthnlggecjdifnaaFlowQ
import Derived.Test.YthnlggecjdifnaaFlowWInt
import Derived.Test.YthnlggecjdifnaaKept
namespace Go.Proofs.Ythnlggecjdifnaa.flowInt
set_option linter.unusedVariables false
set_option linter.unusedSimpArgs false
open Go.RowKit Go.Proofs.Ythnlggecjdifnaa

theorem TOk.free {S : Slots Th} {n room : Nat} (h : TOk S n room) : ∃ i, i < S.length ∧ tAt S i = none := unused S (by have := h.cnt; have := h.load; have := h.b1; omega)
theorem fFindAt (S : Slots Th) (id d : Nat) (hp : Pw S.length) (hb : S.length ≤ 8192) (hid : id < 4294967296) (hu : ∃ i, i < S.length ∧ tAt S i = none) (f : FAt (homeN S.length) S id d) (w : World) (tb sb : Nat) (n room : Nat) (h : TMem w tb sb S n room) :
    Calls Try.prog 25 #[.pointer (some ⟨tb, 0, none⟩), .int .u32 id] w fun e w' => e = .returned (.int .i64 (ad S.length (homeN S.length id) d : Nat)) ∧ Kp none' w w' :=
  (fFind w tb sb S n room h hp hb id hid hu).mono fun e w' ⟨⟨d', f', he⟩, hw⟩ => by
    subst hw
    rw [f.unique f']
    exact ⟨he, Kp.refl _ _⟩

set_option maxRecDepth 100000 in
set_option maxHeartbeats 4000000 in
theorem fGet (w : World) (tb sb : Nat) (S : Slots Th) (n room : Nat) (h : TMem w tb sb S n room) (ok : TOk S n room) (id : Nat) (hid : id < 4294967296) (d : Nat) (f : FAt (homeN S.length) S id d) :
    Calls Try.prog 8 #[.pointer (some ⟨tb, 0, none⟩), .int .u32 id] w fun e w' => (match tAt S (ad S.length (homeN S.length id) d) with
      | some (_, x) => e = .returned (.tuple #[en x, .bool true])
      | none => e = .returned (.tuple #[en zx, .bool false])) ∧ Kp none' w w' := by
  have c := h.top.cell 0 rfl
  have hN := ok.pw.pos
  have HM := Lib.hid h
  have hpl := ad_lt (homeN_lt S.length id hN) f.lt
  have GM := Lib.hid (fun W (k : Kp none' w W) => calls_same (fMade W tb sb S n room (h.old k) hN))
  have GF := Lib.hid (fun W (k : Kp none' w W) => fFindAt S id d ok.pw ok.b2 hid ok.free f W tb sb n room (h.old k))
  have hce := fun k u h1 h2 => h.cell (ad S.length (homeN S.length id) d) k (u := u) h1 h2 hpl
  generalize ad S.length (homeN S.length id) d = q at *
  have hql : (q : Int) < S.length := by omega
  clear h f
  cases ht : tAt S q with
  | none =>
    rw [ht] at hce
    have c1 := hce 1 (.bool false) (by omega) rfl
    clear hce ht
    simp only
    go_enter Try.func8, Try.ntmps8
    go_wp2_with fail
    refine wp_region_kept2 [] [0, 1, 2, 3, 4, 5, 6, 7, 8, 9, 10, 11, 12, 13, 14] 15 (by kernel_rfl) (by kernel_rfl) (fun c a d u w h => by cases d <;> exact h) ?_
    simp only [pick, List.getElem?_cons_succ, List.getElem?_cons_zero, List.drop_succ_cons, List.drop_zero]
    show wpKL _ _ _ _ _ _
    repeat (first
      | (refine wpKL_op (by exact rfl) (by as_aux_lemma => intro W hK; have e0 := hK.cell c (fun x => x); have e1 := hK.cell c1 (fun x => x); go_simp; exact rfl) ?_; simp only [Act.put, List.setIfInBounds_toArray, List.set_cons_succ, List.set_cons_zero])
      | (refine wpKL_off (by exact rfl) ?_; simp only [Act.put, List.setIfInBounds_toArray, List.set_cons_succ, List.set_cons_zero])
      | (refine wpKL_call (by exact rfl) (by as_aux_lemma => intro W; go_simp; exact ⟨rfl, rfl⟩) (by intro W hK; with_reducible first | exact GM.out W hK | exact GF.out W hK) ?_; simp only [Act.put, List.setIfInBounds_toArray, List.set_cons_succ, List.set_cons_zero]))
    show ∀ W, _ → wpList _ _ _ _ _ _
    intro W2 hK2
    have HK2 := Lib.hid hK2
    clear hK2
    go_wp2_with fail
    go_ret2
    exact ⟨rfl, HK2.out⟩
  | some ex =>
    obtain ⟨k, x⟩ := ex
    rw [ht] at hce
    have c1 := hce 1 (.bool true) (by omega) rfl
    have c2 := hce 2 (en x) (by omega) rfl
    clear hce ht
    simp only
    go_enter Try.func8, Try.ntmps8
    go_wp2_with fail
    refine wp_region_kept2 [] [0, 1, 2, 3, 4, 5, 6, 7, 8, 9, 10, 11, 12, 13, 14] 15 (by kernel_rfl) (by kernel_rfl) (fun c a d u w h => by cases d <;> exact h) ?_
    simp only [pick, List.getElem?_cons_succ, List.getElem?_cons_zero, List.drop_succ_cons, List.drop_zero]
    show wpKL _ _ _ _ _ _
    repeat (first
      | (refine wpKL_op (by exact rfl) (by as_aux_lemma => intro W hK; have e0 := hK.cell c (fun x => x); have e1 := hK.cell c1 (fun x => x); go_simp; exact rfl) ?_; simp only [Act.put, List.setIfInBounds_toArray, List.set_cons_succ, List.set_cons_zero])
      | (refine wpKL_off (by exact rfl) ?_; simp only [Act.put, List.setIfInBounds_toArray, List.set_cons_succ, List.set_cons_zero])
      | (refine wpKL_call (by exact rfl) (by as_aux_lemma => intro W; go_simp; exact ⟨rfl, rfl⟩) (by intro W hK; with_reducible first | exact GM.out W hK | exact GF.out W hK) ?_; simp only [Act.put, List.setIfInBounds_toArray, List.set_cons_succ, List.set_cons_zero]))
    show ∀ W, _ → wpList _ _ _ _ _ _
    intro W2 hK2
    have HK2 := Lib.hid hK2
    have d0 := hK2.cell c (fun x => x)
    have d2 := hK2.cell c2 (fun x => x)
    have GF2 := Lib.hid (fun W (k : Kp none' W2 W) => GF.out W (hK2.trans k))
    clear hK2 c c1 c2
    go_wp2_with fail
    refine wp_region_kept2 [] [0, 1, 2, 3, 4, 5, 6, 7, 8, 9, 10] 11 (by kernel_rfl) (by kernel_rfl) (fun c a d u w h => by cases d <;> exact h) ?_
    simp only [pick, List.getElem?_cons_succ, List.getElem?_cons_zero, List.drop_succ_cons, List.drop_zero]
    show wpKL _ _ _ _ _ _
    repeat (first
      | (refine wpKL_op (by exact rfl) (by as_aux_lemma => intro W hK; have e0 := hK.cell d0 (fun x => x); have e2 := hK.cell d2 (fun x => x); go_simp; exact rfl) ?_; simp only [Act.put, List.setIfInBounds_toArray, List.set_cons_succ, List.set_cons_zero])
      | (refine wpKL_off (by exact rfl) ?_; simp only [Act.put, List.setIfInBounds_toArray, List.set_cons_succ, List.set_cons_zero])
      | (refine wpKL_call (by exact rfl) (by as_aux_lemma => intro W; go_simp; exact ⟨rfl, rfl⟩) (by intro W hK; with_reducible first | exact GF2.out W hK) ?_; simp only [Act.put, List.setIfInBounds_toArray, List.set_cons_succ, List.set_cons_zero]))
    show ∀ W, _ → wpList _ _ _ _ _ _
    intro W3 hK3
    have HK3 := Lib.hid (HK2.out.trans hK3)
    clear hK3 d0 d2
    go_wp2_with fail
    go_ret2
    exact ⟨rfl, HK3.out⟩
end Go.Proofs.Ythnlggecjdifnaa.flowInt
