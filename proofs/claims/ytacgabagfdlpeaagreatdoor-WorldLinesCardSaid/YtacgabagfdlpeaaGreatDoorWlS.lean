/- Layer 42: the law's walk. -/
import Derived.Test.YtacgabagfdlpeaaGreatDoorWlR
import Derived.ChangeMaps5
namespace Go.Proofs.YtacgabagfdlpeaaGreatDoor
set_option linter.unusedVariables false
set_option linter.unusedSimpArgs false
open Go Go.RowKit Go.Shelf
theorem load_ever {w0 : World} {ty : TypeId} {o : Oper} {x : Operand} {a : Act} {b : Nat} {v : Value} (ho : o.op = .load ty x) (hx : a.eval x = .pointer (some ⟨b, 0, none⟩))
    (h : ∀ W, Kp none' w0 W → (Instr.loadAt ty (.pointer (some ⟨b, 0, none⟩))).run Tryz.prog W = .ok v W) : ∀ W, Kp none' w0 W → (execOp a.eval o).run Tryz.prog W = .ok (.value v) W := fun W hK => by
  have h2 := h W hK
  unfold execOp
  simp only [ho, hx, Sem.run_bind, Sem.run_pure, Result.andThen_ok, h2]
set_option maxRecDepth 100000 in
set_option maxHeartbeats 2000000 in
theorem wLaw (r : RpF) (hr : r.ok) (w : World) (hx : MX w) : Calls Tryz.prog 3 #[.agg (enRp r).toArray] w fun e w' => e = .returned (.bool true) ∧ Kp none' w w' := by
  have M1 := Lib.hid (fun W => wLineR r hr W)
  have M2 := Lib.hid (fun W => rLineR r hr W)
  have HK0 := Lib.hid ((Kp.refl none' w).alloc (.cells (enRp r).toArray 31))
  have M3 : Hid (∀ W, Kp none' (w.alloc (.cells (enRp r).toArray 31)) W → Calls Tryz.prog 6 #[] W fun e w' => e = .returned (.bool true) ∧ Kp none' W w') := fun W hK => wLives W (MX.kp hx (HK0.out.trans hK))
  have HLD : Hid (∀ W, Kp none' (w.alloc (.cells (enRp r).toArray 31)) W → (Instr.loadAt 31 (.pointer (some ⟨w.heap.size, 0, none⟩))).run Tryz.prog W = .ok (.agg (enRp r).toArray) W) := fun W hK =>
    run_loadAt_mid W w.heap.size 0 31 (enRp r) _ (fun j v hv => hK.cell (by rw [Nat.zero_add]; exact (Blk.new w (enRp r) _).cell j hv) id) Tryz.underlying31 rfl (infoRp hr)
  obtain ⟨s, hs⟩ : ∃ s, tx (lineT r) = s := ⟨_, rfl⟩
  rw [hs] at M1 M2
  clear hs hx hr
  generalize enRp r = cs at *
  go_enter Tryz.func3, Tryz.ntmps3
  go_wp2_with fail
  refine wp_region_kept2 [] [0, 1, 2, 3, 4, 5, 6, 7] 8 (by kernel_rfl) (by kernel_rfl) (fun c a d u w h => by cases d <;> exact h) ?_
  simp only [pick, List.getElem?_cons_succ, List.getElem?_cons_zero, List.drop_succ_cons, List.drop_zero]
  show wpKL _ _ _ _ _ _
  repeat (first
    | (refine wpKL_op (by exact rfl) (load_ever rfl rfl HLD.out) ?_; simp only [Act.put, List.setIfInBounds_toArray, List.set_cons_succ, List.set_cons_zero])
    | (refine wpKL_op (by exact rfl) (by as_aux_lemma => intro W hK; go_simp; exact rfl) ?_; simp only [Act.put, List.setIfInBounds_toArray, List.set_cons_succ, List.set_cons_zero])
    | (refine wpKL_off (by exact rfl) ?_; simp only [Act.put, List.setIfInBounds_toArray, List.set_cons_succ, List.set_cons_zero])
    | (refine wpKL_call (by exact rfl) (by as_aux_lemma => intro W; go_simp; exact ⟨rfl, rfl⟩) (by intro W hK; with_reducible first | exact M1.out W | exact M2.out W | exact M3.out W hK) ?_; simp only [Act.put, List.setIfInBounds_toArray, List.set_cons_succ, List.set_cons_zero]))
  show ∀ W, _ → wpList _ _ _ _ _ _
  intro W2 hK2
  have HK2 := Lib.hid (HK0.out.trans hK2)
  clear hK2
  go_wp2
  go_ret
  exact ⟨rfl, HK2.out⟩
def zArgs : Array Value := (enRp (zRp 0 0 0 0 0 0)).toArray
theorem mx_of {w : World} (h : w.ShapedOpen Tryz.prog) : MX w := Tryz.laysM146.s1_3 w h
end Go.Proofs.YtacgabagfdlpeaaGreatDoor
