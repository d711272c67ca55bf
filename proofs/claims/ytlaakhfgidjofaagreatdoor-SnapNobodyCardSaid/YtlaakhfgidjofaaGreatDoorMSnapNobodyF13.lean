/- A whole variable written: what is told of the world behind it, the world being a name of its own. Names no function of the program. -/
import Derived.Test.YtlaakhfgidjofaaGreatDoorMSnapNobodyF1
import Derived.Laws.Tables
import Derived.Deep.MidRow
namespace Go.Proofs.YtlaakhfgidjofaaGreatDoor
set_option linter.unusedVariables false
set_option linter.unusedSimpArgs false
open Go Go.RowKit
theorem kpSetRow {S : Nat → Prop} {a w : World} (h : Kp S a w) {g : Nat} (hg : S g ∨ a.heap.size ≤ g) (cs : Array Value) : Kp S a (w.setRow g cs) :=
  ⟨h.os, h.tape, h.output, by rw [size_setRow]; exact h.size, fun i hi hs => (setRow_other w g i cs (fun e => by subst e; rcases hg with hg | hg; (exact hs hg); omega)).trans (h.block i hi hs)⟩
theorem blkSetRow {w : World} {g : Nat} {old cs : List Value} {t : TypeId} (h : Blk w g old t) : Blk (w.setRow g cs.toArray) g cs t := ⟨setRow_heap w g _ _ t _ h.is⟩
theorem blkSetRowNe {w : World} {g b : Nat} {cs : List Value} {t : TypeId} (h : Blk w b cs t) (hne : b ≠ g) (x : Array Value) : Blk (w.setRow g x) b cs t := ⟨(setRow_other w g b x hne).trans h.is⟩
theorem oneAll {cs : List Value} (h : ∀ v ∈ cs, v.oneCell' = true) : cs.toArray.all (·.oneCell') = true := by
  rw [Array.all_eq_true_iff_forall_mem]; intro x hx; exact h x (by simpa using hx)
theorem wp_set_row {P : Program} {ops : Array Oper} {rest : List Oper} {o : Oper} {a : Act} {Q : Exit → Act → World → Prop} (hgd : o.guard = none) (ty : TypeId) (x y : Operand) (ho : o.op = .store ty x y) {w : World} {g : Nat} {old : List Value} {t : TypeId} (hb : Blk w g old t) (cs : List Value)
    (hx : a.eval x = .pointer (some ⟨g, 0, none⟩)) (hy : a.eval y = .agg cs.toArray) (hi : (P.info? ty).map (·.size) = some cs.length) (hold : old.length = cs.length) (h1 : ∀ v ∈ cs, v.oneCell' = true)
    (h : ∀ W2, Blk W2 g cs t → (∀ b cs' t', Blk w b cs' t' → b ≠ g → Blk W2 b cs' t') → (∀ (S : Nat → Prop) a, Kp S a w → (S g ∨ a.heap.size ≤ g) → Kp S a W2) → wpList P ops Q rest (a.put o.dst undef) W2) : wpList P ops Q (o :: rest) a w :=
  wpList_store_row hgd ty x y ho g cs.toArray hx hy t old.toArray hb.is (by rw [List.size_toArray]; exact hi) (by rw [List.size_toArray, List.size_toArray]; exact hold) (oneAll h1)
    (h _ (blkSetRow hb) (fun _ _ _ k hne => blkSetRowNe k hne _) (fun _ _ k hg => kpSetRow k hg _))
theorem wp_get_row {P : Program} {ops : Array Oper} {rest : List Oper} {o : Oper} {a : Act} {w : World} {Q : Exit → Act → World → Prop} (hgd : o.guard = none) (ty : TypeId) (x : Operand) (ho : o.op = .load ty x) {g : Nat} {cs : List Value} {t : TypeId} (hb : Blk w g cs t) (d : TypeDesc)
    (hx : a.eval x = .pointer (some ⟨g, 0, none⟩)) (hu : P.underlying ty = some d) (hd : (match d with | .struct _ | .array _ _ => true | _ => false) = true) (hi : (P.info? ty).map (·.size) = some cs.length)
    (h : wpList P ops Q rest (a.put o.dst (.agg cs.toArray)) w) : wpList P ops Q (o :: rest) a w :=
  wpList_load_row hgd ty x ho g hx t cs.toArray (0, 0) d hb.is hu hd (by rw [List.size_toArray]; exact hi) h
theorem wp_make_row {P : Program} {ops : Array Oper} {rest : List Oper} {o : Oper} {a : Act} {Q : Exit → Act → World → Prop} (hgd : o.guard = none) (ty : TypeId) (x y : Operand) (ho : o.op = .store ty x y) {w0 : World} {old : List Value} (cs : List Value) {t : TypeId}
    (hx : a.eval x = .pointer (some ⟨w0.heap.size, 0, none⟩)) (hy : a.eval y = .agg cs.toArray) (hi : (P.info? ty).map (·.size) = some cs.length) (hold : old.length = cs.length) (h1 : ∀ v ∈ cs, v.oneCell' = true)
    (h : ∀ W2, Blk W2 w0.heap.size cs t → Kp none' w0 W2 → wpList P ops Q rest (a.put o.dst undef) W2) : wpList P ops Q (o :: rest) a (w0.alloc (.cells old.toArray t)) :=
  wp_set_row hgd ty x y ho (Blk.new w0 old t) cs hx hy hi hold h1 (fun W2 hB _ hK => h W2 hB (hK _ _ ((Kp.refl _ _).alloc _) (.inr (Nat.le_refl _))))
theorem blk_setCells {g : Nat} {t : TypeId} : ∀ (vs : List Value) (o : Nat) (w : World) (old : List Value), Blk w g old t → Blk (w.setCells g o vs) g (setFlat old o vs) t
  | [], _, _, _, h => h
  | v :: r, o, _, _, h => blk_setCells r (o + 1) _ _ (h.set o v)
theorem blk_setCellsNe {g b : Nat} {cs : List Value} {t : TypeId} (hne : b ≠ g) : ∀ (vs : List Value) (o : Nat) (w : World), Blk w b cs t → Blk (w.setCells g o vs) b cs t
  | [], _, _, h => h
  | v :: r, o, _, h => blk_setCellsNe hne r (o + 1) _ (h.setNe (a := ⟨g, o, none⟩) hne v)
theorem kp_setCells {S : Nat → Prop} {a : World} {g : Nat} (hg : S g ∨ a.heap.size ≤ g) : ∀ (vs : List Value) (o : Nat) (w : World), Kp S a w → Kp S a (w.setCells g o vs)
  | [], _, _, h => h
  | v :: r, o, _, h => kp_setCells hg r (o + 1) _ (h.set (p := ⟨g, o, none⟩) hg v)
theorem wp_set_mid {P : Program} {ops : Array Oper} {rest : List Oper} {op : Oper} {a : Act} {Q : Exit → Act → World → Prop} (hgd : op.guard = none) (ty : TypeId) (x y : Operand) (ho : op.op = .store ty x y) {w : World} {g : Nat} {old : List Value} {t : TypeId} (hb : Blk w g old t) (o : Nat) (cs : List Value)
    (hx : a.eval x = .pointer (some ⟨g, o, none⟩)) (hy : a.eval y = .agg cs.toArray) (hi : (P.info? ty).map (·.size) = some cs.length) (hin : o + cs.length ≤ old.length) (h1 : ∀ v ∈ cs, v.oneCell' = true)
    (h : ∀ W2, Blk W2 g (setFlat old o cs) t → (∀ b cs' t', Blk w b cs' t' → b ≠ g → Blk W2 b cs' t') → (∀ (S : Nat → Prop) a, Kp S a w → (S g ∨ a.heap.size ≤ g) → Kp S a W2) → wpList P ops Q rest (a.put op.dst undef) W2) : wpList P ops Q (op :: rest) a w := by
  refine wpList_store_mid hgd ty x y ho g o cs.toArray hx hy ?_ (by rw [List.size_toArray]; exact hi) (oneAll h1) ?_
  · intro j hj
    rw [List.size_toArray] at hj
    refine ⟨?_, hb.fz _⟩
    rw [hb.cell (o + j) (List.getElem?_eq_getElem (show o + j < old.length by omega))]; rfl
  · exact h _ (blk_setCells _ _ _ _ hb) (fun _ _ _ k hne => blk_setCellsNe hne _ _ _ k) (fun _ _ k hg => kp_setCells hg _ _ _ k)
theorem ret_row {P : Program} {f : Func} {s : Tmp} {ty : TypeId} (hf : f.results = #[.cell s ty]) {R : Ending → World → Prop} {W : World} {g : Nat} {cs : List Value} {t : TypeId} {T : Array Value} (hb : Blk W g cs t) (d : TypeDesc) (hu : P.underlying ty = some d) (hd : (match d with | .struct _ | .array _ _ => true | _ => false) = true)
    (hi : (P.info? ty).map (·.size) = some cs.length) (h2 : T.getD s undef = .pointer (some ⟨g, 0, none⟩)) (hR : R (.returned (.agg cs.toArray)) W) : bodyPost P f R Exit.ret { tmps := T, defers := [] } W :=
  bodyPost_ret (v := .agg cs.toArray) (results_cell_row hf T W g t cs.toArray (0, 0) d h2 hb.is hu hd (by rw [List.size_toArray]; exact hi)) rfl hR
theorem ret_row2 {P : Program} {f : Func} {s u : Tmp} {ty : TypeId} (hf : f.results = #[.cell s ty, .tmp u]) {R : Ending → World → Prop} {W : World} {g : Nat} {cs : List Value} {t : TypeId} {T : Array Value} (hb : Blk W g cs t) (d : TypeDesc) (hu : P.underlying ty = some d) (hd : (match d with | .struct _ | .array _ _ => true | _ => false) = true)
    (hi : (P.info? ty).map (·.size) = some cs.length) (h2 : T.getD s undef = .pointer (some ⟨g, 0, none⟩)) (hR : R (.returned (.tuple #[.agg cs.toArray, T.getD u undef])) W) : bodyPost P f R Exit.ret { tmps := T, defers := [] } W := by
  refine bodyPost_ret (v := .tuple #[.agg cs.toArray, T.getD u undef]) ?_ rfl hR
  have h2' : T[s]?.getD undef = .pointer (some ⟨g, 0, none⟩) := by simpa using h2
  simp [results, hf, h2', asAddr, run_loadVar_row W g t ty cs.toArray (0, 0) d hb.is hu hd (by rw [List.size_toArray]; exact hi)]
end Go.Proofs.YtlaakhfgidjofaaGreatDoor
