/- A whole variable written: what is told of the world behind it, the world being a name of its own. Names no function of the program. -/
import Derived.Test.YtjhghagmnkjpkaaGreatMShaperNobodyF1
import Derived.Laws.Tables
import Derived.Deep.MidRow
import Derived.Test.YtjhghagmnkjpkaaGreatMShaperNobodyF0
import Derived.StillTail
namespace Go.Proofs.YtjhghagmnkjpkaaGreat
set_option linter.unusedVariables false
set_option linter.unusedSimpArgs false
open Go Go.RowKit

theorem kpSetRow {S : Nat → Prop} {a w : World} (h : Kp S a w) {g : Nat} (hg : S g ∨ a.heap.size ≤ g) (cs : Array Value) : Kp S a (w.setRow g cs) :=
  ⟨h.os, h.tape, h.output, by rw [size_setRow]; exact h.size, fun i hi hs => (setRow_other w g i cs (fun e => by subst e; rcases hg with hg | hg; (exact hs hg); omega)).trans (h.block i hi hs)⟩
theorem blkSetRow {w : World} {g : Nat} {old cs : List Value} {t : TypeId} (h : Blk w g old t) : Blk (w.setRow g cs.toArray) g cs t := ⟨setRow_heap w g _ _ t _ h.is⟩
theorem blkSetRowNe {w : World} {g b : Nat} {cs : List Value} {t : TypeId} (h : Blk w b cs t) (hne : b ≠ g) (x : Array Value) : Blk (w.setRow g x) b cs t := ⟨(setRow_other w g b x hne).trans h.is⟩
theorem oneAll {cs : List Value} (h : ∀ v ∈ cs, v.oneCell' = true) : cs.toArray.all (·.oneCell') = true := by
  rw [Array.all_eq_true_iff_forall_mem]; intro x hx; exact h x (by simpa using hx)
/-- The variable in block g is written whole. -/
theorem wp_set_row {P : Program} {ops : Array Oper} {rest : List Oper} {o : Oper} {a : Act} {Q : Exit → Act → World → Prop} (hgd : o.guard = none) (ty : TypeId) (x y : Operand) (ho : o.op = .store ty x y) {w : World} {g : Nat} {old : List Value} {t : TypeId} (hb : Blk w g old t) (cs : List Value)
    (hx : a.eval x = .pointer (some ⟨g, 0, none⟩)) (hy : a.eval y = .agg cs.toArray) (hi : (P.info? ty).map (·.size) = some cs.length) (hold : old.length = cs.length) (h1 : ∀ v ∈ cs, v.oneCell' = true)
    (h : ∀ W2, Blk W2 g cs t → (∀ b cs' t', Blk w b cs' t' → b ≠ g → Blk W2 b cs' t') → (∀ (S : Nat → Prop) a, Kp S a w → (S g ∨ a.heap.size ≤ g) → Kp S a W2) → wpList P ops Q rest (a.put o.dst undef) W2) : wpList P ops Q (o :: rest) a w :=
  wpList_store_row hgd ty x y ho g cs.toArray hx hy t old.toArray hb.is (by rw [List.size_toArray]; exact hi) (by rw [List.size_toArray, List.size_toArray]; exact hold) (oneAll h1)
    (h _ (blkSetRow hb) (fun _ _ _ k hne => blkSetRowNe k hne _) (fun _ _ k hg => kpSetRow k hg _))
/-- A variable read whole. -/
theorem wp_get_row {P : Program} {ops : Array Oper} {rest : List Oper} {o : Oper} {a : Act} {w : World} {Q : Exit → Act → World → Prop} (hgd : o.guard = none) (ty : TypeId) (x : Operand) (ho : o.op = .load ty x) {g : Nat} {cs : List Value} {t : TypeId} (hb : Blk w g cs t) (d : TypeDesc)
    (hx : a.eval x = .pointer (some ⟨g, 0, none⟩)) (hu : P.underlying ty = some d) (hd : (match d with | .struct _ | .array _ _ => true | _ => false) = true) (hi : (P.info? ty).map (·.size) = some cs.length)
    (h : wpList P ops Q rest (a.put o.dst (.agg cs.toArray)) w) : wpList P ops Q (o :: rest) a w :=
  wpList_load_row hgd ty x ho g hx t cs.toArray (0, 0) d hb.is hu hd (by rw [List.size_toArray]; exact hi) h
/-- A new variable, written whole at once. -/
theorem wp_make_row {P : Program} {ops : Array Oper} {rest : List Oper} {o : Oper} {a : Act} {Q : Exit → Act → World → Prop} (hgd : o.guard = none) (ty : TypeId) (x y : Operand) (ho : o.op = .store ty x y) {w0 : World} {old : List Value} (cs : List Value) {t : TypeId}
    (hx : a.eval x = .pointer (some ⟨w0.heap.size, 0, none⟩)) (hy : a.eval y = .agg cs.toArray) (hi : (P.info? ty).map (·.size) = some cs.length) (hold : old.length = cs.length) (h1 : ∀ v ∈ cs, v.oneCell' = true)
    (h : ∀ W2, Blk W2 w0.heap.size cs t → Kp none' w0 W2 → wpList P ops Q rest (a.put o.dst undef) W2) : wpList P ops Q (o :: rest) a (w0.alloc (.cells old.toArray t)) :=
  wp_set_row hgd ty x y ho (Blk.new w0 old t) cs hx hy hi hold h1 (fun W2 hB _ hK => h W2 hB (hK _ _ ((Kp.refl _ _).alloc _) (.inr (Nat.le_refl _))))
theorem blk_setCells {g : Nat} {t : TypeId} : ∀ (vs : List Value) (o : Nat) (w : World) (old : List Value), Blk w g old t → Blk (w.setCells g o vs) g (setFlat old o vs) t
  | [], _, _, _, h => h
  | v :: r, o, _, _, h => blk_setCells r (o + 1) _ _ (h.set o v)
theorem blk_setCellsNe {g b : Nat} {cs : List Value} {t : TypeId} (hne : b ≠ g) : ∀ (vs : List Value) (o : Nat) (w : World), Blk w b cs t → Blk (w.setCells g o vs) b cs t
  | [], _, _, h => h
  | v :: r, o, _, h => blk_setCellsNe hne r (o + 1) _ (h.setNe (a := ⟨g, o, none⟩) hne v)
theorem kp_setCells {S : Nat → Prop} {a : World} {g : Nat} (hg : S g ∨ a.heap.size ≤ g) : ∀ (vs : List Value) (o : Nat) (w : World), Kp S a w → Kp S a (w.setCells g o vs)
  | [], _, _, h => h
  | v :: r, o, _, h => kp_setCells hg r (o + 1) _ (h.set (p := ⟨g, o, none⟩) hg v)
/-- A thing written among others that lie in one block. -/
theorem wp_set_mid {P : Program} {ops : Array Oper} {rest : List Oper} {op : Oper} {a : Act} {Q : Exit → Act → World → Prop} (hgd : op.guard = none) (ty : TypeId) (x y : Operand) (ho : op.op = .store ty x y) {w : World} {g : Nat} {old : List Value} {t : TypeId} (hb : Blk w g old t) (o : Nat) (cs : List Value)
    (hx : a.eval x = .pointer (some ⟨g, o, none⟩)) (hy : a.eval y = .agg cs.toArray) (hi : (P.info? ty).map (·.size) = some cs.length) (hin : o + cs.length ≤ old.length) (h1 : ∀ v ∈ cs, v.oneCell' = true)
    (h : ∀ W2, Blk W2 g (setFlat old o cs) t → (∀ b cs' t', Blk w b cs' t' → b ≠ g → Blk W2 b cs' t') → (∀ (S : Nat → Prop) a, Kp S a w → (S g ∨ a.heap.size ≤ g) → Kp S a W2) → wpList P ops Q rest (a.put op.dst undef) W2) : wpList P ops Q (op :: rest) a w := by
  refine wpList_store_mid hgd ty x y ho g o cs.toArray hx hy ?_ (by rw [List.size_toArray]; exact hi) (oneAll h1) ?_
  · intro j hj
    rw [List.size_toArray] at hj
    refine ⟨?_, hb.fz _⟩
    rw [hb.cell (o + j) (List.getElem?_eq_getElem (show o + j < old.length by omega))]; rfl
  · exact h _ (blk_setCells _ _ _ _ hb) (fun _ _ _ k hne => blk_setCellsNe hne _ _ _ k) (fun _ _ k hg => kp_setCells hg _ _ _ k)
/-- A value built, what it is being known. -/
theorem wp_built {P : Program} {ops : Array Oper} {rest : List Oper} {o : Oper} {a : Act} {w : World} {Q : Exit → Act → World → Prop} (hgd : o.guard = none) (t : TypeId) (parts : Array (Nat × Operand)) (ho : o.op = .build t parts) (v : Value)
    (h1 : (Instr.build t (parts.map fun (i, x) => (i, a.eval x))).run P w = .ok v w) (h : wpList P ops Q rest (a.put o.dst v) w) : wpList P ops Q (o :: rest) a w :=
  wpList_plain hgd fun _ hK => by
    unfold Oper.wp execOp
    simp only [ho, Sem.run_bind, h1, Result.andThen_ok, Sem.run_pure]
    exact hK _ _ h
theorem wp_builtS {P : Program} {ops : Array Oper} {rest : List Oper} {o : Oper} {a : Act} {w : World} {Q : Exit → Act → World → Prop} (hgd : o.guard = none) (t : TypeId) (n : Nat) (parts : Array (Nat × Operand)) (ho : o.op = .buildSlice t n parts) (v : Value) (w2 : World)
    (h1 : (Instr.buildSlice t n (parts.map fun (i, x) => (i, a.eval x))).run P w = .ok v w2) (h : wpList P ops Q rest (a.put o.dst v) w2) : wpList P ops Q (o :: rest) a w :=
  wpList_plain hgd fun _ hK => by
    unfold Oper.wp execOp
    simp only [ho, Sem.run_bind, h1, Result.andThen_ok, Sem.run_pure]
    exact hK _ _ h
/-- A result that lies in a variable, handed back. -/
theorem ret_row {P : Program} {f : Func} {s : Tmp} {ty : TypeId} (hf : f.results = #[.cell s ty]) {R : Ending → World → Prop} {W : World} {g : Nat} {cs : List Value} {t : TypeId} {T : Array Value} (hb : Blk W g cs t) (d : TypeDesc) (hu : P.underlying ty = some d) (hd : (match d with | .struct _ | .array _ _ => true | _ => false) = true)
    (hi : (P.info? ty).map (·.size) = some cs.length) (h2 : T.getD s undef = .pointer (some ⟨g, 0, none⟩)) (hR : R (.returned (.agg cs.toArray)) W) : bodyPost P f R Exit.ret { tmps := T, defers := [] } W :=
  bodyPost_ret (v := .agg cs.toArray) (results_cell_row hf T W g t cs.toArray (0, 0) d h2 hb.is hu hd (by rw [List.size_toArray]; exact hi)) rfl hR
/-- Two results: a variable's contents, and another value. -/
theorem ret_row2 {P : Program} {f : Func} {s u : Tmp} {ty : TypeId} (hf : f.results = #[.cell s ty, .tmp u]) {R : Ending → World → Prop} {W : World} {g : Nat} {cs : List Value} {t : TypeId} {T : Array Value} (hb : Blk W g cs t) (d : TypeDesc) (hu : P.underlying ty = some d) (hd : (match d with | .struct _ | .array _ _ => true | _ => false) = true)
    (hi : (P.info? ty).map (·.size) = some cs.length) (h2 : T.getD s undef = .pointer (some ⟨g, 0, none⟩)) (hR : R (.returned (.tuple #[.agg cs.toArray, T.getD u undef])) W) : bodyPost P f R Exit.ret { tmps := T, defers := [] } W := by
  refine bodyPost_ret (v := .tuple #[.agg cs.toArray, T.getD u undef]) ?_ rfl hR
  have h2' : T[s]?.getD undef = .pointer (some ⟨g, 0, none⟩) := by simpa using h2
  simp [results, hf, h2', asAddr, run_loadVar_row W g t ty cs.toArray (0, 0) d hb.is hu hd (by rw [List.size_toArray]; exact hi)]
end Go.Proofs.YtjhghagmnkjpkaaGreat

namespace Go.Proofs.YtjhghagmnkjpkaaGreat
set_option linter.unusedVariables false
set_option linter.unusedSimpArgs false
open Go Go.RowKit

/-- In every world the operation yields v: by itself, or by a call that leaves the world alone. -/
def Ever (P : Program) (ops : Array Oper) (o : Oper) (v : Value) (a : Act) : Prop :=
  (Region.wanted o (yielded ops a.tmps) = true ∧ ∀ w, (execOp a.eval o).run P w = .ok (.value v) w ∨ ∃ f args, (execOp a.eval o).run P w = .ok (.enter f args) w ∧ Calls P f args w fun e w' => e = .returned v ∧ w = w') ∨
  (Region.wanted o (yielded ops a.tmps) = false ∧ v = undef)

variable {P : Program} {ops : Array Oper} {Q : Exit → Act → World → Prop} {md : Region.Mode}

theorem Ever.wpOp {i : Nat} {o : Oper} {v : Value} {a : Act} (hi : ops[i]? = some o) (hy : Ever P ops o v a) {K : Act → World → Prop} {w : World} (h : K (a.put o.dst v) w) : Go.wpOp P ops Q i K a w := by
  unfold Go.wpOp
  simp only [hi]
  rcases hy with ⟨hw, hv⟩ | ⟨hw, rfl⟩
  · rw [if_pos hw]
    refine .inl ?_
    unfold Oper.wp
    rcases hv w with e | ⟨f, args, e, hc⟩
    · rw [e]; exact h
    · rw [e]
      refine Calls.mono hc fun x w' hx => ?_
      obtain ⟨rfl, rfl⟩ := hx
      exact h
  · rw [if_neg (by rw [hw]; simp)]; exact h
theorem Ever.alike {o : Oper} {v : Value} {a a' : Act} (hy : Ever P ops o v a) (he : execOp a'.eval o = execOp a.eval o) (hw : Region.wanted o (yielded ops a'.tmps) = Region.wanted o (yielded ops a.tmps)) : Ever P ops o v a' := by
  unfold Ever at *; rw [he, hw]; exact hy
/-- What another operation does behind it, it does ahead of it. -/
theorem Ever.swap {j : Nat} {oi oj : Oper} {v : Value} (hj : ops[j]? = some oj) (hap : oi.apart ops oj = true) (hsi : ∀ cs b, oi.op ≠ .select cs b) (hsj : ∀ cs b, oj.op ≠ .select cs b)
    (hQ : ∀ c a d u w, Q (.panic c) (Act.put a d u) w → Q (.panic c) a w) {K : Act → World → Prop} {a : Act} {w : World} (hy : Ever P ops oi v a) (h : Go.wpOp P ops Q j K (a.put oi.dst v) w) :
    Go.wpOp P ops Q j (fun a' w' => Ever P ops oi v a' ∧ K (a'.put oi.dst v) w') a w := by
  obtain ⟨h1, h2, h3⟩ := Oper.apart_spec hap
  have stays : ∀ (b : Act), Ever P ops oi v b → ∀ u, Ever P ops oi v (b.put oj.dst u) := fun b hb u => hb.alike (execOp_put oi hsi b oj.dst u h3) (wanted_put oi b oj.dst u h3)
  have staysD : ∀ d, Ever P ops oi v { a with defers := d :: a.defers } := fun d => hy.alike rfl rfl
  unfold Go.wpOp at *
  simp only [hj] at *
  rw [wanted_put oj a oi.dst v h1] at h
  by_cases hw : Region.wanted oj (yielded ops a.tmps) = true
  · rw [if_pos hw] at h ⊢
    rcases h with h | ⟨g1, g2⟩
    · refine .inl ?_
      unfold Oper.wp at *
      rw [execOp_put oj hsj a oi.dst v h1] at h
      generalize (execOp a.eval oj).run P w = r at *
      match r, h with
      | .ok (.value u) w', h => exact ⟨stays a hy u, by rw [← Act.put_comm a v u h2]; exact h⟩
      | .ok .skip w', h => exact ⟨stays a hy _, by rw [← Act.put_comm a v undef h2]; exact h⟩
      | .ok (.defer d) w', h => exact ⟨stays _ (staysD d) _, by rw [← Act.put_comm _ v undef h2, ← Act.put_defers]; exact h⟩
      | .ok (.row row args) w', h => exact Rows.mono h fun u w'' he => ⟨stays a hy u, by rw [← Act.put_comm a v u h2]; exact he⟩
      | .ok (.enter f args) w', h =>
        refine Calls.mono h fun e w'' he => ?_
        match e, he with
        | .returned u, he => exact ⟨stays a hy u, by rw [← Act.put_comm a v u h2]; exact he⟩
        | .panicked c, he => exact hQ _ _ _ _ _ he
        | .outgrown, he => exact he
      | .halt (.panic u) w', h => exact hQ _ _ _ _ _ h
    · exact .inr ⟨by unfold Oper.asks at *; rw [execOp_put oj hsj a oi.dst v h1] at g1; exact g1, g2⟩
  · rw [if_neg hw] at h ⊢
    exact ⟨stays a hy _, by rw [← Act.put_comm a v undef h2]; exact h⟩

theorem listed_on {listed : Array Bool} {i : Nat} (h0 : listed.getD i true = false) (h1 : listed.getD i false = true) : False := by
  rcases Nat.lt_or_ge i listed.size with h | h
  · simp [h] at h0 h1; rw [h0] at h1; cases h1
  · simp [Array.getElem?_eq_none h] at h1
/-- Such an operation, if it is ready, may be taken first. -/
theorem wpAny_ever {i : Nat} {oi : Oper} {v : Value} (hi : ops[i]? = some oi) (hsel : ∀ (j : Nat) (o : Oper) cs b, ops[j]? = some o → o.op ≠ .select cs b) (hQ : ∀ c a d u w, Q (.panic c) (Act.put a d u) w → Q (.panic c) a w) :
    ∀ (fuel : Nat) (listed : Array Bool) (a : Act) (w : World),
      (∀ j oj, ops[j]? = some oj → j ≠ i → listed.getD j true = false → (∀ e ∈ oj.after, Region.binds md e = true → e.on ≠ i) → oi.apart ops oj = true) →
      i ∈ Region.ready md ops listed → Ever P ops oi v a → wpAny P md ops Q fuel (listed.setIfInBounds i true) (a.put oi.dst v) w → wpAny P md ops Q (fuel + 1) listed a w
  | 0, listed, a, w, _, hr, hy, H => by
    refine ⟨fun h => (by rw [h] at hr; cases hr), fun j hj => ?_⟩
    by_cases hji : j = i
    · subst hji; exact hy.wpOp hi H
    · have := ready_mono hj hji
      rw [H.1] at this; cases this
  | fuel + 1, listed, a, w, hfree, hr, hy, H => by
    refine ⟨fun h => (by rw [h] at hr; cases hr), fun j hj => ?_⟩
    by_cases hji : j = i
    · subst hji; exact hy.wpOp hi H
    · have h1 := H.2 j (ready_mono hj hji)
      obtain ⟨hjun, oj, hoj, hall⟩ := mem_ready.1 hj
      have hnot : ∀ e ∈ oj.after, Region.binds md e = true → e.on ≠ i := fun e he hb heq => listed_on (mem_ready.1 hr).1 (heq ▸ hall e he hb)
      have h2 := Ever.swap hoj (hfree j oj hoj hji hjun hnot) (fun cs b => hsel i oi cs b hi) (fun cs b => hsel j oj cs b hoj) hQ hy h1
      refine wpOp_mono (fun a' w' h3 => wpAny_ever hi hsel hQ fuel (listed.setIfInBounds j true) a' w' (fun k ok hk hki hun hno => hfree k ok hk hki ?_ hno) (ready_mono hr (Ne.symm hji)) h3.1 ?_) h2
      · by_cases hjk : j = k
        · subst hjk; exact hjun
        · rwa [getD_set_ne true hjk] at hun
      · rw [Array.setIfInBounds_comm _ _ hji]; exact h3.2

/-- The first operations, one behind the other, each the same in every world. -/
def wpHeads (P : Program) (ops : Array Oper) (C : Act → Prop) : List Oper → Act → Prop
  | [], a => C a
  | o :: rest, a => ∃ v, Ever P ops o v a ∧ wpHeads P ops C rest (a.put o.dst v)
theorem wpHeads_op {C : Act → Prop} {o : Oper} {rest : List Oper} {a : Act} {v : Value} (hw : Region.wanted o (yielded ops a.tmps) = true) (h1 : ∀ W, (execOp a.eval o).run P W = .ok (.value v) W) (h2 : wpHeads P ops C rest (a.put o.dst v)) : wpHeads P ops C (o :: rest) a :=
  ⟨v, .inl ⟨hw, fun W => .inl (h1 W)⟩, h2⟩
theorem wpHeads_call {C : Act → Prop} {o : Oper} {rest : List Oper} {a : Act} {v : Value} {f : FuncId} {args : Array Value} (hw : Region.wanted o (yielded ops a.tmps) = true) (h1 : ∀ W, (execOp a.eval o).run P W = .ok (.enter f args) W)
    (hc : ∀ W, Calls P f args W fun e w' => e = .returned v ∧ W = w') (h2 : wpHeads P ops C rest (a.put o.dst v)) : wpHeads P ops C (o :: rest) a :=
  ⟨v, .inl ⟨hw, fun W => .inr ⟨f, args, h1 W, hc W⟩⟩, h2⟩
theorem wpHeads_off {C : Act → Prop} {o : Oper} {rest : List Oper} {a : Act} (hw : Region.wanted o (yielded ops a.tmps) = false) (h2 : wpHeads P ops C rest (a.put o.dst undef)) : wpHeads P ops C (o :: rest) a :=
  ⟨undef, .inr ⟨hw, rfl⟩, h2⟩
def headsB (md : Region.Mode) (ops : Array Oper) (g : Nat) : Nat → Nat → Array Bool → Bool
  | 0, k, listed => Region.seqB md ops g k listed
  | m + 1, k, listed => (Region.ready md ops listed).contains k && Region.free md ops listed k && headsB md ops g m (k + 1) (listed.setIfInBounds k true)
theorem wpAny_heads {g : Nat} {C : Act → Prop} {w : World} (hs : Region.noSelect ops = true) (hQ : ∀ c a d u w, Q (.panic c) (Act.put a d u) w → Q (.panic c) a w)
    (hC : ∀ k listed a, Region.seqB md ops g k listed = true → k + g = ops.size → C a → wpAny P md ops Q g listed a w) :
    ∀ (l : List Oper) (k : Nat) (listed : Array Bool) (a : Act), (∀ j, j < l.length → l[j]? = ops[k + j]?) → k + l.length + g = ops.size → headsB md ops g l.length k listed = true → wpHeads P ops C l a → wpAny P md ops Q (l.length + g) listed a w
  | [], k, listed, a, _, hk, hB, h => by
    have := hC k listed a hB (by simpa using hk) h
    simpa using this
  | o :: l, k, listed, a, hl, hk, hB, h => by
    obtain ⟨v, hv, hr⟩ := h
    have h0 : ops[k]? = some o := by simpa using (hl 0 (by simp)).symm
    simp only [List.length_cons, headsB, Bool.and_eq_true] at hB
    obtain ⟨⟨b1, b2⟩, b3⟩ := hB
    have := wpAny_heads hs hQ hC l (k + 1) (listed.setIfInBounds k true) (a.put o.dst v) (fun j hj => by have := hl (j + 1) (by simpa using hj); rw [List.getElem?_cons_succ] at this; rw [this]; congr 1; omega) (by simp at hk; omega) b3 hr
    rw [List.length_cons, show l.length + 1 + g = (l.length + g) + 1 by omega]
    exact wpAny_ever h0 (Region.noSelect_spec hs) hQ _ _ _ _ (Region.free_spec h0 b2) (by simpa using b1) hv this
/-- A region whose first n operations are the same in every world. -/
theorem wp_region_heads {id : Nat} {a : Act} {w : World} {l : List Oper} (n g : Nat) (hm : P.follows .mixedOrders = true) (hn : n + g = l.length) (hs : Region.noSelect l.toArray = true) (hB : headsB .any l.toArray g n 0 (Array.replicate l.toArray.size false) = true)
    (hQ : ∀ c a d u w, Q (.panic c) (Act.put a d u) w → Q (.panic c) a w) (h : wpHeads P l.toArray (fun a' => wpList P l.toArray Q (l.drop n) a' w.drew) (l.take n) a) : (Code.region id l.toArray true).wp P Q a w := by
  refine wp_region_any hm ?_
  have htl : (l.take n).length = n := by rw [List.length_take]; omega
  have := wpAny_heads (w := w.drew) hs hQ (C := fun a' => wpList P l.toArray Q (l.drop n) a' w.drew) (g := g) (fun k listed a hq hk hc => by
    have hkn : k = n := by simp at hk; omega
    subst hkn
    have hdl : (l.drop k).length = g := by rw [List.length_drop]; omega
    have h1 := wpAny_of_seq (P := P) (md := .any) (ops := l.toArray) (Q' := Q) (l.drop k) k listed a w.drew (fun j => by simp) (by rw [hdl]; exact hq) hc
    rwa [hdl] at h1) (l.take n) 0 (Array.replicate l.toArray.size false) a (fun j hj => by
      rw [htl] at hj
      simp [hj]) (by rw [htl]; simp; omega) (by rw [htl]; exact hB) h
  rw [htl, hn] at this
  simpa using this
end Go.Proofs.YtjhghagmnkjpkaaGreat
