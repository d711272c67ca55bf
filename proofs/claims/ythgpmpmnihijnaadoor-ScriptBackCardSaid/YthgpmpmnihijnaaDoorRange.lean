/- 'for x := range f { .. }' at the wide fence: what an iterator tells, and a loop that is not left early. Names no function of the program. -/
import Derived.Test.YthgpmpmnihijnaaDoorBase
import Derived.RangeFuncOwn
import Derived.RangeFuncBound
import Derived.RangeFuncCalls
import Derived.OwnWalkIn
import Derived.TacticsInMore
import Derived.LoopNIn
import Derived.LoopIn
import Derived.Shelf.Abstract
namespace Go.Proofs.YthgpmpmnihijnaaDoor
set_option linter.unusedVariables false
set_option linter.unusedSimpArgs false
open Go.RowKit Go.Shelf

/-- All cells are as they were. -/
structure NC (A B : World) : Prop where
  os : B.os = A.os
  tape : B.tape = A.tape
  output : B.output = A.output
  size : A.heap.size ≤ B.heap.size
  cells : ∀ (b : Nat) (cs : Array Value) (t : TypeId) (fr : Nat × Nat), A.heap[b]? = some (.cells cs t fr) → B.heap[b]? = some (.cells cs t fr)
theorem NC.refl (A : World) : NC A A := ⟨rfl, rfl, rfl, Nat.le_refl _, fun _ _ _ _ h => h⟩
theorem NC.trans {A B C : World} (h : NC A B) (k : NC B C) : NC A C :=
  ⟨k.os.trans h.os, k.tape.trans h.tape, k.output.trans h.output, Nat.le_trans h.size k.size, fun b cs t fr e => k.cells b cs t fr (h.cells b cs t fr e)⟩
theorem NC.of_kp {A B : World} (h : Kp none' A B) : NC A B :=
  ⟨h.os, h.tape, h.output, h.size, fun b _ _ _ e => (h.block b (Array.getElem?_eq_some_iff.1 e).1 id).trans e⟩
theorem NC.put {A : World} {l : Nat} {o : Obj} (o' : Obj) (hl : A.heap[l]? = some o) (ho : o.isCells = false) : NC A (A.putObj l o') :=
  ⟨rfl, rfl, rfl, by simp, fun b cs t fr e => by
    by_cases hb : b = l
    · subst hb; rw [hl] at e; cases e; cases ho
    · exact (World.putObj_heap_other hb).trans e⟩
theorem Kp.put {S : Nat → Prop} {a w : World} (h : Kp S a w) {l : Nat} (hl : S l ∨ a.heap.size ≤ l) (o : Obj) : Kp S a (w.putObj l o) :=
  ⟨h.os, h.tape, h.output, by simp; exact h.size, fun i hi hs => (World.putObj_heap_other (fun e => by subst e; rcases hl with hl | hl; (exact hs hl); omega)).trans (h.block i hi hs)⟩
theorem Blk.nc {A B : World} {b : Nat} {cs : List Value} {t : TypeId} (h : Blk A b cs t) (k : NC A B) : Blk B b cs t := ⟨k.cells b _ _ _ h.is⟩
theorem own_nc {A B : World} {base : Nat} {e : TypeId} {size : Nat} {v : Value} {n : Nat} {xs : List Value} (h : A.ownsRow base e size v n xs) (k : NC A B) : B.ownsRow base e size v n xs := by
  refine ⟨h.1, ?_⟩
  rcases h.2 with h | ⟨g, cap, cur, hv, hg, hh, r⟩
  · exact .inl h
  · exact .inr ⟨g, cap, cur, hv, hg, k.cells g _ _ _ hh, r⟩
theorem NC.cell {A B : World} (k : NC A B) {a : Addr} {v : Value} (h : A.cell? a = some v) : B.cell? a = some v := by
  obtain ⟨o, ho, hc⟩ := cells_of_cell h
  cases o with
  | cells cs t fr => exact (World.cell?_of_block ((k.cells _ _ _ _ ho).trans ho.symm)).trans h
  | _ => cases hc
theorem Sl.nc {A B : World} {v : Value} {n sz : Nat} {cs : List Value} (h : Sl A v n sz cs) (k : NC A B) : Sl B v n sz cs := by
  obtain ⟨ao, cap, rfl, hc⟩ := h.is
  refine ⟨h.len, h.max, ao, cap, rfl, fun i u hu => ?_⟩
  obtain ⟨b, off, rfl, hcell⟩ := hc i u hu
  exact ⟨b, off, rfl, k.cell hcell⟩

/-- 'append(s, x)' within a round or an iterator. -/
theorem wpIn_app1 {F : Fence} {nn : Nat} {P : Program} {t e : TypeId} {z : Value} {size bytes : Nat} (T : SlT P t e z size bytes) {ops : Array Oper} {rest : List Oper} {o : Oper} {a : Act} {Q : Exit → Act → World → Prop} {w : World} (s x : Operand)
    (hgd : o.guard = none) (ho : o.op = .call { callee := .builtin .append, args := #[s, x], argTypes := #[t, t] }) (base : Nat) {v : Value} {n : Nat} {xs : List Value} (hown : w.ownsRow base e size v n xs)
    {b c : Nat} (news : List Value) (hs : a.eval s = v) (hx : a.eval x = .slice (some ⟨b, 0, none⟩) 1 c) (hl : news.length = size) {fr : Nat × Nat} (hblk : w.heap[b]? = some (.cells news.toArray e fr)) (h1 : news.all (·.oneCell') = true)
    (hbytes : (n + 1) * bytes ≤ 140737488355328) (h63 : n < 9223372036854775807) (hbase : base ≤ w.heap.size)
    (h : ∀ g cap w', w'.ownsRow base e size (.slice (some ⟨g, 0, none⟩) (n + 1) cap) (n + 1) (xs ++ news) → w.grownBy w' v.ownBlock → wpListIn F nn P ops Q rest (a.put o.dst (.slice (some ⟨g, 0, none⟩) (n + 1) cap)) w') : wpListIn F nn P ops Q (o :: rest) a w := by
  obtain ⟨i, hi, hz0, hz1, hz2⟩ := info_parts T.info
  refine wpListIn_append_own w hgd s x t ho base e i z size bytes T.ht hi hz0 hz1 hz2 T.hz T.pos v n xs hs hown ⟨b, 0, none⟩ 1 c news hx (by simpa using hl) ?_ (by simpa using h1) (by unfold maxLen; omega) hbytes hbase ?_
  · intro j u hu
    have e : (⟨b, 0, none⟩ : Addr).add j = ⟨b, j, none⟩ := by unfold Addr.add; split <;> simp_all
    rw [e]; simp [World.cell?, hblk, hu]
  · intro v' w' hown' hg hnil
    rcases hown'.2 with ⟨_, h0⟩ | ⟨g, cap, cur, rfl, _⟩
    · omega
    · exact h g cap w' hown' hg
theorem own_cells {w w' : World} {base : Nat} {e : TypeId} {size : Nat} {v : Value} {n : Nat} {xs : List Value} (h : w.ownsRow base e size v n xs) (hg : w.grownBy w' v.ownBlock) : KeepsOthers w w' := by
  refine KeepsOthers.of_grownBy hg (fun j o ej ho => ?_)
  rcases h.2 with ⟨rfl, _⟩ | ⟨g, cap, cur, rfl, _, hh, _⟩
  · cases ej
  · cases ej; rw [hh] at ho; cases ho; rfl

/-- THE ITERATOR's CONTRACT: called with yield it tells the elements of xs, each in a round that says 'more' and writes to S (and to what is new) alone. -/
def Tells {α : Type} (P : Program) (gf : FuncId) (mk : Value → Array Value) (encs : α → Array Value) (xs : List α) (S : Nat → Prop) (w : World) : Prop :=
  ∀ (l : Nat) (J : List α → World → Prop) (W : World), Kp S w W → (∀ pre A B, J pre A → Kp none' A B → J pre B) →
    (∀ pre x post W1, xs = pre ++ x :: post → J pre W1 → Kp S w W1 → YieldAt Fence.wide 0 P l (encs x) W1 fun e W' => e = .returned (.bool true) ∧ J (pre ++ [x]) W' ∧ Kp S w W') →
    J [] W → CallsIn Fence.wide 0 P gf (mk (.func (.yield l) #[] #[])) W fun e W' => (∃ v, e = .returned v) ∧ J xs W' ∧ Kp S w W'

/-- THE LOOP: its body goes on to its end at every element. -/
theorem wp_range {P : Program} {α : Type} {g : Operand} {ps : Array Tmp} {assign body : Code} {Q : Exit → Act → World → Prop} {a : Act} {w : World}
    {gf : FuncId} {first captured : Array Value} (hg : a.eval g = .func (.func gf) first captured) (eg : ∀ args w, (callFunc gf args).run P w = .ok (.enter gf args) w)
    {encs : α → Array Value} {xs : List α} {S : Nat → Prop} (_hS : ∀ b, w.heap.size ≤ b → S b) (Y : Tells P gf (fun y => first ++ #[y] ++ captured) encs xs S w) (hps : ∀ x, (encs x).size = ps.size)
    (I : List α → World → Prop) (hI : ∀ pre A B, I pre A → NC A B → I pre B) (h0 : I [] w) (a₁ : α → Act)
    (hassign : ∀ (l : Nat) (x : α) (W : World) (K : Act → World → Prop), K (a₁ x) W →
      assign.wpIn (Fence.wide.inRound l) 0 P (Exit.then K (fun _ _ _ => False)) { tmps := (ps.zip (encs x)).foldl (fun t (p, v) => t.setIfInBounds p v) a.tmps, defers := [] } W)
    (hbody : ∀ (l : Nat) (pre : List α) (x : α) (post : List α) (W : World), xs = pre ++ x :: post → I pre W → Kp S w W →
      body.wpIn (Fence.wide.inRound l) 0 P (fun e _ W' => e = .normal ∧ I (pre ++ [x]) W' ∧ Kp S w W' ∧ KeepsOthers W W') (a₁ x) W)
    (hdone : ∀ (D : Nat) (W : World), I xs W → Kp S w W → w.heap.size ≤ D → W.heap[D]? = some (.deferred (some [])) → Q .normal { a with defers := { target := .collected D, args := #[] } :: a.defers } W) :
    (Code.rangeFunc g ps assign body).wpIn Fence.wide 0 P Q a w := by
  refine wpIn_rangeFunc ?_
  intro fn hfn
  obtain ⟨rec, hrec⟩ : ∃ rec : LoopState → Option Code → Loop, rec = fun st pe => { state := st, pending := pe, fn, tmps := a.tmps, params := ps, assign, body, defers := w.heap.size } := ⟨_, rfl⟩
  obtain ⟨W1, hW1⟩ : ∃ W1, (w.alloc (.deferred (some []))).alloc (.loop (rec .ready none)) = W1 := ⟨_, rfl⟩
  have hL1 : W1.heap[w.heap.size + 1]? = some (.loop (rec .ready none)) := by
    rw [← hW1]; have := World.alloc_heap_new (w.alloc (.deferred (some []))) (.loop (rec .ready none)); rwa [World.size_alloc] at this
  have hK1 : W1.heap[w.heap.size]? = some (.deferred (some [])) := by
    rw [← hW1]; exact (Below.heap_alloc _ _ _ (by simp)).trans (World.alloc_heap_new w _)
  have hkp1 : Kp none' w W1 := by rw [← hW1]; exact ((Kp.refl _ _).alloc _).alloc _
  have hI1 : I [] W1 := hI _ _ _ h0 (NC.of_kp hkp1)
  have hkpS : Kp S w W1 := hkp1.mono (fun _ _ h => h.elim)
  refine ⟨w.heap.size + 1, [{ target := .collected w.heap.size, args := #[] }], W1, { target := .fn (.func gf) captured, args := first ++ #[.func (.yield (w.heap.size + 1)) #[] #[]] }, W1, gf,
    first ++ #[.func (.yield (w.heap.size + 1)) #[] #[]] ++ captured, W1, ?_, ?_, ?_, ?_, (fun h => by cases h), ?_⟩
  · rw [← hW1, hrec]; exact run_enterLoop_outer _ _ _ _ _
  · simp only [resolve, hg]
    simp [go_sem]
  · intro f' _; trivial
  · simp [invoke, go_sem, eg]
  · refine (Y (w.heap.size + 1) (fun pre W => I pre W ∧ W.heap[w.heap.size + 1]? = some (.loop (rec .ready none)) ∧ W.heap[w.heap.size]? = some (.deferred (some []))) W1 hkpS ?_ ?_ ⟨hI1, hL1, hK1⟩).mono ?_
    · rintro pre A B ⟨h1, h2, h3⟩ k
      exact ⟨hI _ _ _ h1 (NC.of_kp k), (k.block _ (Array.getElem?_eq_some_iff.1 h2).1 id).trans h2, (k.block _ (Array.getElem?_eq_some_iff.1 h3).1 id).trans h3⟩
    · rintro pre x post W hx ⟨hi, hl, hk⟩ hkp
      have hlt : w.heap.size + 1 < W.heap.size := (Array.getElem?_eq_some_iff.1 hl).1
      have hy := run_yield (P := P) (args := encs x) hl (by rw [hrec]; exact hps x)
      rw [hrec] at hy
      refine ⟨fn, _, assign, body, hy, roundIn_of_wpIn hfn (hassign _ x W _ ⟨_, run_beginRound hl (by rw [hrec]), ?_⟩)⟩
      have hl2 : (W.putObj (w.heap.size + 1) (.loop { rec .ready none with state := .busy })).heap[w.heap.size + 1]? = some (.loop { rec .ready none with state := .busy }) := World.putObj_heap_same hlt
      have hk2 : (W.putObj (w.heap.size + 1) (.loop { rec .ready none with state := .busy })).heap[w.heap.size]? = some (.deferred (some [])) := (World.putObj_heap_other (by omega)).trans hk
      refine wpIn_mono (hbody _ pre x post _ hx (hI _ _ _ hi (NC.put _ hl rfl)) (hkp.put (.inr (by omega)) _)) ?_
      rintro e a3 W3 ⟨rfl, hi3, hkp3, hk3⟩
      have hl3 := hk3.same _ _ hl2 rfl
      have hend := run_endRound (P := P) none hl3
      rw [hrec] at hend hl3
      refine ⟨_, _, hend, rfl, ⟨hI _ _ _ hi3 (NC.put _ hl3 rfl), ?_, ?_⟩, hkp3.put (.inr (by omega)) _⟩
      · rw [hrec]; exact World.putObj_heap_same (Array.getElem?_eq_some_iff.1 hl3).1
      · exact (World.putObj_heap_other (by omega)).trans (hk3.same _ _ hk2 rfl)
    · rintro e W2 ⟨⟨v, rfl⟩, ⟨hi, hl, hk⟩, hkp⟩
      refine ⟨none, _, by have := run_endLoop (P := P) hl (by rw [hrec]; simp); rw [hrec] at this; exact this, hdone _ _ (hI _ _ _ hi (NC.put _ hl rfl)) (hkp.put (.inr (by omega)) _) (Nat.le_refl _) ((World.putObj_heap_other (by omega)).trans hk)⟩

end Go.Proofs.YthgpmpmnihijnaaDoor
