/- 'for x := range f { .. }' at the wide fence, over an iterator that writes memory of its own (O) which lay ahead of the loop. Names no function of the program. -/
import Derived.Test.YthgpmpmnihijnaaDoorRangeX
namespace Go.Proofs.YthgpmpmnihijnaaDoor
set_option linter.unusedVariables false
set_option linter.unusedSimpArgs false
open Go.RowKit Go.Shelf

/-- THE ITERATOR's CONTRACT. F0: what the rounds may write of what was there at the start; H: what the iterator reads; O: what it writes. -/
def TellsO {α : Type} (P : Program) (gf : FuncId) (mk : Value → Array Value) (encs : α → Array Value) (xs : List α) (H O : Nat → Prop) (w : World) : Prop :=
  ∀ (l : Nat) (J Jx : List α → (Nat → Prop) → World → Prop) (F0 : Nat → Prop) (W : World), Kp none' w W → l < W.heap.size → (∀ b, F0 b → b < W.heap.size) → (∀ b, H b → ¬ F0 b ∧ b ≠ l) →
    (∀ pre F A B, J pre F A → Kp O A B → J pre F B) → (∀ pre F A B, Jx pre F A → Kp O A B → Jx pre F B) →
    (∀ pre F x post W1, xs = pre ++ x :: post → J pre F W1 → YieldAt Fence.wide 0 P l (encs x) W1 fun e W' => ∃ F', Kp (fun b => F b ∨ b = l) W1 W' ∧ (∀ b, F' b → F b ∨ W1.heap.size ≤ b) ∧
      ((e = .returned (.bool true) ∧ J (pre ++ [x]) F' W') ∨ (e = .returned (.bool false) ∧ Jx (pre ++ [x]) F' W'))) →
    J [] F0 W → CallsIn Fence.wide 0 P gf (mk (.func (.yield l) #[] #[])) W fun e W' => (∃ v, e = .returned v) ∧ Kp (fun b => (F0 b ∨ O b) ∨ b = l) W W' ∧ ∃ F', (J xs F' W' ∨ ∃ pre, Jx pre F' W')

/-- All cells but those of O are as they were. -/
structure NCO (O : Nat → Prop) (A B : World) : Prop where
  os : B.os = A.os
  tape : B.tape = A.tape
  output : B.output = A.output
  size : A.heap.size ≤ B.heap.size
  cells : ∀ (b : Nat) (cs : Array Value) (t : TypeId) (fr : Nat × Nat), ¬ O b → A.heap[b]? = some (.cells cs t fr) → B.heap[b]? = some (.cells cs t fr)
theorem NCO.of_nc {O : Nat → Prop} {A B : World} (h : NC A B) : NCO O A B := ⟨h.os, h.tape, h.output, h.size, fun b cs t fr _ e => h.cells b cs t fr e⟩
theorem NCO.of_kp {O : Nat → Prop} {A B : World} (h : Kp O A B) : NCO O A B :=
  ⟨h.os, h.tape, h.output, h.size, fun b _ _ _ ho e => (h.block b (Array.getElem?_eq_some_iff.1 e).1 ho).trans e⟩
theorem Blk.nco {O : Nat → Prop} {A B : World} {b : Nat} {cs : List Value} {t : TypeId} (h : Blk A b cs t) (k : NCO O A B) (hb : ¬ O b) : Blk B b cs t := ⟨k.cells b _ _ _ hb h.is⟩
theorem own_nco {O : Nat → Prop} {A B : World} {base : Nat} {e : TypeId} {size : Nat} {v : Value} {n : Nat} {xs : List Value} (h : A.ownsRow base e size v n xs) (k : NCO O A B) (hb : ∀ b, O b → b < base) : B.ownsRow base e size v n xs := by
  refine ⟨h.1, ?_⟩
  rcases h.2 with h | ⟨g, cap, cur, hv, hg, hh, r⟩
  · exact .inl h
  · exact .inr ⟨g, cap, cur, hv, hg, k.cells g _ _ _ (fun ho => by have := hb g ho; omega) hh, r⟩
/-- And all that lay below B0, but for O, is as it was. -/
structure NXO (O : Nat → Prop) (B0 : Nat) (A B : World) : Prop where
  nc : NCO O A B
  low : ∀ b, b < B0 → ¬ O b → B.heap[b]? = A.heap[b]?
theorem NXO.of_kp {O : Nat → Prop} {B0 : Nat} {A B : World} (h : Kp O A B) (hz : B0 ≤ A.heap.size) : NXO O B0 A B := ⟨NCO.of_kp h, fun b hb ho => h.block b (by omega) ho⟩
theorem NXO.put {O : Nat → Prop} {B0 : Nat} {A : World} {l : Nat} {o : Obj} (o' : Obj) (hl : A.heap[l]? = some o) (ho : o.isCells = false) (hB : B0 ≤ l) : NXO O B0 A (A.putObj l o') := ⟨NCO.of_nc (NC.put o' hl ho), fun b hb _ => World.putObj_heap_other (by omega)⟩
theorem NXO.kp {O S : Nat → Prop} {B0 : Nat} {w A B : World} (hx : NXO O B0 A B) (h : Kp S w A) (hB : w.heap.size ≤ B0) : Kp (fun b => S b ∨ O b) w B :=
  ⟨hx.nc.os.trans h.os, hx.nc.tape.trans h.tape, hx.nc.output.trans h.output, Nat.le_trans h.size hx.nc.size, fun b hb hs => (hx.low b (by omega) (fun x => hs (.inr x))).trans (h.block b hb (fun x => hs (.inl x)))⟩

theorem wp_rangeO {P : Program} {α : Type} {g : Operand} {ps : Array Tmp} {assign body : Code} {Q : Exit → Act → World → Prop} {a : Act} {w : World}
    {gf : FuncId} {first captured : Array Value} (hg : a.eval g = .func (.func gf) first captured) (eg : ∀ args w, (callFunc gf args).run P w = .ok (.enter gf args) w)
    {encs : α → Array Value} {xs : List α} {H O : Nat → Prop} (Y : TellsO P gf (fun y => first ++ #[y] ++ captured) encs xs H O w) (hO : ∀ b, O b → H b) (hps : ∀ x, (encs x).size = ps.size)
    (I : List α → (Nat → Prop) → World → Prop) (Ix : Code → List α → (Nat → Prop) → World → Prop) (hI : ∀ pre F A B, I pre F A → NXO O w.heap.size A B → I pre F B) (hIx : ∀ c pre F A B, Ix c pre F A → NXO O w.heap.size A B → Ix c pre F B)
    (F0 : Nat → Prop) (hF0 : ∀ b, F0 b → b < w.heap.size) (hH : ∀ b, H b → ¬ F0 b ∧ b < w.heap.size) (h0 : I [] F0 w) (Ax : α → Act → World → Prop) (hAx : ∀ x a A B, Ax x a A → NXO O w.heap.size A B → Ax x a B)
    (hassign : ∀ (l : Nat) (x : α) (W : World) (K : Act → World → Prop), w.heap.size ≤ W.heap.size → (∀ a1 W1, Ax x a1 W1 → Kp none' W W1 → K a1 W1) →
      assign.wpIn (Fence.wide.inRound l) 0 P (Exit.then K (fun _ _ _ => False)) { tmps := (ps.zip (encs x)).foldl (fun t (p, v) => t.setIfInBounds p v) a.tmps, defers := [] } W)
    (hbody : ∀ (l : Nat) (pre : List α) (F : Nat → Prop) (x : α) (post : List α) (a1 : Act) (W : World), xs = pre ++ x :: post → I pre F W → Ax x a1 W → Kp (fun b => F0 b ∨ O b) w W → (∀ b, F b → F0 b ∨ w.heap.size ≤ b) →
      body.wpIn (Fence.wide.inRound l) 0 P (postF w.heap.size I Ix (pre ++ [x]) F W) a1 W)
    (hdone : ∀ (D : Nat) (F : Nat → Prop) (W : World), I xs F W → Kp (fun b => F0 b ∨ O b) w W → w.heap.size ≤ D → W.heap[D]? = some (.deferred (some [])) → Q .normal { a with defers := { target := .collected D, args := #[] } :: a.defers } W)
    (hstop : ∀ (D : Nat) (c : Code) (pre : List α) (F : Nat → Prop) (W : World), Ix c pre F W → Kp (fun b => F0 b ∨ O b) w W → w.heap.size ≤ D → W.heap[D]? = some (.deferred (some [])) → c.wpIn Fence.wide 0 P Q { a with defers := { target := .collected D, args := #[] } :: a.defers } W) :
    (Code.rangeFunc g ps assign body).wpIn Fence.wide 0 P Q a w := by
  refine wpIn_rangeFunc ?_
  intro fn hfn
  have hOw : ∀ b, O b → b < w.heap.size := fun b hb => (hH b (hO b hb)).2
  obtain ⟨rec, hrec⟩ : ∃ rec : LoopState → Option Code → Loop, rec = fun st pe => { state := st, pending := pe, fn, tmps := a.tmps, params := ps, assign, body, defers := w.heap.size } := ⟨_, rfl⟩
  obtain ⟨W1, hW1⟩ : ∃ W1, (w.alloc (.deferred (some []))).alloc (.loop (rec .ready none)) = W1 := ⟨_, rfl⟩
  have hL1 : W1.heap[w.heap.size + 1]? = some (.loop (rec .ready none)) := by
    rw [← hW1]; have := World.alloc_heap_new (w.alloc (.deferred (some []))) (.loop (rec .ready none)); rwa [World.size_alloc] at this
  have hK1 : W1.heap[w.heap.size]? = some (.deferred (some [])) := by
    rw [← hW1]; exact (Below.heap_alloc _ _ _ (by simp)).trans (World.alloc_heap_new w _)
  have hkp1 : Kp none' w W1 := by rw [← hW1]; exact ((Kp.refl _ _).alloc _).alloc _
  have hs1 : W1.heap.size = w.heap.size + 2 := by rw [← hW1]; simp [World.size_alloc]
  have hI1 : I [] F0 W1 := hI _ _ _ _ h0 (NXO.of_kp (hkp1.mono (fun _ _ x => x.elim)) (Nat.le_refl _))
  refine ⟨w.heap.size + 1, [{ target := .collected w.heap.size, args := #[] }], W1, { target := .fn (.func gf) captured, args := first ++ #[.func (.yield (w.heap.size + 1)) #[] #[]] }, W1, gf,
    first ++ #[.func (.yield (w.heap.size + 1)) #[] #[]] ++ captured, W1, ?_, ?_, ?_, ?_, (fun h => by cases h), ?_⟩
  · rw [← hW1, hrec]; exact run_enterLoop_outer _ _ _ _ _
  · simp only [resolve, hg]
    simp [go_sem]
  · intro f' _; trivial
  · simp [invoke, go_sem, eg]
  · refine (Y (w.heap.size + 1)
      (fun pre F W => I pre F W ∧ W.heap[w.heap.size + 1]? = some (.loop (rec .ready none)) ∧ W.heap[w.heap.size]? = some (.deferred (some [])) ∧ Kp (fun b => F0 b ∨ O b) w W ∧ (∀ b, F b → F0 b ∨ w.heap.size ≤ b))
      (fun pre F W => ∃ c, Ix c pre F W ∧ W.heap[w.heap.size + 1]? = some (.loop (rec .done (some c))) ∧ W.heap[w.heap.size]? = some (.deferred (some [])) ∧ Kp (fun b => F0 b ∨ O b) w W)
      F0 W1 hkp1 (by omega) (fun b hb => by have := hF0 b hb; omega) (fun b hb => ⟨(hH b hb).1, by have := (hH b hb).2; omega⟩) ?_ ?_ ?_
      ⟨hI1, hL1, hK1, hkp1.mono (fun _ _ x => x.elim), fun b hb => .inl hb⟩).mono ?_
    · rintro pre F A B ⟨h1, h2, h3, h4, h5⟩ k
      exact ⟨hI _ _ _ _ h1 (NXO.of_kp k h4.size), (k.block _ (Array.getElem?_eq_some_iff.1 h2).1 (fun x => by have := hOw _ x; omega)).trans h2, (k.block _ (Array.getElem?_eq_some_iff.1 h3).1 (fun x => by have := hOw _ x; omega)).trans h3, h4.then k (fun _ _ x => .inr x), h5⟩
    · rintro pre F A B ⟨c, h1, h2, h3, h4⟩ k
      exact ⟨c, hIx _ _ _ _ _ h1 (NXO.of_kp k h4.size), (k.block _ (Array.getElem?_eq_some_iff.1 h2).1 (fun x => by have := hOw _ x; omega)).trans h2, (k.block _ (Array.getElem?_eq_some_iff.1 h3).1 (fun x => by have := hOw _ x; omega)).trans h3, h4.then k (fun _ _ x => .inr x)⟩
    · rintro pre F x post W hx ⟨hi, hl, hk, hkp, hFs⟩
      have hlt : w.heap.size + 1 < W.heap.size := (Array.getElem?_eq_some_iff.1 hl).1
      have hy := run_yield (P := P) (args := encs x) hl (by rw [hrec]; exact hps x)
      rw [hrec] at hy
      refine ⟨fn, _, assign, body, hy, roundIn_of_wpIn hfn (hassign _ x W _ hkp.size ?_)⟩
      intro a1 V hax hkV
      have hlV : V.heap[w.heap.size + 1]? = some (.loop (rec .ready none)) := (hkV.block _ hlt (fun x => x)).trans hl
      have hkVd : V.heap[w.heap.size]? = some (.deferred (some [])) := (hkV.block _ (by omega) (fun x => x)).trans hk
      have hzV := hkV.size
      have hltV : w.heap.size + 1 < V.heap.size := by omega
      refine ⟨_, run_beginRound hlV (by rw [hrec]), ?_⟩
      obtain ⟨W2, hW2⟩ : ∃ W2, V.putObj (w.heap.size + 1) (.loop { rec .ready none with state := .busy }) = W2 := ⟨_, rfl⟩
      have hl2 : W2.heap[w.heap.size + 1]? = some (.loop { rec .ready none with state := .busy }) := by rw [← hW2]; exact World.putObj_heap_same hltV
      have hk2 : W2.heap[w.heap.size]? = some (.deferred (some [])) := by rw [← hW2]; exact (World.putObj_heap_other (by omega)).trans hkVd
      have hz2 : W.heap.size ≤ W2.heap.size := by rw [← hW2]; simp; exact hzV
      have hkW2 : Kp (fun b => F b ∨ b = w.heap.size + 1) W W2 := by rw [← hW2]; exact (hkV.mono (T := fun b => F b ∨ b = w.heap.size + 1) (fun _ _ x => x.elim)).put (.inl (.inr rfl)) _
      have hkw2 : Kp (fun b => F0 b ∨ O b) w W2 := by rw [← hW2]; exact (hkp.then hkV (fun _ _ x => x.elim)).put (.inr (by omega)) _
      have hi2 : I pre F W2 := by rw [← hW2]; exact hI _ _ _ _ (hI _ _ _ _ hi (NXO.of_kp (hkV.mono (fun _ _ x => x.elim)) hkp.size)) (NXO.put _ hlV rfl (by omega))
      have hax2 : Ax x a1 W2 := by rw [← hW2]; exact hAx _ _ _ _ hax (NXO.put _ hlV rfl (by omega))
      rw [hW2]
      refine wpIn_mono (hbody _ pre F x post a1 W2 hx hi2 hax2 hkw2 hFs) ?_
      have fin : ∀ (jump : Option Code) (W3 : World), KF w.heap.size W2 W3 → Kp F W2 W3 →
          ∃ W4, (Instr.endRound (w.heap.size + 1) jump).run P W3 = .ok (.bool jump.isNone) W4 ∧ NXO O w.heap.size W3 W4 ∧
          W4.heap[w.heap.size + 1]? = some (.loop (rec (if jump.isNone then .ready else .done) jump)) ∧ W4.heap[w.heap.size]? = some (.deferred (some [])) ∧ Kp (fun b => F0 b ∨ O b) w W4 ∧ Kp (fun b => F b ∨ b = w.heap.size + 1) W W4 := fun jump W3 hk3 hf3 => by
        have hl3 := hk3 _ _ (by omega) hl2 rfl
        have := run_endRound (P := P) jump hl3
        rw [hrec] at this hl3 ⊢
        refine ⟨_, this, NXO.put _ hl3 rfl (by omega), World.putObj_heap_same (Array.getElem?_eq_some_iff.1 hl3).1, (World.putObj_heap_other (by omega)).trans (hk3 _ _ (Nat.le_refl _) hk2 rfl), ?_, ?_⟩
        · exact (hkw2.then hf3 (fun b hb h => by rcases hFs b h with h | h; exact .inl h; omega)).put (.inr (by omega)) _
        · exact (hkW2.then hf3 (fun b hb h => .inl h)).put (.inl (.inr rfl)) _
      rintro e a3 W3 hp
      cases e with
      | normal =>
        obtain ⟨F', hi3, hf3, hFF, hk3⟩ := hp
        obtain ⟨W4, hr, hnc, hl4, hk4, hkw4, hkW4⟩ := fin none W3 hk3 hf3
        exact ⟨_, _, hr, F', hkW4, fun b hb => by rcases hFF b hb with h | h; exact .inl h; exact .inr (by omega), .inl ⟨rfl, hI _ _ _ _ hi3 hnc, hl4, hk4, hkw4, fun b hb => by
          rcases hFF b hb with h | h
          · exact hFs b h
          · exact .inr (by have := hkp.size; omega)⟩⟩
      | ret =>
        obtain ⟨F', hi3, hf3, hFF, hk3⟩ := hp
        obtain ⟨W4, hr, hnc, hl4, hk4, hkw4, hkW4⟩ := fin (some .ret) W3 hk3 hf3
        exact ⟨_, _, hr, F', hkW4, fun b hb => by rcases hFF b hb with h | h; exact .inl h; exact .inr (by omega), .inr ⟨rfl, .ret, hIx _ _ _ _ _ hi3 hnc, hl4, hk4, hkw4⟩⟩
      | exit id =>
        obtain ⟨F', hi3, hf3, hFF, hk3⟩ := hp
        obtain ⟨W4, hr, hnc, hl4, hk4, hkw4, hkW4⟩ := fin (some (.exit id)) W3 hk3 hf3
        exact ⟨_, _, hr, F', hkW4, fun b hb => by rcases hFF b hb with h | h; exact .inl h; exact .inr (by omega), .inr ⟨rfl, .exit id, hIx _ _ _ _ _ hi3 hnc, hl4, hk4, hkw4⟩⟩
      | goto t => exact hp.elim
      | panic ch => exact hp.elim
      | outgrown => exact hp.elim
    · rintro e W2 ⟨⟨v, rfl⟩, _, F', (⟨hi, hl, hk, hkp, _⟩ | ⟨pre, c, hi, hl, hk, hkp⟩)⟩
      · exact ⟨none, _, by have := run_endLoop (P := P) hl (by rw [hrec]; simp); rw [hrec] at this; exact this, hdone _ F' _ (hI _ _ _ _ hi (NXO.put _ hl rfl (by omega))) (hkp.put (.inr (by omega)) _) (Nat.le_refl _) ((World.putObj_heap_other (by omega)).trans hk)⟩
      · exact ⟨some c, _, by have := run_endLoop (P := P) hl (by rw [hrec]; simp); rw [hrec] at this; exact this, hstop _ c pre F' _ (hIx _ _ _ _ _ hi (NXO.put _ hl rfl (by omega))) (hkp.put (.inr (by omega)) _) (Nat.le_refl _) ((World.putObj_heap_other (by omega)).trans hk)⟩
end Go.Proofs.YthgpmpmnihijnaaDoor
