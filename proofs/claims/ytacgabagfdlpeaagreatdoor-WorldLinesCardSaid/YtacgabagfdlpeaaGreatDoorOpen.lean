/- How an argument's reading gives its cells, and the frame of a law's row: names no function of the program. -/
import Derived.Test.YtacgabagfdlpeaaGreatDoorBase
import Derived.ProofKit
import Derived.OpenShut
import Derived.Deep.Slices
import Derived.Deep.Strs
namespace Go.Proofs.YtacgabagfdlpeaaGreatDoor
set_option linter.unusedVariables false
set_option linter.unusedSimpArgs false
open Go.RowKit Go.Deep Go.ChangeShapes Go.WideShapes Go.ChangeAt

theorem add_plain (b off j : Nat) : (⟨b, off, none⟩ : Addr).add j = ⟨b, off + j, none⟩ := by unfold Addr.add; split <;> simp_all
theorem cell_plain {w : World} {a : Addr} {v : Value} (h : w.cell? a = some v) : a = ⟨a.block, a.off, none⟩ := by
  obtain ⟨b, o, s⟩ := a
  cases s with
  | none => rfl
  | some s => unfold World.cell? at h; split at h <;> simp at h

theorem flat_get {α : Type} (enc : α → List Value) (sz : Nat) (hl : ∀ a, (enc a).length = sz) (l : List α) (j i : Nat) (hi : i < sz) : (l.flatMap enc)[j * sz + i]? = (l[j]?).bind (fun a => (enc a)[i]?) := by
  induction l generalizing j with
  | nil => simp
  | cons a r ih =>
    cases j with
    | zero => simp only [List.flatMap_cons, Nat.zero_mul, Nat.zero_add]; rw [List.getElem?_append_left (by rw [hl]; exact hi)]; simp
    | succ j =>
      rw [List.flatMap_cons, List.getElem?_append_right (by rw [hl, Nat.succ_mul]; omega), hl, show (j + 1) * sz + i - sz = j * sz + i by rw [Nat.succ_mul]; omega, ih]
      simp
theorem flat_len {α : Type} (enc : α → List Value) (sz : Nat) (hl : ∀ a, (enc a).length = sz) (l : List α) : (l.flatMap enc).length = l.length * sz := by
  induction l with
  | nil => simp
  | cons a r ih => simp only [List.flatMap_cons, List.length_append, hl, ih, List.length_cons, Nat.succ_mul]; omega
/-- The cells of the j-th of the things that a slice holds. -/
theorem Sl.at {w : World} {v : Value} {n sz : Nat} {α : Type} {enc : α → List Value} {l : List α} (h : Sl w v n sz (l.flatMap enc)) (hl : ∀ a, (enc a).length = sz) (hp : 0 < sz) (j : Nat) (hj : j < l.length) :
    ∃ b off cap, v = .slice (some ⟨b, off, none⟩) n cap ∧ ∀ i u, (enc l[j])[i]? = some u → w.cell? ⟨b, off + j * sz + i, none⟩ = some u := by
  obtain ⟨ao, cap, rfl, hc⟩ := h.is
  have hg : ∀ i u, (enc l[j])[i]? = some u → (l.flatMap enc)[j * sz + i]? = some u := fun i u hu => by
    rw [flat_get enc sz hl l j i (by have := (List.getElem?_eq_some_iff.1 hu).1; rw [hl] at this; exact this), List.getElem?_eq_getElem hj]
    exact hu
  obtain ⟨u0, hu0⟩ : ∃ u, (enc l[j])[0]? = some u := ⟨(enc l[j])[0]'(by rw [hl]; exact hp), by simp⟩
  obtain ⟨b, off, rfl, _⟩ := hc _ _ (hg 0 u0 hu0)
  refine ⟨b, off, cap, rfl, fun i u hu => ?_⟩
  obtain ⟨b', off', e, h2⟩ := hc _ _ (hg i u hu)
  cases e
  rw [Nat.add_assoc]
  exact h2

section
variable {H : Type} {enc : TypeId × Value → H} {P : Program} {w : World} {base : Nat} {spare : Nat → Bool} {held : Bool}

/-- A slice whose elements lie flat. -/
theorem open_flat {t e : TypeId} {fuel : Nat} {cs : List Value} {x : DataW H × List MemPlace} (ht : P.underlying t = some (.slice e)) {sz : Nat} (hsz : P.cellsOf e = sz) (hp : 0 < sz) {α : Type} [Inhabited α] (en : α → List Value) (ok : α → Prop) (hl : ∀ a, (en a).length = sz)
    (flat : ∀ n cs x, DataW.trod enc P w base spare held n e cs = some x → ∃ a, ok a ∧ cs = en a) (h : DataW.trod enc P w base spare held fuel t cs = some x) :
    ∃ (v : Value) (l : List α), cs = [v] ∧ (∀ a ∈ l, ok a) ∧ Sl w v l.length sz (l.flatMap en) := by
  rcases open_slice ht h with ⟨rfl, _⟩ | ⟨a, len, cap, m, n, D, Pl, rfl, hb, hlc, hm, hmm, _, hx⟩
  · exact ⟨_, [], rfl, by simp, Sl.nil w sz⟩
  · have hlm : len ≤ m := by rw [hmm]; split <;> omega
    have hx' : ∀ i, i < len → ∃ y : α, ok y ∧ w.cells? base (a.add (i * sz)) sz = some (en y) := fun i hi => by
      obtain ⟨cs', h1, h2⟩ := hx i (by omega)
      obtain ⟨y, hy, rfl⟩ := flat _ _ _ h2
      rw [hsz] at h1
      exact ⟨y, hy, h1⟩
    obtain ⟨f, hf⟩ := choose_lt hx'
    refine ⟨_, (List.range len).map f, rfl, fun y hy => ?_, ⟨?_, ?_, some a, cap, ?_, fun i u hu => ?_⟩⟩
    · obtain ⟨i, hi, rfl⟩ := List.mem_map.1 hy
      exact (hf i (List.mem_range.1 hi)).1
    · exact flat_len en sz hl _
    · simp; unfold maxLen at hm; omega
    · simp
    · have hi : i < len * sz := by
        have := (List.getElem?_eq_some_iff.1 hu).1
        rw [flat_len en sz hl] at this; simpa using this
      have hj : i / sz < len := (Nat.div_lt_iff_lt_mul hp).2 hi
      have hr : i % sz < sz := Nat.mod_lt _ hp
      have hdm : i / sz * sz + i % sz = i := by rw [Nat.mul_comm]; exact Nat.div_add_mod i sz
      rw [← hdm, flat_get en sz hl _ _ _ hr] at hu
      simp [hj] at hu
      obtain ⟨_, h2, h3⟩ := World.cells?_some (hf (i / sz) hj).2
      have h4 := h3 (i % sz) hr
      have ha : a = ⟨a.block, a.off, none⟩ := by
        obtain ⟨_, _, h5⟩ := World.cells?_some (hf 0 (Nat.lt_of_le_of_lt (Nat.zero_le _) hj)).2
        have h6 := h5 0 hp
        have hl0 := hl (f 0)
        rw [List.getElem?_eq_getElem (by omega)] at h6
        rw [Nat.zero_mul] at h6
        have : (a.add 0).add 0 = a := by simp [Addr.add]
        rw [this] at h6
        exact cell_plain h6
      refine ⟨a.block, a.off, by rw [← ha], ?_⟩
      rw [ha, add_plain, add_plain] at h4
      rw [← hdm, ← Nat.add_assoc, h4]
      simpa using hu

/-- A struct whose fields are one cell each: field by field. -/
theorem flat_fields {t : TypeId} {fs : Array Field} {fuel : Nat} {cs : List Value} {x : DataW H × List MemPlace} (ht : P.underlying t = some (.struct fs)) (hsz : P.cellsOf t = fs.size) (hone : fs.toList.zipIdx.all (fun p => p.1.offset == p.2) = true) (hc : ∀ f ∈ fs.toList, P.cellsOf f.type = 1)
    (h : DataW.trod enc P w base spare held fuel t cs = some x) : cs.length = fs.size ∧ ∀ (i : Nat) (f : Field) (v : Value), fs[i]? = some f → cs[i]? = some v → ∃ n y, DataW.trod enc P w base spare held n f.type [v] = some y := by
  obtain ⟨xs, n, _, _, hl, hlen, hf⟩ := DataW.trod_struct ht h
  refine ⟨by rw [hl, hsz], fun i f v hi hv => ?_⟩
  have h1 := hf i f hi
  have ho : f.offset = i := by
    have h2 := List.all_eq_true.1 hone (f, i) (by
      rw [List.mem_iff_getElem?]; exact ⟨i, by rw [List.getElem?_zipIdx]; simp [hi]⟩)
    simpa using h2
  rw [ho, hc f (by have := Array.mem_of_getElem? hi; simpa using this)] at h1
  have hlt : i < cs.length := (List.getElem?_eq_some_iff.1 hv).1
  have e : (cs.drop i).take 1 = [v] := by
    rw [List.drop_eq_getElem_cons hlt, (List.getElem?_eq_some_iff.1 hv).2]; rfl
  rw [e] at h1
  have hx : i < xs.length := by rw [hlen]; exact (Array.getElem?_eq_some_iff.1 hi).1
  rw [List.getElem?_eq_getElem hx] at h1
  exact ⟨n, _, h1⟩

/-- The arguments read behind the call as before it. -/
theorem args_stay (hl : laidOutB P = true) : ∀ {ts : List TypeId} {vs : List Value} {ds : List (DataW H)} {ps : List MemPlace} {W W' : World}, DataW.TrodAll enc P W 0 (fun _ => true) true ts vs ds ps → Below W.heap.size W W' →
    (∀ x ∈ ps, x.block < W.heap.size) → (∀ t ∈ ts, P.readableRec t = true ∧ t < P.types.size) → DataW.TrodAll enc P W' 0 (fun b => decide (b < W.heap.size)) true ts vs ds ps := by
  intro ts
  induction ts with
  | nil =>
    intro vs ds ps W W' h _ _ _
    obtain ⟨rfl, rfl, rfl⟩ := trodAll_nil h
    exact trodAll_mk0
  | cons t ts ih =>
    intro vs ds ps W W' h hb hlt hr
    obtain ⟨v0, vs0, d0, ds0, p0, q0, rfl, rfl, rfl, h0, r0⟩ := trodAll_cons h
    refine trodAll_cons_mk (Below.trod hl (hr t (by simp)).1 (hr t (by simp)).2 h0 hb (fun x hx => hlt x (List.mem_append.2 (.inl hx)))) (ih r0 hb (fun x hx => hlt x (List.mem_append.2 (.inr hx))) (fun t ht => hr t (List.mem_cons_of_mem _ ht)))
end

/-- A LAW's ROW: it returned true, and all that was there is as it was. -/
theorem law_post {H : Type} {enc : TypeId × Value → H} {P : Program} {s : ChangeSpec} {f : Func} {apart fresh : Bool} {W W' : World} {args : Array Value} {ds gs : List (DataW H)} {before : List MemPlace} (T : TypeId) (hT : P.underlying T = some .bool) (hres : f.resultTypes = #[T])
    (hl : laidOutB P = true) (hr : ∀ t ∈ f.params.toList, P.readableRec t = true ∧ t < P.types.size)
    (hv : s.vars = []) (hW : DataW.Whole enc P f.params.toList s.vars apart W args.toList ds gs before) (hs : (s.fn H (ds ++ [])) = { results := [.lit (.bool true)], args := ds }) (hb : Below W.heap.size W W') :
    s.post enc P f apart fresh false false W args (.bool true) W' := by
  have hW' := hW
  obtain ⟨p, q, hA, hV, rfl, hfz, hnd⟩ := hW
  rw [hv] at hV
  obtain ⟨rfl, rfl⟩ := trodVars_none hV
  have hlt : ∀ x ∈ p, x.block < W.heap.size := fun x hx => by simpa using hW'.lt x (List.mem_append.2 (.inl hx))
  refine ⟨ds, [], p ++ [], [], p, [], hW', ?_, ?_, ?_, hb.frame _, fun h => by cases h⟩
  · rw [hs, hres]
    exact trodAll_cons_mk (shut_bool hT true) trodAll_mk0
  · rw [hs]; exact args_stay hl hA hb hlt hr
  · rw [hs, hv]; rfl

end Go.Proofs.YtacgabagfdlpeaaGreatDoor
