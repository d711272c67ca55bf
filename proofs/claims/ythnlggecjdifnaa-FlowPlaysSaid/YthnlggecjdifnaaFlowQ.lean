/- Plain laws of layer 15: where a number is found; what is under it. -/
import Derived.Test.YthnlggecjdifnaaFlowB
namespace Go.Proofs.Ythnlggecjdifnaa
set_option linter.unusedVariables false
set_option linter.unusedSimpArgs false

theorem least {P : Nat → Prop} (n : Nat) (h : P n) : ∃ d, d ≤ n ∧ P d ∧ ∀ e, e < d → ¬ P e := by
  induction n using Nat.strongRecOn with
  | _ n ih =>
    by_cases hc : ∃ m, m < n ∧ P m
    · obtain ⟨m, h1, h2⟩ := hc
      obtain ⟨d, a, b, c⟩ := ih m h1 h2
      exact ⟨d, by omega, b, c⟩
    · exact ⟨n, Nat.le_refl _, h, fun e he hp => hc ⟨e, he, hp⟩⟩
section
variable {V : Type}
theorem FAt.there {hm : Nat → Nat} {S : Slots V} (h : ∀ id, hm id < S.length) (id : Nat) (hu : ∃ i, i < S.length ∧ tAt S i = none) : ∃ d, FAt hm S id d := by
  obtain ⟨i, hi, hz⟩ := hu
  obtain ⟨d, h1, h2, h3⟩ := least (P := fun d => tAt S (ad S.length (hm id) d) = none ∨ ∃ x, tAt S (ad S.length (hm id) d) = some (id, x)) (dst S.length (hm id) i) (.inl (by rw [ad_dst (h id) hi]; exact hz))
  have hl := dst_lt (h id) hi
  refine ⟨d, by omega, fun e he => ?_, h2⟩
  have h4 := h3 e he
  cases ht : tAt S (ad S.length (hm id) e) with
  | none => exact absurd (.inl ht) h4
  | some ex =>
    obtain ⟨k, x⟩ := ex
    refine ⟨k, x, rfl, fun hk => h4 (.inr ⟨x, ?_⟩)⟩
    rw [ht, hk]
/-- Under a number lies just what a table has. -/
theorem FAt.some_there {hm : Nat → Nat} {S : Slots V} (h : FInv hm S) {id d : Nat} (f : FAt hm S id d) (x : V) : tAt S (ad S.length (hm id) d) = some (id, x) ↔ (id, x) ∈ entsF S := by
  have hp := ad_lt (h.home id) f.lt
  constructor
  · intro he; exact (ents_mem S _).2 ⟨_, hp, he⟩
  · intro hm
    obtain ⟨i, hi, he⟩ := (ents_mem S _).1 hm
    rcases f.fin with h1 | ⟨y, h1⟩
    · exact absurd he (f.none_there h h1 i x hi)
    · have := h.one _ _ id y x hp hi h1 he
      rw [this]; exact he
theorem FInv.keys {hm : Nat → Nat} {S : Slots V} (h : FInv hm S) {id : Nat} {x y : V} (h1 : (id, x) ∈ entsF S) (h2 : (id, y) ∈ entsF S) : x = y := by
  obtain ⟨i, hi, ei⟩ := (ents_mem S _).1 h1
  obtain ⟨j, hj, ej⟩ := (ents_mem S _).1 h2
  have := h.one i j id x y hi hj ei ej
  subst this
  rw [ei] at ej
  simp only [Option.some.injEq, Prod.mk.injEq] at ej
  exact ej.2
theorem ents_turn (S : Slots V) (p : Nat) (hp : p < S.length) {e : Nat × V} (he : tAt S p = some e) (e' : Nat × V) : ∃ L, (entsF S).Perm (e :: L) ∧ (entsF (S.set p (some e'))).Perm (e' :: L) := by
  refine ⟨(S.take p).filterMap id ++ (S.drop (p + 1)).filterMap id, ?_, ?_⟩
  · rw [ents_self S p hp, he]
    simp only [Option.toList_some, List.append_assoc, List.singleton_append]
    exact List.perm_middle
  · rw [ents_split S p hp]
    simp only [Option.toList_some, List.append_assoc, List.singleton_append]
    exact List.perm_middle
theorem ents_nil (n : Nat) : entsF (List.replicate n (none : Option (Nat × V))) = [] := by
  unfold entsF
  induction n with
  | zero => rfl
  | succ n ih => rw [List.replicate_succ, List.filterMap_cons]; exact ih
theorem tAt_nil (n i : Nat) : tAt (List.replicate n (none : Option (Nat × V))) i = none := by
  unfold tAt
  rw [List.getD_eq_getElem?_getD, List.getElem?_replicate]
  split <;> rfl
theorem FInv.nil {hm : Nat → Nat} (n : Nat) (h : ∀ id, hm id < n) : FInv hm (List.replicate n (none : Option (Nat × V))) :=
  ⟨fun id => by rw [List.length_replicate]; exact h id, fun i id x _ he => (by rw [tAt_nil] at he; cases he), fun i j id x y _ _ he => (by rw [tAt_nil] at he; cases he)⟩
/-- The first n slots' things. -/
theorem ents_step (S : Slots V) (j : Nat) (hj : j < S.length) : entsF (S.take (j + 1)) = entsF (S.take j) ++ (tAt S j).toList := by
  unfold entsF tAt
  rw [List.take_succ_eq_append_getElem hj, List.filterMap_append, List.getD_eq_getElem?_getD, List.getElem?_eq_getElem hj]
  cases S[j] <;> rfl
end
end Go.Proofs.Ythnlggecjdifnaa
