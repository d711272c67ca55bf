/- Layer 9 in plain Lean: a heap of entries is the list of these in order. Names no function of the program. -/
import Derived.WalkKit
import Derived.Test.YtfckgddodjmbdaaGreatDoorMPortNobodyF0
import Derived.Maps.AppendAt
import Derived.Lib.Strings
import Derived.Test.YtfckgddodjmbdaaGreatDoorShelf
import Derived.Laws.Tables
import Derived.Deep.MidRow
namespace Go.Proofs.YtfckgddodjmbdaaGreatDoor
set_option linter.unusedVariables false
set_option linter.unusedSimpArgs false

/-- An entry: a rank, when it came, a thing. -/
structure En (α : Type) where
  rank : Nat
  came : Nat
  x : α
variable {α : Type}
def ahd (a b : En α) : Bool := decide (a.rank < b.rank) || (decide (a.rank = b.rank) && decide (a.came < b.came))
theorem ahd_iff {a b : En α} : ahd a b = true ↔ a.rank < b.rank ∨ (a.rank = b.rank ∧ a.came < b.came) := by unfold ahd; simp
theorem ahd_not {a b : En α} : ahd a b = false ↔ ¬ (a.rank < b.rank ∨ (a.rank = b.rank ∧ a.came < b.came)) := by rw [← ahd_iff]; simp
theorem ahd_trans {a b c : En α} (h : ahd a b = false) (g : ahd b c = false) : ahd a c = false := by
  rw [ahd_not] at *; omega
theorem ahd_asymm {a b : En α} (h : ahd a b = true) : ahd b a = false := by
  rw [ahd_iff] at h; rw [ahd_not]; omega
theorem ahd_refl (a : En α) : ahd a a = false := by rw [ahd_not]; omega

/-- What lies at a place. -/
def atE (z : En α) (l : List (En α)) (i : Nat) : En α := (l[i]?).getD z
theorem atE_get {z : En α} {l : List (En α)} {i : Nat} (h : i < l.length) : atE z l i = l[i] := by unfold atE; simp [h]
def swp (z : En α) (l : List (En α)) (i p : Nat) : List (En α) := (l.set i (atE z l p)).set p (atE z l i)
theorem swp_len (z : En α) (l : List (En α)) (i p : Nat) : (swp z l i p).length = l.length := by simp [swp]
theorem atE_swp {z : En α} {l : List (En α)} {i p : Nat} (hi : i < l.length) (hp : p < l.length) (j : Nat) : atE z (swp z l i p) j = if j = p then atE z l i else if j = i then atE z l p else atE z l j := by
  unfold swp
  by_cases h1 : j = p
  · subst h1
    rw [if_pos rfl, atE_get (by simpa using hp)]
    simp
  · rw [if_neg h1]
    by_cases h2 : j = i
    · subst h2
      rw [if_pos rfl, atE_get (by simpa using hi), List.getElem_set_ne (fun e => h1 e.symm)]
      simp
    · rw [if_neg h2]
      unfold atE
      rw [List.getElem?_set_ne (fun e => h1 e.symm), List.getElem?_set_ne (fun e => h2 e.symm)]
theorem set_perm {l : List (En α)} {i : Nat} (h : i < l.length) (a : En α) : (l[i] :: l.set i a).Perm (a :: l) := by
  induction l generalizing i with
  | nil => simp at h
  | cons b l ih =>
    cases i with
    | zero => simp only [List.getElem_cons_zero, List.set_cons_zero]; exact List.Perm.swap _ _ _
    | succ i =>
      simp only [List.getElem_cons_succ, List.set_cons_succ]
      have := ih (i := i) (by simpa using h)
      exact (List.Perm.swap _ _ _).trans ((this.cons b).trans (List.Perm.swap _ _ _))
theorem swp_perm {z : En α} {l : List (En α)} {i p : Nat} (hi : i < l.length) (hp : p < l.length) (hne : i ≠ p) : (swp z l i p).Perm l := by
  have h1 := set_perm hi (atE z l p)
  have hp2 : p < (l.set i (atE z l p)).length := by simpa using hp
  have h2 := set_perm hp2 (atE z l i)
  have e1 : (l.set i (atE z l p))[p] = l[p] := List.getElem_set_ne hne _
  rw [e1] at h2
  have e2 : atE z l i = l[i] := atE_get hi
  have e3 : atE z l p = l[p] := atE_get hp
  have h3 : (l[p] :: swp z l i p).Perm (l[p] :: l) := by
    have h4 : (l[p] :: swp z l i p).Perm (l[i] :: l.set i (atE z l p)) := by
      unfold swp; rw [e2] at h2 ⊢; exact h2
    rw [e3] at h1 h4
    exact h4.trans h1
  exact (List.perm_cons _).1 h3

/-- Each is not ahead of the one over it. -/
def HeapOk (z : En α) (l : List (En α)) : Prop := ∀ i, i < l.length → 0 < i → ahd (atE z l i) (atE z l ((i - 1) / 2)) = false
/-- But for the one at i, which may be ahead of the one over it. -/
def UpOk (z : En α) (l : List (En α)) (i : Nat) : Prop := (∀ j, j < l.length → 0 < j → j ≠ i → ahd (atE z l j) (atE z l ((j - 1) / 2)) = false) ∧
  ∀ j, j < l.length → 0 < j → (j - 1) / 2 = i → 0 < i → ahd (atE z l j) (atE z l ((i - 1) / 2)) = false
theorem up_stop {z : En α} {l : List (En α)} {i : Nat} (h : UpOk z l i) (hs : i = 0 ∨ ahd (atE z l i) (atE z l ((i - 1) / 2)) = false) : HeapOk z l := by
  intro j hj h0
  by_cases e : j = i
  · subst e
    rcases hs with hs | hs
    · omega
    · exact hs
  · exact h.1 j hj h0 e
theorem up_step {z : En α} {l : List (En α)} {i : Nat} (h : UpOk z l i) (hi : i < l.length) (h0 : 0 < i) (ha : ahd (atE z l i) (atE z l ((i - 1) / 2)) = true) : UpOk z (swp z l i ((i - 1) / 2)) ((i - 1) / 2) := by
  obtain ⟨p, hp⟩ : ∃ p, (i - 1) / 2 = p := ⟨_, rfl⟩
  rw [hp] at ha ⊢
  have hpi : p < i := by omega
  have hpl : p < l.length := by omega
  have hno := ahd_asymm ha
  refine ⟨fun j hj hj0 hne => ?_, fun j hj hj0 hjp hp0 => ?_⟩
  · rw [swp_len] at hj
    rw [atE_swp hi hpl, atE_swp hi hpl, if_neg hne]
    by_cases e : j = i
    · subst e
      rw [if_pos rfl, if_pos hp]; exact hno
    · rw [if_neg e]
      by_cases e1 : (j - 1) / 2 = p
      · rw [if_pos e1]
        have h1 := h.1 j hj hj0 e
        rw [e1] at h1
        exact ahd_trans h1 hno
      · rw [if_neg e1]
        by_cases e2 : (j - 1) / 2 = i
        · rw [if_pos e2]
          have h1 := h.2 j hj hj0 e2 h0
          rwa [hp] at h1
        · rw [if_neg e2]; exact h.1 j hj hj0 e
  · rw [swp_len] at hj
    rw [atE_swp hi hpl, atE_swp hi hpl]
    have hpp : (p - 1) / 2 ≠ p := by omega
    have hppi : (p - 1) / 2 ≠ i := by omega
    rw [if_neg hpp, if_neg hppi]
    have hp1 := h.1 p hpl hp0 (by omega)
    by_cases e : j = p
    · omega
    · rw [if_neg e]
      by_cases e1 : j = i
      · rw [if_pos e1]; exact hp1
      · rw [if_neg e1]
        have h1 := h.1 j hj hj0 e1
        rw [hjp] at h1
        exact ahd_trans h1 hp1
/-- But for those under i. -/
def DownOk (z : En α) (l : List (En α)) (i : Nat) : Prop := (∀ j, j < l.length → 0 < j → (j - 1) / 2 ≠ i → ahd (atE z l j) (atE z l ((j - 1) / 2)) = false) ∧
  ∀ j, j < l.length → 0 < j → (j - 1) / 2 = i → 0 < i → ahd (atE z l j) (atE z l ((i - 1) / 2)) = false
theorem down_stop {z : En α} {l : List (En α)} {i : Nat} (h : DownOk z l i) (hs : ∀ j, j < l.length → 0 < j → (j - 1) / 2 = i → ahd (atE z l j) (atE z l i) = false) : HeapOk z l := by
  intro j hj h0
  by_cases e : (j - 1) / 2 = i
  · rw [e]; exact hs j hj h0 e
  · exact h.1 j hj h0 e
/-- u is the one under i that is not behind the other one. -/
theorem down_step {z : En α} {l : List (En α)} {i u : Nat} (h : DownOk z l i) (hu : u < l.length) (hui : (u - 1) / 2 = i) (h0 : 0 < u) (ha : ahd (atE z l u) (atE z l i) = true) (hb : ∀ j, j < l.length → 0 < j → (j - 1) / 2 = i → ahd (atE z l j) (atE z l u) = false) : DownOk z (swp z l i u) u := by
  have hiu : i < u := by omega
  have hil : i < l.length := by omega
  have hno := ahd_asymm ha
  refine ⟨fun j hj hj0 hne => ?_, fun j hj hj0 hju hu0 => ?_⟩
  · rw [swp_len] at hj
    rw [atE_swp hil hu, atE_swp hil hu, if_neg hne]
    by_cases e : j = u
    · subst e
      rw [if_pos rfl, if_pos hui]; exact hno
    · rw [if_neg e]
      by_cases e1 : j = i
      · subst e1
        have e2 : (j - 1) / 2 ≠ j := by omega
        rw [if_pos rfl, if_neg e2]
        exact h.2 u hu h0 hui hj0
      · rw [if_neg e1]
        by_cases e2 : (j - 1) / 2 = i
        · rw [if_pos e2]; exact hb j hj hj0 e2
        · rw [if_neg e2]; exact h.1 j hj hj0 e2
  · rw [swp_len] at hj
    rw [atE_swp hil hu, atE_swp hil hu, hui, if_neg (by omega), if_pos rfl]
    have e : j ≠ u := by omega
    have e1 : j ≠ i := by omega
    rw [if_neg e1, if_neg (show ¬ i = u by omega)]
    have h1 := h.1 j hj hj0 (by omega)
    rwa [hju] at h1
theorem root_least {z : En α} {l : List (En α)} (h : HeapOk z l) : ∀ (n j : Nat), j ≤ n → j < l.length → ahd (atE z l j) (atE z l 0) = false
  | 0, j, hn, _ => by
    have : j = 0 := by omega
    subst this; exact ahd_refl _
  | n + 1, j, hn, hj => by
    by_cases e : j = 0
    · subst e; exact ahd_refl _
    · exact ahd_trans (h j hj (by omega)) (root_least h n ((j - 1) / 2) (by omega) (by omega))

/-- Entries in order. -/
def Srt (S : List (En α)) : Prop := S.Pairwise fun a b => ahd a b = true
/-- Behind all of no greater rank. -/
def insE : List (En α) → En α → List (En α)
  | [], e => [e]
  | y :: l, e => if e.rank < y.rank then e :: y :: l else y :: insE l e
theorem insE_perm (e : En α) : ∀ S : List (En α), (insE S e).Perm (e :: S)
  | [] => List.Perm.refl _
  | y :: l => by
    unfold insE
    split
    · exact List.Perm.refl _
    · exact ((insE_perm e l).cons y).trans (List.Perm.swap _ _ _)
theorem insE_srt {e : En α} : ∀ {S : List (En α)}, Srt S → (∀ s ∈ S, s.came < e.came) → Srt (insE S e)
  | [], _, _ => by unfold insE Srt; simp
  | y :: l, h, hc => by
    unfold Srt at h
    rw [List.pairwise_cons] at h
    unfold insE
    split
    · rename_i hlt
      unfold Srt
      rw [List.pairwise_cons, List.pairwise_cons]
      refine ⟨fun a ha => ?_, h.1, h.2⟩
      rcases List.mem_cons.1 ha with rfl | ha
      · rw [ahd_iff]; exact .inl hlt
      · have h1 := h.1 a ha
        rw [ahd_iff] at h1 ⊢; omega
    · rename_i hlt
      have ih := insE_srt (e := e) (S := l) h.2 (fun s hs => hc s (by simp [hs]))
      unfold Srt at ih ⊢
      rw [List.pairwise_cons]
      refine ⟨fun a ha => ?_, ih⟩
      rcases List.mem_cons.1 ((insE_perm e l).mem_iff.1 ha) with rfl | ha
      · have := hc y (by simp)
        rw [ahd_iff]; omega
      · exact h.1 a ha
/-- A heap's entries, and these in order: none came at n, or behind. -/
structure HpR (z : En α) (n : Nat) (l S : List (En α)) : Prop where
  heap : HeapOk z l
  perm : l.Perm S
  srt : Srt S
  came : ∀ s ∈ S, s.came < n
theorem HpR.nil (z : En α) (n : Nat) : HpR z n [] [] := ⟨fun i h => by simp at h, List.Perm.refl _, List.Pairwise.nil, fun s h => by cases h⟩
theorem HpR.len {z : En α} {n : Nat} {l S : List (En α)} (h : HpR z n l S) : l.length = S.length := h.perm.length_eq
theorem HpR.head {z : En α} {n : Nat} {l S : List (En α)} (h : HpR z n l S) (h0 : 0 < l.length) : ∃ T, S = atE z l 0 :: T := by
  cases S with
  | nil => have := h.len; rw [List.length_nil] at this; omega
  | cons s T =>
    refine ⟨T, ?_⟩
    have h1 : s ∈ l := h.perm.mem_iff.2 (by simp)
    obtain ⟨j, hj, e⟩ := List.getElem_of_mem h1
    have h2 := root_least h.heap j j (Nat.le_refl _) hj
    rw [atE_get hj, e] at h2
    have h3 : atE z l 0 ∈ s :: T := h.perm.mem_iff.1 (by rw [atE_get h0]; exact List.getElem_mem h0)
    rcases List.mem_cons.1 h3 with h3 | h3
    · rw [h3]
    · have := h.srt
      unfold Srt at this
      rw [List.pairwise_cons] at this
      rw [this.1 _ h3] at h2; cases h2
theorem HpR.push {z : En α} {n : Nat} {l l' S : List (En α)} {e : En α} (h : HpR z n l S) (hn : e.came = n) (hp : l'.Perm (l ++ [e])) (hh : HeapOk z l') : HpR z (n + 1) l' (insE S e) := by
  refine ⟨hh, ?_, insE_srt h.srt (fun s hs => by rw [hn]; exact h.came s hs), fun s hs => ?_⟩
  · have h1 : (l ++ [e]).Perm (e :: l) := List.perm_append_comm
    exact hp.trans (h1.trans ((h.perm.cons e).trans (insE_perm e S).symm))
  · rcases List.mem_cons.1 ((insE_perm e S).mem_iff.1 hs) with rfl | hs
    · omega
    · have := h.came s hs; omega
theorem HpR.pop {z : En α} {n : Nat} {l l' S T : List (En α)} (h : HpR z n l S) (hS : S = atE z l 0 :: T) (hp : (atE z l 0 :: l').Perm l) (hh : HeapOk z l') : HpR z n l' T := by
  subst hS
  refine ⟨hh, (List.perm_cons _).1 (hp.trans h.perm), ?_, fun s hs => h.came s (by simp [hs])⟩
  have := h.srt
  unfold Srt at this
  rw [List.pairwise_cons] at this
  exact this.2
theorem up_first {z : En α} {l : List (En α)} (e : En α) (h : HeapOk z l) : UpOk z (l ++ [e]) l.length := by
  have hat : ∀ j, j < l.length → atE z (l ++ [e]) j = atE z l j := fun j hj => by unfold atE; rw [List.getElem?_append_left hj]
  refine ⟨fun j hj h0 hne => ?_, fun j hj h0 hjp _ => ?_⟩
  · rw [List.length_append, List.length_singleton] at hj
    rw [hat j (by omega), hat _ (by omega)]; exact h j (by omega) h0
  · rw [List.length_append, List.length_singleton] at hj; omega
/-- The last one in the first one's place. -/
theorem down_first {z : En α} {l : List (En α)} (h : HeapOk z l) (h0 : 1 < l.length) : DownOk z ((l.set 0 (atE z l (l.length - 1))).take (l.length - 1)) 0 ∧ (atE z l 0 :: (l.set 0 (atE z l (l.length - 1))).take (l.length - 1)).Perm l := by
  have hat : ∀ j, 0 < j → j < l.length - 1 → atE z ((l.set 0 (atE z l (l.length - 1))).take (l.length - 1)) j = atE z l j := fun j hj hjl => by
    unfold atE
    rw [List.getElem?_take_of_lt hjl, List.getElem?_set_ne (by omega)]
  refine ⟨⟨fun j hj hj0 hne => ?_, fun j hj hj0 hjp h1 => by omega⟩, ?_⟩
  · rw [List.length_take, List.length_set] at hj
    rw [hat j hj0 (by omega), hat _ (by omega) (by omega)]; exact h j (by omega) hj0
  · match l, h0 with
    | a :: b :: r, _ =>
      have hl : (a :: b :: r).length - 1 = r.length + 1 := by simp
      have e1 : atE z (a :: b :: r) 0 = a := rfl
      obtain ⟨q, c, hq⟩ : ∃ q c, b :: r = q ++ [c] := ⟨(b :: r).dropLast, (b :: r).getLast (by simp), (List.dropLast_concat_getLast (by simp)).symm⟩
      have hlen : q.length = r.length := by have := congrArg List.length hq; simp at this; omega
      have e2 : atE z (a :: b :: r) (r.length + 1) = c := by
        unfold atE
        rw [List.getElem?_cons_succ, hq, List.getElem?_append_right (by omega), hlen]; simp
      rw [hl, e1, e2, List.set_cons_zero, List.take_succ_cons, hq, ← hlen, List.take_append_of_le_length (Nat.le_refl _), List.take_length]
      exact (List.Perm.cons a (List.perm_append_comm (l₁ := q) (l₂ := [c])).symm)
end Go.Proofs.YtfckgddodjmbdaaGreatDoor

namespace Go.Proofs.YtfckgddodjmbdaaGreatDoor
set_option linter.unusedVariables false
set_option linter.unusedSimpArgs false
open Go.RowKit

theorem own_shape1 {w : World} {base : Nat} {e : TypeId} {size : Nat} {v : Value} {n : Nat} {xs : List Value} (h : w.ownsRow base e size v n xs) (hn : 0 < n) : ∃ g cap, v = .slice (some ⟨g, 0, none⟩) n cap ∧ base ≤ g := by
  rcases h.2 with ⟨_, h⟩ | ⟨g, cap, cur, hv, hg, _⟩
  · omega
  · exact ⟨g, cap, hv, hg⟩
theorem own_cell {w : World} {base : Nat} {e : TypeId} {size : Nat} {n g cap : Nat} {xs : List Value} (h : w.ownsRow base e size (.slice (some ⟨g, 0, none⟩) n cap) n xs) (i : Nat) {u : Value} (hu : xs[i]? = some u) : w.cell? ⟨g, i, none⟩ = some u := by
  obtain ⟨ao, cap', hv, hc⟩ := (own_sl h).is
  obtain ⟨b, off, e1, h1⟩ := hc i u hu
  cases hv
  cases e1
  rw [Nat.zero_add] at h1; exact h1
theorem own_fz {w : World} {base : Nat} {e : TypeId} {size : Nat} {n g cap : Nat} {xs : List Value} (h : w.ownsRow base e size (.slice (some ⟨g, 0, none⟩) n cap) n xs) (i : Nat) : w.frozen? ⟨g, i, none⟩ = false := by
  rcases h.2 with ⟨h, _⟩ | ⟨g', cap', cur, hv, _, hh, _⟩
  · cases h
  · cases hv; simp [World.frozen?, hh]
theorem own_set {w : World} {base : Nat} {e : TypeId} {size : Nat} {n g cap : Nat} {xs : List Value} (h : w.ownsRow base e size (.slice (some ⟨g, 0, none⟩) n cap) n xs) (j : Nat) (u : Value) : (w.setCell ⟨g, j, none⟩ u).ownsRow base e size (.slice (some ⟨g, 0, none⟩) n cap) n (xs.set j u) := (h.stored j u).1
theorem own_setNe {w : World} {base : Nat} {e : TypeId} {size : Nat} {v : Value} {n : Nat} {xs : List Value} (h : w.ownsRow base e size v n xs) {a : Addr} (hne : ∀ b, v.ownBlock = some b → b ≠ a.block) (u : Value) : (w.setCell a u).ownsRow base e size v n xs := by
  refine ⟨h.1, ?_⟩
  rcases h.2 with h | ⟨g, cap, cur, rfl, hg, hh, r⟩
  · exact .inl h
  · exact .inr ⟨g, cap, cur, rfl, hg, (Below.heap_setCell _ _ _ _ (hne g rfl)).trans hh, r⟩
/-- What lies in the block of an owned row. -/
theorem own_type {w : World} {base : Nat} {e : TypeId} {size : Nat} {v : Value} {n : Nat} {xs : List Value} (h : w.ownsRow base e size v n xs) {b : Nat} (hb : v.ownBlock = some b) : ∃ cur, w.heap[b]? = some (.cells cur e (0, 0)) := by
  rcases h.2 with ⟨rfl, _⟩ | ⟨g, cap, cur, rfl, hg, hh, r⟩
  · cases hb
  · cases hb; exact ⟨cur, hh⟩
theorem own_ne_blk {w : World} {base : Nat} {e : TypeId} {size : Nat} {v : Value} {n : Nat} {xs : List Value} (h : w.ownsRow base e size v n xs) {b : Nat} {cs : List Value} {t : TypeId} (hb : Blk w b cs t) (ht : t ≠ e) : v.ownBlock ≠ some b := fun hv => by
  obtain ⟨cur, hh⟩ := own_type h hv
  have := hb.is.symm.trans hh
  simp at this; exact ht this.2
theorem own_ne_own {w : World} {base base' : Nat} {e e' : TypeId} {size size' : Nat} {v v' : Value} {n n' : Nat} {xs xs' : List Value} (h : w.ownsRow base e size v n xs) (h' : w.ownsRow base' e' size' v' n' xs') (ht : e ≠ e') : ∀ b, v.ownBlock = some b → v'.ownBlock ≠ some b := fun b hv hv' => by
  obtain ⟨cur, hh⟩ := own_type h hv
  obtain ⟨cur', hh'⟩ := own_type h' hv'
  have := hh.symm.trans hh'
  simp at this; exact ht this.2
theorem blk_ne {w : World} {b b' : Nat} {cs cs' : List Value} {t t' : TypeId} (h : Blk w b cs t) (h' : Blk w b' cs' t') (ht : t ≠ t') : b ≠ b' := fun e => by subst e; exact ht (h.inj h').2

/-- The j-th of the flat things turned, cell by cell. -/
def setFlat (l : List Value) (o : Nat) : List Value → List Value
  | [] => l
  | v :: r => setFlat (l.set o v) (o + 1) r
theorem setFlat_get (vs : List Value) : ∀ (l : List Value) (o i : Nat), o + vs.length ≤ l.length → (setFlat l o vs)[i]? = if o ≤ i ∧ i < o + vs.length then vs[i - o]? else l[i]? := by
  induction vs with
  | nil => intro l o i _; simp [setFlat]; intro h1 h2; omega
  | cons v r ih =>
    intro l o i h
    simp only [List.length_cons] at h
    rw [setFlat, ih _ _ _ (by simp; omega)]
    by_cases h1 : o + 1 ≤ i ∧ i < o + 1 + r.length
    · rw [if_pos h1, if_pos ⟨by omega, by simp; omega⟩]
      rw [show i - o = (i - (o + 1)) + 1 by omega]; simp
    · rw [if_neg h1]
      by_cases h2 : i = o
      · subst h2; rw [if_pos ⟨by omega, by simp⟩, List.getElem?_set_self (by omega)]; simp
      · rw [if_neg (by simp; omega), List.getElem?_set_ne (fun e => h2 e.symm)]
theorem flat_set {α : Type} (en : α → List Value) (sz : Nat) (hl : ∀ a, (en a).length = sz) (l : List α) (j : Nat) (a : α) (hj : j < l.length) : (l.set j a).flatMap en = setFlat (l.flatMap en) (j * sz) (en a) := by
  apply List.ext_getElem?
  intro i
  have hlen := flat_len en sz hl l
  have hjs : j * sz + sz ≤ l.length * sz := by rw [← Nat.succ_mul]; exact Nat.mul_le_mul_right _ hj
  rw [setFlat_get _ _ _ _ (by rw [hlen, hl]; exact hjs), hl]
  by_cases hs : sz = 0
  · subst hs
    have h0 : ∀ m : List α, m.flatMap en = [] := fun m => List.eq_nil_of_length_eq_zero (by rw [flat_len en 0 hl m]; simp)
    rw [h0, h0]; simp
  · have hr : i % sz < sz := Nat.mod_lt _ (by omega)
    have hdm : i / sz * sz + i % sz = i := by rw [Nat.mul_comm]; exact Nat.div_add_mod i sz
    have h1 := flat_get en sz hl (l.set j a) (i / sz) (i % sz) hr
    have h2 := flat_get en sz hl l (i / sz) (i % sz) hr
    rw [hdm] at h1 h2
    rw [h1, h2]
    by_cases e : i / sz = j
    · have c1 : j * sz ≤ i ∧ i < j * sz + sz := by rw [← e]; omega
      rw [if_pos c1, e, List.getElem?_set_self hj]
      have : i - j * sz = i % sz := by rw [← e]; omega
      rw [this]; rfl
    · rw [if_neg, List.getElem?_set_ne (fun z => e z.symm)]
      rintro ⟨a1, a2⟩
      apply e
      have b1 : i / sz < j + 1 := (Nat.div_lt_iff_lt_mul (by omega)).2 (by rw [Nat.succ_mul]; exact a2)
      have b2 : j ≤ i / sz := (Nat.le_div_iff_mul_le (by omega)).2 a1
      omega
/-- 'append(s, x..)', x things that can be read. -/
theorem wp_appN {P : Program} {t e : TypeId} {z : Value} {size bytes : Nat} (T : SlT P t e z size bytes) {ops : Array Oper} {rest : List Oper} {o : Oper} {a : Act} {Q : Exit → Act → World → Prop} {w : World} (s x : Operand)
    (hgd : o.guard = none) (ho : o.op = .call { callee := .builtin .append, args := #[s, x], argTypes := #[t, t] }) (base : Nat) {v : Value} {n : Nat} {xs : List Value} (hown : w.ownsRow base e size v n xs)
    {b off m c : Nat} (news : List Value) (hs : a.eval s = v) (hx : a.eval x = .slice (some ⟨b, off, none⟩) m c) (hl : news.length = m * size) (hnews : ∀ j u, news[j]? = some u → w.cell? ⟨b, off + j, none⟩ = some u) (h1 : news.all (·.oneCell') = true)
    (hbytes : (n + m) * bytes ≤ 140737488355328) (h63 : n + m ≤ 9223372036854775807) (hbase : base ≤ w.heap.size)
    (h : ∀ v' w', w'.ownsRow base e size v' (n + m) (xs ++ news) → w.grownBy w' v.ownBlock → wpList P ops Q rest (a.put o.dst v') w') : wpList P ops Q (o :: rest) a w := by
  obtain ⟨i, hi, hz0, hz1, hz2⟩ := info_parts T.info
  refine wpList_append_own w hgd s x t ho base e i z size bytes T.ht hi hz0 hz1 hz2 T.hz T.pos v n xs hs hown ⟨b, off, none⟩ m c news hx hl ?_ (by simpa using h1) (by unfold maxLen; omega) hbytes hbase (fun v' w' a1 a2 _ => h v' w' a1 a2)
  intro j u hu
  have e : (⟨b, off, none⟩ : Addr).add j = ⟨b, off + j, none⟩ := by unfold Addr.add; split <;> simp_all
  rw [e]; exact hnews j u hu
end Go.Proofs.YtfckgddodjmbdaaGreatDoor

namespace Go.Proofs.YtfckgddodjmbdaaGreatDoor
set_option linter.unusedVariables false
set_option linter.unusedSimpArgs false
open Go.RowKit

def bl (s : ByteArray) : List UInt8 := s.data.toList
theorem bl_len (s : ByteArray) : (bl s).length = s.size := by simp [bl]
theorem bl_get (s : ByteArray) (k : Nat) (h : k < s.size) : (bl s)[k]'(by rw [bl_len]; exact h) = s[k] := rfl
theorem str_ext {a b : ByteArray} (h : bl a = bl b) : a = b := by
  cases a; cases b; simp [bl] at h; rw [h]
/-- The text of a list of bytes. -/
def tx (l : List UInt8) : ByteArray := ⟨l.toArray⟩
theorem bl_tx (l : List UInt8) : bl (tx l) = l := by simp [bl, tx]
theorem tx_bl (s : ByteArray) : tx (bl s) = s := str_ext (bl_tx _)
theorem tx_size (l : List UInt8) : (tx l).size = l.length := by rw [← bl_len, bl_tx]
theorem bl_cut (s : ByteArray) (a b : Nat) : bl (s.extract a b) = ((bl s).drop a).take (b - a) := Lib.extract_data s a b
end Go.Proofs.YtfckgddodjmbdaaGreatDoor

namespace Go.Proofs.YtfckgddodjmbdaaGreatDoor
set_option linter.unusedVariables false
set_option linter.unusedSimpArgs false
open Go Go.RowKit Go.Shelf

/-- A packet. -/
structure Pk where
  flow : Nat
  id : Nat
  len : Nat
def enP (p : Pk) : List Value := [.int .u32 p.flow, .int .u32 p.id, .int .u64 p.len]
def enE (e : En Pk) : List Value := [.int .u64 e.rank, .int .u64 e.came] ++ enP e.x
theorem enE_len (e : En Pk) : (enE e).length = 5 := rfl
set_option maxHeartbeats 1000000 in
theorem hAhead (a b : En Pk) (w : World) : Calls Tryz.prog 191 #[.agg (enE a).toArray, .agg (enE b).toArray] w fun e w' => e = .returned (.bool (ahd a b)) ∧ Kp none' w w' := by
  obtain ⟨ra, ca, ⟨fa, ia, la⟩⟩ := a
  obtain ⟨rb, cb, ⟨fb, ib, lb⟩⟩ := b
  show Calls Tryz.prog 191 #[.agg #[.int .u64 (ra : Int), .int .u64 (ca : Int), .int .u32 (fa : Int), .int .u32 (ia : Int), .int .u64 (la : Int)], .agg #[.int .u64 (rb : Int), .int .u64 (cb : Int), .int .u32 (fb : Int), .int .u32 (ib : Int), .int .u64 (lb : Int)]] w _
  by_cases h1 : ra < rb
  · have HA : Hid (ahd (⟨ra, ca, ⟨fa, ia, la⟩⟩ : En Pk) ⟨rb, cb, ⟨fb, ib, lb⟩⟩ = true) := by show _ = _; simp [ahd, h1]
    have h1' : (ra : Int) < rb := by omega
    go_enter Tryz.func191, Tryz.ntmps191
    go_wp2
    go_ret
    exact ⟨by rw [HA.out]; rfl, ((Kp.refl _ _).alloc _).alloc _⟩
  · have h1' : ¬ (ra : Int) < rb := by omega
    by_cases h2 : ra = rb
    · subst h2
      by_cases h3 : ca < cb
      · have HA : Hid (ahd (⟨ra, ca, ⟨fa, ia, la⟩⟩ : En Pk) ⟨ra, cb, ⟨fb, ib, lb⟩⟩ = true) := by show _ = _; simp [ahd, h3]
        have h3' : (ca : Int) < cb := by omega
        go_enter Tryz.func191, Tryz.ntmps191
        go_wp2
        go_ret
        exact ⟨by rw [HA.out]; rfl, ((Kp.refl _ _).alloc _).alloc _⟩
      · have HA : Hid (ahd (⟨ra, ca, ⟨fa, ia, la⟩⟩ : En Pk) ⟨ra, cb, ⟨fb, ib, lb⟩⟩ = false) := by show _ = _; simp [ahd, h3]
        have h3' : ¬ (ca : Int) < cb := by omega
        go_enter Tryz.func191, Tryz.ntmps191
        go_wp2
        go_ret
        exact ⟨by rw [HA.out]; rfl, ((Kp.refl _ _).alloc _).alloc _⟩
    · have HA : Hid (ahd (⟨ra, ca, ⟨fa, ia, la⟩⟩ : En Pk) ⟨rb, cb, ⟨fb, ib, lb⟩⟩ = false) := by show _ = _; simp [ahd, h1, h2]
      have h2' : ((ra : Int) == rb) = false := by simp; omega
      go_enter Tryz.func191, Tryz.ntmps191
      go_wp2
      go_ret
      exact ⟨by rw [HA.out]; rfl, ((Kp.refl _ _).alloc _).alloc _⟩
end Go.Proofs.YtfckgddodjmbdaaGreatDoor

namespace Go.Proofs.YtfckgddodjmbdaaGreatDoor
set_option linter.unusedVariables false
set_option linter.unusedSimpArgs false
open Go Go.RowKit

theorem kpSetRow {S : Nat → Prop} {a w : World} (h : Kp S a w) {g : Nat} (hg : S g ∨ a.heap.size ≤ g) (cs : Array Value) : Kp S a (w.setRow g cs) :=
  ⟨h.os, h.tape, h.output, by rw [size_setRow]; exact h.size, fun i hi hs => (setRow_other w g i cs (fun e => by subst e; rcases hg with hg | hg; (exact hs hg); omega)).trans (h.block i hi hs)⟩
theorem blkSetRow {w : World} {g : Nat} {old cs : List Value} {t : TypeId} (h : Blk w g old t) : Blk (w.setRow g cs.toArray) g cs t := ⟨setRow_heap w g _ _ t _ h.is⟩
theorem blkSetRowNe {w : World} {g b : Nat} {cs : List Value} {t : TypeId} (h : Blk w b cs t) (hne : b ≠ g) (x : Array Value) : Blk (w.setRow g x) b cs t := ⟨(setRow_other w g b x hne).trans h.is⟩
theorem oneAll {cs : List Value} (h : ∀ v ∈ cs, v.oneCell' = true) : cs.toArray.all (·.oneCell') = true := by
  rw [Array.all_eq_true_iff_forall_mem]; intro x hx; exact h x (by simpa using hx)
/-- The variable in block g is written whole. -/
theorem wp_set_row {P : Program} {ops : Array Oper} {rest : List Oper} {o : Oper} {a : Act} {Q : Exit → Act → World → Prop} (hgd : o.guard = none) (ty : TypeId) (x y : Operand) (ho : o.op = .store ty x y) {w : World} {g : Nat} {old : List Value} {t : TypeId} (hb : Blk w g old t) (cs : List Value)
    (hx : a.eval x = .pointer (some ⟨g, 0, none⟩)) (hy : a.eval y = .agg cs.toArray) (hi : (P.info? ty).map (·.size) = some cs.length) (hold : old.length = cs.length) (h1 : ∀ v ∈ cs, v.oneCell' = true)
    (h : ∀ W2, Blk W2 g cs t → (∀ b cs' t', Blk w b cs' t' → b ≠ g → Blk W2 b cs' t') → (∀ (S : Nat → Prop) a, Kp S a w → (S g ∨ a.heap.size ≤ g) → Kp S a W2) → wpList P ops Q rest (a.put o.dst undef) W2) : wpList P ops Q (o :: rest) a w :=
  wpList_store_row hgd ty x y ho g cs.toArray hx hy t old.toArray hb.is (by rw [List.size_toArray]; exact hi) (by rw [List.size_toArray, List.size_toArray]; exact hold) (oneAll h1)
    (h _ (blkSetRow hb) (fun _ _ _ k hne => blkSetRowNe k hne _) (fun _ _ k hg => kpSetRow k hg _))
/-- A variable read whole. -/
theorem wp_get_row {P : Program} {ops : Array Oper} {rest : List Oper} {o : Oper} {a : Act} {w : World} {Q : Exit → Act → World → Prop} (hgd : o.guard = none) (ty : TypeId) (x : Operand) (ho : o.op = .load ty x) {g : Nat} {cs : List Value} {t : TypeId} (hb : Blk w g cs t) (d : TypeDesc)
    (hx : a.eval x = .pointer (some ⟨g, 0, none⟩)) (hu : P.underlying ty = some d) (hd : (match d with | .struct _ | .array _ _ => true | _ => false) = true) (hi : (P.info? ty).map (·.size) = some cs.length)
    (h : wpList P ops Q rest (a.put o.dst (.agg cs.toArray)) w) : wpList P ops Q (o :: rest) a w :=
  wpList_load_row hgd ty x ho g hx t cs.toArray (0, 0) d hb.is hu hd (by rw [List.size_toArray]; exact hi) h
theorem blk_setCells {g : Nat} {t : TypeId} : ∀ (vs : List Value) (o : Nat) (w : World) (old : List Value), Blk w g old t → Blk (w.setCells g o vs) g (setFlat old o vs) t
  | [], _, _, _, h => h
  | v :: r, o, _, _, h => blk_setCells r (o + 1) _ _ (h.set o v)
theorem blk_setCellsNe {g b : Nat} {cs : List Value} {t : TypeId} (hne : b ≠ g) : ∀ (vs : List Value) (o : Nat) (w : World), Blk w b cs t → Blk (w.setCells g o vs) b cs t
  | [], _, _, h => h
  | v :: r, o, _, h => blk_setCellsNe hne r (o + 1) _ (h.setNe (a := ⟨g, o, none⟩) hne v)
theorem kp_setCells {S : Nat → Prop} {a : World} {g : Nat} (hg : S g ∨ a.heap.size ≤ g) : ∀ (vs : List Value) (o : Nat) (w : World), Kp S a w → Kp S a (w.setCells g o vs)
  | [], _, _, h => h
  | v :: r, o, _, h => kp_setCells hg r (o + 1) _ (h.set (p := ⟨g, o, none⟩) hg v)
/-- A thing written among others that lie in one block. -/
theorem wp_set_mid {P : Program} {ops : Array Oper} {rest : List Oper} {op : Oper} {a : Act} {Q : Exit → Act → World → Prop} (hgd : op.guard = none) (ty : TypeId) (x y : Operand) (ho : op.op = .store ty x y) {w : World} {g : Nat} {old : List Value} {t : TypeId} (hb : Blk w g old t) (o : Nat) (cs : List Value)
    (hx : a.eval x = .pointer (some ⟨g, o, none⟩)) (hy : a.eval y = .agg cs.toArray) (hi : (P.info? ty).map (·.size) = some cs.length) (hin : o + cs.length ≤ old.length) (h1 : ∀ v ∈ cs, v.oneCell' = true)
    (h : ∀ W2, Blk W2 g (setFlat old o cs) t → (∀ b cs' t', Blk w b cs' t' → b ≠ g → Blk W2 b cs' t') → (∀ (S : Nat → Prop) a, Kp S a w → (S g ∨ a.heap.size ≤ g) → Kp S a W2) → wpList P ops Q rest (a.put op.dst undef) W2) : wpList P ops Q (op :: rest) a w := by
  refine wpList_store_mid hgd ty x y ho g o cs.toArray hx hy ?_ (by rw [List.size_toArray]; exact hi) (oneAll h1) ?_
  · intro j hj
    rw [List.size_toArray] at hj
    refine ⟨?_, hb.fz _⟩
    rw [hb.cell (o + j) (List.getElem?_eq_getElem (show o + j < old.length by omega))]; rfl
  · exact h _ (blk_setCells _ _ _ _ hb) (fun _ _ _ k hne => blk_setCellsNe hne _ _ _ k) (fun _ _ k hg => kp_setCells hg _ _ _ k)
/-- A value built, what it is being known. -/
theorem wp_built {P : Program} {ops : Array Oper} {rest : List Oper} {o : Oper} {a : Act} {w : World} {Q : Exit → Act → World → Prop} (hgd : o.guard = none) (t : TypeId) (parts : Array (Nat × Operand)) (ho : o.op = .build t parts) (v : Value)
    (h1 : (Instr.build t (parts.map fun (i, x) => (i, a.eval x))).run P w = .ok v w) (h : wpList P ops Q rest (a.put o.dst v) w) : wpList P ops Q (o :: rest) a w :=
  wpList_plain hgd fun _ hK => by
    unfold Oper.wp execOp
    simp only [ho, Sem.run_bind, h1, Result.andThen_ok, Sem.run_pure]
    exact hK _ _ h
/-- A result that lies in a variable, handed back. -/
theorem ret_row {P : Program} {f : Func} {s : Tmp} {ty : TypeId} (hf : f.results = #[.cell s ty]) {R : Ending → World → Prop} {W : World} {g : Nat} {cs : List Value} {t : TypeId} {T : Array Value} (hb : Blk W g cs t) (d : TypeDesc) (hu : P.underlying ty = some d) (hd : (match d with | .struct _ | .array _ _ => true | _ => false) = true)
    (hi : (P.info? ty).map (·.size) = some cs.length) (h2 : T.getD s undef = .pointer (some ⟨g, 0, none⟩)) (hR : R (.returned (.agg cs.toArray)) W) : bodyPost P f R Exit.ret { tmps := T, defers := [] } W :=
  bodyPost_ret (v := .agg cs.toArray) (results_cell_row hf T W g t cs.toArray (0, 0) d h2 hb.is hu hd (by rw [List.size_toArray]; exact hi)) rfl hR
/-- Two results: a variable's contents, and another value. -/
theorem ret_row2 {P : Program} {f : Func} {s u : Tmp} {ty : TypeId} (hf : f.results = #[.cell s ty, .tmp u]) {R : Ending → World → Prop} {W : World} {g : Nat} {cs : List Value} {t : TypeId} {T : Array Value} (hb : Blk W g cs t) (d : TypeDesc) (hu : P.underlying ty = some d) (hd : (match d with | .struct _ | .array _ _ => true | _ => false) = true)
    (hi : (P.info? ty).map (·.size) = some cs.length) (h2 : T.getD s undef = .pointer (some ⟨g, 0, none⟩)) (hR : R (.returned (.tuple #[.agg cs.toArray, T.getD u undef])) W) : bodyPost P f R Exit.ret { tmps := T, defers := [] } W := by
  refine bodyPost_ret (v := .tuple #[.agg cs.toArray, T.getD u undef]) ?_ rfl hR
  have h2' : T[s]?.getD undef = .pointer (some ⟨g, 0, none⟩) := by simpa using h2
  simp [results, hf, h2', asAddr, run_loadVar_row W g t ty cs.toArray (0, 0) d hb.is hu hd (by rw [List.size_toArray]; exact hi)]
end Go.Proofs.YtfckgddodjmbdaaGreatDoor
