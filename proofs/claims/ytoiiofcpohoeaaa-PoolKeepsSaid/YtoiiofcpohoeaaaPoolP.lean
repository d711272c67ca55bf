/- The plain law of a pool: cells in chains against the document's lists (no program in sight). -/
import Derived.Test.YtoiiofcpohoeaaaBase
namespace Go.Proofs.Ytoiiofcpohoeaaa

structure PC (α : Type) where
  x : α
  next : Int
  taken : Bool
  queued : Bool
structure PS (α : Type) where
  cs : List (PC α)
  qs : List (Int × Int)
  most : Int
  free : Int
  n : Int
/-- The document's pool. -/
structure RP (α : Type) where
  most : Int
  queues : Int
  items : List (Int × α)
  inn : List (Int × Int)
  back : List Int
  never : Int

variable {α : Type}

/-- A handle's cell, if there is one and it is taken. -/
def tk (S : PS α) (h : Int) : Option (PC α) := if 0 ≤ h then (S.cs[h.toNat]?).filter (·.taken) else none
def RP.find (R : RP α) (h : Int) : Option α := (R.items.find? (fun p => p.1 == h)).map (·.2)
def RP.q (R : RP α) (q : Int) : List Int := (R.inn.filter (fun p => p.1 == q)).map (·.2)

def nx (cs : List (PC α)) (i : Nat) : Int := match cs[i]? with | some c => c.next | none => -1

/-- From a on the cells lie as l. -/
def Chain (f : Nat → Int) : Int → List Int → Prop
  | a, [] => a = -1
  | a, h :: r => a = h ∧ 0 ≤ h ∧ Chain f (f h.toNat) r

theorem Chain.nonneg {f : Nat → Int} : ∀ {l : List Int} {a : Int}, Chain f a l → ∀ z ∈ l, 0 ≤ z
  | [], _, _, z, hz => by simp at hz
  | h :: r, a, hc, z, hz => by
    rcases List.mem_cons.1 hz with rfl | hz
    · exact hc.2.1
    · exact hc.2.2.nonneg z hz
theorem Chain.congr {f g : Nat → Int} : ∀ {l : List Int} {a : Int}, Chain f a l → (∀ z ∈ l, g z.toNat = f z.toNat) → Chain g a l
  | [], _, h, _ => h
  | h :: r, a, hc, hg => ⟨hc.1, hc.2.1, by rw [hg h (by simp)]; exact hc.2.2.congr (fun z hz => hg z (by simp [hz]))⟩
/-- One more behind. -/
theorem Chain.snoc {f g : Nat → Int} : ∀ {l : List Int} {a t h : Int}, Chain f a (l ++ [t]) → (l ++ [t]).Nodup → (∀ z ∈ l, g z.toNat = f z.toNat) → g t.toNat = h → 0 ≤ h → g h.toNat = -1 → Chain g a (l ++ [t] ++ [h])
  | [], a, t, h, hc, _, _, ht, h0, hh => ⟨hc.1, hc.2.1, by rw [ht]; exact ⟨rfl, h0, hh⟩⟩
  | z :: r, a, t, h, hc, hn, hg, ht, h0, hh => by
    refine ⟨hc.1, hc.2.1, ?_⟩
    rw [hg z (by simp)]
    exact Chain.snoc hc.2.2 (List.nodup_cons.1 hn).2 (fun y hy => hg y (by simp [hy])) ht h0 hh
theorem Chain.head {f : Nat → Int} {a : Int} {l : List Int} (h : Chain f a l) : a = l.head?.getD (-1) := by
  cases l with
  | nil => exact h
  | cons z r => exact h.1

structure Rel (S : PS α) (R : RP α) : Prop where
  most : R.most = S.most
  most1 : 1 ≤ S.most ∧ S.most ≤ 4096
  queues : R.queues = S.qs.length
  never : R.never = S.cs.length
  room : (S.cs.length : Int) ≤ S.most
  count : R.items.length + R.back.length = S.cs.length
  n : S.n = R.items.length
  find : ∀ h, (tk S h).map (·.x) = R.find h
  inodup : (R.items.map (·.1)).Nodup
  irange : ∀ p ∈ R.items, 0 ≤ p.1 ∧ p.1 < S.cs.length
  free : Chain (nx S.cs) S.free R.back.reverse
  bnodup : R.back.Nodup
  brange : ∀ b ∈ R.back, 0 ≤ b ∧ b < S.cs.length ∧ R.find b = none
  queue : ∀ (q : Nat) (hd tl : Int), S.qs[q]? = some (hd, tl) → Chain (nx S.cs) hd (R.q q) ∧ tl = (R.q q).getLast?.getD (-1)
  qnodup : (R.inn.map (·.2)).Nodup
  qrange : ∀ p ∈ R.inn, 0 ≤ p.1 ∧ p.1 < S.qs.length
  queued : ∀ h c, tk S h = some c → (c.queued = true ↔ h ∈ R.inn.map (·.2))
  qtaken : ∀ h ∈ R.inn.map (·.2), (tk S h).isSome = true

theorem tk_some {S : PS α} {h : Int} {c : PC α} (e : tk S h = some c) : 0 ≤ h ∧ h < S.cs.length ∧ S.cs[h.toNat]? = some c ∧ c.taken = true := by
  unfold tk at e
  split at e
  · rename_i h0
    rw [Option.filter_eq_some_iff] at e
    have := (List.getElem?_eq_some_iff.1 e.1).1
    exact ⟨h0, by omega, e.1, e.2⟩
  · cases e
theorem find_some {R : RP α} {h : Int} {x : α} (e : R.find h = some x) : (h, x) ∈ R.items := by
  unfold RP.find at e
  obtain ⟨p, hp, rfl⟩ := Option.map_eq_some_iff.1 e
  have h1 := List.mem_of_find?_eq_some hp
  have h2 := List.find?_some hp
  simp at h2
  obtain ⟨a, b⟩ := p
  simp at h2; subst h2; exact h1
theorem find_none {R : RP α} {h : Int} (e : R.find h = none) : ∀ p ∈ R.items, p.1 ≠ h := by
  unfold RP.find at e
  rw [Option.map_eq_none_iff, List.find?_eq_none] at e
  intro p hp; simpa using e p hp
theorem mem_find {R : RP α} (hn : (R.items.map (·.1)).Nodup) {h : Int} {x : α} (hm : (h, x) ∈ R.items) : R.find h = some x := by
  cases e : R.find h with
  | none => exact absurd rfl (find_none e _ hm)
  | some y =>
    have h1 := find_some e
    congr 1
    clear e
    revert hn hm h1
    generalize R.items = l
    intro hn hm h1
    induction l with
    | nil => simp at hm
    | cons a r ih =>
      simp only [List.map_cons, List.nodup_cons] at hn
      rcases List.mem_cons.1 hm with rfl | hm'
      · rcases List.mem_cons.1 h1 with e | h1'
        · simp at e; exact e
        · exact absurd (List.mem_map.2 ⟨_, h1', rfl⟩) hn.1
      · rcases List.mem_cons.1 h1 with e | h1'
        · subst e; exact absurd (List.mem_map.2 ⟨_, hm', rfl⟩) hn.1
        · exact ih hn.2 hm' h1'

theorem nx_set (cs : List (PC α)) (i j : Nat) (c : PC α) : nx (cs.set i c) j = if i = j ∧ i < cs.length then c.next else nx cs j := by
  unfold nx
  by_cases h : i = j
  · subst h
    by_cases hl : i < cs.length
    · simp [hl]
    · rw [List.set_eq_of_length_le (by omega)]; simp [hl]
  · rw [List.getElem?_set_ne h]; simp [h]
theorem nx_snoc (cs : List (PC α)) (c : PC α) (j : Nat) (h : j ≠ cs.length) : nx (cs ++ [c]) j = nx cs j := by
  unfold nx
  by_cases hl : j < cs.length
  · rw [List.getElem?_append_left hl]
  · rw [List.getElem?_eq_none (by simp; omega), List.getElem?_eq_none (by omega)]

end Go.Proofs.Ytoiiofcpohoeaaa
