/- What PoolKeeps asks, in plain Lean: which handles are had, and that no handle stands in two queues. -/
import Derived.Test.YtoiiofcpohoeaaaPoolQ
namespace Go.Proofs.Ytoiiofcpohoeaaa

/-- What lies under a handle. -/
def had {α : Type} (S : PS α) (h : Int) : Option α := (tk S h).map (·.x)

theorem had_take {S : PS Int} {R : RP Int} (hr : Rel S R) (x : Int) (hok : (S.take x).2.2 = true) :
    0 ≤ (S.take x).2.1 ∧ (S.take x).2.1 < S.most ∧ had S (S.take x).2.1 = none ∧ ∀ h, had (S.take x).1 h = if h = (S.take x).2.1 then some x else had S h := by
  have hroom := (hr.take x).1.room
  unfold PS.take at hok hroom ⊢
  by_cases h1 : S.most ≤ S.n
  · rw [if_pos h1] at hok; cases hok
  · rw [if_neg h1] at hok hroom ⊢
    by_cases h2 : S.free = -1
    · rw [if_pos h2] at hok hroom ⊢
      simp only [List.length_append, List.length_cons, List.length_nil] at hroom ⊢
      refine ⟨by omega, by omega, ?_, fun h => ?_⟩
      · unfold had tk; simp
      · unfold had tk
        by_cases h0 : 0 ≤ h
        · simp only [if_pos h0]
          by_cases e : h = S.cs.length
          · subst e; simp; exact ⟨_, ⟨rfl, rfl⟩, rfl⟩
          · rw [if_neg e]
            by_cases hl : h.toNat < S.cs.length
            · rw [List.getElem?_append_left hl]
            · rw [List.getElem?_eq_none (by simp; omega), List.getElem?_eq_none (by omega)]
        · simp only [if_neg h0]
          rw [if_neg (by omega)]
    · rw [if_neg h2] at hok hroom ⊢
      simp only [List.length_set] at hroom ⊢
      have hb : S.free ∈ R.back := by
        have := hr.back_last
        cases e : R.back.getLast? with
        | none => rw [e] at this; exact absurd this h2
        | some y => rw [e] at this; simp only [Option.getD_some] at this; rw [this]; exact List.mem_of_getLast? e
      obtain ⟨b0, b1, b2⟩ := hr.brange _ hb
      refine ⟨b0, by omega, ?_, fun h => ?_⟩
      · unfold had; rw [hr.find]; exact b2
      · unfold had
        rw [tk_set (S := S) (b := S.free) (c := ⟨x, -1, true, false⟩) b0 b1 rfl]
        split <;> simp

theorem had_give {S : PS Int} {R : RP Int} (_hr : Rel S R) (k : Int) (hok : (S.give 0 k).2.2 = 0) : had S k = some (S.give 0 k).2.1 ∧ ∀ h, had (S.give 0 k).1 h = if h = k then none else had S h := by
  unfold PS.give at hok ⊢
  cases e : tk S k with
  | none => rw [e] at hok; simp at hok
  | some c =>
    rw [e] at hok
    simp only at hok ⊢
    by_cases hq : c.queued = true
    · rw [if_pos hq] at hok; simp at hok
    · rw [if_neg hq] at hok ⊢
      obtain ⟨k0, k1, _, _⟩ := tk_some e
      refine ⟨by unfold had; rw [e]; rfl, fun h => ?_⟩
      unfold had
      rw [tk_set (S := S) (b := k) (c := ⟨0, S.free, false, false⟩) k0 k1 rfl]
      split <;> simp

theorem had_append {S : PS Int} {R : RP Int} (hr : Rel S R) (q k : Int) (h : Int) : had (S.append q k).1 h = had S h := by
  have h1 := hr.find h
  have h2 := (hr.append q k).1.find h
  unfold had
  rw [h1, h2]
  unfold RP.append
  split
  · rfl
  · split
    · rfl
    · split <;> rfl
theorem had_pop {S : PS Int} {R : RP Int} (hr : Rel S R) (q : Int) (h : Int) : had (S.pop q).1 h = had S h := by
  have h1 := hr.find h
  have h2 := (hr.pop q).1.find h
  unfold had
  rw [h1, h2]
  unfold RP.pop
  split <;> rfl

/-- Three queues hold no handle twice. -/
theorem three_nodup {R : RP Int} (hn : (R.inn.map (·.2)).Nodup) (hq : ∀ p ∈ R.inn, 0 ≤ p.1 ∧ p.1 < 3) : (R.q 0 ++ R.q 1 ++ R.q 2).Nodup := by
  have hsub : ∀ q, (R.q q).Nodup := fun q => by unfold RP.q; exact ((List.filter_sublist).map _).nodup hn
  have hdis : ∀ q q' z, q ≠ q' → z ∈ R.q q → z ∈ R.q q' → False := fun q q' z hne h1 h2 => by
    unfold RP.q at h1 h2
    obtain ⟨a, ha, ea⟩ := List.mem_map.1 h1
    obtain ⟨b, hb, eb⟩ := List.mem_map.1 h2
    obtain ⟨ha1, ha2⟩ := List.mem_filter.1 ha
    obtain ⟨hb1, hb2⟩ := List.mem_filter.1 hb
    have := nodup_map_inj hn ha1 hb1 (ea.trans eb.symm)
    subst this
    simp at ha2 hb2
    exact hne (ha2.symm.trans hb2)
  rw [List.nodup_append, List.nodup_append]
  refine ⟨⟨hsub 0, hsub 1, fun a ha b hb e => hdis 0 1 a (by decide) ha (e ▸ hb)⟩, hsub 2, fun a ha b hb e => ?_⟩
  rcases List.mem_append.1 ha with ha | ha
  · exact hdis 0 2 a (by decide) ha (e ▸ hb)
  · exact hdis 1 2 a (by decide) ha (e ▸ hb)

end Go.Proofs.Ytoiiofcpohoeaaa
