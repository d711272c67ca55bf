/- The trie of layer 32 and the rules of layer 34 in plain Lean, no program in sight: the longest prefix in use that has an address; one more prefix laid or put; which rule is the first that holds; which are dead. -/
import Derived.Test.YtfckgddodjmbdaaGreatDoorMDeviceNobodyF18
import Derived.Sort.LotD5
import Derived.Lib.TrailingZeros
namespace Go.Proofs.YtfckgddodjmbdaaGreatDoor
set_option linter.unusedVariables false
set_option linter.unusedSimpArgs false
abbrev Px := Nat × Nat
def hasP (p : Px) (x : Nat) : Bool := hasB p.1 p.2 x
def covP (p q : Px) : Bool := covB p.1 p.2 q.1 q.2
def rightP (p : Px) : Bool := rightB p.1 p.2
def sideN (p : Px) (a : Nat) : Nat := a / 2 ^ (31 - p.2) % 2
theorem side_two (p : Px) (a : Nat) : sideN p a = 0 ∨ sideN p a = 1 := by unfold sideN; omega
theorem has_le {p : Px} {x : Nat} (h : hasP p x = true) : p.2 ≤ 32 := by
  unfold hasP at h; rw [hasB_iff, rightB_iff] at h; omega
theorem has_div {p : Px} {x : Nat} (h : hasP p x = true) : x / 2 ^ (32 - p.2) = p.1 / 2 ^ (32 - p.2) := by
  unfold hasP at h; rw [hasB_iff] at h
  have := h.2
  rwa [Int.toNat_natCast] at this
theorem side_of {p q : Px} {a : Nat} (hb : p.2 < q.2) (h : hasP q a = true) : sideN p a = sideN p q.1 := by
  have hle := has_le h
  have hd := has_div h
  have e : 2 ^ (31 - p.2) = 2 ^ (32 - q.2) * 2 ^ (q.2 - p.2 - 1) := by rw [← Nat.pow_add]; congr 1; omega
  unfold sideN
  rw [e, ← Nat.div_div_eq_div_mul, ← Nat.div_div_eq_div_mul, hd]
theorem has_cov {p q : Px} {a : Nat} (h : covP p q = true) (h' : hasP q a = true) : hasP p a = true := has_of h h'
theorem cov_side {p q r : Px} (hb : p.2 < q.2) (h : covP q r = true) : sideN p r.1 = sideN p q.1 := by
  have : hasP q r.1 = true := by unfold covP at h; rw [covB_iff] at h; exact h.2.2
  exact side_of hb this
theorem cov_trans {p q r : Px} (h1 : covP p q = true) (h2 : covP q r = true) : covP p r = true := by
  unfold covP at *
  have h2' := covB_iff.1 h2
  have h1' := covB_iff.1 h1
  rw [covB_iff]
  exact ⟨h2'.1, Int.le_trans h1'.2.1 h2'.2.1, has_of h1 h2'.2.2⟩
theorem cov_le {p q : Px} (h : covP p q = true) : p.2 ≤ q.2 := by unfold covP at h; rw [covB_iff] at h; omega
theorem cov_same {p q : Px} (h : covP p q = true) (he : p.2 = q.2) : p = q := by
  obtain ⟨p1, p2⟩ := p; obtain ⟨q1, q2⟩ := q
  simp only at he
  subst he
  unfold covP at h
  rw [covB_iff, hasB_iff, rightB_iff, rightB_iff] at h
  obtain ⟨⟨_, _, h1⟩, _, ⟨_, _, h2⟩, h3⟩ := h
  simp only [Int.toNat_natCast] at h1 h2 h3
  congr 1
  have e1 := Nat.div_add_mod p1 (2 ^ (32 - p2))
  have e2 := Nat.div_add_mod q1 (2 ^ (32 - p2))
  rw [h2] at e1
  rw [h1] at e2
  rw [← e1, ← e2, h3]
theorem one_chain {p q : Px} {a : Nat} (h : hasP p a = true) (h' : hasP q a = true) (hb : p.2 ≤ q.2) : covP p q = true := one_of h h' (by omega)
inductive Tr where
  | nil : Tr
  | node (b : Nat) (p : Px) (used : Bool) (x : Nat) (l r : Tr) : Tr
def Tr.prs : Tr → List Px
  | .nil => []
  | .node _ p _ _ l r => p :: (l.prs ++ r.prs)
def Tr.ents : Tr → List (Px × Nat)
  | .nil => []
  | .node _ p u x l r => (match u with | true => [(p, x)] | false => []) ++ (l.ents ++ r.ents)
def Tr.blks : Tr → List Nat
  | .nil => []
  | .node b _ _ _ l r => b :: (l.blks ++ r.blks)
def okP (p : Px) : Prop := rightP p = true ∧ p.1 < 4294967296
structure Under (p : Px) (s : Nat) (q : Px) : Prop where
  cov : covP p q = true
  lt : p.2 < q.2
  side : sideN p q.1 = s
def Tr.WF : Tr → Prop
  | .nil => True
  | .node _ p _ _ l r => okP p ∧ (∀ q ∈ l.prs, Under p 0 q) ∧ (∀ q ∈ r.prs, Under p 1 q) ∧ l.WF ∧ r.WF
theorem Tr.ents_prs {t : Tr} {e : Px × Nat} (h : e ∈ t.ents) : e.1 ∈ t.prs := by
  induction t with
  | nil => cases h
  | node b p u x l r hl hr =>
    simp only [Tr.ents, List.mem_append] at h
    simp only [Tr.prs, List.mem_cons, List.mem_append]
    rcases h with h | h | h
    · cases u with
      | true => simp only [List.mem_singleton] at h; subst h; exact .inl rfl
      | false => cases h
    · exact .inr (.inl (hl h))
    · exact .inr (.inr (hr h))
def Tr.best : Tr → Nat → Option (Px × Nat) → Option (Px × Nat)
  | .nil, _, acc => acc
  | .node _ p u x l r, a, acc => match hasP p a with
    | false => acc
    | true => if sideN p a = 0 then l.best a (match u with | true => some (p, x) | false => acc) else r.best a (match u with | true => some (p, x) | false => acc)
theorem Tr.best_none {t : Tr} {a : Nat} {acc : Option (Px × Nat)} (h : ∀ e ∈ t.ents, hasP e.1 a = false) : t.best a acc = acc := by
  induction t generalizing acc with
  | nil => rfl
  | node b p u x l r hl hr =>
    simp only [Tr.ents, List.mem_append] at h
    unfold Tr.best
    cases hp : hasP p a with
    | false => rfl
    | true =>
      have hu : u = false := by
        cases u with
        | false => rfl
        | true => have := h (p, x) (.inl (by simp)); rw [hp] at this; cases this
      subst hu
      simp only
      split
      · exact hl (fun e he => h e (.inr (.inl he)))
      · exact hr (fun e he => h e (.inr (.inr he)))
theorem Tr.best_some {t : Tr} (hw : t.WF) {a : Nat} {acc : Option (Px × Nat)} {e : Px × Nat} (he : e ∈ t.ents) (ha : hasP e.1 a = true) (hm : ∀ e' ∈ t.ents, hasP e'.1 a = true → e'.1.2 ≤ e.1.2) : t.best a acc = some e := by
  induction t generalizing acc with
  | nil => cases he
  | node b p u x l r hl hr =>
    obtain ⟨_, w1, w2, w3, w4⟩ := hw
    simp only [Tr.ents, List.mem_append] at he hm
    have low : ∀ q, (q ∈ l.prs ∨ q ∈ r.prs) → hasP q a = true → hasP p a = true ∧ p.2 < q.2 := fun q hq hqa => by
      rcases hq with hq | hq
      · exact ⟨has_cov (w1 q hq).cov hqa, (w1 q hq).lt⟩
      · exact ⟨has_cov (w2 q hq).cov hqa, (w2 q hq).lt⟩
    unfold Tr.best
    rcases he with he | he | he
    · cases u with
      | false => cases he
      | true =>
        simp only [List.mem_singleton] at he
        subst he
        simp only at ha hm
        rw [ha]
        simp only
        have hno : ∀ e', (e' ∈ l.ents ∨ e' ∈ r.ents) → hasP e'.1 a = false := fun e' he' => by
          cases hh : hasP e'.1 a with
          | false => rfl
          | true =>
            have h1 := (low e'.1 (he'.imp Tr.ents_prs Tr.ents_prs) hh).2
            have h2 := hm e' (.inr he') hh
            omega
        split
        · exact Tr.best_none (fun e' he' => hno e' (.inl he'))
        · exact Tr.best_none (fun e' he' => hno e' (.inr he'))
    · have hpa := (low e.1 (.inl (Tr.ents_prs he)) ha).1
      have hs := side_of (p := p) (w1 _ (Tr.ents_prs he)).lt ha
      rw [(w1 _ (Tr.ents_prs he)).side] at hs
      rw [hpa]
      simp only
      rw [if_pos hs]
      exact hl w3 he (fun e' he' => hm e' (.inr (.inl he')))
    · have hpa := (low e.1 (.inr (Tr.ents_prs he)) ha).1
      have hs := side_of (p := p) (w2 _ (Tr.ents_prs he)).lt ha
      rw [(w2 _ (Tr.ents_prs he)).side] at hs
      rw [hpa]
      simp only
      rw [if_neg (by omega)]
      exact hr w4 he (fun e' he' => hm e' (.inr (.inr he')))
end Go.Proofs.YtfckgddodjmbdaaGreatDoor
namespace Go.Proofs.YtfckgddodjmbdaaGreatDoor
set_option linter.unusedVariables false
set_option linter.unusedSimpArgs false
def Tr.at_ : Tr → Px → Option (Nat × Bool × Nat)
  | .nil, _ => none
  | .node b p u x l r, q => if p = q then some (b, u, x) else if q.2 ≤ p.2 ∨ covP p q = false then none else if sideN p q.1 = 0 then l.at_ q else r.at_ q
theorem Tr.at_none {t : Tr} {q : Px} (hq : q ∉ t.prs) : t.at_ q = none := by
  induction t with
  | nil => rfl
  | node b p u x l r hl hr =>
    simp only [Tr.prs, List.mem_cons, List.mem_append, not_or] at hq
    unfold Tr.at_
    rw [if_neg (fun e => hq.1 e.symm)]
    split
    · rfl
    · split
      · exact hl hq.2.1
      · exact hr hq.2.2
theorem Tr.at_some {t : Tr} (hw : t.WF) {q : Px} (hq : q ∈ t.prs) : ∃ b u x, t.at_ q = some (b, u, x) ∧ b ∈ t.blks ∧ (u = true → (q, x) ∈ t.ents) ∧ (u = false → ∀ y, (q, y) ∉ t.ents) := by
  induction t with
  | nil => cases hq
  | node b p u x l r hl hr =>
    obtain ⟨_, w1, w2, w3, w4⟩ := hw
    have ne : ∀ q', (q' ∈ l.prs ∨ q' ∈ r.prs) → p ≠ q' := fun q' h e => by
      subst e
      rcases h with h | h
      · have := (w1 _ h).lt; omega
      · have := (w2 _ h).lt; omega
    simp only [Tr.prs, List.mem_cons, List.mem_append] at hq
    by_cases hpq : p = q
    · subst hpq
      refine ⟨b, u, x, by unfold Tr.at_; rw [if_pos rfl], by simp [Tr.blks], fun hu => by subst hu; simp [Tr.ents], fun hu y hy => ?_⟩
      subst hu
      simp only [Tr.ents, List.nil_append, List.mem_append] at hy
      rcases hy with hy | hy
      · exact ne _ (.inl (Tr.ents_prs hy)) rfl
      · exact ne _ (.inr (Tr.ents_prs hy)) rfl
    · have hent : ∀ y, (q, y) ∈ (Tr.node b p u x l r).ents ↔ (q, y) ∈ l.ents ∨ (q, y) ∈ r.ents := fun y => by
        simp only [Tr.ents, List.mem_append]
        constructor
        · rintro (h | h)
          · cases u with
            | true => simp only [List.mem_singleton, Prod.mk.injEq] at h; exact absurd h.1.symm hpq
            | false => cases h
          · exact h
        · exact .inr
      rcases hq with hq | hq | hq
      · exact absurd hq.symm hpq
      · obtain ⟨b', u', x', h1, h2, h3, h4⟩ := hl w3 hq
        have hu := w1 q hq
        have hnr : ∀ y, (q, y) ∉ r.ents := fun y hy => by have := (w2 _ (Tr.ents_prs hy)).side; rw [hu.side] at this; cases this
        refine ⟨b', u', x', ?_, by simp [Tr.blks, h2], fun h => (hent _).2 (.inl (h3 h)), fun h y hy => ((hent y).1 hy).elim (h4 h y) (hnr y)⟩
        unfold Tr.at_
        rw [if_neg hpq, if_neg (by rw [hu.cov]; have := hu.lt; simp; omega), if_pos hu.side, h1]
      · obtain ⟨b', u', x', h1, h2, h3, h4⟩ := hr w4 hq
        have hu := w2 q hq
        have hnl : ∀ y, (q, y) ∉ l.ents := fun y hy => by have := (w1 _ (Tr.ents_prs hy)).side; rw [hu.side] at this; cases this
        refine ⟨b', u', x', ?_, by simp [Tr.blks, h2], fun h => (hent _).2 (.inr (h3 h)), fun h y hy => ((hent y).1 hy).elim (hnl y) (h4 h y)⟩
        unfold Tr.at_
        rw [if_neg hpq, if_neg (by rw [hu.cov]; have := hu.lt; simp; omega), if_neg (by rw [hu.side]; omega), h1]
def Tr.put_ : Tr → Px → Nat → Tr
  | .nil, _, _ => .nil
  | .node b p u x l r, q, y => if p = q then .node b p true y l r else if sideN p q.1 = 0 then .node b p u x (l.put_ q y) r else .node b p u x l (r.put_ q y)
theorem Tr.put_prs (t : Tr) (q : Px) (y : Nat) : (t.put_ q y).prs = t.prs := by
  induction t with
  | nil => rfl
  | node b p u x l r hl hr =>
    unfold Tr.put_
    split
    · rfl
    · split
      · simp only [Tr.prs, hl]
      · simp only [Tr.prs, hr]
theorem Tr.put_blks (t : Tr) (q : Px) (y : Nat) : (t.put_ q y).blks = t.blks := by
  induction t with
  | nil => rfl
  | node b p u x l r hl hr =>
    unfold Tr.put_
    split
    · rfl
    · split
      · simp only [Tr.blks, hl]
      · simp only [Tr.blks, hr]
theorem Tr.put_wf {t : Tr} (h : t.WF) (q : Px) (y : Nat) : (t.put_ q y).WF := by
  induction t with
  | nil => exact h
  | node b p u x l r hl hr =>
    obtain ⟨h0, w1, w2, w3, w4⟩ := h
    unfold Tr.put_
    split
    · exact ⟨h0, w1, w2, w3, w4⟩
    · split
      · exact ⟨h0, by rw [Tr.put_prs]; exact w1, w2, hl w3, w4⟩
      · exact ⟨h0, w1, by rw [Tr.put_prs]; exact w2, w3, hr w4⟩
theorem Tr.put_ents {t : Tr} (hw : t.WF) {q : Px} (hq : q ∈ t.prs) (hn : ∀ y, (q, y) ∉ t.ents) (y : Nat) : (t.put_ q y).ents.Perm ((q, y) :: t.ents) := by
  induction t with
  | nil => cases hq
  | node b p u x l r hl hr =>
    obtain ⟨_, w1, w2, w3, w4⟩ := hw
    unfold Tr.put_
    by_cases hpq : p = q
    · subst hpq
      rw [if_pos rfl]
      have hu : u = false := by
        cases u with
        | false => rfl
        | true => exact absurd (by simp [Tr.ents]) (hn x)
      subst hu
      simp [Tr.ents]
    · rw [if_neg hpq]
      simp only [Tr.prs, List.mem_cons, List.mem_append] at hq
      rcases hq with hq | hq | hq
      · exact absurd hq.symm hpq
      · rw [if_pos (w1 q hq).side]
        simp only [Tr.ents] at hn ⊢
        have := hl w3 hq (fun y hy => hn y (by simp [hy]))
        refine ((this.append_right r.ents).append_left _).trans ?_
        exact List.perm_middle
      · rw [if_neg (by rw [(w2 q hq).side]; omega)]
        simp only [Tr.ents] at hn ⊢
        have := hr w4 hq (fun y hy => hn y (by simp [hy]))
        refine ((this.append_left l.ents).append_left _).trans ?_
        refine (List.perm_middle.append_left _).trans ?_
        exact List.perm_middle
end Go.Proofs.YtfckgddodjmbdaaGreatDoor
namespace Go.Proofs.YtfckgddodjmbdaaGreatDoor
set_option linter.unusedVariables false
set_option linter.unusedSimpArgs false
open Go.Sort (bitsLen)
theorem xor_agree (x y m : Nat) : x ^^^ y < 2 ^ m ↔ x / 2 ^ m = y / 2 ^ m := by
  have e : (x ^^^ y) / 2 ^ m = (x / 2 ^ m) ^^^ (y / 2 ^ m) := by
    rw [← Nat.shiftRight_eq_div_pow, ← Nat.shiftRight_eq_div_pow, ← Nat.shiftRight_eq_div_pow, Nat.shiftRight_xor_distrib]
  have hp : 0 < 2 ^ m := Nat.two_pow_pos m
  constructor
  · intro h
    rw [Nat.div_eq_of_lt h] at e
    have h2 : (x / 2 ^ m) ^^^ ((x / 2 ^ m) ^^^ (y / 2 ^ m)) = y / 2 ^ m := by rw [← Nat.xor_assoc, Nat.xor_self, Nat.zero_xor]
    rw [← e, Nat.xor_zero] at h2
    exact h2
  · intro h
    rw [h, Nat.xor_self] at e
    exact (Nat.div_eq_zero_iff_lt hp).1 e
def comBits (p q : Px) : Nat := min (32 - bitsLen (p.1 ^^^ q.1)) (min p.2 q.2)
def comN (p q : Px) : Px := (p.1 / 2 ^ (32 - comBits p q) * 2 ^ (32 - comBits p q), comBits p q)
theorem right_iff {p : Px} : rightP p = true ↔ p.2 ≤ 32 ∧ p.1 % 2 ^ (32 - p.2) = 0 := by
  unfold rightP; rw [rightB_iff]; simp only [Int.toNat_natCast]
  constructor
  · rintro ⟨_, h, h2⟩; exact ⟨by omega, h2⟩
  · rintro ⟨h, h2⟩; exact ⟨by omega, by omega, h2⟩
theorem has_iff {p : Px} {x : Nat} : hasP p x = true ↔ rightP p = true ∧ x / 2 ^ (32 - p.2) = p.1 / 2 ^ (32 - p.2) := by
  unfold hasP rightP; rw [hasB_iff]; simp only [Int.toNat_natCast]
theorem cov_iff {p q : Px} : covP p q = true ↔ rightP q = true ∧ p.2 ≤ q.2 ∧ hasP p q.1 = true := by
  unfold covP rightP hasP; rw [covB_iff]
  constructor
  · rintro ⟨h, h2, h3⟩; exact ⟨h, by omega, h3⟩
  · rintro ⟨h, h2, h3⟩; exact ⟨h, by omega, h3⟩
theorem com_agree {p q : Px} (hp : okP p) (hq : okP q) (n : Nat) (hn : n ≤ comBits p q) : p.1 / 2 ^ (32 - n) = q.1 / 2 ^ (32 - n) := by
  have h32 : bitsLen (p.1 ^^^ q.1) ≤ 32 := by
    rw [Go.Sort.bitsLen_le_iff]
    exact Nat.xor_lt_two_pow (n := 32) hp.2 hq.2
  rw [← xor_agree, ← Go.Sort.bitsLen_le_iff]
  unfold comBits at hn
  have := (right_iff.1 hp.1).1
  omega
theorem com_le (p q : Px) : comBits p q ≤ p.2 ∧ comBits p q ≤ q.2 := by unfold comBits; omega
theorem com_right {p q : Px} (hp : rightP p = true) : rightP (comN p q) = true := by
  rw [right_iff]
  have := (right_iff.1 hp).1
  have := com_le p q
  exact ⟨by show comBits p q ≤ 32; omega, Nat.mul_mod_left _ _⟩
theorem com_cov {p q : Px} (hp : okP p) (hq : okP q) : covP (comN p q) p = true ∧ covP (comN p q) q = true := by
  have hr := com_right (q := q) hp.1
  have hl := com_le p q
  have hpos : 0 < 2 ^ (32 - comBits p q) := Nat.two_pow_pos _
  refine ⟨cov_iff.2 ⟨hp.1, hl.1, has_iff.2 ⟨hr, ?_⟩⟩, cov_iff.2 ⟨hq.1, hl.2, has_iff.2 ⟨hr, ?_⟩⟩⟩
  · exact (Nat.mul_div_cancel _ hpos).symm
  · show q.1 / 2 ^ (32 - comBits p q) = _
    rw [← com_agree hp hq _ (Nat.le_refl _)]
    exact (Nat.mul_div_cancel _ hpos).symm
theorem com_self {p q : Px} (hp : rightP p = true) (h : comBits p q = p.2) : comN p q = p := by
  obtain ⟨p1, p2⟩ := p
  have h2 := (right_iff.1 hp).2
  simp only at h h2
  unfold comN
  rw [h]
  congr 1
  have := Nat.div_add_mod p1 (2 ^ (32 - p2))
  rw [h2, Nat.mul_comm] at this
  exact this
theorem com_lt {p q : Px} (hp : okP p) (hq : okP q) (h : covP p q = false) : comBits p q < p.2 := by
  have := (com_le p q).1
  rcases Nat.lt_or_ge (comBits p q) p.2 with h1 | h1
  · exact h1
  · have e := com_self (q := q) hp.1 (by omega)
    have := (com_cov hp hq).2
    rw [e, h] at this; cases this
theorem com_side {p q : Px} (hp : okP p) (hq : okP q) (h1 : covP p q = false) (h2 : comBits p q < q.2) : sideN (comN p q) p.1 ≠ sideN (comN p q) q.1 := by
  intro e
  have l1 := com_lt hp hq h1
  have hp32 := (right_iff.1 hp.1).1
  have hag := com_agree hp hq _ (Nat.le_refl _)
  unfold sideN at e
  have e' : p.1 / 2 ^ (31 - comBits p q) % 2 = q.1 / 2 ^ (31 - comBits p q) % 2 := e
  have hpow : 2 ^ (32 - comBits p q) = 2 ^ (31 - comBits p q) * 2 := by rw [← Nat.pow_succ]; congr 1; omega
  rw [hpow, ← Nat.div_div_eq_div_mul, ← Nat.div_div_eq_div_mul] at hag
  have hall : p.1 / 2 ^ (31 - comBits p q) = q.1 / 2 ^ (31 - comBits p q) := by omega
  rw [← xor_agree, ← Go.Sort.bitsLen_le_iff] at hall
  have hc : comBits p q = min (32 - bitsLen (p.1 ^^^ q.1)) (min p.2 q.2) := rfl
  omega
theorem com_under {p k q : Px} {s : Nat} (hk : Under p s k) (hq : Under p s q) (ok : k.1 < 4294967296) (oq : q.1 < 4294967296) : Under p s (comN k q) := by
  have ck := cov_iff.1 hk.cov
  have cq := cov_iff.1 hq.cov
  have hkr := ck.1; have hqr := cq.1
  have hcc := com_cov ⟨hkr, ok⟩ ⟨hqr, oq⟩
  have hk32 := (right_iff.1 hkr).1
  have hlt : p.2 < comBits k q := by
    have d1 := (has_iff.1 ck.2.2).2
    have d2 := (has_iff.1 cq.2.2).2
    have s1 := hk.side; have s2 := hq.side
    unfold sideN at s1 s2
    have l1 := hk.lt; have l2 := hq.lt
    have hpow : 2 ^ (32 - p.2) = 2 ^ (31 - p.2) * 2 := by rw [← Nat.pow_succ]; congr 1; omega
    have hh : k.1 / 2 ^ (32 - p.2) = q.1 / 2 ^ (32 - p.2) := d1.trans d2.symm
    rw [hpow, ← Nat.div_div_eq_div_mul, ← Nat.div_div_eq_div_mul] at hh
    have hall : k.1 / 2 ^ (31 - p.2) = q.1 / 2 ^ (31 - p.2) := by omega
    rw [← xor_agree, ← Go.Sort.bitsLen_le_iff] at hall
    unfold comBits
    omega
  have hck := (cov_iff.1 hcc.1).2.2
  refine ⟨one_chain ck.2.2 hck (Nat.le_of_lt hlt), hlt, ?_⟩
  rw [← side_of (p := p) (q := comN k q) hlt hck]
  exact hk.side
def Tr.lay : Tr → Nat → Px → Nat → Nat → Tr
  | .nil, nb, np, nx, _ => .node nb np true nx .nil .nil
  | .node kb kp ku kx kl kr, nb, np, nx, fb =>
    if covP kp np = true then
      if sideN kp np.1 = 0 then .node kb kp ku kx (kl.lay nb np nx fb) kr else .node kb kp ku kx kl (kr.lay nb np nx fb)
    else if comN kp np = np then
      if sideN np kp.1 = 0 then .node nb np true nx (.node kb kp ku kx kl kr) .nil else .node nb np true nx .nil (.node kb kp ku kx kl kr)
    else if sideN (comN kp np) np.1 = 0 then .node fb (comN kp np) false 0 (.node nb np true nx .nil .nil) (.node kb kp ku kx kl kr)
    else .node fb (comN kp np) false 0 (.node kb kp ku kx kl kr) (.node nb np true nx .nil .nil)
theorem Tr.lay_under {t : Tr} (hw : t.WF) {p np : Px} {s nb nx fb : Nat} (h : ∀ k ∈ t.prs, Under p s k) (hn : Under p s np) (oq : np.1 < 4294967296) : ∀ q ∈ (t.lay nb np nx fb).prs, Under p s q := by
  induction t with
  | nil => intro q hq; simp only [Tr.lay, Tr.prs, List.append_nil, List.mem_singleton] at hq; subst hq; exact hn
  | node kb kp ku kx kl kr hl hr =>
    obtain ⟨ok, w1, w2, w3, w4⟩ := hw
    have hk := h kp (by simp [Tr.prs])
    intro q hq
    have hin : q ∈ (Tr.node kb kp ku kx kl kr).prs → Under p s q := h q
    unfold Tr.lay at hq
    split at hq
    · split at hq
      · simp only [Tr.prs, List.mem_cons, List.mem_append] at hq
        rcases hq with rfl | hq | hq
        · exact hk
        · exact hl w3 (fun k hk => h k (by simp [Tr.prs, hk])) q hq
        · exact h q (by simp [Tr.prs, hq])
      · simp only [Tr.prs, List.mem_cons, List.mem_append] at hq
        rcases hq with rfl | hq | hq
        · exact hk
        · exact h q (by simp [Tr.prs, hq])
        · exact hr w4 (fun k hk => h k (by simp [Tr.prs, hk])) q hq
    · split at hq
      · have hq' : q = np ∨ q ∈ (Tr.node kb kp ku kx kl kr).prs := by
          split at hq
          · simp only [Tr.prs, List.mem_cons, List.mem_append, List.not_mem_nil, or_false] at hq ⊢; exact hq
          · simp only [Tr.prs, List.mem_cons, List.mem_append, List.not_mem_nil, false_or] at hq ⊢; exact hq
        rcases hq' with rfl | hq'
        · exact hn
        · exact hin hq'
      · have hq' : q = comN kp np ∨ q = np ∨ q ∈ (Tr.node kb kp ku kx kl kr).prs := by
          split at hq
          · simp only [Tr.prs, List.mem_cons, List.mem_append, List.not_mem_nil, or_false] at hq ⊢; exact hq
          · simp only [Tr.prs, List.mem_cons, List.mem_append, List.not_mem_nil, or_false] at hq ⊢
            rcases hq with h | h | h
            · exact .inl h
            · exact .inr (.inr h)
            · exact .inr (.inl h)
        rcases hq' with rfl | rfl | hq'
        · exact com_under hk hn ok.2 oq
        · exact hn
        · exact hin hq'
end Go.Proofs.YtfckgddodjmbdaaGreatDoor
namespace Go.Proofs.YtfckgddodjmbdaaGreatDoor
set_option linter.unusedVariables false
set_option linter.unusedSimpArgs false
open Go.Sort (bitsLen)
theorem com_lt2 {p q : Px} (hp : okP p) (hq : okP q) (h : comN p q ≠ q) : comBits p q < q.2 := by
  have := (com_le p q).2
  rcases Nat.lt_or_ge (comBits p q) q.2 with h1 | h1
  · exact h1
  · exact absurd (cov_same (com_cov hp hq).2 (show comBits p q = q.2 by omega)) h
theorem under_all {p k q : Px} (h : covP k q = true) (hk : covP p k = true) (hb : p.2 < k.2) : Under p (sideN p k.1) q :=
  ⟨cov_trans hk h, Nat.lt_of_lt_of_le hb (cov_le h), cov_side hb h⟩
theorem Tr.prs_cov {b : Nat} {p : Px} {u : Bool} {x : Nat} {l r : Tr} (h : (Tr.node b p u x l r).WF) : ∀ q ∈ (Tr.node b p u x l r).prs, covP p q = true := by
  obtain ⟨ok, w1, w2, _, _⟩ := h
  intro q hq
  simp only [Tr.prs, List.mem_cons, List.mem_append] at hq
  rcases hq with rfl | hq | hq
  · exact cov_iff.2 ⟨ok.1, Nat.le_refl _, has_iff.2 ⟨ok.1, rfl⟩⟩
  · exact (w1 q hq).cov
  · exact (w2 q hq).cov
theorem Tr.lay_wf {t : Tr} (hw : t.WF) {np : Px} (hn : okP np) (hnot : np ∉ t.prs) (nb nx fb : Nat) : (t.lay nb np nx fb).WF := by
  induction t with
  | nil => exact ⟨hn, (fun q hq => by cases hq), (fun q hq => by cases hq), trivial, trivial⟩
  | node kb kp ku kx kl kr hl hr =>
    have hw0 := hw
    obtain ⟨ok, w1, w2, w3, w4⟩ := hw
    simp only [Tr.prs, List.mem_cons, List.mem_append, not_or] at hnot
    unfold Tr.lay
    by_cases hc : covP kp np = true
    · rw [if_pos hc]
      have hlt : kp.2 < np.2 := by
        rcases Nat.lt_or_ge kp.2 np.2 with h | h
        · exact h
        · exact absurd (cov_same hc (by have := cov_le hc; omega)).symm hnot.1
      by_cases hs : sideN kp np.1 = 0
      · rw [if_pos hs]
        exact ⟨ok, Tr.lay_under w3 w1 ⟨hc, hlt, hs⟩ hn.2, w2, hl w3 hnot.2.1, w4⟩
      · rw [if_neg hs]
        have hs1 : sideN kp np.1 = 1 := (side_two kp np.1).resolve_left hs
        exact ⟨ok, w1, Tr.lay_under w4 w2 ⟨hc, hlt, hs1⟩ hn.2, w3, hr w4 hnot.2.2⟩
    · rw [if_neg hc]
      have hcf : covP kp np = false := by cases h : covP kp np with | true => exact absurd h hc | false => rfl
      by_cases hcn : comN kp np = np
      · rw [if_pos hcn]
        have hcov : covP np kp = true := by have := (com_cov ok hn).1; rwa [hcn] at this
        have hlt : np.2 < kp.2 := by
          rcases Nat.lt_or_ge np.2 kp.2 with h | h
          · exact h
          · exact absurd (cov_same hcov (by have := cov_le hcov; omega)) hnot.1
        have hall : ∀ q ∈ (Tr.node kb kp ku kx kl kr).prs, Under np (sideN np kp.1) q := fun q hq => under_all (Tr.prs_cov hw0 q hq) hcov hlt
        by_cases hs : sideN np kp.1 = 0
        · rw [if_pos hs]
          rw [hs] at hall
          exact ⟨hn, hall, fun q hq => (by cases hq), hw0, trivial⟩
        · rw [if_neg hs]
          rw [(side_two np kp.1).resolve_left hs] at hall
          exact ⟨hn, fun q hq => (by cases hq), hall, trivial, hw0⟩
      · rw [if_neg hcn]
        have l1 := com_lt ok hn hcf
        have l2 := com_lt2 ok hn hcn
        have hcc := com_cov ok hn
        have hsd := com_side ok hn hcf l2
        have hokc : okP (comN kp np) := ⟨com_right ok.1, by
          show kp.1 / 2 ^ (32 - comBits kp np) * 2 ^ (32 - comBits kp np) < 4294967296
          have h1 := Nat.div_mul_le_self kp.1 (2 ^ (32 - comBits kp np)); have h2 := ok.2; omega⟩
        have hnw : (Tr.node nb np true nx .nil .nil).WF := ⟨hn, fun q hq => (by cases hq), fun q hq => (by cases hq), trivial, trivial⟩
        have hallk : ∀ q ∈ (Tr.node kb kp ku kx kl kr).prs, Under (comN kp np) (sideN (comN kp np) kp.1) q := fun q hq => under_all (Tr.prs_cov hw0 q hq) hcc.1 l1
        have halln : ∀ q ∈ (Tr.node nb np true nx .nil .nil).prs, Under (comN kp np) (sideN (comN kp np) np.1) q := fun q hq => under_all (Tr.prs_cov hnw q hq) hcc.2 l2
        by_cases hs : sideN (comN kp np) np.1 = 0
        · rw [if_pos hs]
          rw [hs] at halln hsd
          rw [(side_two _ _).resolve_left hsd] at hallk
          exact ⟨hokc, halln, hallk, hnw, hw0⟩
        · rw [if_neg hs]
          have hs1 := (side_two (comN kp np) np.1).resolve_left hs
          rw [hs1] at halln hsd
          have hs0 : sideN (comN kp np) kp.1 = 0 := (side_two _ _).resolve_right hsd
          rw [hs0] at hallk
          exact ⟨hokc, hallk, halln, hw0, hnw⟩
theorem Tr.lay_ents (t : Tr) (np : Px) (nb nx fb : Nat) : (t.lay nb np nx fb).ents.Perm ((np, nx) :: t.ents) := by
  induction t with
  | nil => exact List.Perm.refl _
  | node kb kp ku kx kl kr hl hr =>
    unfold Tr.lay
    split
    · split
      · simp only [Tr.ents]
        refine ((hl.append_right kr.ents).append_left _).trans ?_
        exact List.perm_middle
      · simp only [Tr.ents]
        refine ((hr.append_left kl.ents).append_left _).trans ?_
        refine (List.perm_middle.append_left _).trans ?_
        exact List.perm_middle
    · split
      · split
        · simp only [Tr.ents, List.append_nil]; exact List.Perm.refl _
        · simp only [Tr.ents, List.nil_append]; exact List.Perm.refl _
      · split
        · simp only [Tr.ents, List.append_nil, List.nil_append]; exact List.Perm.refl _
        · simp only [Tr.ents, List.append_nil, List.nil_append]
          exact List.perm_append_comm
theorem Tr.lay_blks (t : Tr) (np : Px) (nb nx fb : Nat) : ∃ F, (F = [] ∨ F = [fb]) ∧ (t.lay nb np nx fb).blks.Perm (F ++ nb :: t.blks) := by
  induction t with
  | nil => exact ⟨[], .inl rfl, List.Perm.refl _⟩
  | node kb kp ku kx kl kr hl hr =>
    unfold Tr.lay
    split
    · split
      · obtain ⟨F, hF, hp⟩ := hl
        refine ⟨F, hF, ?_⟩
        simp only [Tr.blks]
        refine (((hp.append_right kr.blks).cons kb)).trans ?_
        rw [List.append_assoc, List.cons_append]
        refine (List.perm_middle (a := kb) (l₁ := F) (l₂ := nb :: (kl.blks ++ kr.blks))).symm.trans ?_
        exact List.Perm.append_left F (List.Perm.swap _ _ _)
      · obtain ⟨F, hF, hp⟩ := hr
        refine ⟨F, hF, ?_⟩
        simp only [Tr.blks]
        refine ((hp.append_left kl.blks).cons kb).trans ?_
        have e : (kb :: (kl.blks ++ (F ++ nb :: kr.blks))).Perm (F ++ (nb :: kb :: (kl.blks ++ kr.blks))) := by
          have h1 : (kl.blks ++ (F ++ nb :: kr.blks)).Perm (F ++ (nb :: (kl.blks ++ kr.blks))) := by
            rw [← List.append_assoc]
            refine (List.perm_append_comm.append_right _).trans ?_
            rw [List.append_assoc]
            exact List.Perm.append_left F List.perm_middle
          refine (h1.cons kb).trans ?_
          refine (List.perm_middle (a := kb) (l₁ := F) (l₂ := nb :: (kl.blks ++ kr.blks))).symm.trans ?_
          exact List.Perm.append_left F (List.Perm.swap _ _ _)
        exact e
    · split
      · refine ⟨[], .inl rfl, ?_⟩
        split
        · simp only [Tr.blks, List.append_nil, List.nil_append]; exact List.Perm.refl _
        · simp only [Tr.blks, List.nil_append]; exact List.Perm.refl _
      · refine ⟨[fb], .inr rfl, ?_⟩
        split
        · simp only [Tr.blks, List.append_nil, List.nil_append, List.cons_append]; exact List.Perm.refl _
        · simp only [Tr.blks, List.append_nil, List.nil_append, List.cons_append]
          refine List.Perm.cons _ ?_
          exact List.perm_append_comm (l₁ := kb :: (kl.blks ++ kr.blks)) (l₂ := [nb])
end Go.Proofs.YtfckgddodjmbdaaGreatDoor
namespace Go.Proofs.YtfckgddodjmbdaaGreatDoor
set_option linter.unusedVariables false
set_option linter.unusedSimpArgs false
theorem getD_at {α : Type} (d : α) {l : List α} {i : Nat} (h : i < l.length) : l.getD i d = l[i] := by simp [List.getD, h]
def bitsOf (f : Nat → Bool) : Nat → Nat
  | 0 => 0
  | k + 1 => bitsOf f k ||| (match f k with | true => 2 ^ k | false => 0)
theorem bitsOf_bit (f : Nat → Bool) (k i : Nat) : (bitsOf f k).testBit i = (decide (i < k) && f i) := by
  induction k with
  | zero => simp [bitsOf]
  | succ k ih =>
    simp only [bitsOf, Nat.testBit_or, ih]
    by_cases h : i = k
    · subst h
      cases hf : f i <;> simp [Nat.testBit_two_pow]
    · have h2 : decide (i < k + 1) = decide (i < k) := by rw [decide_eq_decide]; omega
      rw [h2]
      cases hf : f k with
      | true => simp only [Nat.testBit_two_pow]; simp [show ¬ k = i by omega]
      | false => simp
theorem bitsOf_lt (f : Nat → Bool) (k : Nat) : bitsOf f k < 2 ^ k := by
  apply Nat.lt_pow_two_of_testBit
  intro i hi
  rw [bitsOf_bit]
  simp [show ¬ i < k by omega]
theorem bitsOf_congr {f g : Nat → Bool} {k : Nat} (h : ∀ i, i < k → f i = g i) : bitsOf f k = bitsOf g k := by
  apply Nat.eq_of_testBit_eq; intro i
  rw [bitsOf_bit, bitsOf_bit]
  by_cases hi : i < k
  · rw [h i hi]
  · simp [hi]
theorem bitsOf_and (f g : Nat → Bool) (k : Nat) : bitsOf f k &&& bitsOf g k = bitsOf (fun i => f i && g i) k := by
  apply Nat.eq_of_testBit_eq; intro i
  rw [Nat.testBit_and, bitsOf_bit, bitsOf_bit, bitsOf_bit]
  cases decide (i < k) <;> simp
theorem bitsOf_none {f : Nat → Bool} {k : Nat} (h : ∀ i, i < k → f i = false) : bitsOf f k = 0 := by
  apply Nat.eq_of_testBit_eq; intro i
  rw [bitsOf_bit, Nat.zero_testBit]
  by_cases hi : i < k
  · rw [h i hi]; simp
  · simp [hi]
def firstOf (f : Nat → Bool) (k : Nat) : Option Nat := (List.range k).find? f
theorem firstOf_some {f : Nat → Bool} {k i : Nat} : firstOf f k = some i ↔ i < k ∧ f i = true ∧ ∀ j, j < i → f j = false := by
  unfold firstOf
  rw [List.find?_range_eq_some]
  simp only [List.mem_range, Bool.not_eq_eq_eq_not, Bool.not_true]
  constructor
  · rintro ⟨h1, h2, h3⟩; exact ⟨h2, h1, h3⟩
  · rintro ⟨h1, h2, h3⟩; exact ⟨h2, h1, h3⟩
theorem firstOf_none {f : Nat → Bool} {k : Nat} : firstOf f k = none ↔ ∀ j, j < k → f j = false := by
  unfold firstOf
  simp [List.find?_range_eq_none]
theorem first_zero {f : Nat → Bool} {k : Nat} (h : bitsOf f k = 0) : firstOf f k = none := by
  rw [firstOf_none]
  intro j hj
  have := bitsOf_bit f k j
  rw [h, Nat.zero_testBit] at this
  simpa [hj] using this.symm
theorem first_ctz {f : Nat → Bool} {k : Nat} (hk : k ≤ 64) (h : bitsOf f k ≠ 0) : firstOf f k = some (Lib.ctz 64 (bitsOf f k)) := by
  have hlt : bitsOf f k < 2 ^ 64 := Nat.lt_of_lt_of_le (bitsOf_lt f k) (Nat.pow_le_pow_right (by decide) hk)
  obtain ⟨m, hm, hc⟩ := Lib.ctzFrom_spec 64 (bitsOf f k) (Nat.pos_of_ne_zero h) hlt
  have e : Lib.ctz 64 (bitsOf f k) = Lib.ctzFrom 64 (bitsOf f k) := by unfold Lib.ctz; rw [if_neg h]
  rw [e]
  generalize Lib.ctzFrom 64 (bitsOf f k) = c at hm hc
  have hb : ∀ i, (bitsOf f k).testBit i = (decide (i ≥ c) && (2 * m + 1).testBit (i - c)) := fun i => by
    rw [hm, Nat.testBit_two_pow_mul]
  rw [firstOf_some]
  have h0 := hb c
  rw [bitsOf_bit, Nat.sub_self] at h0
  simp only [ge_iff_le, Nat.le_refl, decide_true, Bool.true_and] at h0
  have h1 : (2 * m + 1).testBit 0 = true := by rw [Nat.testBit_zero]; simp
  rw [h1, Bool.and_eq_true, decide_eq_true_eq] at h0
  refine ⟨h0.1, h0.2, fun j hj => ?_⟩
  have h2 := hb j
  rw [bitsOf_bit] at h2
  simpa [show ¬ c ≤ j by omega, show j < k by omega] using h2
def setP (ps : List Px) (p : Px) : Nat := bitsOf (fun i => covP (ps.getD i (0, 0)) p) ps.length
structure TreeOf (ps : List Px) (T : Tr) : Prop where
  wf : T.WF
  sets : ∀ e ∈ T.ents, e.1 ∈ ps ∧ e.2 = setP ps e.1
  all : ∀ p ∈ ps, ∃ e ∈ T.ents, e.1 = p
theorem most_of {ps : List Px} {a : Nat} (h : ∃ p ∈ ps, hasP p a = true) : ∃ p ∈ ps, hasP p a = true ∧ ∀ q ∈ ps, hasP q a = true → q.2 ≤ p.2 := by
  induction ps with
  | nil => obtain ⟨p, hp, _⟩ := h; cases hp
  | cons q ps ih =>
    by_cases hr : ∃ p ∈ ps, hasP p a = true
    · obtain ⟨p, hp, h1, h2⟩ := ih hr
      by_cases hq : hasP q a = true ∧ p.2 < q.2
      · refine ⟨q, by simp, hq.1, fun r hr hra => ?_⟩
        rcases List.mem_cons.1 hr with rfl | hr
        · exact Nat.le_refl _
        · have := h2 r hr hra; omega
      · refine ⟨p, by simp [hp], h1, fun r hr hra => ?_⟩
        rcases List.mem_cons.1 hr with rfl | hr
        · rcases Nat.lt_or_ge p.2 r.2 with h3 | h3
          · exact absurd ⟨hra, h3⟩ hq
          · exact h3
        · exact h2 r hr hra
    · obtain ⟨p, hp, hpa⟩ := h
      rcases List.mem_cons.1 hp with rfl | hp
      · refine ⟨p, by simp, hpa, fun r hr' hra => ?_⟩
        rcases List.mem_cons.1 hr' with rfl | hr'
        · exact Nat.le_refl _
        · exact absurd ⟨r, hr', hra⟩ hr
      · exact absurd ⟨p, hp, hpa⟩ hr
def optX (o : Option (Px × Nat)) : Nat := match o with | none => 0 | some e => e.2
theorem tree_found {ps : List Px} {T : Tr} (h : TreeOf ps T) (a : Nat) : optX (T.best a none) = bitsOf (fun i => hasP (ps.getD i (0, 0)) a) ps.length := by
  by_cases hx : ∃ p ∈ ps, hasP p a = true
  · obtain ⟨p, hp, hpa, hm⟩ := most_of hx
    obtain ⟨e, he, rfl⟩ := h.all p hp
    rw [Tr.best_some h.wf he hpa (fun e' he' => hm _ (h.sets e' he').1)]
    show e.2 = _
    rw [(h.sets e he).2]
    unfold setP
    apply bitsOf_congr
    intro i hi
    have hmem : ps.getD i (0, 0) ∈ ps := by rw [getD_at _ hi]; exact List.getElem_mem _
    rw [Bool.eq_iff_iff]
    constructor
    · intro hc; exact has_cov hc hpa
    · intro hh; exact one_chain hh hpa (hm _ hmem hh)
  · rw [Tr.best_none (fun e he => by
      cases hh : hasP e.1 a with
      | false => rfl
      | true => exact absurd ⟨e.1, (h.sets e he).1, hh⟩ hx)]
    show 0 = _
    rw [bitsOf_none]
    intro i hi
    have hmem : ps.getD i (0, 0) ∈ ps := by rw [getD_at _ hi]; exact List.getElem_mem _
    cases hh : hasP (ps.getD i (0, 0)) a with
    | false => rfl
    | true => exact absurd ⟨_, hmem, hh⟩ hx
end Go.Proofs.YtfckgddodjmbdaaGreatDoor
namespace Go.Proofs.YtfckgddodjmbdaaGreatDoor
set_option linter.unusedVariables false
set_option linter.unusedSimpArgs false
structure TreeAt (ps : List Px) (k : Nat) (T : Tr) : Prop where
  wf : T.WF
  sets : ∀ e ∈ T.ents, e.1 ∈ ps.take k ∧ e.2 = setP ps e.1
  all : ∀ p ∈ ps.take k, ∃ e ∈ T.ents, e.1 = p
theorem TreeAt.full {ps : List Px} {T : Tr} (h : TreeAt ps ps.length T) : TreeOf ps T := by
  refine ⟨h.wf, fun e he => ?_, fun p hp => h.all p (by rw [List.take_length]; exact hp)⟩
  have := h.sets e he
  rwa [List.take_length] at this
theorem TreeAt.start (ps : List Px) (b : Nat) : TreeAt ps 0 (.node b (0, 0) false 0 .nil .nil) := by
  refine ⟨⟨⟨by decide, by decide⟩, (fun q hq => by cases hq), (fun q hq => by cases hq), trivial, trivial⟩, fun e he => ?_, fun p hp => ?_⟩
  · simp [Tr.ents] at he
  · simp at hp
theorem take_one {ps : List Px} {k : Nat} (hk : k < ps.length) : ps.take (k + 1) = ps.take k ++ [ps.getD k (0, 0)] := by
  rw [List.take_add_one, List.getElem?_eq_getElem hk, getD_at _ hk]; rfl
theorem TreeAt.there {ps : List Px} {k : Nat} {T : Tr} (h : TreeAt ps k T) (hk : k < ps.length) {y : Nat} (ht : (ps.getD k (0, 0), y) ∈ T.ents) : TreeAt ps (k + 1) T := by
  refine ⟨h.wf, fun e he => ?_, fun p hp => ?_⟩
  · rw [take_one hk]
    have := h.sets e he
    exact ⟨List.mem_append_left _ this.1, this.2⟩
  · rw [take_one hk, List.mem_append, List.mem_singleton] at hp
    rcases hp with hp | rfl
    · exact h.all p hp
    · exact ⟨_, ht, rfl⟩
theorem TreeAt.more {ps : List Px} {k : Nat} {T T' : Tr} (h : TreeAt ps k T) (hk : k < ps.length) (hw : T'.WF) (hp : T'.ents.Perm ((ps.getD k (0, 0), setP ps (ps.getD k (0, 0))) :: T.ents)) : TreeAt ps (k + 1) T' := by
  refine ⟨hw, fun e he => ?_, fun p hpp => ?_⟩
  · rw [take_one hk]
    rcases List.mem_cons.1 (hp.mem_iff.1 he) with rfl | he
    · exact ⟨by simp, rfl⟩
    · have := h.sets e he
      exact ⟨List.mem_append_left _ this.1, this.2⟩
  · rw [take_one hk, List.mem_append, List.mem_singleton] at hpp
    rcases hpp with hpp | rfl
    · obtain ⟨e, he, hee⟩ := h.all p hpp
      exact ⟨e, hp.mem_iff.2 (List.mem_cons_of_mem _ he), hee⟩
    · exact ⟨_, hp.mem_iff.2 (List.mem_cons_self ..), rfl⟩
def Tr.put (T : Tr) (nb : Nat) (p : Px) (x fb : Nat) : Tr :=
  match T.at_ p with
  | some (_, true, _) => T
  | some (_, false, _) => T.put_ p x
  | none => T.lay nb p x fb
theorem TreeAt.put {ps : List Px} {k : Nat} {T : Tr} (h : TreeAt ps k T) (hk : k < ps.length) (hok : okP (ps.getD k (0, 0))) (nb fb : Nat) : TreeAt ps (k + 1) (T.put nb (ps.getD k (0, 0)) (setP ps (ps.getD k (0, 0))) fb) := by
  unfold Tr.put
  by_cases hm : ps.getD k (0, 0) ∈ T.prs
  · obtain ⟨b, u, x, h1, h2, h3, h4⟩ := Tr.at_some h.wf hm
    rw [h1]
    cases u with
    | true => exact h.there hk (h3 rfl)
    | false => exact h.more hk (Tr.put_wf h.wf _ _) (Tr.put_ents h.wf hm (h4 rfl) _)
  · rw [Tr.at_none hm]
    exact h.more hk (Tr.lay_wf h.wf hok hm _ _ _) (Tr.lay_ents _ _ _ _ _)
end Go.Proofs.YtfckgddodjmbdaaGreatDoor
namespace Go.Proofs.YtfckgddodjmbdaaGreatDoor
set_option linter.unusedVariables false
set_option linter.unusedSimpArgs false
structure RuN where
  s : Nat × Int
  d : Nat × Int
  lo : Nat
  hi : Nat
  fl : Nat
instance : Inhabited RuN := ⟨⟨(0, 0), (0, 0), 0, 0, 0⟩⟩
def pfOk (p : Nat × Int) : Prop := p.1 < 4294967296 ∧ -9223372036854775808 ≤ p.2 ∧ p.2 ≤ 9223372036854775807
structure RuN.Ok (r : RuN) : Prop where
  s : pfOk r.s
  d : pfOk r.d
  lo : r.lo < 65536
  hi : r.hi < 65536
  fl : r.fl < 4294967296
structure HdN where
  s : Nat
  d : Nat
  p : Nat
def badR (r : RuN) : Bool := !(rightB r.s.1 r.s.2 && rightB r.d.1 r.d.2 && decide (r.lo ≤ r.hi))
def chkN (l : List RuN) : Nat := if 64 < l.length then 20 else if l.any badR = true then 6 else 0
def inR (r : RuN) (p : Nat) : Bool := decide (r.lo ≤ p) && decide (p ≤ r.hi)
def holdsR (r : RuN) (h : HdN) : Bool := hasB r.s.1 r.s.2 h.s && hasB r.d.1 r.d.2 h.d && inR r h.p
def holdsAt (l : List RuN) (h : HdN) (i : Nat) : Bool := holdsR (l.getD i default) h
def findN (l : List RuN) (h : HdN) : Option Nat := firstOf (holdsAt l h) l.length
theorem chk_zero {l : List RuN} : chkN l = 0 ↔ l.length ≤ 64 ∧ ∀ r ∈ l, badR r = false := by
  unfold chkN
  by_cases h : 64 < l.length
  · rw [if_pos h]; constructor
    · intro h2; omega
    · intro h2; omega
  · rw [if_neg h]
    by_cases h2 : l.any badR = true
    · rw [if_pos h2]
      constructor
      · intro h3; omega
      · rintro ⟨_, h3⟩
        rw [List.any_eq_true] at h2
        obtain ⟨r, hr, hb⟩ := h2
        rw [h3 r hr] at hb; cases hb
    · rw [if_neg h2]
      simp only [true_iff]
      refine ⟨by omega, fun r hr => ?_⟩
      cases hb : badR r with
      | false => rfl
      | true => exact absurd (List.any_eq_true.2 ⟨r, hr, hb⟩) h2
theorem bad_false {r : RuN} : badR r = false ↔ rightB r.s.1 r.s.2 = true ∧ rightB r.d.1 r.d.2 = true ∧ r.lo ≤ r.hi := by
  unfold badR
  cases rightB r.s.1 r.s.2 <;> cases rightB r.d.1 r.d.2 <;> simp
def startsN (l : List RuN) : List Nat := 0 :: l.flatMap (fun r => r.lo :: (if r.hi < 65535 then [r.hi + 1] else []))
def setR (l : List RuN) (p : Nat) : Nat := bitsOf (fun i => inR (l.getD i default) p) l.length
def runsOf (l : List RuN) (zs : List Nat) : List (Nat × Nat) := zs.map (fun f => (f, setR l f))
structure Starts (l : List RuN) (zs : List Nat) : Prop where
  up : zs.Pairwise (· < ·)
  mem : ∀ x, x ∈ zs ↔ x ∈ startsN l
def upTo (zs : List Nat) (p : Nat) : Nat := (zs.filter (fun f => decide (f ≤ p))).length
theorem upTo_pre {zs : List Nat} (h : zs.Pairwise (· < ·)) (p : Nat) : ∀ i, i < zs.length → (zs.getD i 0 ≤ p ↔ i < upTo zs p) := by
  induction zs with
  | nil => intro i hi; simp at hi
  | cons z zs ih =>
    rw [List.pairwise_cons] at h
    intro i hi
    by_cases hz : z ≤ p
    · have e : upTo (z :: zs) p = upTo zs p + 1 := by unfold upTo; rw [List.filter_cons_of_pos (by simpa using hz)]; rfl
      rw [e]
      cases i with
      | zero => simp [hz]
      | succ i => simp only [List.getD_cons_succ]; rw [ih h.2 i (by simpa using hi)]; omega
    · have e : upTo (z :: zs) p = 0 := by
        unfold upTo
        rw [List.filter_cons_of_neg (by simpa using hz), List.length_eq_zero_iff, List.filter_eq_nil_iff]
        intro a ha
        have := h.1 a ha
        simp; omega
      rw [e]
      cases i with
      | zero => simp; omega
      | succ i =>
        simp only [List.getD_cons_succ, Nat.not_lt_zero, iff_false]
        have hi' : i < zs.length := by simpa using hi
        have : zs.getD i 0 ∈ zs := by rw [getD_at _ hi']; exact List.getElem_mem _
        have := h.1 _ this
        omega
theorem upTo_le (zs : List Nat) (p : Nat) : upTo zs p ≤ zs.length := List.length_filter_le _ _
theorem mem_starts {l : List RuN} {x : Nat} : x ∈ startsN l ↔ x = 0 ∨ ∃ r ∈ l, x = r.lo ∨ (r.hi < 65535 ∧ x = r.hi + 1) := by
  unfold startsN
  rw [List.mem_cons, List.mem_flatMap]
  refine or_congr Iff.rfl ⟨?_, ?_⟩
  · rintro ⟨r, hr, hx⟩
    refine ⟨r, hr, ?_⟩
    rw [List.mem_cons] at hx
    refine hx.imp_right fun hx => ?_
    split at hx
    · rename_i hh; exact ⟨hh, by simpa using hx⟩
    · cases hx
  · rintro ⟨r, hr, hx⟩
    refine ⟨r, hr, ?_⟩
    rw [List.mem_cons]
    refine hx.imp_right fun hx => ?_
    rw [if_pos hx.1]; simpa using hx.2
theorem run_of {l : List RuN} {zs : List Nat} (h : Starts l zs) (hok : ∀ r ∈ l, r.Ok) {p : Nat} (hp : p < 65536) : 0 < upTo zs p ∧ setR l (zs.getD (upTo zs p - 1) 0) = setR l p := by
  have h0 : 0 ∈ zs := (h.mem 0).2 (mem_starts.2 (.inl rfl))
  have hpos : 0 < upTo zs p := by
    unfold upTo
    apply List.length_pos_of_mem (a := 0)
    rw [List.mem_filter]; exact ⟨h0, by simp⟩
  refine ⟨hpos, ?_⟩
  have hle := upTo_le zs p
  have hlast := (upTo_pre h.up p (upTo zs p - 1) (by omega)).2 (by omega)
  have key : ∀ x ∈ zs, x ≤ p → x ≤ zs.getD (upTo zs p - 1) 0 := fun x hx hxp => by
    obtain ⟨i, hi, rfl⟩ := List.getElem_of_mem hx
    have h1 := (upTo_pre h.up p i hi).1 (by rw [getD_at _ hi]; exact hxp)
    rw [getD_at _ (by omega)]
    rcases Nat.lt_or_ge i (upTo zs p - 1) with h2 | h2
    · exact Nat.le_of_lt (List.pairwise_iff_getElem.1 h.up i (upTo zs p - 1) hi (by omega) h2)
    · have : i = upTo zs p - 1 := by omega
      subst this; exact Nat.le_refl _
  generalize zs.getD (upTo zs p - 1) 0 = f at hlast key
  unfold setR
  apply bitsOf_congr
  intro i hi
  have hm : l.getD i default ∈ l := by rw [getD_at _ hi]; exact List.getElem_mem _
  generalize l.getD i default = r at hm
  have hr := hok r hm
  unfold inR
  have e1 : r.lo ≤ f ↔ r.lo ≤ p := by
    constructor
    · intro h1; omega
    · intro h1; exact key _ ((h.mem _).2 (mem_starts.2 (.inr ⟨r, hm, .inl rfl⟩))) h1
  have e2 : f ≤ r.hi ↔ p ≤ r.hi := by
    constructor
    · intro h1
      rcases Nat.lt_or_ge r.hi p with h2 | h2
      · have := key _ ((h.mem _).2 (mem_starts.2 (.inr ⟨r, hm, .inr ⟨by omega, rfl⟩⟩))) h2
        omega
      · exact h2
    · intro h1; omega
  rw [decide_eq_decide.2 e1, decide_eq_decide.2 e2]
def pxOf (q : Nat × Int) : Px := (q.1, q.2.toNat)
theorem pxOf_ok {q : Nat × Int} (h : rightB q.1 q.2 = true) (hl : pfOk q) : okP (pxOf q) ∧ ((pxOf q).2 : Int) = q.2 := by
  have h1 := rightB_iff.1 h
  refine ⟨⟨?_, hl.1⟩, ?_⟩
  · unfold rightP pxOf; rw [Int.toNat_of_nonneg h1.1]; exact h
  · show ((q.2.toNat : Nat) : Int) = q.2
    exact Int.toNat_of_nonneg h1.1
theorem pxOf_has {q : Nat × Int} (h : rightB q.1 q.2 = true) (a : Nat) : hasP (pxOf q) a = hasB q.1 q.2 a := by
  have h1 := rightB_iff.1 h
  unfold hasP pxOf; rw [Int.toNat_of_nonneg h1.1]
theorem hold_of {l : List RuN} {S D : Tr} {zs : List Nat} (hok : ∀ r ∈ l, r.Ok) (hb : ∀ r ∈ l, badR r = false) (hS : TreeOf (l.map (fun r => pxOf r.s)) S) (hD : TreeOf (l.map (fun r => pxOf r.d)) D) (hz : Starts l zs) (h : HdN) (hp : h.p < 65536) :
    optX (S.best h.s none) &&& optX (D.best h.d none) &&& setR l (zs.getD (upTo zs h.p - 1) 0) = bitsOf (holdsAt l h) l.length := by
  rw [tree_found hS, tree_found hD, (run_of hz hok hp).2]
  unfold setR
  simp only [List.length_map]
  rw [bitsOf_and, bitsOf_and]
  apply bitsOf_congr
  intro i hi
  have hm : l.getD i default ∈ l := by rw [getD_at _ hi]; exact List.getElem_mem _
  have hbr := bad_false.1 (hb _ hm)
  have e1 : (l.map (fun r => pxOf r.s)).getD i (0, 0) = pxOf (l.getD i default).s := by
    rw [getD_at _ (by simpa using hi), getD_at _ hi]; simp
  have e2 : (l.map (fun r => pxOf r.d)).getD i (0, 0) = pxOf (l.getD i default).d := by
    rw [getD_at _ (by simpa using hi), getD_at _ hi]; simp
  rw [e1, e2, pxOf_has hbr.1, pxOf_has hbr.2.1]
  rfl
theorem findN_some {l : List RuN} {h : HdN} {i : Nat} : findN l h = some i ↔ i < l.length ∧ holdsAt l h i = true ∧ ∀ j, j < i → holdsAt l h j = false := firstOf_some
theorem findN_none {l : List RuN} {h : HdN} : findN l h = none ↔ ∀ j, j < l.length → holdsAt l h j = false := firstOf_none
def flowN (l : List RuN) (h : HdN) : Option Nat := (l.find? (fun r => holdsR r h)).map (·.fl)
theorem flow_find (l : List RuN) (h : HdN) : flowN l h = (findN l h).map (fun i => (l.getD i default).fl) := by
  unfold flowN
  cases hf : findN l h with
  | none =>
    have := findN_none.1 hf
    rw [List.find?_eq_none.2 (fun r hr => by
      obtain ⟨i, hi, rfl⟩ := List.getElem_of_mem hr
      have h2 := this i hi
      unfold holdsAt at h2
      rw [getD_at _ hi] at h2
      simp [h2])]
    rfl
  | some i =>
    obtain ⟨hi, h1, h2⟩ := findN_some.1 hf
    have e : l.find? (fun r => holdsR r h) = some l[i] := by
      rw [List.find?_eq_some_iff_getElem]
      unfold holdsAt at h1
      rw [getD_at _ hi] at h1
      refine ⟨h1, i, hi, rfl, fun j hj => ?_⟩
      have h3 := h2 j hj
      unfold holdsAt at h3
      rw [getD_at _ (by omega)] at h3
      simp [h3]
    rw [e]
    show some l[i].fl = some (l.getD i default).fl
    rw [getD_at _ hi]
end Go.Proofs.YtfckgddodjmbdaaGreatDoor
