/- Prefixes in plain Lean: no program in sight. -/
namespace Go.Proofs.YthnlggecjdifnaaDoor
set_option linter.unusedVariables false
set_option linter.unusedSimpArgs false

def rightB (a : Nat) (b : Int) : Bool := decide (0 ≤ b) && decide (b ≤ 32) && decide (a % 2 ^ (32 - b.toNat) = 0)
def hasB (a : Nat) (b : Int) (x : Nat) : Bool := rightB a b && decide (x / 2 ^ (32 - b.toNat) = a / 2 ^ (32 - b.toNat))
def covB (a : Nat) (b : Int) (a' : Nat) (b' : Int) : Bool := rightB a' b' && decide (b ≤ b') && hasB a b a'

theorem rightB_iff {a : Nat} {b : Int} : rightB a b = true ↔ 0 ≤ b ∧ b ≤ 32 ∧ a % 2 ^ (32 - b.toNat) = 0 := by unfold rightB; simp [and_assoc]
theorem hasB_iff {a : Nat} {b : Int} {x : Nat} : hasB a b x = true ↔ rightB a b = true ∧ x / 2 ^ (32 - b.toNat) = a / 2 ^ (32 - b.toNat) := by unfold hasB; simp
theorem covB_iff {a : Nat} {b : Int} {a' : Nat} {b' : Int} : covB a b a' b' = true ↔ rightB a' b' = true ∧ b ≤ b' ∧ hasB a b a' = true := by unfold covB; simp [and_assoc]

theorem pow_split {b b' : Int} (h0 : 0 ≤ b) (h : b ≤ b') (h1 : b' ≤ 32) : 2 ^ (32 - b.toNat) = 2 ^ (32 - b'.toNat) * 2 ^ (b'.toNat - b.toNat) := by
  rw [← Nat.pow_add]; congr 1; omega
/-- What the longer prefix has agrees with it in the shorter one's bits. -/
theorem top_of {b b' : Int} (h0 : 0 ≤ b) (h : b ≤ b') (h1 : b' ≤ 32) {x y : Nat} (e : x / 2 ^ (32 - b'.toNat) = y / 2 ^ (32 - b'.toNat)) : x / 2 ^ (32 - b.toNat) = y / 2 ^ (32 - b.toNat) := by
  rw [pow_split h0 h h1, ← Nat.div_div_eq_div_mul, ← Nat.div_div_eq_div_mul, e]
theorem one_of {a a' x : Nat} {b b' : Int} (h : hasB a b x = true) (h' : hasB a' b' x = true) (hb : b ≤ b') : covB a b a' b' = true := by
  rw [hasB_iff, rightB_iff] at h h'
  rw [covB_iff, hasB_iff, rightB_iff, rightB_iff]
  refine ⟨h'.1, hb, h.1, ?_⟩
  have := top_of h.1.1 hb h'.1.2.1 h'.2
  rw [← this]; exact h.2
theorem one_of' {a a' x : Nat} {b b' : Int} (h : hasB a b x = true) (h' : hasB a' b' x = true) : (covB a b a' b' || covB a' b' a b) = true := by
  rcases Int.le_total b b' with hb | hb
  · rw [one_of h h' hb]; rfl
  · rw [one_of h' h hb]; simp
theorem has_of {a a' x : Nat} {b b' : Int} (h : covB a b a' b' = true) (h' : hasB a' b' x = true) : hasB a b x = true := by
  rw [covB_iff, hasB_iff, rightB_iff, rightB_iff] at h
  rw [hasB_iff, rightB_iff] at h'
  rw [hasB_iff, rightB_iff]
  exact ⟨h.2.2.1, (top_of h.2.2.1.1 h.2.1 h'.1.2.1 h'.2).trans h.2.2.2⟩
theorem has_low {a : Nat} {b : Int} (h : rightB a b = true) : hasB a b a = true := by rw [hasB_iff]; exact ⟨h, rfl⟩
theorem has_high {a : Nat} {b : Int} (h : rightB a b = true) : hasB a b (a + (2 ^ (32 - b.toNat) - 1)) = true := by
  rw [hasB_iff]
  refine ⟨h, ?_⟩
  rw [rightB_iff] at h
  obtain ⟨_, _, h⟩ := h
  have hp : 0 < 2 ^ (32 - b.toNat) := Nat.pow_pos (by decide)
  generalize 2 ^ (32 - b.toNat) = d at *
  obtain ⟨q, rfl⟩ := Nat.dvd_of_mod_eq_zero h
  rw [Nat.mul_add_div hp, Nat.div_eq_of_lt (by omega : d - 1 < d), Nat.mul_div_cancel_left _ hp]; rfl
theorem cov_right {a a' : Nat} {b b' : Int} (h : covB a b a' b' = true) : rightB a b = true ∧ rightB a' b' = true := by
  rw [covB_iff, hasB_iff] at h; exact ⟨h.2.2.1, h.1⟩

end Go.Proofs.YthnlggecjdifnaaDoor
