/- Plain laws of layer 38: buckets and their numbers. Names no function of the program. -/
import Derived.Test.YtkhipbpjknfloaaBase
namespace Go.Proofs.Ytkhipbpjknfloaa
set_option linter.unusedVariables false
set_option linter.unusedSimpArgs false
def pw (k : Nat) : Nat := 2 ^ k
theorem pw_pos (k : Nat) : 0 < pw k := Nat.pow_pos (by decide)
theorem pw_add (a b : Nat) : pw (a + b) = pw a * pw b := Nat.pow_add 2 a b
theorem pw_succ (a : Nat) : pw (a + 1) = 2 * pw a := by unfold pw; rw [Nat.pow_succ]; omega
theorem pw_le {a b : Nat} (h : a ≤ b) : pw a ≤ pw b := Nat.pow_le_pow_right (by decide) h
def lg (n : Nat) : Nat := Nat.log2 n
theorem lg_spec {n : Nat} (h : 0 < n) : pw (lg n) ≤ n ∧ n < pw (lg n + 1) := ⟨Nat.log2_self_le (by omega), Nat.lt_log2_self⟩
theorem lg_ge {n f : Nat} (h : pw f ≤ n) : f ≤ lg n := by
  have h1 := (lg_spec (n := n) (Nat.lt_of_lt_of_le (pw_pos f) h)).2
  refine Nat.le_of_not_lt fun hc => ?_
  have := pw_le (show lg n + 1 ≤ f by omega)
  omega
/-- A number's bucket; a bucket's least number. -/
def bk (f n : Nat) : Nat := if n < pw f then n else (lg n - f) * pw f + n / pw (lg n - f)
def lo (f b : Nat) : Nat := if b < pw f then b else (b - (b / pw f - 1) * pw f) * pw (b / pw f - 1)
/-- Beyond the first ones a number is a head of f + 1 bits, and m bits behind. -/
theorem head_of {f n : Nat} (h : pw f ≤ n) : pw f ≤ n / pw (lg n - f) ∧ n / pw (lg n - f) < 2 * pw f := by
  have hl := lg_ge h
  obtain ⟨h1, h2⟩ := lg_spec (n := n) (Nat.lt_of_lt_of_le (pw_pos f) h)
  obtain ⟨m, hm⟩ : ∃ m, lg n = f + m := ⟨lg n - f, by omega⟩
  rw [hm, pw_add] at h1
  rw [hm, show f + m + 1 = (f + 1) + m by omega, pw_add, pw_succ] at h2
  rw [hm, show f + m - f = m by omega]
  exact ⟨(Nat.le_div_iff_mul_le (pw_pos m)).2 h1, (Nat.div_lt_iff_lt_mul (pw_pos m)).2 h2⟩
/-- A bucket beyond the first ones is so many rows of pw f, and one within. -/
theorem row_of {f b : Nat} (h : pw f ≤ b) : 1 ≤ b / pw f ∧ pw f ≤ b - (b / pw f - 1) * pw f ∧ b - (b / pw f - 1) * pw f < 2 * pw f ∧ b = (b / pw f - 1) * pw f + (b - (b / pw f - 1) * pw f) := by
  have hp := pw_pos f
  have h1 : 1 ≤ b / pw f := (Nat.le_div_iff_mul_le hp).2 (by omega)
  have hd := Nat.div_add_mod b (pw f)
  have hm := Nat.mod_lt b hp
  obtain ⟨r, hr⟩ : ∃ r, b / pw f = r + 1 := ⟨b / pw f - 1, by omega⟩
  rw [hr] at hd ⊢
  simp only [Nat.add_sub_cancel]
  have : pw f * (r + 1) = r * pw f + pw f := by rw [Nat.mul_comm, Nat.succ_mul]
  omega
theorem rows_lt {p m q m' q' : Nat} (h1 : p ≤ q) (h2 : q < 2 * p) (h3 : p ≤ q') (h4 : q' < 2 * p) : m * p + q < m' * p + q' ↔ m < m' ∨ (m = m' ∧ q < q') := by
  rcases Nat.lt_trichotomy m m' with h | h | h
  · have := Nat.mul_le_mul_right p (show m + 1 ≤ m' by omega)
    rw [Nat.succ_mul] at this
    omega
  · subst h; omega
  · have := Nat.mul_le_mul_right p (show m' + 1 ≤ m by omega)
    rw [Nat.succ_mul] at this
    omega
theorem bk_lt (f n b : Nat) : bk f n < b ↔ n < lo f b := by
  have hp := pw_pos f
  unfold bk lo
  by_cases hn : n < pw f
  · rw [if_pos hn]
    by_cases hb : b < pw f
    · rw [if_pos hb]
    · rw [if_neg hb]
      obtain ⟨_, r2, _, _⟩ := row_of (f := f) (b := b) (by omega)
      have := Nat.le_mul_of_pos_right (b - (b / pw f - 1) * pw f) (pw_pos (b / pw f - 1))
      omega
  · rw [if_neg hn]
    obtain ⟨q1, q2⟩ := head_of (f := f) (n := n) (by omega)
    by_cases hb : b < pw f
    · rw [if_pos hb]; omega
    · rw [if_neg hb]
      obtain ⟨r1, r2, r3, r4⟩ := row_of (f := f) (b := b) (by omega)
      obtain ⟨l1, l2⟩ := lg_spec (n := n) (by omega)
      have hl := lg_ge (f := f) (n := n) (by omega)
      generalize b / pw f - 1 = mb at *
      generalize b - mb * pw f = qb at *
      obtain ⟨m, hm⟩ : ∃ m, lg n = f + m := ⟨lg n - f, by omega⟩
      rw [hm, show f + m - f = m by omega] at q1 q2 ⊢
      rw [hm, pw_add] at l1
      rw [hm, show f + m + 1 = f + (m + 1) by omega, pw_add] at l2
      rw [r4, rows_lt q1 q2 r2 r3]
      rcases Nat.lt_trichotomy m mb with h | h | h
      · have h5 := Nat.mul_le_mul_right (pw mb) r2
        have h6 := Nat.mul_le_mul_left (pw f) (pw_le (show m + 1 ≤ mb by omega))
        constructor
        · intro; omega
        · intro; exact .inl h
      · subst h
        rw [Nat.div_lt_iff_lt_mul (pw_pos m)]
        constructor
        · rintro (h | h); omega; exact h.2
        · exact fun h => .inr ⟨rfl, h⟩
      · have h5 := Nat.mul_lt_mul_of_pos_right r3 (pw_pos mb)
        have h6 := Nat.mul_le_mul_left (pw f) (pw_le (show mb + 1 ≤ m by omega))
        rw [pw_succ] at h6
        have h7 : 2 * pw f * pw mb = pw f * (2 * pw mb) := by rw [Nat.mul_comm 2, Nat.mul_assoc]
        constructor
        · rintro (h | h) <;> omega
        · intro; omega
theorem lo_mono (f : Nat) {a b : Nat} (h : a ≤ b) : lo f a ≤ lo f b := by
  refine Nat.le_of_not_lt fun hc => ?_
  have h1 := (bk_lt f (lo f b) a).2 hc
  have h2 := (bk_lt f (lo f b) b).1 (by omega)
  omega
/-- How many numbers a bucket has. -/
def wd (f b : Nat) : Nat := if b < pw f then 1 else pw (b / pw f - 1)
theorem lo_next (f b : Nat) : lo f (b + 1) = lo f b + wd f b := by
  have hp := pw_pos f
  unfold lo wd
  by_cases hb : b < pw f
  · rw [if_pos hb, if_pos hb]
    by_cases hb1 : b + 1 < pw f
    · rw [if_pos hb1]
    · rw [if_neg hb1]
      have e : b + 1 = pw f := by omega
      rw [e, Nat.div_self hp]
      simp [pw]
  · rw [if_neg hb, if_neg hb, if_neg (by omega)]
    obtain ⟨r1, r2, r3, r4⟩ := row_of (f := f) (b := b) (by omega)
    have hd := Nat.div_add_mod b (pw f)
    have hm := Nat.mod_lt b hp
    obtain ⟨r, hr⟩ : ∃ r, b / pw f = r + 1 := ⟨b / pw f - 1, by omega⟩
    have hmul : pw f * (r + 1) = r * pw f + pw f := by rw [Nat.mul_comm, Nat.succ_mul]
    by_cases hlast : b % pw f + 1 = pw f
    · have e : b + 1 = pw f * (r + 2) := by
        rw [hr] at hd
        have : pw f * (r + 2) = pw f * (r + 1) + pw f := by rw [show r + 2 = (r + 1) + 1 by omega, Nat.mul_succ]
        omega
      rw [e, Nat.mul_div_cancel_left _ hp, hr]
      simp only [Nat.add_sub_cancel]
      rw [show r + 2 - 1 = r + 1 by omega, pw_succ]
      have h1 : pw f * (r + 2) - (r + 1) * pw f = pw f := by
        have : pw f * (r + 2) = (r + 1) * pw f + pw f := by rw [Nat.mul_comm, show r + 2 = (r + 1) + 1 by omega, Nat.succ_mul]
        omega
      have h2 : b - r * pw f + 1 = 2 * pw f := by rw [hr] at hd; omega
      rw [h1, ← Nat.succ_mul, Nat.succ_eq_add_one, h2, Nat.mul_comm (pw f), Nat.mul_assoc, Nat.mul_comm (pw r), ← Nat.mul_assoc]
    · have e : (b + 1) / pw f = r + 1 := by
        rw [hr] at hd
        rw [Nat.div_eq_iff hp]
        rw [Nat.mul_comm] at hd
        have : (r + 1) * pw f = r * pw f + pw f := Nat.succ_mul _ _
        omega
      rw [e, hr]
      simp only [Nat.add_sub_cancel]
      rw [hr] at hd
      rw [show b + 1 - r * pw f = (b - r * pw f) + 1 by omega, Nat.succ_mul]
theorem bk_in (f n : Nat) : lo f (bk f n) ≤ n ∧ n < lo f (bk f n + 1) :=
  ⟨Nat.le_of_not_lt fun h => by have := (bk_lt f n (bk f n)).2 h; omega, (bk_lt f n (bk f n + 1)).1 (by omega)⟩
theorem bk_mono (f : Nat) {a b : Nat} (h : a ≤ b) : bk f a ≤ bk f b := by
  have := (bk_in f b).2
  have := (bk_lt f a (bk f b + 1)).2 (by omega)
  omega
/-- The number of buckets up to the greatest number of 64 bits. -/
theorem lo_top (f : Nat) (hf : f ≤ 63) : lo f ((65 - f) * pw f) = pw 64 := by
  have hp := pw_pos f
  unfold lo
  have : ¬ (65 - f) * pw f < pw f := by
    have := Nat.mul_le_mul_right (pw f) (show 1 ≤ 65 - f by omega)
    omega
  rw [if_neg this, Nat.mul_div_cancel _ hp]
  obtain ⟨r, hr⟩ : ∃ r, 65 - f = r + 1 := ⟨64 - f, by omega⟩
  rw [hr]
  simp only [Nat.add_sub_cancel]
  have e : (r + 1) * pw f - r * pw f = pw f := by rw [Nat.succ_mul]; omega
  rw [e, ← pw_add, show f + r = 64 by omega]
theorem bk_top (f : Nat) (hf : f ≤ 63) : bk f (pw 64 - 1) + 1 = (65 - f) * pw f := by
  have h0 := pw_pos 64
  have h1 := (bk_lt f (pw 64 - 1) ((65 - f) * pw f)).2 (by rw [lo_top f hf]; omega)
  have h2 : ¬ bk f (pw 64 - 1) + 1 < (65 - f) * pw f := fun h => by
    have h3 := lo_mono f (show bk f (pw 64 - 1) + 1 ≤ (65 - f) * pw f - 1 by omega)
    have h4 := (bk_in f (pw 64 - 1)).2
    have h5 := lo_next f ((65 - f) * pw f - 1)
    rw [show (65 - f) * pw f - 1 + 1 = (65 - f) * pw f by omega, lo_top f hf] at h5
    have h6 : 0 < wd f ((65 - f) * pw f - 1) := by unfold wd; split; omega; exact pw_pos _
    omega
  omega
/-- A bucket is as wide as may be, at most. -/
theorem wd_le (f b : Nat) : wd f b - 1 ≤ lo f b / pw f := by
  unfold wd lo
  by_cases hb : b < pw f
  · rw [if_pos hb, if_pos hb]; exact Nat.zero_le _
  · rw [if_neg hb, if_neg hb]
    obtain ⟨_, r2, _, _⟩ := row_of (f := f) (b := b) (by omega)
    have h1 := Nat.mul_le_mul_right (pw (b / pw f - 1)) r2
    rw [Nat.mul_comm (pw f)] at h1
    have := (Nat.le_div_iff_mul_le (pw_pos f)).2 h1
    omega
end Go.Proofs.Ytkhipbpjknfloaa
