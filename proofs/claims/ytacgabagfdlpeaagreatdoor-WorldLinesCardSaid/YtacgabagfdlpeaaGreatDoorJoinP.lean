/- Texts joined by one sign, and parted at it, in plain Lean. -/
import Derived.Test.YtacgabagfdlpeaaGreatDoorDigP
import Derived.Lib.Join
namespace Go.Proofs.YtacgabagfdlpeaaGreatDoor
set_option linter.unusedVariables false
set_option linter.unusedSimpArgs false

def joinS (c : UInt8) : List (List UInt8) → List UInt8
  | [] => []
  | [w] => w
  | w :: r => w ++ c :: joinS c r
theorem joinS_eq (c : UInt8) (l : List (List UInt8)) : Lib.join l [c] = joinS c l := by
  induction l with
  | nil => rfl
  | cons a r ih =>
    cases r with
    | nil => rw [Lib.join_one]; rfl
    | cons b r =>
      rw [Lib.join_cons] at *
      show a ++ Lib.joinTail [c] (b :: r) = a ++ c :: joinS c (b :: r)
      rw [← ih]
      simp [Lib.joinTail]

/-- What stands between signs. -/
def pstep (c : UInt8) (p : List (List UInt8) × List UInt8) (d : UInt8) : List (List UInt8) × List UInt8 := if d == c then (p.1 ++ [p.2], []) else (p.1, p.2 ++ [d])
def pst (c : UInt8) (l : List UInt8) : List (List UInt8) × List UInt8 := l.foldl (pstep c) ([], [])
def parts (c : UInt8) (l : List UInt8) : List (List UInt8) := (pst c l).1 ++ [(pst c l).2]
theorem pst_snoc (c : UInt8) (l : List UInt8) (d : UInt8) : pst c (l ++ [d]) = pstep c (pst c l) d := by simp [pst]
theorem pfold_out (c : UInt8) (l : List UInt8) : ∀ (o : List (List UInt8)) (n : List UInt8), l.foldl (pstep c) (o, n) = (o ++ (l.foldl (pstep c) ([], n)).1, (l.foldl (pstep c) ([], n)).2) := by
  induction l with
  | nil => intro o n; simp
  | cons d r ih =>
    intro o n
    rw [List.foldl_cons, List.foldl_cons]
    by_cases h : (d == c) = true
    · have e : ∀ o', pstep c (o', n) d = (o' ++ [n], []) := fun o' => by unfold pstep; rw [if_pos h]
      rw [e, e, ih (o ++ [n]), ih ([] ++ [n])]; simp
    · have e : ∀ o', pstep c (o', n) d = (o', n ++ [d]) := fun o' => by unfold pstep; rw [if_neg h]
      rw [e, e, ih o]
/-- Parted at the first sign. -/
theorem parts_cons (c : UInt8) (a b : List UInt8) (ha : c ∉ a) : parts c (a ++ c :: b) = a :: parts c b := by
  have h1 : pst c a = ([], a) := by
    revert ha
    refine snocInd (P := fun a => c ∉ a → pst c a = ([], a)) (fun _ => rfl) (fun l d ih h => ?_) a
    rw [pst_snoc, ih (fun hm => h (List.mem_append.2 (.inl hm)))]
    have hd : ¬ (d == c) = true := by rw [beq_iff_eq]; rintro rfl; exact h (by simp)
    unfold pstep; rw [if_neg hd]
  have h2 : pst c (a ++ c :: b) = ([a] ++ (pst c b).1, (pst c b).2) := by
    unfold pst at *
    rw [List.foldl_append, h1, List.foldl_cons]
    have e : pstep c ([], a) c = ([a], []) := by unfold pstep; simp
    rw [e, pfold_out]
  unfold parts
  rw [h2]; simp
theorem parts_one (c : UInt8) (a : List UInt8) (ha : c ∉ a) : parts c a = [a] := by
  have h1 : pst c a = ([], a) := by
    revert ha
    refine snocInd (P := fun a => c ∉ a → pst c a = ([], a)) (fun _ => rfl) (fun l d ih h => ?_) a
    rw [pst_snoc, ih (fun hm => h (List.mem_append.2 (.inl hm)))]
    have hd : ¬ (d == c) = true := by rw [beq_iff_eq]; rintro rfl; exact h (by simp)
    unfold pstep; rw [if_neg hd]
  unfold parts; rw [h1]; rfl
theorem joinS_snoc (c : UInt8) (l : List (List UInt8)) (w : List UInt8) (hl : l ≠ []) : joinS c (l ++ [w]) = joinS c l ++ c :: w := by
  induction l with
  | nil => exact absurd rfl hl
  | cons a r ih =>
    cases r with
    | nil => rfl
    | cons b r =>
      show a ++ c :: joinS c (b :: r ++ [w]) = (a ++ c :: joinS c (b :: r)) ++ c :: w
      rw [ih (by simp)]; simp
/-- Joined again. -/
theorem joinS_parts (c : UInt8) (l : List UInt8) : joinS c (parts c l) = l := by
  have h : ∀ l, joinS c ((pst c l).1 ++ [(pst c l).2]) = l := by
    intro l
    refine snocInd (P := fun l => joinS c ((pst c l).1 ++ [(pst c l).2]) = l) rfl (fun l d ih => ?_) l
    rw [pst_snoc]
    unfold pstep
    by_cases h : (d == c) = true
    · rw [if_pos h]
      rw [beq_iff_eq] at h
      subst h
      rw [joinS_snoc _ _ _ (by simp), ih]
    · rw [if_neg h]
      by_cases h0 : (pst c l).1 = []
      · rw [h0] at ih ⊢
        show (pst c l).2 ++ [d] = l ++ [d]
        rw [show (pst c l).2 = l from ih]
      · rw [joinS_snoc _ _ _ h0] at ih ⊢
        show joinS c (pst c l).1 ++ c :: ((pst c l).2 ++ [d]) = l ++ [d]
        conv => rhs; rw [← ih]
        simp
  exact h l
theorem parts_free (c : UInt8) (l : List UInt8) : ∀ w ∈ parts c l, c ∉ w := by
  have h : ∀ l, (∀ w ∈ (pst c l).1, c ∉ w) ∧ c ∉ (pst c l).2 := by
    intro l
    refine snocInd (P := fun l => (∀ w ∈ (pst c l).1, c ∉ w) ∧ c ∉ (pst c l).2) (by simp [pst]) (fun l d ih => ?_) l
    rw [pst_snoc]
    unfold pstep
    by_cases hd : (d == c) = true
    · rw [if_pos hd]
      refine ⟨fun w hw => ?_, by simp⟩
      rcases List.mem_append.1 hw with hw | hw
      · exact ih.1 w hw
      · simp at hw; subst hw; exact ih.2
    · rw [if_neg hd]
      refine ⟨ih.1, fun hm => ?_⟩
      rcases List.mem_append.1 hm with hm | hm
      · exact ih.2 hm
      · simp at hm; subst hm; simp at hd
  intro w hw
  unfold parts at hw
  rcases List.mem_append.1 hw with hw | hw
  · exact (h l).1 w hw
  · simp at hw; subst hw; exact (h l).2
end Go.Proofs.YtacgabagfdlpeaaGreatDoor
