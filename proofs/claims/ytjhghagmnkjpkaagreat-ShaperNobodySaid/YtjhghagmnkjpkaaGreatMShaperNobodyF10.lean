/- Decimals, units and words in plain Lean: no program in sight. -/
import Derived.Lib.Join
import Derived.WalkKit
namespace Go.Proofs.YtjhghagmnkjpkaaGreat
set_option linter.unusedVariables false
set_option linter.unusedSimpArgs false

theorem snocInd {α : Type} {P : List α → Prop} (h0 : P []) (hs : ∀ l c, P l → P (l ++ [c])) (l : List α) : P l := by
  have h : ∀ r : List α, P r.reverse := by
    intro r
    induction r with
    | nil => exact h0
    | cons c r ih => rw [List.reverse_cons]; exact hs _ _ ih
  have := h l.reverse
  rwa [List.reverse_reverse] at this

def isDig (c : UInt8) : Bool := decide (48 ≤ c.toNat) && decide (c.toNat ≤ 57)
theorem isDig_iff {c : UInt8} : isDig c = true ↔ 48 ≤ c.toNat ∧ c.toNat ≤ 57 := by unfold isDig; simp
theorem isDig_not {c : UInt8} : isDig c = false ↔ ¬ (48 ≤ c.toNat ∧ c.toNat ≤ 57) := by rw [← isDig_iff]; simp

/-- The number of digits. -/
def num (l : List UInt8) : Nat := l.foldl (fun n c => n * 10 + (c.toNat - 48)) 0
theorem num_nil : num [] = 0 := rfl
theorem num_snoc (l : List UInt8) (c : UInt8) : num (l ++ [c]) = num l * 10 + (c.toNat - 48) := by simp [num]
theorem num_le (l : List UInt8) (r : List UInt8) : num l ≤ num (l ++ r) := by
  refine snocInd (P := fun r => num l ≤ num (l ++ r)) (by simp) (fun r c ih => ?_) r
  rw [← List.append_assoc, num_snoc]; omega
theorem num_take (l : List UInt8) (k : Nat) : num (l.take k) ≤ num l := by
  have := num_le (l.take k) (l.drop k)
  rwa [List.take_append_drop] at this
theorem num_succ (l : List UInt8) (k : Nat) (h : k < l.length) : num (l.take (k + 1)) = num (l.take k) * 10 + (l[k].toNat - 48) := by
  rw [List.take_succ_eq_append_getElem h, num_snoc]

def M64 : Nat := 18446744073709551616

/-- A text of digits, with no nought ahead. -/
def good (l : List UInt8) : Bool := l.all isDig && !l.isEmpty && !(decide (1 < l.length) && l.head? == some 48)
/-- What Read answers. -/
def rd (l : List UInt8) : Nat × Int := if good l then (if num l < M64 then (num l, 0) else (0, 5)) else (0, 3)

def worthN (c : UInt8) : Nat := if c.toNat = 75 then 1000 else if c.toNat = 77 then 1000000 else if c.toNat = 71 then 1000000000 else 0
def lastW (l : List UInt8) : Nat := match l.getLast? with | some c => worthN c | none => 0
def cutU (l : List UInt8) : List UInt8 := if 0 < lastW l then l.dropLast else l
def unitU (l : List UInt8) : Nat := if 0 < lastW l then lastW l else 1
/-- What ReadUnit answers. -/
def rdU (l : List UInt8) : Nat × Int :=
  if (rd (cutU l)).2 ≠ 0 then (0, (rd (cutU l)).2) else if (rd (cutU l)).1 * unitU l < M64 then ((rd (cutU l)).1 * unitU l, 0) else (0, 5)

def digit (n : Nat) : UInt8 := UInt8.ofNat (48 + n % 10)
theorem digit_nat (n : Nat) : (digit n).toNat = 48 + n % 10 := by
  unfold digit
  rw [UInt8.toNat_ofNat']
  have := Nat.mod_lt n (show 10 > 0 by decide)
  omega
theorem digit_is (n : Nat) : isDig (digit n) = true := by
  rw [isDig_iff, digit_nat]
  have := Nat.mod_lt n (show 10 > 0 by decide)
  omega
def put (n : Nat) : List UInt8 := if n < 10 then [digit n] else put (n / 10) ++ [digit n]
termination_by n
decreasing_by omega
theorem put_lt {n : Nat} (h : n < 10) : put n = [digit n] := by rw [put, if_pos h]
theorem put_ge {n : Nat} (h : ¬ n < 10) : put n = put (n / 10) ++ [digit n] := by rw [put, if_neg h]
theorem put_num (n : Nat) : num (put n) = n := by
  induction n using Nat.strongRecOn with
  | ind n ih =>
    by_cases h : n < 10
    · rw [put_lt h]
      have := num_snoc [] (digit n)
      simp only [List.nil_append, num_nil] at this
      rw [this, digit_nat]; omega
    · rw [put_ge h, num_snoc, ih (n / 10) (by omega), digit_nat]; omega
theorem put_all (n : Nat) : (put n).all isDig = true := by
  induction n using Nat.strongRecOn with
  | ind n ih =>
    by_cases h : n < 10
    · rw [put_lt h]; simp [digit_is]
    · rw [put_ge h, List.all_append, ih (n / 10) (by omega)]; simp [digit_is]
theorem put_ne (n : Nat) : put n ≠ [] := by
  by_cases h : n < 10
  · rw [put_lt h]; simp
  · rw [put_ge h]; simp
theorem put_head (n : Nat) (h : 0 < n) : ∃ c, (put n).head? = some c ∧ 49 ≤ c.toNat := by
  induction n using Nat.strongRecOn with
  | ind n ih =>
    by_cases h1 : n < 10
    · rw [put_lt h1]; exact ⟨_, rfl, by rw [digit_nat]; omega⟩
    · obtain ⟨c, hc, hh⟩ := ih (n / 10) (by omega) (by omega)
      refine ⟨c, ?_, hh⟩
      rw [put_ge h1, List.head?_append, hc]; rfl
theorem put_good (n : Nat) : good (put n) = true := by
  unfold good
  rw [put_all]
  have h1 := put_ne n
  cases e : put n with
  | nil => exact absurd e h1
  | cons c r =>
    by_cases h : n = 0
    · subst h
      rw [put_lt (by decide)] at e
      cases e; rfl
    · obtain ⟨c', hc, hh⟩ := put_head n (by omega)
      rw [e] at hc
      simp only [List.head?_cons, Option.some.injEq] at hc
      subst hc
      have : (c == 48) = false := by
        rw [beq_eq_false_iff_ne]; rintro rfl; revert hh; decide
      simp [this]
theorem rd_put (n : Nat) (h : n < M64) : rd (put n) = (n, 0) := by
  unfold rd; rw [put_good, if_pos rfl, put_num, if_pos h]

theorem good_snoc {l : List UInt8} {c : UInt8} (h : good (l ++ [c]) = true) (hl : l ≠ []) : good l = true ∧ isDig c = true ∧ 0 < num l := by
  unfold good at h
  simp only [Bool.and_eq_true, List.all_append, List.all_cons, List.all_nil, Bool.and_true, Bool.not_eq_true', Bool.and_eq_false_iff, decide_eq_false_iff_not] at h
  obtain ⟨⟨⟨h1, h2⟩, _⟩, h3⟩ := h
  cases l with
  | nil => exact absurd rfl hl
  | cons a r =>
    have ha : (a == 48) = false := by
      rcases h3 with h3 | h3
      · exact absurd (by simp) h3
      · simpa using h3
    refine ⟨?_, h2, ?_⟩
    · unfold good; rw [h1]; simp [ha]
    · have h4 : isDig a = true := by simp at h1; exact h1.1
      rw [isDig_iff] at h4
      have h5 : a.toNat ≠ 48 := fun e => by
        rw [beq_eq_false_iff_ne] at ha
        exact ha (UInt8.toNat_inj.1 (by simpa using e))
      have h6 := num_le [a] r
      have h7 : num [a] = a.toNat - 48 := by simp [num]
      have h8 : [a] ++ r = a :: r := rfl
      rw [h7, h8] at h6
      omega
theorem put_of_good (l : List UInt8) (h : good l = true) : put (num l) = l := by
  revert h
  refine snocInd (P := fun l => good l = true → put (num l) = l) (fun h => by simp [good] at h) (fun r c ih h => ?_) l
  by_cases hr : r = []
  · subst hr
    have hc : isDig c = true := by unfold good at h; simp at h; exact h
    rw [isDig_iff] at hc
    have e : num ([] ++ [c]) = c.toNat - 48 := by rw [num_snoc]; simp [num_nil]
    rw [e, put_lt (by omega)]
    have : digit (c.toNat - 48) = c := UInt8.toNat_inj.1 (by rw [digit_nat]; omega)
    rw [this]; rfl
  · obtain ⟨h1, h2, h3⟩ := good_snoc h hr
    rw [isDig_iff] at h2
    rw [num_snoc, put_ge (by omega), show (num r * 10 + (c.toNat - 48)) / 10 = num r by omega, ih h1]
    have : digit (num r * 10 + (c.toNat - 48)) = c := UInt8.toNat_inj.1 (by rw [digit_nat]; omega)
    rw [this]
theorem put_of_rd (l : List UInt8) (h : (rd l).2 = 0) : put (rd l).1 = l := by
  unfold rd at h ⊢
  by_cases hg : good l = true
  · rw [if_pos hg] at h ⊢
    by_cases hm : num l < M64
    · rw [if_pos hm]; exact put_of_good l hg
    · rw [if_neg hm] at h; cases h
  · rw [if_neg hg] at h; cases h

def putU (n : Nat) : List UInt8 :=
  if 0 < n ∧ n % 1000000000 = 0 then put (n / 1000000000) ++ [71]
  else if 0 < n ∧ n % 1000000 = 0 then put (n / 1000000) ++ [77]
  else if 0 < n ∧ n % 1000 = 0 then put (n / 1000) ++ [75] else put n
theorem lastW_snoc (l : List UInt8) (c : UInt8) : lastW (l ++ [c]) = worthN c := by unfold lastW; simp
theorem lastW_put (n : Nat) : lastW (put n) = 0 := by
  have h : ∃ l, put n = l ++ [digit n] := by
    by_cases h : n < 10
    · exact ⟨[], by rw [put_lt h]; rfl⟩
    · exact ⟨_, put_ge h⟩
  obtain ⟨l, e⟩ := h
  rw [e, lastW_snoc]
  unfold worthN
  rw [digit_nat]
  have := Nat.mod_lt n (show 10 > 0 by decide)
  rw [if_neg (by omega), if_neg (by omega), if_neg (by omega)]
theorem rdU_unit (n w : Nat) (c : UInt8) (hw : worthN c = w) (h0 : 0 < w) (h : n < M64) (hd : n % w = 0) : rdU (put (n / w) ++ [c]) = (n, 0) := by
  have hl : lastW (put (n / w) ++ [c]) = w := by rw [lastW_snoc, hw]
  have hc : cutU (put (n / w) ++ [c]) = put (n / w) := by unfold cutU; rw [hl, if_pos h0]; simp
  have hu : unitU (put (n / w) ++ [c]) = w := by unfold unitU; rw [hl, if_pos h0]
  have hn : n / w < M64 := Nat.lt_of_le_of_lt (Nat.div_le_self _ _) h
  have hm : n / w * w = n := Nat.div_mul_cancel (Nat.dvd_of_mod_eq_zero hd)
  unfold rdU
  rw [hc, hu, rd_put _ hn]
  simp only [ne_eq, not_true, if_false, hm, h, if_true]
theorem rdU_putU (n : Nat) (h : n < M64) : rdU (putU n) = (n, 0) := by
  unfold putU
  by_cases h1 : 0 < n ∧ n % 1000000000 = 0
  · rw [if_pos h1]; exact rdU_unit n _ 71 rfl (by decide) h h1.2
  · rw [if_neg h1]
    by_cases h2 : 0 < n ∧ n % 1000000 = 0
    · rw [if_pos h2]; exact rdU_unit n _ 77 rfl (by decide) h h2.2
    · rw [if_neg h2]
      by_cases h3 : 0 < n ∧ n % 1000 = 0
      · rw [if_pos h3]; exact rdU_unit n _ 75 rfl (by decide) h h3.2
      · rw [if_neg h3]
        have hc : cutU (put n) = put n := by unfold cutU; rw [lastW_put]; simp
        have hu : unitU (put n) = 1 := by unfold unitU; rw [lastW_put]; simp
        unfold rdU
        rw [hc, hu, rd_put _ h]
        simp [h]

/-- A blank. -/
def blank (c : UInt8) : Bool := c.toNat == 32 || c.toNat == 9
def wstep (p : List (List UInt8) × List UInt8) (c : UInt8) : List (List UInt8) × List UInt8 :=
  if blank c then (if p.2 = [] then (p.1, []) else (p.1 ++ [p.2], [])) else (p.1, p.2 ++ [c])
/-- The words that ended, and the one that has begun. -/
def wst (l : List UInt8) : List (List UInt8) × List UInt8 := l.foldl wstep ([], [])
def wend (p : List (List UInt8) × List UInt8) : List (List UInt8) := if p.2 = [] then p.1 else p.1 ++ [p.2]
def words (l : List UInt8) : List (List UInt8) := wend (wst l)
theorem wst_nil : wst [] = ([], []) := rfl
theorem wst_snoc (l : List UInt8) (c : UInt8) : wst (l ++ [c]) = wstep (wst l) c := by simp [wst]
theorem wst_succ (l : List UInt8) (k : Nat) (h : k < l.length) : wst (l.take (k + 1)) = wstep (wst (l.take k)) l[k] := by
  rw [List.take_succ_eq_append_getElem h, wst_snoc]
theorem wstep_blank {o : List (List UInt8)} {n : List UInt8} {c : UInt8} (h : blank c = true) : wstep (o, n) c = (wend (o, n), []) := by
  unfold wstep wend
  simp only [h, if_true]
  by_cases hn : n = []
  · simp [hn]
  · simp [hn]
theorem wstep_sign {o : List (List UInt8)} {n : List UInt8} {c : UInt8} (h : blank c = false) : wstep (o, n) c = (o, n ++ [c]) := by
  unfold wstep; simp [h]
theorem wend_out (o : List (List UInt8)) (n : List UInt8) : wend (o, n) = o ++ wend ([], n) := by
  unfold wend
  by_cases hn : n = []
  · simp [hn]
  · simp [hn]
theorem fold_out (l : List UInt8) : ∀ (o : List (List UInt8)) (n : List UInt8), l.foldl wstep (o, n) = (o ++ (l.foldl wstep ([], n)).1, (l.foldl wstep ([], n)).2) := by
  induction l with
  | nil => intro o n; simp
  | cons c r ih =>
    intro o n
    rw [List.foldl_cons, List.foldl_cons]
    cases hb : blank c with
    | true =>
      rw [wstep_blank hb, wstep_blank hb, ih (wend (o, n)), ih (wend ([], n)), wend_out o n]
      simp
    | false =>
      rw [wstep_sign hb, wstep_sign hb, ih o]
theorem words_blank (a b : List UInt8) (c : UInt8) (hc : blank c = true) : words (a ++ c :: b) = words a ++ words b := by
  unfold words wst
  rw [List.foldl_append, List.foldl_cons]
  obtain ⟨o, n⟩ := a.foldl wstep ([], [])
  rw [wstep_blank hc, fold_out]
  obtain ⟨o', n'⟩ := b.foldl wstep ([], [])
  rw [wend_out, wend_out o']
  simp
/-- A word: not empty, no blank. -/
def isWord (w : List UInt8) : Prop := w ≠ [] ∧ ∀ c ∈ w, blank c = false
theorem wst_free (w : List UInt8) (h : ∀ c ∈ w, blank c = false) : wst w = ([], w) := by
  revert h
  refine snocInd (P := fun w => (∀ c ∈ w, blank c = false) → wst w = ([], w)) (fun _ => rfl) (fun l c ih h => ?_) w
  rw [wst_snoc, ih (fun c hc => h c (List.mem_append.2 (.inl hc)))]
  have hc := h c (by simp)
  unfold wstep; simp [hc]
theorem words_word {w : List UInt8} (h : isWord w) : words w = [w] := by
  unfold words; rw [wst_free w h.2]; unfold wend; simp [h.1]
theorem wst_words (l : List UInt8) : (∀ w ∈ (wst l).1, isWord w) ∧ ∀ c ∈ (wst l).2, blank c = false := by
  refine snocInd (P := fun l => (∀ w ∈ (wst l).1, isWord w) ∧ ∀ c ∈ (wst l).2, blank c = false) (by simp [wst]) (fun l c ih => ?_) l
  rw [wst_snoc]
  unfold wstep
  by_cases hb : blank c = true
  · simp only [hb, if_true]
    by_cases hn : (wst l).2 = []
    · simp only [hn, if_true]; exact ⟨ih.1, by simp⟩
    · simp only [if_neg hn]
      refine ⟨fun w hw => ?_, by simp⟩
      rcases List.mem_append.1 hw with hw | hw
      · exact ih.1 w hw
      · simp at hw; subst hw; exact ⟨hn, ih.2⟩
  · simp only [hb]
    refine ⟨ih.1, fun d hd => ?_⟩
    rcases List.mem_append.1 hd with hd | hd
    · exact ih.2 d hd
    · simp at hd; subst hd; simpa using hb
theorem words_words (l : List UInt8) : ∀ w ∈ words l, isWord w := by
  intro w hw
  unfold words wend at hw
  obtain ⟨h1, h2⟩ := wst_words l
  split at hw
  · exact h1 w hw
  · rename_i hn
    rcases List.mem_append.1 hw with hw | hw
    · exact h1 w hw
    · simp at hw; subst hw; exact ⟨hn, h2⟩

/-- Words joined by one blank. -/
def joinL : List (List UInt8) → List UInt8
  | [] => []
  | [w] => w
  | w :: r => w ++ 32 :: joinL r
theorem words_join (l : List (List UInt8)) (h : ∀ w ∈ l, isWord w) : words (joinL l) = l := by
  induction l with
  | nil => rfl
  | cons w r ih =>
    cases r with
    | nil => exact words_word (h w (by simp))
    | cons v r =>
      show words (w ++ 32 :: joinL (v :: r)) = _
      rw [words_blank _ _ _ rfl, words_word (h w (by simp)), ih (fun x hx => h x (List.mem_cons_of_mem _ hx))]; rfl
theorem words_both (s t : List UInt8) : words ([32, 9] ++ s ++ [9, 32, 32] ++ t ++ [32]) = words s ++ words t := by
  have e : [32, 9] ++ s ++ [9, 32, 32] ++ t ++ [32] = [32] ++ 9 :: (s ++ 9 :: ([32] ++ 32 :: (t ++ 32 :: []))) := by simp
  have h0 : words [32] = [] := rfl
  have h1 : words [] = [] := rfl
  rw [e, words_blank _ _ _ rfl, words_blank _ _ _ rfl, words_blank _ _ _ rfl, words_blank _ _ _ rfl, h0, h1]; simp
theorem joinL_snoc (l : List (List UInt8)) (w : List UInt8) (hl : l ≠ []) : joinL (l ++ [w]) = joinL l ++ 32 :: w := by
  induction l with
  | nil => exact absurd rfl hl
  | cons a r ih =>
    cases r with
    | nil => rfl
    | cons b r =>
      show a ++ 32 :: joinL (b :: r ++ [w]) = (a ++ 32 :: joinL (b :: r)) ++ 32 :: w
      rw [ih (by simp)]; simp

end Go.Proofs.YtjhghagmnkjpkaaGreat

namespace Go.Proofs.YtjhghagmnkjpkaaGreat
set_option linter.unusedVariables false
set_option linter.unusedSimpArgs false

def joinS (c : UInt8) : List (List UInt8) → List UInt8
  | [] => []
  | [w] => w
  | w :: r => w ++ c :: joinS c r
theorem joinS_eq (c : UInt8) (l : List (List UInt8)) : Lib.join l [c] = joinS c l := by
  induction l with
  | nil => rfl
  | cons a r ih =>
    cases r with
    | nil => rw [Lib.join_one]; rfl
    | cons b r =>
      rw [Lib.join_cons] at *
      show a ++ Lib.joinTail [c] (b :: r) = a ++ c :: joinS c (b :: r)
      rw [← ih]
      simp [Lib.joinTail]

/-- What stands between signs. -/
def pstep (c : UInt8) (p : List (List UInt8) × List UInt8) (d : UInt8) : List (List UInt8) × List UInt8 := if d == c then (p.1 ++ [p.2], []) else (p.1, p.2 ++ [d])
def pst (c : UInt8) (l : List UInt8) : List (List UInt8) × List UInt8 := l.foldl (pstep c) ([], [])
def parts (c : UInt8) (l : List UInt8) : List (List UInt8) := (pst c l).1 ++ [(pst c l).2]
theorem pst_snoc (c : UInt8) (l : List UInt8) (d : UInt8) : pst c (l ++ [d]) = pstep c (pst c l) d := by simp [pst]
theorem pfold_out (c : UInt8) (l : List UInt8) : ∀ (o : List (List UInt8)) (n : List UInt8), l.foldl (pstep c) (o, n) = (o ++ (l.foldl (pstep c) ([], n)).1, (l.foldl (pstep c) ([], n)).2) := by
  induction l with
  | nil => intro o n; simp
  | cons d r ih =>
    intro o n
    rw [List.foldl_cons, List.foldl_cons]
    by_cases h : (d == c) = true
    · have e : ∀ o', pstep c (o', n) d = (o' ++ [n], []) := fun o' => by unfold pstep; rw [if_pos h]
      rw [e, e, ih (o ++ [n]), ih ([] ++ [n])]; simp
    · have e : ∀ o', pstep c (o', n) d = (o', n ++ [d]) := fun o' => by unfold pstep; rw [if_neg h]
      rw [e, e, ih o]
/-- Parted at the first sign. -/
theorem parts_cons (c : UInt8) (a b : List UInt8) (ha : c ∉ a) : parts c (a ++ c :: b) = a :: parts c b := by
  have h1 : pst c a = ([], a) := by
    revert ha
    refine snocInd (P := fun a => c ∉ a → pst c a = ([], a)) (fun _ => rfl) (fun l d ih h => ?_) a
    rw [pst_snoc, ih (fun hm => h (List.mem_append.2 (.inl hm)))]
    have hd : ¬ (d == c) = true := by rw [beq_iff_eq]; rintro rfl; exact h (by simp)
    unfold pstep; rw [if_neg hd]
  have h2 : pst c (a ++ c :: b) = ([a] ++ (pst c b).1, (pst c b).2) := by
    unfold pst at *
    rw [List.foldl_append, h1, List.foldl_cons]
    have e : pstep c ([], a) c = ([a], []) := by unfold pstep; simp
    rw [e, pfold_out]
  unfold parts
  rw [h2]; simp
theorem parts_one (c : UInt8) (a : List UInt8) (ha : c ∉ a) : parts c a = [a] := by
  have h1 : pst c a = ([], a) := by
    revert ha
    refine snocInd (P := fun a => c ∉ a → pst c a = ([], a)) (fun _ => rfl) (fun l d ih h => ?_) a
    rw [pst_snoc, ih (fun hm => h (List.mem_append.2 (.inl hm)))]
    have hd : ¬ (d == c) = true := by rw [beq_iff_eq]; rintro rfl; exact h (by simp)
    unfold pstep; rw [if_neg hd]
  unfold parts; rw [h1]; rfl
theorem joinS_snoc (c : UInt8) (l : List (List UInt8)) (w : List UInt8) (hl : l ≠ []) : joinS c (l ++ [w]) = joinS c l ++ c :: w := by
  induction l with
  | nil => exact absurd rfl hl
  | cons a r ih =>
    cases r with
    | nil => rfl
    | cons b r =>
      show a ++ c :: joinS c (b :: r ++ [w]) = (a ++ c :: joinS c (b :: r)) ++ c :: w
      rw [ih (by simp)]; simp
/-- Joined again. -/
theorem joinS_parts (c : UInt8) (l : List UInt8) : joinS c (parts c l) = l := by
  have h : ∀ l, joinS c ((pst c l).1 ++ [(pst c l).2]) = l := by
    intro l
    refine snocInd (P := fun l => joinS c ((pst c l).1 ++ [(pst c l).2]) = l) rfl (fun l d ih => ?_) l
    rw [pst_snoc]
    unfold pstep
    by_cases h : (d == c) = true
    · rw [if_pos h]
      rw [beq_iff_eq] at h
      subst h
      rw [joinS_snoc _ _ _ (by simp), ih]
    · rw [if_neg h]
      by_cases h0 : (pst c l).1 = []
      · rw [h0] at ih ⊢
        show (pst c l).2 ++ [d] = l ++ [d]
        rw [show (pst c l).2 = l from ih]
      · rw [joinS_snoc _ _ _ h0] at ih ⊢
        show joinS c (pst c l).1 ++ c :: ((pst c l).2 ++ [d]) = l ++ [d]
        conv => rhs; rw [← ih]
        simp
  exact h l
theorem parts_free (c : UInt8) (l : List UInt8) : ∀ w ∈ parts c l, c ∉ w := by
  have h : ∀ l, (∀ w ∈ (pst c l).1, c ∉ w) ∧ c ∉ (pst c l).2 := by
    intro l
    refine snocInd (P := fun l => (∀ w ∈ (pst c l).1, c ∉ w) ∧ c ∉ (pst c l).2) (by simp [pst]) (fun l d ih => ?_) l
    rw [pst_snoc]
    unfold pstep
    by_cases hd : (d == c) = true
    · rw [if_pos hd]
      refine ⟨fun w hw => ?_, by simp⟩
      rcases List.mem_append.1 hw with hw | hw
      · exact ih.1 w hw
      · simp at hw; subst hw; exact ih.2
    · rw [if_neg hd]
      refine ⟨ih.1, fun hm => ?_⟩
      rcases List.mem_append.1 hm with hm | hm
      · exact ih.2 hm
      · simp at hm; subst hm; simp at hd
  intro w hw
  unfold parts at hw
  rcases List.mem_append.1 hw with hw | hw
  · exact (h l).1 w hw
  · simp at hw; subst hw; exact (h l).2
end Go.Proofs.YtjhghagmnkjpkaaGreat

namespace Go.Proofs.YtjhghagmnkjpkaaGreat
set_option linter.unusedVariables false
set_option linter.unusedSimpArgs false

structure FlR where
  id : Nat
  cost : Nat
  budget : Nat
  size : Nat
  cap : Nat
structure FlR.ok (f : FlR) : Prop where
  id : f.id < 4294967296
  cost : f.cost < 18446744073709551616
  budget : f.budget < 18446744073709551616
  size : f.size < 18446744073709551616
  cap : f.cap < 18446744073709551616
instance : Inhabited FlR := ⟨⟨0, 0, 0, 0, 0⟩⟩
def enFl (f : FlR) : List Value := [.int .u32 f.id, .int .u64 f.cost, .int .u64 f.budget, .int .u64 f.size, .int .u64 f.cap]
theorem enFl_len (f : FlR) : (enFl f).length = 5 := rfl
end Go.Proofs.YtjhghagmnkjpkaaGreat
