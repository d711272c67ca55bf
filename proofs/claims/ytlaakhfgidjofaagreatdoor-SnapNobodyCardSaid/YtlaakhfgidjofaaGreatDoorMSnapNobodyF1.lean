/- Decimals, units and words in plain Lean: no program in sight. -/
import Derived.Lib.Join
import Derived.WalkKit
import Derived.Test.YtlaakhfgidjofaaGreatDoorMSnapNobodyF0
import Derived.Maps.AppendAt
namespace Go.Proofs.YtlaakhfgidjofaaGreatDoor
set_option linter.unusedVariables false
set_option linter.unusedSimpArgs false
theorem snocInd {α : Type} {P : List α → Prop} (h0 : P []) (hs : ∀ l c, P l → P (l ++ [c])) (l : List α) : P l := by
  have h : ∀ r : List α, P r.reverse := by
    intro r
    induction r with
    | nil => exact h0
    | cons c r ih => rw [List.reverse_cons]; exact hs _ _ ih
  have := h l.reverse
  rwa [List.reverse_reverse] at this
def isDig (c : UInt8) : Bool := decide (48 ≤ c.toNat) && decide (c.toNat ≤ 57)
theorem isDig_iff {c : UInt8} : isDig c = true ↔ 48 ≤ c.toNat ∧ c.toNat ≤ 57 := by unfold isDig; simp
theorem isDig_not {c : UInt8} : isDig c = false ↔ ¬ (48 ≤ c.toNat ∧ c.toNat ≤ 57) := by rw [← isDig_iff]; simp
def num (l : List UInt8) : Nat := l.foldl (fun n c => n * 10 + (c.toNat - 48)) 0
theorem num_nil : num [] = 0 := rfl
theorem num_snoc (l : List UInt8) (c : UInt8) : num (l ++ [c]) = num l * 10 + (c.toNat - 48) := by simp [num]
theorem num_le (l : List UInt8) (r : List UInt8) : num l ≤ num (l ++ r) := by
  refine snocInd (P := fun r => num l ≤ num (l ++ r)) (by simp) (fun r c ih => ?_) r
  rw [← List.append_assoc, num_snoc]; omega
theorem num_take (l : List UInt8) (k : Nat) : num (l.take k) ≤ num l := by
  have := num_le (l.take k) (l.drop k)
  rwa [List.take_append_drop] at this
theorem num_succ (l : List UInt8) (k : Nat) (h : k < l.length) : num (l.take (k + 1)) = num (l.take k) * 10 + (l[k].toNat - 48) := by
  rw [List.take_succ_eq_append_getElem h, num_snoc]
def M64 : Nat := 18446744073709551616
def good (l : List UInt8) : Bool := l.all isDig && !l.isEmpty && !(decide (1 < l.length) && l.head? == some 48)
def rd (l : List UInt8) : Nat × Int := if good l then (if num l < M64 then (num l, 0) else (0, 5)) else (0, 3)
def worthN (c : UInt8) : Nat := if c.toNat = 75 then 1000 else if c.toNat = 77 then 1000000 else if c.toNat = 71 then 1000000000 else 0
def lastW (l : List UInt8) : Nat := match l.getLast? with | some c => worthN c | none => 0
def cutU (l : List UInt8) : List UInt8 := if 0 < lastW l then l.dropLast else l
def unitU (l : List UInt8) : Nat := if 0 < lastW l then lastW l else 1
def rdU (l : List UInt8) : Nat × Int :=
  if (rd (cutU l)).2 ≠ 0 then (0, (rd (cutU l)).2) else if (rd (cutU l)).1 * unitU l < M64 then ((rd (cutU l)).1 * unitU l, 0) else (0, 5)
def digit (n : Nat) : UInt8 := UInt8.ofNat (48 + n % 10)
theorem digit_nat (n : Nat) : (digit n).toNat = 48 + n % 10 := by
  unfold digit
  rw [UInt8.toNat_ofNat']
  have := Nat.mod_lt n (show 10 > 0 by decide)
  omega
theorem digit_is (n : Nat) : isDig (digit n) = true := by
  rw [isDig_iff, digit_nat]
  have := Nat.mod_lt n (show 10 > 0 by decide)
  omega
def put (n : Nat) : List UInt8 := if n < 10 then [digit n] else put (n / 10) ++ [digit n]
termination_by n
decreasing_by omega
theorem put_lt {n : Nat} (h : n < 10) : put n = [digit n] := by rw [put, if_pos h]
theorem put_ge {n : Nat} (h : ¬ n < 10) : put n = put (n / 10) ++ [digit n] := by rw [put, if_neg h]
theorem put_num (n : Nat) : num (put n) = n := by
  induction n using Nat.strongRecOn with
  | ind n ih =>
    by_cases h : n < 10
    · rw [put_lt h]
      have := num_snoc [] (digit n)
      simp only [List.nil_append, num_nil] at this
      rw [this, digit_nat]; omega
    · rw [put_ge h, num_snoc, ih (n / 10) (by omega), digit_nat]; omega
theorem put_all (n : Nat) : (put n).all isDig = true := by
  induction n using Nat.strongRecOn with
  | ind n ih =>
    by_cases h : n < 10
    · rw [put_lt h]; simp [digit_is]
    · rw [put_ge h, List.all_append, ih (n / 10) (by omega)]; simp [digit_is]
theorem put_ne (n : Nat) : put n ≠ [] := by
  by_cases h : n < 10
  · rw [put_lt h]; simp
  · rw [put_ge h]; simp
theorem put_head (n : Nat) (h : 0 < n) : ∃ c, (put n).head? = some c ∧ 49 ≤ c.toNat := by
  induction n using Nat.strongRecOn with
  | ind n ih =>
    by_cases h1 : n < 10
    · rw [put_lt h1]; exact ⟨_, rfl, by rw [digit_nat]; omega⟩
    · obtain ⟨c, hc, hh⟩ := ih (n / 10) (by omega) (by omega)
      refine ⟨c, ?_, hh⟩
      rw [put_ge h1, List.head?_append, hc]; rfl
theorem put_good (n : Nat) : good (put n) = true := by
  unfold good
  rw [put_all]
  have h1 := put_ne n
  cases e : put n with
  | nil => exact absurd e h1
  | cons c r =>
    by_cases h : n = 0
    · subst h
      rw [put_lt (by decide)] at e
      cases e; rfl
    · obtain ⟨c', hc, hh⟩ := put_head n (by omega)
      rw [e] at hc
      simp only [List.head?_cons, Option.some.injEq] at hc
      subst hc
      have : (c == 48) = false := by
        rw [beq_eq_false_iff_ne]; rintro rfl; revert hh; decide
      simp [this]
theorem rd_put (n : Nat) (h : n < M64) : rd (put n) = (n, 0) := by
  unfold rd; rw [put_good, if_pos rfl, put_num, if_pos h]
def putU (n : Nat) : List UInt8 :=
  if 0 < n ∧ n % 1000000000 = 0 then put (n / 1000000000) ++ [71]
  else if 0 < n ∧ n % 1000000 = 0 then put (n / 1000000) ++ [77]
  else if 0 < n ∧ n % 1000 = 0 then put (n / 1000) ++ [75] else put n
theorem lastW_snoc (l : List UInt8) (c : UInt8) : lastW (l ++ [c]) = worthN c := by unfold lastW; simp
theorem lastW_put (n : Nat) : lastW (put n) = 0 := by
  have h : ∃ l, put n = l ++ [digit n] := by
    by_cases h : n < 10
    · exact ⟨[], by rw [put_lt h]; rfl⟩
    · exact ⟨_, put_ge h⟩
  obtain ⟨l, e⟩ := h
  rw [e, lastW_snoc]
  unfold worthN
  rw [digit_nat]
  have := Nat.mod_lt n (show 10 > 0 by decide)
  rw [if_neg (by omega), if_neg (by omega), if_neg (by omega)]
theorem rdU_unit (n w : Nat) (c : UInt8) (hw : worthN c = w) (h0 : 0 < w) (h : n < M64) (hd : n % w = 0) : rdU (put (n / w) ++ [c]) = (n, 0) := by
  have hl : lastW (put (n / w) ++ [c]) = w := by rw [lastW_snoc, hw]
  have hc : cutU (put (n / w) ++ [c]) = put (n / w) := by unfold cutU; rw [hl, if_pos h0]; simp
  have hu : unitU (put (n / w) ++ [c]) = w := by unfold unitU; rw [hl, if_pos h0]
  have hn : n / w < M64 := Nat.lt_of_le_of_lt (Nat.div_le_self _ _) h
  have hm : n / w * w = n := Nat.div_mul_cancel (Nat.dvd_of_mod_eq_zero hd)
  unfold rdU
  rw [hc, hu, rd_put _ hn]
  simp only [ne_eq, not_true, if_false, hm, h, if_true]
theorem rdU_putU (n : Nat) (h : n < M64) : rdU (putU n) = (n, 0) := by
  unfold putU
  by_cases h1 : 0 < n ∧ n % 1000000000 = 0
  · rw [if_pos h1]; exact rdU_unit n _ 71 rfl (by decide) h h1.2
  · rw [if_neg h1]
    by_cases h2 : 0 < n ∧ n % 1000000 = 0
    · rw [if_pos h2]; exact rdU_unit n _ 77 rfl (by decide) h h2.2
    · rw [if_neg h2]
      by_cases h3 : 0 < n ∧ n % 1000 = 0
      · rw [if_pos h3]; exact rdU_unit n _ 75 rfl (by decide) h h3.2
      · rw [if_neg h3]
        have hc : cutU (put n) = put n := by unfold cutU; rw [lastW_put]; simp
        have hu : unitU (put n) = 1 := by unfold unitU; rw [lastW_put]; simp
        unfold rdU
        rw [hc, hu, rd_put _ h]
        simp [h]
def blank (c : UInt8) : Bool := c.toNat == 32 || c.toNat == 9
def wstep (p : List (List UInt8) × List UInt8) (c : UInt8) : List (List UInt8) × List UInt8 :=
  if blank c then (if p.2 = [] then (p.1, []) else (p.1 ++ [p.2], [])) else (p.1, p.2 ++ [c])
def wst (l : List UInt8) : List (List UInt8) × List UInt8 := l.foldl wstep ([], [])
def wend (p : List (List UInt8) × List UInt8) : List (List UInt8) := if p.2 = [] then p.1 else p.1 ++ [p.2]
def words (l : List UInt8) : List (List UInt8) := wend (wst l)
theorem wst_snoc (l : List UInt8) (c : UInt8) : wst (l ++ [c]) = wstep (wst l) c := by simp [wst]
theorem wstep_blank {o : List (List UInt8)} {n : List UInt8} {c : UInt8} (h : blank c = true) : wstep (o, n) c = (wend (o, n), []) := by
  unfold wstep wend
  simp only [h, if_true]
  by_cases hn : n = []
  · simp [hn]
  · simp [hn]
theorem wstep_sign {o : List (List UInt8)} {n : List UInt8} {c : UInt8} (h : blank c = false) : wstep (o, n) c = (o, n ++ [c]) := by
  unfold wstep; simp [h]
theorem wend_out (o : List (List UInt8)) (n : List UInt8) : wend (o, n) = o ++ wend ([], n) := by
  unfold wend
  by_cases hn : n = []
  · simp [hn]
  · simp [hn]
theorem fold_out (l : List UInt8) : ∀ (o : List (List UInt8)) (n : List UInt8), l.foldl wstep (o, n) = (o ++ (l.foldl wstep ([], n)).1, (l.foldl wstep ([], n)).2) := by
  induction l with
  | nil => intro o n; simp
  | cons c r ih =>
    intro o n
    rw [List.foldl_cons, List.foldl_cons]
    cases hb : blank c with
    | true =>
      rw [wstep_blank hb, wstep_blank hb, ih (wend (o, n)), ih (wend ([], n)), wend_out o n]
      simp
    | false =>
      rw [wstep_sign hb, wstep_sign hb, ih o]
theorem words_blank (a b : List UInt8) (c : UInt8) (hc : blank c = true) : words (a ++ c :: b) = words a ++ words b := by
  unfold words wst
  rw [List.foldl_append, List.foldl_cons]
  obtain ⟨o, n⟩ := a.foldl wstep ([], [])
  rw [wstep_blank hc, fold_out]
  obtain ⟨o', n'⟩ := b.foldl wstep ([], [])
  rw [wend_out, wend_out o']
  simp
def isWord (w : List UInt8) : Prop := w ≠ [] ∧ ∀ c ∈ w, blank c = false
theorem wst_free (w : List UInt8) (h : ∀ c ∈ w, blank c = false) : wst w = ([], w) := by
  revert h
  refine snocInd (P := fun w => (∀ c ∈ w, blank c = false) → wst w = ([], w)) (fun _ => rfl) (fun l c ih h => ?_) w
  rw [wst_snoc, ih (fun c hc => h c (List.mem_append.2 (.inl hc)))]
  have hc := h c (by simp)
  unfold wstep; simp [hc]
theorem words_word {w : List UInt8} (h : isWord w) : words w = [w] := by
  unfold words; rw [wst_free w h.2]; unfold wend; simp [h.1]
theorem wst_words (l : List UInt8) : (∀ w ∈ (wst l).1, isWord w) ∧ ∀ c ∈ (wst l).2, blank c = false := by
  refine snocInd (P := fun l => (∀ w ∈ (wst l).1, isWord w) ∧ ∀ c ∈ (wst l).2, blank c = false) (by simp [wst]) (fun l c ih => ?_) l
  rw [wst_snoc]
  unfold wstep
  by_cases hb : blank c = true
  · simp only [hb, if_true]
    by_cases hn : (wst l).2 = []
    · simp only [hn, if_true]; exact ⟨ih.1, by simp⟩
    · simp only [if_neg hn]
      refine ⟨fun w hw => ?_, by simp⟩
      rcases List.mem_append.1 hw with hw | hw
      · exact ih.1 w hw
      · simp at hw; subst hw; exact ⟨hn, ih.2⟩
  · simp only [hb]
    refine ⟨ih.1, fun d hd => ?_⟩
    rcases List.mem_append.1 hd with hd | hd
    · exact ih.2 d hd
    · simp at hd; subst hd; simpa using hb
theorem words_words (l : List UInt8) : ∀ w ∈ words l, isWord w := by
  intro w hw
  unfold words wend at hw
  obtain ⟨h1, h2⟩ := wst_words l
  split at hw
  · exact h1 w hw
  · rename_i hn
    rcases List.mem_append.1 hw with hw | hw
    · exact h1 w hw
    · simp at hw; subst hw; exact ⟨hn, h2⟩
def joinL : List (List UInt8) → List UInt8
  | [] => []
  | [w] => w
  | w :: r => w ++ 32 :: joinL r
theorem words_join (l : List (List UInt8)) (h : ∀ w ∈ l, isWord w) : words (joinL l) = l := by
  induction l with
  | nil => rfl
  | cons w r ih =>
    cases r with
    | nil => exact words_word (h w (by simp))
    | cons v r =>
      show words (w ++ 32 :: joinL (v :: r)) = _
      rw [words_blank _ _ _ rfl, words_word (h w (by simp)), ih (fun x hx => h x (List.mem_cons_of_mem _ hx))]; rfl

def pstep (c : UInt8) (p : List (List UInt8) × List UInt8) (d : UInt8) : List (List UInt8) × List UInt8 := if d == c then (p.1 ++ [p.2], []) else (p.1, p.2 ++ [d])
def pst (c : UInt8) (l : List UInt8) : List (List UInt8) × List UInt8 := l.foldl (pstep c) ([], [])
def parts (c : UInt8) (l : List UInt8) : List (List UInt8) := (pst c l).1 ++ [(pst c l).2]
theorem pst_snoc (c : UInt8) (l : List UInt8) (d : UInt8) : pst c (l ++ [d]) = pstep c (pst c l) d := by simp [pst]
theorem pfold_out (c : UInt8) (l : List UInt8) : ∀ (o : List (List UInt8)) (n : List UInt8), l.foldl (pstep c) (o, n) = (o ++ (l.foldl (pstep c) ([], n)).1, (l.foldl (pstep c) ([], n)).2) := by
  induction l with
  | nil => intro o n; simp
  | cons d r ih =>
    intro o n
    rw [List.foldl_cons, List.foldl_cons]
    by_cases h : (d == c) = true
    · have e : ∀ o', pstep c (o', n) d = (o' ++ [n], []) := fun o' => by unfold pstep; rw [if_pos h]
      rw [e, e, ih (o ++ [n]), ih ([] ++ [n])]; simp
    · have e : ∀ o', pstep c (o', n) d = (o', n ++ [d]) := fun o' => by unfold pstep; rw [if_neg h]
      rw [e, e, ih o]
theorem parts_cons (c : UInt8) (a b : List UInt8) (ha : c ∉ a) : parts c (a ++ c :: b) = a :: parts c b := by
  have h1 : pst c a = ([], a) := by
    revert ha
    refine snocInd (P := fun a => c ∉ a → pst c a = ([], a)) (fun _ => rfl) (fun l d ih h => ?_) a
    rw [pst_snoc, ih (fun hm => h (List.mem_append.2 (.inl hm)))]
    have hd : ¬ (d == c) = true := by rw [beq_iff_eq]; rintro rfl; exact h (by simp)
    unfold pstep; rw [if_neg hd]
  have h2 : pst c (a ++ c :: b) = ([a] ++ (pst c b).1, (pst c b).2) := by
    unfold pst at *
    rw [List.foldl_append, h1, List.foldl_cons]
    have e : pstep c ([], a) c = ([a], []) := by unfold pstep; simp
    rw [e, pfold_out]
  unfold parts
  rw [h2]; simp
theorem parts_one (c : UInt8) (a : List UInt8) (ha : c ∉ a) : parts c a = [a] := by
  have h1 : pst c a = ([], a) := by
    revert ha
    refine snocInd (P := fun a => c ∉ a → pst c a = ([], a)) (fun _ => rfl) (fun l d ih h => ?_) a
    rw [pst_snoc, ih (fun hm => h (List.mem_append.2 (.inl hm)))]
    have hd : ¬ (d == c) = true := by rw [beq_iff_eq]; rintro rfl; exact h (by simp)
    unfold pstep; rw [if_neg hd]
  unfold parts; rw [h1]; rfl

structure FlR where
  id : Nat
  cost : Nat
  budget : Nat
  size : Nat
  cap : Nat
structure FlR.ok (f : FlR) : Prop where
  id : f.id < 4294967296
  cost : f.cost < 18446744073709551616
  budget : f.budget < 18446744073709551616
  size : f.size < 18446744073709551616
  cap : f.cap < 18446744073709551616
instance : Inhabited FlR := ⟨⟨0, 0, 0, 0, 0⟩⟩
def enFl (f : FlR) : List Value := [.int .u32 f.id, .int .u64 f.cost, .int .u64 f.budget, .int .u64 f.size, .int .u64 f.cap]
theorem enFl_len (f : FlR) : (enFl f).length = 5 := rfl

structure CfR where
  rank : Int
  back : Int
  levels : Int
  queues : Int
  packets : Int
  bytes : Nat
  share : Int
  mtu : Nat
  rate : Nat
  burst : Nat
  flows : List FlR
structure CfR.ok (c : CfR) : Prop where
  rank : -9223372036854775808 ≤ c.rank ∧ c.rank ≤ 9223372036854775807
  back : -9223372036854775808 ≤ c.back ∧ c.back ≤ 9223372036854775807
  levels : -9223372036854775808 ≤ c.levels ∧ c.levels ≤ 9223372036854775807
  queues : -9223372036854775808 ≤ c.queues ∧ c.queues ≤ 9223372036854775807
  packets : -9223372036854775808 ≤ c.packets ∧ c.packets ≤ 9223372036854775807
  bytes : c.bytes < M64
  share : -9223372036854775808 ≤ c.share ∧ c.share ≤ 9223372036854775807
  mtu : c.mtu < M64
  rate : c.rate < M64
  burst : c.burst < M64
  flows : ∀ f ∈ c.flows, f.ok
def zC : CfR := ⟨0, 0, 0, 0, 0, 0, 0, 0, 0, 0, []⟩
def flowsE (l : List FlR) : Int := if l.length = 0 ∨ 64 < l.length then 29 else if (l.map (·.id)).Nodup then 0 else 30
def admE (c : CfR) : Int :=
  if c.packets < 1 ∨ 4096 < c.packets ∨ c.bytes = 0 ∨ c.share < 0 ∨ 16 < c.share then 25
  else if 18446744073709551615 / 2 ^ c.share.toNat < c.bytes then 25 else if c.mtu < 1 ∨ 65535 < c.mtu then 26 else flowsE c.flows
def chk (c : CfR) : Int :=
  if c.rank < 1 ∨ 3 < c.rank ∨ c.back < 1 ∨ 3 < c.back then 22 else if c.levels < 1 ∨ 3 < c.levels then 23 else if c.queues < 1 ∨ 32 < c.queues then 24
  else if admE c ≠ 0 then admE c else if c.rate = 0 then 27 else if c.burst < c.mtu then 28 else 0
def nms : List (List UInt8) := [[114, 97, 110, 107], [98, 97, 99, 107], [108, 101, 118, 101, 108, 115], [113, 117, 101, 117, 101, 115], [112, 97, 99, 107, 101, 116, 115], [98, 121, 116, 101, 115], [115, 104, 97, 114, 101], [109, 116, 117], [114, 97, 116, 101], [98, 117, 114, 115, 116], [102, 108, 111, 119]]
def krs : List (List UInt8) := [[115, 116, 102, 113], [101, 100, 102], [115, 114, 115]]
def kbs : List (List UInt8) := [[104, 101, 97, 112], [99, 97, 108, 101, 110, 100, 97, 114], [113, 117, 101, 117, 101, 115]]
def plc (l : List (List UInt8)) (w : List UInt8) : Nat := match l with | [] => 0 | x :: r => if w = x then 0 else plc r w + 1
theorem plc_le (w : List UInt8) : ∀ l : List (List UInt8), plc l w ≤ l.length
  | [] => by simp [plc]
  | x :: r => by
    unfold plc
    split
    · exact Nat.zero_le _
    · have := plc_le w r; simp; omega
theorem plc_at (w : List UInt8) : ∀ (l : List (List UInt8)) (k : Nat) (h : k < l.length), w = l[k] → (∀ (j : Nat) (hj : j < l.length), j < k → w ≠ l[j]) → plc l w = k
  | x :: r, 0, _, e, _ => by unfold plc; rw [if_pos (by simpa using e)]
  | x :: r, k + 1, h, e, hl => by
    have h0 : w ≠ x := hl 0 (by simp) (by omega)
    unfold plc
    rw [if_neg h0, plc_at w r k (by simpa using h) (by simpa using e) (fun j hj hjk => by have := hl (j + 1) (by simp; omega) (by omega); simpa using this)]
theorem plc_no (w : List UInt8) : ∀ (l : List (List UInt8)), (∀ (j : Nat) (hj : j < l.length), w ≠ l[j]) → plc l w = l.length
  | [], _ => rfl
  | x :: r, hl => by
    unfold plc
    have h0 : w ≠ x := hl 0 (by simp)
    rw [if_neg h0, plc_no w r (fun j hj => by have := hl (j + 1) (by simp; omega); simpa using this)]; rfl
def kindN (l : List (List UInt8)) (w : List UInt8) : Nat := if plc l w = l.length then 0 else plc l w + 1
def numE (most : Nat) (w : List UInt8) : Nat × Int := if (rdU w).2 ≠ 0 then (0, (rdU w).2) else if most < (rdU w).1 then (0, 5) else ((rdU w).1, 0)
def mostN (at_ : Nat) : Nat := if at_ = 2 ∨ at_ = 3 ∨ at_ = 4 ∨ at_ = 6 then 2147483647 else 18446744073709551615
def setAt (c : CfR) (at_ n : Nat) : CfR :=
  match at_ with
  | 0 => { c with rank := n } | 1 => { c with back := n } | 2 => { c with levels := n } | 3 => { c with queues := n } | 4 => { c with packets := n }
  | 5 => { c with bytes := n } | 6 => { c with share := n } | 7 => { c with mtu := n } | 8 => { c with rate := n } | _ => { c with burst := n }
def sayE (at_ : Nat) (w : List UInt8) : Nat × Int :=
  if at_ = 0 then (kindN krs w, if kindN krs w = 0 then 22 else 0) else if at_ = 1 then (kindN kbs w, if kindN kbs w = 0 then 22 else 0) else numE (mostN at_) w
def mostF (i : Nat) : Nat := if i = 0 then 4294967295 else 18446744073709551615
def flE : Nat → List (List UInt8) → Int
  | _, [] => 0
  | i, w :: r => if (numE (mostF i) w).2 ≠ 0 then (numE (mostF i) w).2 else flE (i + 1) r
def flV (l : List (List UInt8)) : FlR := ⟨(rdU (l.getD 0 [])).1, (rdU (l.getD 1 [])).1, (rdU (l.getD 2 [])).1, (rdU (l.getD 3 [])).1, (rdU (l.getD 4 [])).1⟩
structure CS where
  c : CfR
  met : List Nat
def lineS (s : CS) (ws : List (List UInt8)) : CS × Int :=
  if plc nms (ws.headD []) = 11 ∨ ws.length ≠ (if plc nms (ws.headD []) = 10 then 6 else 2) ∨ (plc nms (ws.headD []) < 10 ∧ plc nms (ws.headD []) ∈ s.met) then (s, 31)
  else if plc nms (ws.headD []) = 10 then (if flE 0 ws.tail ≠ 0 then (s, flE 0 ws.tail) else (⟨{ s.c with flows := s.c.flows ++ [flV ws.tail] }, s.met ++ [10]⟩, 0))
  else if (sayE (plc nms (ws.headD [])) (ws.getD 1 [])).2 ≠ 0 then (s, (sayE (plc nms (ws.headD [])) (ws.getD 1 [])).2)
  else (⟨setAt s.c (plc nms (ws.headD [])) (sayE (plc nms (ws.headD [])) (ws.getD 1 [])).1, s.met ++ [plc nms (ws.headD [])]⟩, 0)
def skip (l : List UInt8) : Bool := match words l with | [] => true | w :: _ => w.head? == some 35
def stepL (s : CS) (l : List UInt8) : CS × Int := if skip l then (s, 0) else lineS s (words l)
def runL (s : CS) : List (List UInt8) → Nat → CS × Nat × Int
  | [], _ => (s, 0, 0)
  | l :: r, i => if (stepL s l).2 ≠ 0 then (s, i + 1, (stepL s l).2) else runL (stepL s l).1 r (i + 1)
def readC (t : List UInt8) : CfR × Nat × Int :=
  if (runL ⟨zC, []⟩ (parts 10 t) 0).2.2 ≠ 0 then (zC, (runL ⟨zC, []⟩ (parts 10 t) 0).2) else if chk (runL ⟨zC, []⟩ (parts 10 t) 0).1.c ≠ 0 then (zC, 0, chk (runL ⟨zC, []⟩ (parts 10 t) 0).1.c) else ((runL ⟨zC, []⟩ (parts 10 t) 0).1.c, 0, 0)
def gud (s : CS) : List (List UInt8) → Option CS
  | [] => some s
  | l :: r => if (stepL s l).2 ≠ 0 then none else gud (stepL s l).1 r
theorem gud_snoc (s : CS) : ∀ (l : List (List UInt8)) (x : List UInt8) (s' : CS), gud s l = some s' → gud s (l ++ [x]) = if (stepL s' x).2 ≠ 0 then none else some (stepL s' x).1
  | [], x, s', h => by cases h; rfl
  | y :: r, x, s', h => by
    rw [List.cons_append, gud]
    rw [gud] at h
    by_cases hy : (stepL s y).2 = 0
    · rw [if_neg (by simp [hy])] at h ⊢; exact gud_snoc _ r x s' h
    · rw [if_pos hy] at h; cases h
theorem run_bad (s : CS) : ∀ (pre : List (List UInt8)) (x : List UInt8) (post : List (List UInt8)) (s' : CS) (i : Nat), gud s pre = some s' → (stepL s' x).2 ≠ 0 → (runL s (pre ++ x :: post) i).2 = (i + pre.length + 1, (stepL s' x).2)
  | [], x, post, s', i, h, hx => by cases h; rw [List.nil_append, runL, if_pos hx]; rfl
  | y :: r, x, post, s', i, h, hx => by
    rw [gud] at h
    by_cases hy : (stepL s y).2 = 0
    · rw [if_neg (by simp [hy])] at h
      rw [List.cons_append, runL, if_neg (by simp [hy]), run_bad _ r x post s' (i + 1) h hx, List.length_cons]
      rw [show i + 1 + r.length + 1 = i + (r.length + 1) + 1 by omega]
    · rw [if_pos hy] at h; cases h
theorem run_good (s : CS) : ∀ (l : List (List UInt8)) (s' : CS) (i : Nat), gud s l = some s' → runL s l i = (s', 0, 0)
  | [], s', i, h => by cases h; rfl
  | y :: r, s', i, h => by
    rw [gud] at h
    by_cases hy : (stepL s y).2 = 0
    · rw [if_neg (by simp [hy])] at h
      rw [runL, if_neg (by simp [hy])]
      exact run_good _ r s' (i + 1) h
    · rw [if_pos hy] at h; cases h
theorem readC_bad {t : List UInt8} {k : Nat} {s' : CS} (hk : k < (parts 10 t).length) (h : gud ⟨zC, []⟩ ((parts 10 t).take k) = some s') (hx : (stepL s' (parts 10 t)[k]).2 ≠ 0) : readC t = (zC, k + 1, (stepL s' (parts 10 t)[k]).2) := by
  have e : parts 10 t = (parts 10 t).take k ++ (parts 10 t)[k] :: (parts 10 t).drop (k + 1) := by rw [List.getElem_cons_drop, List.take_append_drop]
  have hb := run_bad ⟨zC, []⟩ _ (parts 10 t)[k] ((parts 10 t).drop (k + 1)) s' 0 h hx
  rw [← e, List.length_take, Nat.min_eq_left (by omega)] at hb
  unfold readC
  rw [hb]
  simp only [ne_eq, hx, not_false_eq_true, if_true, Nat.zero_add]
theorem readC_done {t : List UInt8} {s' : CS} (h : gud ⟨zC, []⟩ (parts 10 t) = some s') : readC t = if chk s'.c ≠ 0 then (zC, 0, chk s'.c) else (s'.c, 0, 0) := by
  have hb := run_good ⟨zC, []⟩ _ s' 0 h
  unfold readC
  rw [hb]; simp
def valN (c : CfR) : Nat → Nat
  | 0 => c.rank.toNat | 1 => c.back.toNat | 2 => c.levels.toNat | 3 => c.queues.toNat | 4 => c.packets.toNat | 5 => c.bytes | 6 => c.share.toNat | 7 => c.mtu | 8 => c.rate | _ => c.burst
def wordN (c : CfR) (i : Nat) : List UInt8 := if i = 0 then krs.getD (c.rank.toNat - 1) [] else if i = 1 then kbs.getD (c.back.toNat - 1) [] else putU (valN c i)
def hdW (c : CfR) (i : Nat) : List (List UInt8) := [nms.getD i [], wordN c i]
def flW (f : FlR) : List (List UInt8) := [nms.getD 10 [], putU f.id, putU f.cost, putU f.budget, putU f.size, putU f.cap]
def itemsC (c : CfR) : List (List (List UInt8)) := (List.range 10).map (hdW c) ++ c.flows.map flW
def textC (c : CfR) : List UInt8 := (itemsC c).flatMap fun l => joinL l ++ [10]
end Go.Proofs.YtlaakhfgidjofaaGreatDoor

namespace Go.Proofs.YtlaakhfgidjofaaGreatDoor
set_option linter.unusedVariables false
set_option linter.unusedSimpArgs false
open Go.RowKit
theorem own_shape1 {w : World} {base : Nat} {e : TypeId} {size : Nat} {v : Value} {n : Nat} {xs : List Value} (h : w.ownsRow base e size v n xs) (hn : 0 < n) : ∃ g cap, v = .slice (some ⟨g, 0, none⟩) n cap ∧ base ≤ g := by
  rcases h.2 with ⟨_, h⟩ | ⟨g, cap, cur, hv, hg, _⟩
  · omega
  · exact ⟨g, cap, hv, hg⟩
theorem own_cell {w : World} {base : Nat} {e : TypeId} {size : Nat} {n g cap : Nat} {xs : List Value} (h : w.ownsRow base e size (.slice (some ⟨g, 0, none⟩) n cap) n xs) (i : Nat) {u : Value} (hu : xs[i]? = some u) : w.cell? ⟨g, i, none⟩ = some u := by
  obtain ⟨ao, cap', hv, hc⟩ := (own_sl h).is
  obtain ⟨b, off, e1, h1⟩ := hc i u hu
  cases hv
  cases e1
  rw [Nat.zero_add] at h1; exact h1
theorem own_setNe {w : World} {base : Nat} {e : TypeId} {size : Nat} {v : Value} {n : Nat} {xs : List Value} (h : w.ownsRow base e size v n xs) {a : Addr} (hne : ∀ b, v.ownBlock = some b → b ≠ a.block) (u : Value) : (w.setCell a u).ownsRow base e size v n xs := by
  refine ⟨h.1, ?_⟩
  rcases h.2 with h | ⟨g, cap, cur, rfl, hg, hh, r⟩
  · exact .inl h
  · exact .inr ⟨g, cap, cur, rfl, hg, (Below.heap_setCell _ _ _ _ (hne g rfl)).trans hh, r⟩
theorem own_type {w : World} {base : Nat} {e : TypeId} {size : Nat} {v : Value} {n : Nat} {xs : List Value} (h : w.ownsRow base e size v n xs) {b : Nat} (hb : v.ownBlock = some b) : ∃ cur, w.heap[b]? = some (.cells cur e (0, 0)) := by
  rcases h.2 with ⟨rfl, _⟩ | ⟨g, cap, cur, rfl, hg, hh, r⟩
  · cases hb
  · cases hb; exact ⟨cur, hh⟩
theorem own_ne_blk {w : World} {base : Nat} {e : TypeId} {size : Nat} {v : Value} {n : Nat} {xs : List Value} (h : w.ownsRow base e size v n xs) {b : Nat} {cs : List Value} {t : TypeId} (hb : Blk w b cs t) (ht : t ≠ e) : v.ownBlock ≠ some b := fun hv => by
  obtain ⟨cur, hh⟩ := own_type h hv
  have := hb.is.symm.trans hh
  simp at this; exact ht this.2
theorem own_ne_own {w : World} {base base' : Nat} {e e' : TypeId} {size size' : Nat} {v v' : Value} {n n' : Nat} {xs xs' : List Value} (h : w.ownsRow base e size v n xs) (h' : w.ownsRow base' e' size' v' n' xs') (ht : e ≠ e') : ∀ b, v.ownBlock = some b → v'.ownBlock ≠ some b := fun b hv hv' => by
  obtain ⟨cur, hh⟩ := own_type h hv
  obtain ⟨cur', hh'⟩ := own_type h' hv'
  have := hh.symm.trans hh'
  simp at this; exact ht this.2
theorem blk_ne {w : World} {b b' : Nat} {cs cs' : List Value} {t t' : TypeId} (h : Blk w b cs t) (h' : Blk w b' cs' t') (ht : t ≠ t') : b ≠ b' := fun e => by subst e; exact ht (h.inj h').2
def setFlat (l : List Value) (o : Nat) : List Value → List Value
  | [] => l
  | v :: r => setFlat (l.set o v) (o + 1) r
theorem setFlat_get (vs : List Value) : ∀ (l : List Value) (o i : Nat), o + vs.length ≤ l.length → (setFlat l o vs)[i]? = if o ≤ i ∧ i < o + vs.length then vs[i - o]? else l[i]? := by
  induction vs with
  | nil => intro l o i _; simp [setFlat]; intro h1 h2; omega
  | cons v r ih =>
    intro l o i h
    simp only [List.length_cons] at h
    rw [setFlat, ih _ _ _ (by simp; omega)]
    by_cases h1 : o + 1 ≤ i ∧ i < o + 1 + r.length
    · rw [if_pos h1, if_pos ⟨by omega, by simp; omega⟩]
      rw [show i - o = (i - (o + 1)) + 1 by omega]; simp
    · rw [if_neg h1]
      by_cases h2 : i = o
      · subst h2; rw [if_pos ⟨by omega, by simp⟩, List.getElem?_set_self (by omega)]; simp
      · rw [if_neg (by simp; omega), List.getElem?_set_ne (fun e => h2 e.symm)]
theorem flat_set {α : Type} (en : α → List Value) (sz : Nat) (hl : ∀ a, (en a).length = sz) (l : List α) (j : Nat) (a : α) (hj : j < l.length) : (l.set j a).flatMap en = setFlat (l.flatMap en) (j * sz) (en a) := by
  apply List.ext_getElem?
  intro i
  have hlen := flat_len en sz hl l
  have hjs : j * sz + sz ≤ l.length * sz := by rw [← Nat.succ_mul]; exact Nat.mul_le_mul_right _ hj
  rw [setFlat_get _ _ _ _ (by rw [hlen, hl]; exact hjs), hl]
  by_cases hs : sz = 0
  · subst hs
    have h0 : ∀ m : List α, m.flatMap en = [] := fun m => List.eq_nil_of_length_eq_zero (by rw [flat_len en 0 hl m]; simp)
    rw [h0, h0]; simp
  · have hr : i % sz < sz := Nat.mod_lt _ (by omega)
    have hdm : i / sz * sz + i % sz = i := by rw [Nat.mul_comm]; exact Nat.div_add_mod i sz
    have h1 := flat_get en sz hl (l.set j a) (i / sz) (i % sz) hr
    have h2 := flat_get en sz hl l (i / sz) (i % sz) hr
    rw [hdm] at h1 h2
    rw [h1, h2]
    by_cases e : i / sz = j
    · have c1 : j * sz ≤ i ∧ i < j * sz + sz := by rw [← e]; omega
      rw [if_pos c1, e, List.getElem?_set_self hj]
      have : i - j * sz = i % sz := by rw [← e]; omega
      rw [this]; rfl
    · rw [if_neg, List.getElem?_set_ne (fun z => e z.symm)]
      rintro ⟨a1, a2⟩
      apply e
      have b1 : i / sz < j + 1 := (Nat.div_lt_iff_lt_mul (by omega)).2 (by rw [Nat.succ_mul]; exact a2)
      have b2 : j ≤ i / sz := (Nat.le_div_iff_mul_le (by omega)).2 a1
      omega
end Go.Proofs.YtlaakhfgidjofaaGreatDoor

namespace Go.Proofs.YtlaakhfgidjofaaGreatDoor
set_option linter.unusedVariables false
set_option linter.unusedSimpArgs false
open Go Go.RowKit
theorem run_append_nilarg {P : Program} (w : World) (t ty e : TypeId) (i : TypeInfo) (ht : P.underlying t = some (.slice e)) (hi : P.info? e = some i) (base : Option Addr) (n cap c : Nat) (hn : n ≤ cap) : (Builtin.append_ #[t, t] ty #[.slice base n cap, .slice none 0 c]).run P w = .ok (.slice base n cap) w := by
  cases base with
  | none => simp [Builtin.append_, run_underlying ht, sizeOf, typeInfo, hi, Builtin.lenOf, Builtin.firstCells, hn]
  | some a => simp [Builtin.append_, run_underlying ht, sizeOf, typeInfo, hi, Builtin.lenOf, Builtin.firstCells, hn, storeCells]
theorem wp_appSl {P : Program} {t e : TypeId} {z : Value} {size bytes : Nat} (T : SlT P t e z size bytes) {ops : Array Oper} {rest : List Oper} {o : Oper} {a : Act} {Q : Exit → Act → World → Prop} {w : World} (s x : Operand)
    (hgd : o.guard = none) (ho : o.op = .call { callee := .builtin .append, args := #[s, x], argTypes := #[t, t] }) (base : Nat) {v : Value} {n : Nat} {xs : List Value} (hown : w.ownsRow base e size v n xs)
    {v2 : Value} {m : Nat} {news : List Value} (hs : a.eval s = v) (hx : a.eval x = v2) (hsl : Sl w v2 m size news) (h1 : news.all (·.oneCell') = true)
    (hbytes : (n + m) * bytes ≤ 140737488355328) (h63 : n + m ≤ 9223372036854775807) (hbase : base ≤ w.heap.size)
    (h : ∀ v' w', w'.ownsRow base e size v' (n + m) (xs ++ news) → w.grownBy w' v.ownBlock → wpList P ops Q rest (a.put o.dst v') w') : wpList P ops Q (o :: rest) a w := by
  obtain ⟨i, hi, hz0, hz1, hz2⟩ := info_parts T.info
  obtain ⟨ao, c, rfl, hc⟩ := hsl.is
  cases ao with
  | some ad =>
    refine wpList_append_own w hgd s x t ho base e i z size bytes T.ht hi hz0 hz1 hz2 T.hz T.pos v n xs hs hown ad m c news hx hsl.len ?_ (by simpa using h1) (by unfold maxLen; omega) hbytes hbase (fun v' w' a1 a2 _ => h v' w' a1 a2)
    intro j u hu
    obtain ⟨b, off, e1, h2⟩ := hc j u hu
    injection e1 with e1
    subst e1
    have e : (⟨b, off, none⟩ : Addr).add j = ⟨b, off + j, none⟩ := by unfold Addr.add; split <;> simp_all
    rw [e]; exact h2
  | none =>
    have hn : news = [] := by
      cases news with
      | nil => rfl
      | cons u r => obtain ⟨_, _, e1, _⟩ := hc 0 u rfl; cases e1
    subst hn
    have hm : m = 0 := by
      have h1 := hsl.len
      rw [List.length_nil] at h1
      rcases Nat.mul_eq_zero.1 h1.symm with h2 | h2
      · exact h2
      · have := T.pos; omega
    subst hm
    obtain ⟨bo, cap, rfl⟩ := own_shape hown
    have hcap : n ≤ cap := by
      rcases hown.2 with ⟨h0, hn⟩ | ⟨g, cap', cur, hv, _, _, h2, _⟩
      · omega
      · injection hv with _ _ h3; omega
    have hr := run_append_nilarg (P := P) w t o.type e i T.ht hi bo n cap c hcap
    refine wpList_plain hgd fun K hK => ?_
    unfold Oper.wp execOp
    simp only [ho, resolve, invoke, builtin, Sem.run_bind, Sem.run_pure, Result.andThen_ok, List.map_toArray, List.map_cons, List.map_nil, hs, hx, hr]
    exact hK _ _ (h _ _ (by simpa using hown) ⟨rfl, rfl, rfl, Nat.le_refl _, fun _ _ _ => rfl⟩)
end Go.Proofs.YtlaakhfgidjofaaGreatDoor
