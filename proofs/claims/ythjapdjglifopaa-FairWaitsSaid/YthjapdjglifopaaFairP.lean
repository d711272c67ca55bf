/- Plain laws of layer 27: flows found, rows, spans. -/
import Derived.Test.YthjapdjglifopaaRpO
import Derived.Test.YthjapdjglifopaaSat
namespace Go.Proofs.Ythjapdjglifopaa
set_option linter.unusedVariables false
set_option linter.unusedSimpArgs false

structure FlR where
  id : Nat
  cost : Nat
  budget : Nat
  size : Nat
  cap : Nat
structure FlR.ok (f : FlR) : Prop where
  id : f.id < 4294967296
  cost : f.cost < 18446744073709551616
  budget : f.budget < 18446744073709551616
  size : f.size < 18446744073709551616
  cap : f.cap < 18446744073709551616
instance : Inhabited FlR := ⟨⟨0, 0, 0, 0, 0⟩⟩
def enFl (f : FlR) : List Value := [.int .u32 f.id, .int .u64 f.cost, .int .u64 f.budget, .int .u64 f.size, .int .u64 f.cap]
theorem enFl_len (f : FlR) : (enFl f).length = 5 := rfl

/-- A flow's place; -1: there is none. -/
def findF : List FlR → Nat → Int
  | [], _ => -1
  | f :: r, id => if f.id = id then 0 else if findF r id < 0 then -1 else findF r id + 1
theorem findF_ge (l : List FlR) (id : Nat) : -1 ≤ findF l id ∧ findF l id < l.length := by
  induction l with
  | nil => simp [findF]
  | cons f r ih =>
    rw [List.length_cons]
    unfold findF
    by_cases h1 : f.id = id
    · rw [if_pos h1]; omega
    · rw [if_neg h1]
      by_cases h2 : findF r id < 0
      · rw [if_pos h2]; omega
      · rw [if_neg h2]; omega
theorem findF_at (l : List FlR) (id j : Nat) (hj : j < l.length) (h : ∀ i (hi : i < j), (l[i]'(by omega)).id ≠ id) (e : l[j].id = id) : findF l id = j := by
  induction l generalizing j with
  | nil => simp at hj
  | cons f r ih =>
    cases j with
    | zero => unfold findF; rw [if_pos (by simpa using e)]; rfl
    | succ j =>
      have h0 : f.id ≠ id := by have := h 0 (by omega); simpa using this
      have := ih j (by simpa using hj) (fun i hi => by have := h (i + 1) (by omega); simpa using this) (by simpa using e)
      unfold findF; rw [if_neg h0, if_neg (by omega), this]; simp
theorem findF_none (l : List FlR) (id : Nat) (h : ∀ i (hi : i < l.length), (l[i]'hi).id ≠ id) : findF l id = -1 := by
  induction l with
  | nil => rfl
  | cons f r ih =>
    have h0 : f.id ≠ id := by have := h 0 (by simp); simpa using this
    have := ih (fun i hi => by have := h (i + 1) (by simpa using hi); simpa using this)
    unfold findF; rw [if_neg h0, this]; simp

def letsB (q : RpR) : Bool := decide (q.kind = 1) && decide (q.code = 0)
def goesB (q : RpR) : Bool := decide (q.kind = 2) && decide (q.code = 0)
def ofB (fl : List FlR) (q : RpR) (f k : Int) : Bool := decide (q.kind = k) && decide (q.code = 0) && decide (findF fl q.flow = f)
theorem of_lets (fl : List FlR) (q : RpR) (f : Int) : ofB fl q f 1 = (letsB q && decide (findF fl q.flow = f)) := rfl
theorem of_goes (fl : List FlR) (q : RpR) (f : Int) : ofB fl q f 2 = (goesB q && decide (findF fl q.flow = f)) := rfl
theorem lets_goes {q : RpR} (h : letsB q = true) : goesB q = false := by
  unfold letsB at h; unfold goesB
  simp only [Bool.and_eq_true, decide_eq_true_eq] at h
  simp [h.1]

structure RowR where
  inn : Nat
  left : Nat
  bytes : Nat
def enW (r : RowR) : List Value := [.int .i64 r.inn, .int .i64 r.left, .int .u64 r.bytes]
theorem enW_len (r : RowR) : (enW r).length = 3 := rfl
instance : Inhabited RowR := ⟨⟨0, 0, 0⟩⟩
def rowS (fl : List FlR) (f : Int) (r : RowR) (q : RpR) : RowR :=
  if ofB fl q f 1 = true then ⟨r.inn + 1, r.left, r.bytes⟩ else if ofB fl q f 2 = true then ⟨r.inn, r.left + 1, satN r.bytes q.len⟩ else r
def rowF (fl : List FlR) (f : Int) (l : List RpR) : RowR := l.foldl (rowS fl f) ⟨0, 0, 0⟩
theorem rowF_snoc (fl : List FlR) (f : Int) (l : List RpR) (q : RpR) : rowF fl f (l ++ [q]) = rowS fl f (rowF fl f l) q := by simp [rowF]
theorem snocF {α : Type} {P : List α → Prop} (h0 : P []) (hs : ∀ l c, P l → P (l ++ [c])) (l : List α) : P l := by
  have h : ∀ r : List α, P r.reverse := by
    intro r
    induction r with
    | nil => exact h0
    | cons c r ih => rw [List.reverse_cons]; exact hs _ _ ih
  have := h l.reverse
  rwa [List.reverse_reverse] at this
theorem rowF_le (fl : List FlR) (f : Int) (l : List RpR) : (rowF fl f l).inn ≤ l.length ∧ (rowF fl f l).left ≤ l.length ∧ (rowF fl f l).bytes < 18446744073709551616 := by
  refine snocF (P := fun l => (rowF fl f l).inn ≤ l.length ∧ (rowF fl f l).left ≤ l.length ∧ (rowF fl f l).bytes < 18446744073709551616) (by simp [rowF]) (fun l q ih => ?_) l
  rw [rowF_snoc, List.length_append]
  unfold rowS
  split
  · simp; omega
  · split
    · have := satN_lt (rowF fl f l).bytes q.len; simp; omega
    · simp; omega
/-- The rows of all flows. -/
def rowsF (fl : List FlR) (l : List RpR) : List RowR := (List.range fl.length).map fun (f : Nat) => rowF fl (f : Int) l
theorem rowsF_len (fl : List FlR) (l : List RpR) : (rowsF fl l).length = fl.length := by simp [rowsF]
theorem rowsF_get (fl : List FlR) (l : List RpR) (f : Nat) (h : f < fl.length) : (rowsF fl l)[f]? = some (rowF fl f l) := by simp [rowsF, h]
theorem rowsF_same (fl : List FlR) (l : List RpR) (q : RpR) (h : ∀ f : Nat, f < fl.length → rowS fl f (rowF fl f l) q = rowF fl f l) : rowsF fl (l ++ [q]) = rowsF fl l := by
  unfold rowsF
  apply List.map_congr_left
  intro f hf
  rw [rowF_snoc, h f (by simpa using hf)]
theorem rowsF_set (fl : List FlR) (l : List RpR) (q : RpR) (a : Nat) (ha : a < fl.length) (hfa : findF fl q.flow = a) : rowsF fl (l ++ [q]) = (rowsF fl l).set a (rowS fl a (rowF fl a l) q) := by
  apply List.ext_getElem?
  intro f
  by_cases hf : f < fl.length
  · rw [rowsF_get fl _ f hf, rowF_snoc]
    by_cases e : f = a
    · subst e; rw [List.getElem?_set_self (by rw [rowsF_len]; exact hf)]
    · rw [List.getElem?_set_ne (fun x => e x.symm), rowsF_get fl l f hf]
      have : ∀ k, ofB fl q f k = false := fun k => by unfold ofB; rw [hfa]; simp; intro _ _; omega
      unfold rowS; rw [this 1, this 2]; simp
  · rw [List.getElem?_eq_none (by rw [rowsF_len]; omega), List.getElem?_eq_none (by rw [List.length_set, rowsF_len]; omega)]
end Go.Proofs.Ythjapdjglifopaa
