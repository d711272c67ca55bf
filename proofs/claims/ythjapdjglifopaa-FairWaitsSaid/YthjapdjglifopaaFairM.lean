/- Plain laws of layer 27: what left costs. -/
import Derived.Test.YthjapdjglifopaaFairQ
namespace Go.Proofs.Ythjapdjglifopaa
set_option linter.unusedVariables false
set_option linter.unusedSimpArgs false

def costS (fl : List FlR) (f : Int) (c n : Nat) (q : RpR) : Nat := if ofB fl q f 2 = true then n + c * min q.len 65535 else n
/-- What left of a flow, of a cost, in replies. -/
def costF (fl : List FlR) (f : Int) (c : Nat) (l : List RpR) : Nat := l.foldl (costS fl f c) 0
theorem costF_snoc (fl : List FlR) (f : Int) (c : Nat) (l : List RpR) (q : RpR) : costF fl f c (l ++ [q]) = costS fl f c (costF fl f c l) q := by simp [costF]
theorem costF_le (fl : List FlR) (f : Int) (c C : Nat) (hc : c ≤ C) (l : List RpR) : costF fl f c l ≤ l.length * (C * 65535) := by
  refine snocF (P := fun l => costF fl f c l ≤ l.length * (C * 65535)) (by simp [costF]) (fun l q ih => ?_) l
  rw [costF_snoc, List.length_append, List.length_singleton, Nat.add_mul, Nat.one_mul]
  unfold costS
  split
  · exact Nat.add_le_add ih (Nat.mul_le_mul hc (Nat.min_le_right q.len 65535))
  · exact Nat.le_trans ih (Nat.le_add_right _ _)
/-- The replies behind one, up to another one. -/
def seg (l : List RpR) (a i : Nat) : List RpR := (l.take i).drop a
theorem seg_nil (l : List RpR) (a : Nat) : seg l a a = [] := by unfold seg; rw [List.drop_of_length_le (by rw [List.length_take]; omega)]
theorem seg_snoc (l : List RpR) (a i : Nat) (ha : a ≤ i) (hi : i < l.length) : seg l a (i + 1) = seg l a i ++ [l[i]] := by
  unfold seg
  rw [List.take_succ_eq_append_getElem hi, List.drop_append_of_le_length (by rw [List.length_take]; omega)]
end Go.Proofs.Ythjapdjglifopaa
