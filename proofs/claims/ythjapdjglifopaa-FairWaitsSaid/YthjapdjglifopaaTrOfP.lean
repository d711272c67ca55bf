/- Plain laws of layer 39: the records of replies. -/
import Derived.Test.YthjapdjglifopaaRpO
import Derived.Test.YthjapdjglifopaaTrW
import Derived.Test.YthjapdjglifopaaSat
namespace Go.Proofs.Ythjapdjglifopaa
set_option linter.unusedVariables false
set_option linter.unusedSimpArgs false

def nowS (n : Nat) (o : OpR) : Nat := if o.kind = 3 then satN n o.ticks else n
def nowF (x : List OpR) : Nat := x.foldl nowS 0
theorem nowF_snoc (x : List OpR) (o : OpR) : nowF (x ++ [o]) = nowS (nowF x) o := by simp [nowF]
theorem nowF_lt (x : List OpR) : nowF x < 18446744073709551616 := by
  refine snocT (P := fun x => nowF x < 18446744073709551616) (by decide) (fun x o ih => ?_) x
  rw [nowF_snoc]; unfold nowS; split
  · exact satN_lt _ _
  · exact ih
def recQ (n : Nat) (q : RpR) : Rec := ⟨n, q.kind, q.flow, q.id, q.len, q.code⟩
/-- The records of the first i replies. -/
def ofF (x : List OpR) (l : List RpR) : Nat → List Rec
  | 0 => []
  | i + 1 => ofF x l i ++ [recQ (nowF (x.take i)) (l.getD i default)]
theorem ofF_len (x : List OpR) (l : List RpR) (i : Nat) : (ofF x l i).length = i := by
  induction i with
  | zero => rfl
  | succ i ih => simp [ofF, ih]
theorem getD_at {α : Type} [Inhabited α] (l : List α) (i : Nat) (h : i < l.length) : l.getD i default = l[i] := by simp [h]
end Go.Proofs.Ythjapdjglifopaa
