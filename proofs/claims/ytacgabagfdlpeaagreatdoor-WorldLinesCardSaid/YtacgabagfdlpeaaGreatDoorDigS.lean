/- Walks of layer 3: words, the document's. -/
import Derived.Test.YtacgabagfdlpeaaGreatDoorDigY
import Derived.Test.YtacgabagfdlpeaaGreatDoorShelf
import Derived.Test.YtacgabagfdlpeaaGreatDoorSnoc
namespace Go.Proofs.YtacgabagfdlpeaaGreatDoor
set_option linter.unusedVariables false
set_option linter.unusedSimpArgs false
open Go.RowKit Go.Shelf

theorem blank_iff {c : UInt8} : blank c = true ↔ c.toNat = 32 ∨ c.toNat = 9 := by unfold blank; simp
/-- The words of a text, as texts. -/
def wtx (l : List (List UInt8)) : List Value := strs (l.map tx)
theorem wtx_len (l : List (List UInt8)) : (wtx l).length = l.length := by simp [wtx, strs]
theorem wtx_snoc (l : List (List UInt8)) (x : ByteArray) : wtx (l ++ [bl x]) = wtx l ++ [.string x] := by simp [wtx, strs, tx_bl]
theorem wst_len (l : List UInt8) : (wst l).1.length + (wst l).2.length ≤ l.length := by
  refine snocInd (P := fun l => (wst l).1.length + (wst l).2.length ≤ l.length) (by simp [wst]) (fun l c ih => ?_) l
  rw [wst_snoc]
  unfold wstep
  by_cases hb : blank c = true
  · simp only [hb, if_true]
    by_cases hn : (wst l).2 = []
    · simp only [hn, if_true, List.length_nil, List.length_append, List.length_cons]; rw [hn] at ih; simp at ih; omega
    · simp only [if_neg hn, List.length_nil, List.length_append, List.length_cons]
      have : 0 < (wst l).2.length := by
        cases e : (wst l).2 with
        | nil => exact absurd e hn
        | cons a r => simp
      omega
  · simp only [hb]
    simp only [Bool.false_eq_true, if_false, List.length_append, List.length_cons, List.length_nil]; omega
/-- What the loop keeps: the words that ended lie in the row v, the one that has begun is x. -/
structure Wds (l : List UInt8) (B : Nat) (w wr : World) (v : Value) (x : ByteArray) (o : List (List UInt8)) : Prop where
  st : wst l = (o, bl x)
  own : wr.ownsRow B 9 1 v o.length (wtx o)
  kp : Kp none' w wr
theorem Wds.len {l : List UInt8} {B : Nat} {w wr : World} {v : Value} {x : ByteArray} {o : List (List UInt8)} (h : Wds l B w wr v x o) : o.length + x.size ≤ l.length := by
  have := wst_len l
  rw [h.st, bl_len] at this; exact this
theorem Wds.sign {l : List UInt8} {B : Nat} {w wr : World} {v : Value} {x y : ByteArray} {o : List (List UInt8)} (h : Wds l B w wr v x o) {c : UInt8} (hc : blank c = false) (hy : bl y = bl x ++ [c]) : Wds (l ++ [c]) B w wr v y o :=
  ⟨by rw [wst_snoc, h.st, wstep_sign hc, hy], h.own, h.kp⟩
theorem Wds.blank0 {l : List UInt8} {B : Nat} {w wr : World} {v : Value} {x : ByteArray} {o : List (List UInt8)} (h : Wds l B w wr v x o) {c : UInt8} (hc : blank c = true) (hx : bl x = []) : Wds (l ++ [c]) B w wr v ⟨#[]⟩ o :=
  ⟨by rw [wst_snoc, h.st, wstep_blank hc, hx]; rfl, h.own, h.kp⟩
theorem Wds.blank1 {l : List UInt8} {B : Nat} {w wr w1 : World} {v v1 : Value} {x : ByteArray} {o : List (List UInt8)} (h : Wds l B w wr v x o) {c : UInt8} (hc : blank c = true) (hx : bl x ≠ []) (ho : w1.ownsRow B 9 1 v1 (o.length + 1) (wtx o ++ [.string x])) (hk : Kp none' w w1) :
    Wds (l ++ [c]) B w w1 v1 ⟨#[]⟩ (o ++ [bl x]) :=
  ⟨by rw [wst_snoc, h.st, wstep_blank hc]; unfold wend; simp only [if_neg hx]; rfl, by rw [wtx_snoc, List.length_append]; exact ho, hk⟩
theorem Wds.done0 {l : List UInt8} {B : Nat} {w wr : World} {v : Value} {x : ByteArray} {o : List (List UInt8)} (h : Wds l B w wr v x o) (hx : bl x = []) : words l = o := by
  unfold words; rw [h.st, hx]; rfl
theorem Wds.done1 {l : List UInt8} {B : Nat} {w wr : World} {v : Value} {x : ByteArray} {o : List (List UInt8)} (h : Wds l B w wr v x o) (hx : bl x ≠ []) : words l = o ++ [bl x] := by
  unfold words; rw [h.st]; unfold wend; simp only [if_neg hx]
theorem bl_one (s : ByteArray) (k : Nat) (h : k < s.size) : bl (s.extract k (k + 1)) = [s[k]] := by
  rw [bl_cut, show k + 1 - k = 1 by omega]
  rw [List.drop_eq_getElem_cons (by rw [bl_len]; exact h), List.take_succ_cons, List.take_zero, bl_get s k h]
theorem nil_iff {x : ByteArray} : x.toList.isEmpty = true ↔ bl x = [] := by rw [bl_nil, List.isEmpty_iff]
theorem nil_not {x : ByteArray} : x.toList.isEmpty = false ↔ bl x ≠ [] := by rw [← Bool.not_eq_true, nil_iff]
theorem take_bl (s : ByteArray) (k : Nat) (h : k < s.size) : (bl s).take (k + 1) = (bl s).take k ++ [s[k]] := by
  rw [List.take_succ_eq_append_getElem (by rw [bl_len]; exact h), bl_get s k h]

end Go.Proofs.YtacgabagfdlpeaaGreatDoor
