/- Walks of layer 27: both wait. -/
import Derived.Test.YthjapdjglifopaaFairU
import Derived.Test.YthjapdjglifopaaMake
namespace Go.Proofs.Ythjapdjglifopaa
set_option linter.unusedVariables false
set_option linter.unusedSimpArgs false
open Go.RowKit Go.Shelf

theorem tBits : SlT Try.prog 83 4 (.bool false) 1 1 := ⟨Try.underlying83, by kernel_rfl, rfl, by decide⟩
theorem tInts : SlT Try.prog 122 3 (.int .i64 0) 1 8 := ⟨Try.underlying122, by kernel_rfl, rfl, by decide⟩
def enB (b : Bool) : List Value := [.bool b]
theorem enB_len (b : Bool) : (enB b).length = 1 := rfl
def enN (n : Int) : List Value := [.int .i64 n]
theorem enN_len (n : Int) : (enN n).length = 1 := rfl
theorem fm_one {α : Type} (l : List α) (f : α → Value) : l.flatMap (fun a => [f a]) = l.map f := by
  induction l with
  | nil => rfl
  | cons a r ih => rw [List.flatMap_cons, ih]; rfl
def outsV (fl : List FlR) (l : List RpR) (f g : Int) (j : Nat) : List Value := (List.range l.length).map fun i => .bool (decide (i < j) && bothB fl l f g i)
def cntsV (fl : List FlR) (l : List RpR) : List Value := (List.range fl.length).map fun (a : Nat) => .int .i64 (cntF fl (a : Int) l)
theorem outsV_all (fl : List FlR) (l : List RpR) (f g : Int) : outsV fl l f g l.length = (bitsF fl l f g).flatMap enB := by
  show _ = (bitsF fl l f g).flatMap (fun b => [Value.bool b])
  rw [fm_one]
  unfold outsV bitsF
  rw [List.map_map]
  apply List.map_congr_left
  intro i hi
  rw [decide_eq_true (by simpa using hi)]; rfl
theorem outsV_nil (fl : List FlR) (l : List RpR) (f g : Int) : (List.replicate l.length false).flatMap enB = outsV fl l f g 0 := by
  show (List.replicate l.length false).flatMap (fun b => [Value.bool b]) = _
  rw [fm_one, List.map_replicate]
  apply List.ext_getElem?
  intro i
  unfold outsV
  rw [List.getElem?_replicate, List.getElem?_map]
  by_cases h : i < l.length
  · rw [if_pos h, List.getElem?_range h]; simp
  · rw [if_neg h, List.getElem?_eq_none (by simp; omega)]; rfl
theorem outsV_set (fl : List FlR) (l : List RpR) (f g : Int) (j : Nat) (hj : j < l.length) (b : Bool) (hb : b = bothB fl l f g j) : (outsV fl l f g j).set j (.bool b) = outsV fl l f g (j + 1) := by
  subst hb
  apply List.ext_getElem?
  intro i
  unfold outsV
  by_cases e : i = j
  · subst e; rw [List.getElem?_set_self (by simpa using hj), List.getElem?_map, List.getElem?_range hj]; simp
  · rw [List.getElem?_set_ne (fun x => e x.symm), List.getElem?_map, List.getElem?_map]
    by_cases h : i < l.length
    · rw [List.getElem?_range h]
      simp only [Option.map_some]
      have : decide (i < j) = decide (i < j + 1) := by rw [decide_eq_decide]; omega
      rw [this]
    · rw [List.getElem?_eq_none (by simp; omega)]; rfl
theorem outsV_at (fl : List FlR) (l : List RpR) (f g : Int) (j i : Nat) (hi : i < l.length) : ∃ u, (outsV fl l f g j)[i]? = some u := ⟨_, by unfold outsV; rw [List.getElem?_map, List.getElem?_range hi]; rfl⟩
theorem outsV_out (fl : List FlR) (l : List RpR) (f g : Int) (h : outB fl f g = true) : outsV fl l f g 0 = outsV fl l f g l.length := by
  unfold outsV
  apply List.map_congr_left
  intro i hi
  unfold bothB; rw [h]; simp
theorem cntsV_nil (fl : List FlR) : (List.replicate fl.length 0).flatMap enN = cntsV fl [] := by
  show (List.replicate fl.length (0 : Int)).flatMap (fun b => [Value.int .i64 b]) = _
  rw [fm_one, List.map_replicate]
  apply List.ext_getElem?
  intro i
  unfold cntsV
  rw [List.getElem?_replicate, List.getElem?_map]
  by_cases h : i < fl.length
  · rw [if_pos h, List.getElem?_range h]; rfl
  · rw [if_neg h, List.getElem?_eq_none (by simp; omega)]; rfl
theorem cntsV_at (fl : List FlR) (l : List RpR) (a : Nat) (h : a < fl.length) : (cntsV fl l)[a]? = some (.int .i64 (cntF fl a l)) := by
  unfold cntsV; rw [List.getElem?_map, List.getElem?_range h]; rfl
theorem cntsV_same (fl : List FlR) (l : List RpR) (q : RpR) (h : ∀ a : Nat, a < fl.length → cntS fl a (cntF fl a l) q = cntF fl a l) : cntsV fl (l ++ [q]) = cntsV fl l := by
  unfold cntsV
  apply List.map_congr_left
  intro a ha
  rw [cntF_snoc, h a (by simpa using ha)]
theorem cntsV_set (fl : List FlR) (l : List RpR) (q : RpR) (a : Nat) (ha : a < fl.length) (hfa : findF fl q.flow = a) : cntsV fl (l ++ [q]) = (cntsV fl l).set a (.int .i64 (cntS fl a (cntF fl a l) q)) := by
  apply List.ext_getElem?
  intro b
  by_cases hb : b < fl.length
  · rw [cntsV_at fl _ b hb, cntF_snoc]
    by_cases e : b = a
    · subst e; rw [List.getElem?_set_self (by unfold cntsV; simpa using hb)]
    · rw [List.getElem?_set_ne (fun x => e x.symm), cntsV_at fl l b hb]
      have : ∀ k, ofB fl q b k = false := fun k => by unfold ofB; rw [hfa]; simp; intro _ _; omega
      unfold cntS; rw [this 1, this 2]; simp
  · rw [List.getElem?_eq_none (by unfold cntsV; simp; omega), List.getElem?_eq_none (by rw [List.length_set]; unfold cntsV; simp; omega)]
theorem own_blk {w : World} {b : Nat} {cs : List Value} {t : TypeId} (h : Blk w b cs t) (sz n B : Nat) (hl : cs.length = n * sz) (hn : n ≤ 1000000) (hB : B ≤ b) : w.ownsRow B t sz (.slice (some ⟨b, 0, none⟩) n n) n cs := by
  refine ⟨hl, .inr ⟨b, n, _, rfl, hB, h.is, Nat.le_refl _, by unfold maxLen; omega, by rw [List.size_toArray, hl], ?_⟩⟩
  show cs.take (n * sz) = _
  exact List.take_of_length_le (by omega)
end Go.Proofs.Ythjapdjglifopaa
