/- Texts parted at one sign: the library's words and ours. -/
import Derived.Test.YtacgabagfdlpeaaGreatDoorJoinP
import Derived.Lib.SplitLaws
import Derived.Lib.IndexBytes
namespace Go.Proofs.YtacgabagfdlpeaaGreatDoor
set_option linter.unusedVariables false
set_option linter.unusedSimpArgs false

theorem first_at (c : UInt8) (l : List UInt8) (h : c ∈ l) : ∃ i : Nat, Lib.index l [c] = i ∧ i < l.length ∧ l = l.take i ++ c :: l.drop (i + 1) ∧ c ∉ l.take i := by
  rw [Lib.index_one]
  have hge := Lib.indexByte_ge l c
  by_cases hm : Lib.indexByte l c = -1
  · obtain ⟨k, hk⟩ := List.mem_iff_getElem?.1 h
    exact absurd hk (Lib.indexByte_none hm k)
  · obtain ⟨i, hi⟩ : ∃ i : Nat, Lib.indexByte l c = i := ⟨(Lib.indexByte l c).toNat, by omega⟩
    obtain ⟨h1, h2⟩ := Lib.indexByte_some hi
    have hlt := (List.getElem?_eq_some_iff.1 h1).1
    refine ⟨i, hi, hlt, ?_, fun hc => ?_⟩
    · conv => lhs; rw [← List.take_append_drop i l]
      rw [List.drop_eq_getElem_cons hlt, (List.getElem?_eq_some_iff.1 h1).2]
    · obtain ⟨k, hk⟩ := List.mem_iff_getElem?.1 hc
      have hkl := (List.getElem?_eq_some_iff.1 hk).1
      rw [List.length_take] at hkl
      rw [List.getElem?_take, if_pos (by omega)] at hk
      exact h2 k (by omega) hk
theorem first_no (c : UInt8) (l : List UInt8) (h : c ∉ l) : Lib.index l [c] = -1 := by
  rw [Lib.index_one]
  have hge := Lib.indexByte_ge l c
  by_cases hm : Lib.indexByte l c = -1
  · exact hm
  · obtain ⟨i, hi⟩ : ∃ i : Nat, Lib.indexByte l c = i := ⟨(Lib.indexByte l c).toNat, by omega⟩
    exact absurd (List.mem_iff_getElem?.2 ⟨i, (Lib.indexByte_some hi).1⟩) h
theorem split_parts (c : UInt8) (l : List UInt8) : Lib.splitK [c] 0 (Lib.count l [c]) l = parts c l := by
  have h : ∀ (n : Nat) (l : List UInt8), l.length ≤ n → Lib.splitK [c] 0 (l.count c) l = parts c l := by
    intro n
    induction n with
    | zero =>
      intro l hl
      have : l = [] := List.eq_nil_of_length_eq_zero (by omega)
      subst this; rfl
    | succ n ih =>
      intro l hl
      by_cases hc : c ∈ l
      · obtain ⟨i, hi, hlt, he, hn⟩ := first_at c l hc
        have hcnt : l.count c = (l.drop (i + 1)).count c + 1 := by
          conv => lhs; rw [he]
          rw [List.count_append, List.count_eq_zero_of_not_mem hn, List.count_cons_self]; omega
        rw [hcnt, Lib.splitK, hi, if_neg (by simp)]
        simp only [Int.toNat_natCast, List.length_cons, List.length_nil, Nat.zero_add, Nat.add_zero]
        rw [ih _ (by rw [List.length_drop]; omega)]
        conv => rhs; rw [he]
        rw [parts_cons c _ _ hn]
      · rw [List.count_eq_zero_of_not_mem hc, parts_one c l hc]; rfl
  rw [Lib.count_one]
  exact h _ l (Nat.le_refl _)
theorem cut_parts (c : UInt8) (l : List UInt8) : (c ∈ l → ∃ a b, Lib.cut l [c] = (a, b, true) ∧ parts c l = a :: parts c b) ∧ (c ∉ l → Lib.cut l [c] = (l, [], false) ∧ parts c l = [l]) := by
  constructor
  · intro hc
    obtain ⟨i, hi, hlt, he, hn⟩ := first_at c l hc
    refine ⟨l.take i, l.drop (i + 1), ?_, ?_⟩
    · unfold Lib.cut; rw [hi, if_pos (by omega)]; simp
    · conv => lhs; rw [he]
      exact parts_cons c _ _ hn
  · intro hc
    refine ⟨?_, parts_one c l hc⟩
    unfold Lib.cut; rw [first_no c l hc]; rfl
theorem has_sign (c : UInt8) (l : List UInt8) : Lib.contains l [c] = decide (c ∈ l) := by
  unfold Lib.contains
  by_cases hc : c ∈ l
  · obtain ⟨i, hi, _⟩ := first_at c l hc
    rw [hi]; simp [hc]
  · rw [first_no c l hc]; simp [hc]
theorem parts_ne (c : UInt8) (l : List UInt8) : parts c l ≠ [] := by unfold parts; simp
theorem parts_two (c : UInt8) (l : List UInt8) (h : c ∈ l) : (parts c l).length ≠ 1 := by
  obtain ⟨a, b, _, h2⟩ := (cut_parts c l).1 h
  rw [h2]
  have h3 := parts_ne c b
  cases e : parts c b with
  | nil => exact absurd e h3
  | cons x r => simp
end Go.Proofs.YtacgabagfdlpeaaGreatDoor
