/- slices.Compact of a rising row of numbers: each of them once. -/
import Derived.Test.YthnlggecjdifnaaDoorSoU
import Derived.Test.YthnlggecjdifnaaDoorShelfRu
import Derived.Test.YthnlggecjdifnaaDoorRuA
namespace Go.Proofs.YthnlggecjdifnaaDoor
set_option linter.unusedVariables false
set_option linter.unusedSimpArgs false
open Go.RowKit Go.Sort Go.Shelf Go.Lib

abbrev eU (x : Nat) : Value := .int .u16 x
theorem compact_pre (d : Array Nat) (hup : ∀ i j, i ≤ j → j < d.size → d[i]! ≤ d[j]!) (m : Nat) (hm : m ≤ d.size) : (compactUpTo d m).Pairwise (· < ·) ∧ ∀ x, x ∈ compactUpTo d m ↔ ∃ j, j < m ∧ d[j]! = x := by
  induction m with
  | zero => exact ⟨by simp [compactUpTo], fun x => by simp [compactUpTo]⟩
  | succ m ih =>
    obtain ⟨h1, h2⟩ := ih (by omega)
    rw [compactUpTo_succ]
    by_cases hk : keeps d m = true
    · rw [if_pos hk]
      refine ⟨?_, fun x => ?_⟩
      · rw [List.pairwise_append]
        refine ⟨h1, by simp, fun a ha b hb => ?_⟩
        rw [List.mem_singleton] at hb
        subst hb
        obtain ⟨j, hj, rfl⟩ := (h2 a).1 ha
        have l1 := hup j (m - 1) (by omega) (by omega)
        have l2 := hup (m - 1) m (by omega) (by omega)
        unfold keeps at hk
        rw [decide_eq_true_eq] at hk
        rcases hk with hk | hk
        · omega
        · omega
      · rw [List.mem_append, h2, List.mem_singleton]
        constructor
        · rintro (⟨j, hj, e⟩ | rfl)
          · exact ⟨j, by omega, e⟩
          · exact ⟨m, by omega, rfl⟩
        · rintro ⟨j, hj, e⟩
          rcases Nat.lt_or_ge j m with h | h
          · exact .inl ⟨j, h, e⟩
          · have : j = m := by omega
            subst this; exact .inr e.symm
    · rw [if_neg hk, List.append_nil]
      refine ⟨h1, fun x => ?_⟩
      rw [h2]
      constructor
      · rintro ⟨j, hj, e⟩; exact ⟨j, by omega, e⟩
      · rintro ⟨j, hj, e⟩
        rcases Nat.lt_or_ge j m with h | h
        · exact ⟨j, h, e⟩
        · have : j = m := by omega
          subst this
          unfold keeps at hk
          simp only [decide_eq_true_eq] at hk
          have hk1 : j ≠ 0 := fun h => hk (.inl h)
          have hk2 : d[j]! = d[j - 1]! := Classical.byContradiction fun h => hk (.inr h)
          exact ⟨j - 1, by omega, by rw [← hk2]; exact e⟩
theorem compact_len (d : Array Nat) (m : Nat) : (compactUpTo d m).length ≤ m := by
  unfold compactUpTo
  rw [List.length_map]
  exact Nat.le_trans (List.length_filter_le _ _) (by simp)
theorem eqU : EqlAt Tryd.prog 23 eU (fun x y => decide (x = y)) := ⟨fun x y w => by
  rw [(EqlAt.int Tryd.prog 23 .u16).1 (x : Int) (y : Int) w]
  by_cases h : x = y
  · subst h; simp
  · have : (x : Int) ≠ y := by omega
    simp [h, this], fun op a b x y w => GuardAt.int Tryd.prog 23 .u16 op a b x y w⟩
theorem neU : NeqAt Tryd.prog 23 eU (fun x y => decide (x = y)) := ⟨fun x y w => by
  rw [(NeqAt.int Tryd.prog 23 .u16).1 (x : Int) (y : Int) w]
  by_cases h : x = y
  · subst h; simp
  · have : (x : Int) ≠ y := by omega
    simp [h, this], fun op a b x y w => GuardAt.int Tryd.prog 23 .u16 op a b x y w⟩
theorem compactRow (w : World) (base : Nat) (v : Value) (ys : List Nat) (own : w.ownsRow base 23 1 v ys.length (ys.map eU)) (hne : ys ≠ []) (hup : ys.Pairwise (· ≤ ·)) :
    Calls Tryd.prog 34 #[v] w fun e w' => ∃ (ao : Option Addr) (cap : Nat) (zs : List Nat), e = .returned (.slice ao zs.length cap) ∧ zs.Pairwise (· < ·) ∧ (∀ x, x ∈ zs ↔ x ∈ ys) ∧ zs.length ≤ ys.length ∧ Sl w' (.slice ao zs.length cap) zs.length 1 (zs.flatMap fun x => [eU x]) ∧ Kp (fun b => v.ownBlock = some b) w w' := by
  rcases own.2 with ⟨rfl, hn⟩ | ⟨g, cap, cur, rfl, hg, hb, h1, h2, h3, h4⟩
  · exact absurd (List.eq_nil_of_length_eq_zero hn) hne
  · rw [Nat.mul_one] at h3 h4
    have hH : Holds eU w g 0 ys.toArray := sortUint16.holdsRow hb h4
    have hcap : ys.toArray.size ≤ cap := by simpa using h1
    have hsz : ys.toArray.size ≤ 9223372036854775807 := by unfold maxLen at h2; simp; omega
    have hup' : ∀ i j, i ≤ j → j < ys.toArray.size → ys.toArray[i]! ≤ ys.toArray[j]! := fun i j hij hj => by
      have hj' : j < ys.length := by simpa using hj
      have hi' : i < ys.length := by omega
      rw [getElem!_pos ys.toArray i (by simpa using hi'), getElem!_pos ys.toArray j hj]
      simp only [List.getElem_toArray]
      rcases Nat.lt_or_ge i j with h | h
      · exact List.pairwise_iff_getElem.1 hup i j hi' hj' h
      · have : i = j := by omega
        subst this; exact Nat.le_refl _
    obtain ⟨p1, p2⟩ := compact_pre ys.toArray hup' ys.toArray.size (Nat.le_refl _)
    have hl := compact_len ys.toArray ys.toArray.size
    have hmem : ∀ x, x ∈ compactUpTo ys.toArray ys.toArray.size ↔ x ∈ ys := fun x => by
      rw [p2]
      constructor
      · rintro ⟨j, hj, rfl⟩
        rw [getElem!_pos ys.toArray j hj]
        simp
      · intro hx
        obtain ⟨j, hj, rfl⟩ := List.getElem_of_mem hx
        refine ⟨j, by simpa using hj, ?_⟩
        rw [getElem!_pos ys.toArray j (by simpa using hj)]
        simp
    have hC := AnyE.slices_Compact Tryd.compactU eU (fun _ => rfl) eqU neU 0 (fun w => by kernel_rfl) g 0 cap ys.toArray w hH hsz hcap
    have e : ys.toArray.size = ys.length := by simp
    have hlen := p1
    rw [e] at hC hl
    refine Calls.mono hC ?_
    rintro e' w' ⟨rfl, q, hw⟩
    refine ⟨_, cap, compactUpTo ys.toArray ys.length, rfl, by rw [← e]; exact p1, by rw [← e]; exact hmem, hl, ?_, ?_⟩
    · have hz : ∀ l : List Nat, l.flatMap (fun x => [eU x]) = l.map eU := fun l => by induction l <;> simp_all
      refine ⟨by rw [hz]; simp, by unfold maxLen at h2; omega, _, cap, rfl, fun i u hu => ⟨g, 0, rfl, ?_⟩⟩
      rw [hz] at hu
      have hs : (compactUpTo ys.toArray ys.length ++ List.replicate (ys.length - (compactUpTo ys.toArray ys.length).length) 0).toArray.size = ys.toArray.size := by simp; omega
      have hh := (holds_putRow eU (Sort.ahead w q) g 0 ys.toArray _ (holds_ahead eU w q g 0 ys.toArray hH) hs)
      have hi : i < (compactUpTo ys.toArray ys.length).length := by have := (List.getElem?_eq_some_iff.1 hu).1; simpa using this
      have := (hh i (by rw [hs]; simp; omega)).1
      rw [hw, this]
      have e2 : u = eU (compactUpTo ys.toArray ys.length)[i] := by
        rw [List.getElem?_map, List.getElem?_eq_getElem hi] at hu
        exact (Option.some.inj hu).symm
      rw [e2, getElem!_pos _ i (by rw [hs]; simp; omega)]
      simp only [List.getElem_toArray]
      rw [List.getElem_append_left hi]
    · rw [hw]
      exact (sortUint16.kp_putRow w g 0 q _).mono (fun b _ h => by subst h; rfl)
end Go.Proofs.YthnlggecjdifnaaDoor
