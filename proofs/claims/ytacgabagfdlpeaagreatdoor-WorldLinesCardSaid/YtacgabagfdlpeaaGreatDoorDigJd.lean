/- digits.Join over the library's strings.Join. -/
import Derived.Test.YtacgabagfdlpeaaGreatDoorDigS
import Derived.Lib.Join
namespace Go.Proofs.YtacgabagfdlpeaaGreatDoor
set_option linter.unusedVariables false
set_option linter.unusedSimpArgs false
open Go.RowKit Go.Shelf

theorem join_eq (l : List (List UInt8)) : Lib.join l [32] = joinL l := by
  induction l with
  | nil => rfl
  | cons a r ih =>
    cases r with
    | nil => rw [Lib.join_one]; rfl
    | cons b r =>
      rw [Lib.join_cons] at *
      show a ++ Lib.joinTail [32] (b :: r) = a ++ 32 :: joinL (b :: r)
      rw [← ih]
      simp [Lib.joinTail]
theorem joinL_mono (l : List (List UInt8)) (k : Nat) : (joinL (l.take k)).length ≤ (joinL l).length := by
  refine snocInd (P := fun r => (joinL (l.take k)).length ≤ (joinL (l.take k ++ r)).length) (by simp) (fun r c ih => ?_) (l.drop k) |> fun h => by rwa [List.take_append_drop] at h
  rw [← List.append_assoc]
  by_cases h0 : l.take k ++ r = []
  · rw [h0] at ih; simp [joinL] at ih; rw [ih]; simp
  · rw [joinL_snoc _ _ h0, List.length_append]; omega
theorem joinL_take (l : List (List UInt8)) (k : Nat) (h : k < l.length) : joinL (l.take (k + 1)) = if k = 0 then l[k] else joinL (l.take k) ++ 32 :: l[k] := by
  rw [List.take_succ_eq_append_getElem h]
  by_cases h0 : k = 0
  · subst h0; rfl
  · rw [if_neg h0, joinL_snoc]
    intro e
    have h2 : (l.take k).length = 0 := by rw [e]; rfl
    rw [List.length_take] at h2
    omega

set_option maxHeartbeats 1000000 in
theorem dJoin (xs : List ByteArray) (v : Value) (w : World) (h : Sl w v xs.length 1 (strs xs)) (hcap : ∀ ao n c, v = .slice ao n c → n ≤ c) (hl : (joinL (xs.map bl)).length ≤ 1000000) (hn : xs.length ≤ 1000000) :
    Calls Tryz.prog 13 #[v] w fun e w' => e = .returned (.string (tx (joinL (xs.map bl)))) ∧ Kp none' w w' := by
  obtain ⟨ao, cap, rfl, hc⟩ := h.is
  have hcp := hcap _ _ _ rfl
  clear h hcap
  cases xs with
  | nil =>
    clear hc hcp hl hn
    simp only [List.length_nil]
    go_enter Tryz.func13, Tryz.ntmps13
    go_wp2_with fail
    refine (Tryz.strings_Join_none ao cap ⟨#[32]⟩ w).mono ?_
    rintro e w1 ⟨rfl, rfl⟩
    go_wp2_with fail
    go_ret
    exact ⟨rfl, Kp.refl _ _⟩
  | cons x r =>
    obtain ⟨b, off, rfl, hc0⟩ := hc 0 (.string x) rfl
    have hcells : ∀ (j : Nat) y, (x :: r)[j]? = some y → w.cell? ⟨b, off + j, none⟩ = some (.string y) := fun j y hy => by
      obtain ⟨b', off', e, h1⟩ := hc j (.string y) (by unfold strs; rw [List.getElem?_map, hy]; rfl)
      cases e; exact h1
    have hbk := World.block_lt_of_cell? w _ hc0
    have hj : Lib.join ((x :: r).map (·.data.toList)) (ByteArray.data ⟨#[32]⟩).toList = joinL ((x :: r).map bl) := join_eq _
    have hJ := Tryz.strings_Join b off cap (x :: r) ⟨#[32]⟩ w hcells hbk (by omega) hcp (by rw [hj]; omega)
    rw [hj] at hJ
    have HJ := Lib.hid hJ
    clear hJ hj hcells hc hc0 hbk hl
    generalize joinL ((x :: r).map bl) = jl at *
    go_enter Tryz.func13, Tryz.ntmps13
    go_wp2_with fail
    refine (HJ.out).mono ?_
    rintro e w1 ⟨rfl, hb⟩
    have HK : Hid (Kp none' w w1) := (Kp.of_below hb).mono (fun b hb h => by omega)
    clear hb
    go_wp2_with fail
    go_ret
    exact ⟨rfl, HK.out⟩
end Go.Proofs.YtacgabagfdlpeaaGreatDoor
