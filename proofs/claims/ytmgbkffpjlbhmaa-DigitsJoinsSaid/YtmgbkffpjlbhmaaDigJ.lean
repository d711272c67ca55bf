/- Layer 3: words joined. -/
import Derived.Test.YtmgbkffpjlbhmaaDigL
import Derived.Lib.Join
namespace Go.Proofs.Ytmgbkffpjlbhmaa
set_option linter.unusedVariables false
set_option linter.unusedSimpArgs false
open Go.RowKit Go.Shelf

theorem join_eq (l : List (List UInt8)) : Lib.join l [32] = joinL l := by
  induction l with
  | nil => rfl
  | cons a r ih =>
    cases r with
    | nil => rw [Lib.join_one]; rfl
    | cons b r =>
      rw [Lib.join_cons] at *
      show a ++ Lib.joinTail [32] (b :: r) = a ++ 32 :: joinL (b :: r)
      rw [← ih]
      simp [Lib.joinTail]
theorem joinL_mono (l : List (List UInt8)) (k : Nat) : (joinL (l.take k)).length ≤ (joinL l).length := by
  refine snocInd (P := fun r => (joinL (l.take k)).length ≤ (joinL (l.take k ++ r)).length) (by simp) (fun r c ih => ?_) (l.drop k) |> fun h => by rwa [List.take_append_drop] at h
  rw [← List.append_assoc]
  by_cases h0 : l.take k ++ r = []
  · rw [h0] at ih; simp [joinL] at ih; rw [ih]; simp
  · rw [joinL_snoc _ _ h0, List.length_append]; omega
theorem joinL_take (l : List (List UInt8)) (k : Nat) (h : k < l.length) : joinL (l.take (k + 1)) = if k = 0 then l[k] else joinL (l.take k) ++ 32 :: l[k] := by
  rw [List.take_succ_eq_append_getElem h]
  by_cases h0 : k = 0
  · subst h0; rfl
  · rw [if_neg h0, joinL_snoc]
    intro e
    have h2 : (l.take k).length = 0 := by rw [e]; rfl
    rw [List.length_take] at h2
    omega

set_option maxHeartbeats 1000000 in
theorem dJoin (xs : List ByteArray) (v : Value) (w : World) (h : Sl w v xs.length 1 (strs xs)) (hcap : ∀ ao n c, v = .slice ao n c → n ≤ c) (hl : (joinL (xs.map bl)).length ≤ 1000000) (hn : xs.length ≤ 1000000) :
    Calls Try.prog 19 #[v] w fun e w' => e = .returned (.string (tx (joinL (xs.map bl)))) ∧ Kp none' w w' := by
  obtain ⟨ao, cap, rfl, hc⟩ := h.is
  have hcp := hcap _ _ _ rfl
  clear h hcap
  cases xs with
  | nil =>
    clear hc hcp hl hn
    simp only [List.length_nil]
    go_enter Try.func19, Try.ntmps19
    go_wp2_with fail
    refine (Try.strings_Join_none ao cap ⟨#[32]⟩ w).mono ?_
    rintro e w1 ⟨rfl, rfl⟩
    go_wp2_with fail
    go_ret
    exact ⟨rfl, Kp.refl _ _⟩
  | cons x r =>
    obtain ⟨b, off, rfl, hc0⟩ := hc 0 (.string x) rfl
    have hcells : ∀ (j : Nat) y, (x :: r)[j]? = some y → w.cell? ⟨b, off + j, none⟩ = some (.string y) := fun j y hy => by
      obtain ⟨b', off', e, h1⟩ := hc j (.string y) (by unfold strs; rw [List.getElem?_map, hy]; rfl)
      cases e; exact h1
    have hbk := World.block_lt_of_cell? w _ hc0
    have hj : Lib.join ((x :: r).map (·.data.toList)) (ByteArray.data ⟨#[32]⟩).toList = joinL ((x :: r).map bl) := join_eq _
    have hJ := Try.strings_Join b off cap (x :: r) ⟨#[32]⟩ w hcells hbk (by omega) hcp (by rw [hj]; omega)
    rw [hj] at hJ
    have HJ := Lib.hid hJ
    clear hJ hj hcells hc hc0 hbk hl
    generalize joinL ((x :: r).map bl) = jl at *
    go_enter Try.func19, Try.ntmps19
    go_wp2_with fail
    refine (HJ.out).mono ?_
    rintro e w1 ⟨rfl, hb⟩
    have HK : Hid (Kp none' w w1) := (Kp.of_below hb).mono (fun b hb h => by omega)
    clear hb
    go_wp2_with fail
    go_ret
    exact ⟨rfl, HK.out⟩

set_option maxHeartbeats 2000000 in
theorem rJoin (xs : List ByteArray) (v : Value) (w : World) (h : Sl w v xs.length 1 (strs xs)) (hl : (joinL (xs.map bl)).length ≤ 500000) :
    Calls Try.prog 20 #[v] w fun e w' => e = .returned (.string (tx (joinL (xs.map bl)))) ∧ w = w' := by
  obtain ⟨ao, cap, rfl, hc⟩ := h.is
  have hm := h.max
  clear h
  have HC := Lib.hid hc
  clear hc
  go_enter Try.func20, Try.ntmps20
  go_wp2
  go_loop [3, 4] (fun s3 i => ∃ (k : Nat) (s : ByteArray), k ≤ xs.length ∧ i = .int .i64 k ∧ s3 = .string s ∧ Hid (bl s = joinL ((xs.map bl).take k))) (fun _ i => xs.length - (intOf i).toNat)
  case atStart => exact ⟨0, _, Nat.zero_le _, rfl, rfl, rfl⟩
  case round =>
    obtain ⟨k, s, hk, rfl, rfl, hs⟩ := hrel
    by_cases hlt : k < xs.length
    · obtain ⟨b, off, rfl, hcell⟩ := HC.out k _ (strs_get xs k hlt)
      have hj := joinL_take (xs.map bl) k (by simpa using hlt)
      have hmo := joinL_mono (xs.map bl) (k + 1)
      rw [List.getElem_map] at hj
      obtain ⟨x, hx⟩ : ∃ x, xs[k] = x := ⟨_, rfl⟩
      rw [hx] at hcell hj
      clear hx
      by_cases h0 : k = 0
      · rw [if_pos h0] at hj
        subst h0
        rw [Nat.add_zero] at hcell
        have hs0 : bl s = [] := hs.out
        have hct := fun W => cat_run (P := Try.prog) s x (by rw [← bl_len, ← bl_len x, hs0]; rw [hj] at hmo; simp; omega) W
        have HJ := Lib.hid hj; have HS0 := Lib.hid hs0
        clear hj hmo hs0
        go_wp2
        go_round
        case rel => exact ⟨1, _, by omega, rfl, rfl, by show _ = _; rw [bl_app, HS0.out]; exact HJ.out.symm⟩
        case measure => simp [intOf]; omega
      · rw [if_neg h0] at hj
        have hlen : s.size + 1 + x.size ≤ 500000 := by
          rw [hj, ← hs.out] at hmo
          simp only [List.length_append, List.length_cons, bl_len] at hmo
          omega
        have hct := fun W => cat_run (P := Try.prog) s ⟨#[32]⟩ (by show s.size + 1 ≤ 1000000; omega) W
        have hsz : (s ++ (⟨#[32]⟩ : ByteArray)).size = s.size + 1 := by rw [← bl_len, bl_app, List.length_append, bl_len]; rfl
        have hct2 := fun W => cat_run (P := Try.prog) (s ++ ⟨#[32]⟩) x (by rw [hsz]; omega) W
        have hk0 : 0 < k := by omega
        have HJ := Lib.hid hj
        clear hj hmo hsz h0
        go_wp2
        go_round
        case rel => exact ⟨k + 1, _, by omega, by go_num, rfl, by show _ = _; rw [HJ.out, bl_app, bl_app, hs.out]; simp; rfl⟩
        case measure => simp [intOf]; omega
    · have hall : (xs.map bl).take k = xs.map bl := List.take_of_length_le (by simp; omega)
      rw [hall] at hs
      clear hall
      go_wp2
      go_ret
      exact ⟨ret_str hs.out, rfl⟩
end Go.Proofs.Ytmgbkffpjlbhmaa
