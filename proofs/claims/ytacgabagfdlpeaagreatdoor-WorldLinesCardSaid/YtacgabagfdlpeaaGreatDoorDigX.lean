/- Walks of layer 3: numbers with units read. -/
import Derived.Test.YtacgabagfdlpeaaGreatDoorDigU
import Derived.Test.YtacgabagfdlpeaaGreatDoorShelf
import Derived.Deep.QuietTactic
import Derived.BigQuiet
import Derived.RegionTactic
import Derived.ChangeAlike
namespace Go.Proofs.YtacgabagfdlpeaaGreatDoor
set_option linter.unusedVariables false
set_option linter.unusedSimpArgs false
open Go.RowKit Go.Shelf

theorem dMul1 (w : World) : Calls Tryz.prog 133 #[.int .u64 18446744073709551615, .int .u64 1] w fun e w' => e = .returned (.tuple #[.int .u64 0, .int .u64 18446744073709551615]) ∧ w = w' :=
  (Tryz.bits_Mul64 18446744073709551615 1 (by decide) (by decide) w).mono fun e w' ⟨h1, h2⟩ => ⟨by rw [h1]; rfl, h2.symm⟩
theorem ret_fst {k : IntKind} {a b : Int} {v : Value} (h : a = b) : Ending.returned (.tuple #[.int k a, v]) = .returned (.tuple #[.int k b, v]) := by rw [h]
theorem div_wrap (lo y : Nat) (hl : lo ≤ 18446744073709551615) : IntKind.u64.wrap ((lo : Int) / (y : Int)) = (lo : Int) / (y : Int) := by
  have h1 : lo / y ≤ lo := Nat.div_le_self _ _
  have h2 : (lo : Int) / (y : Int) = ((lo / y : Nat) : Int) := by simp
  rw [IntKind.wrap_u64, h2]
  generalize lo / y = q at *
  omega
set_option maxRecDepth 100000 in
set_option maxHeartbeats 400000 in
theorem dDiv0 (lo y : Nat) (hy : 0 < y) (hy2 : y ≤ 18446744073709551615) (hl : lo ≤ 18446744073709551615) (w : World) : Calls Tryz.prog 134 #[.int .u64 0, .int .u64 lo, .int .u64 y] w fun e w' => e = .returned (.tuple #[.int .u64 ((lo : Int) / (y : Int)), .int .u64 ((lo : Int) % (y : Int))]) ∧ ∃ d, w' = w.drewN d := by
  have h0 : ((y : Int) == 0) = false := by rw [beq_eq_false_iff_ne]; omega
  go_enter Tryz.func134, Tryz.ntmps134
  go_wp2
  go_region
  all_goals go_wp2
  all_goals go_ret2
  all_goals exact ⟨ret_fst (div_wrap lo y hl), _, rfl⟩

/-- The greatest number divided: what ReadUnit asks. -/
theorem dMax (y : Nat) (hy : 0 < y) (hy2 : y ≤ 18446744073709551615) (w : World) : Calls Tryz.prog 108 #[.int .u64 18446744073709551615, .int .u64 1, .int .u64 y] w fun e w' => e = .returned (.int .u64 (18446744073709551615 / (y : Int))) ∧ ∃ d, w' = w.drewN d := by
  have hD := Lib.hid (fun W => dDiv0 18446744073709551615 y hy hy2 (Nat.le_refl _) W)
  go_enter Tryz.func108, Tryz.ntmps108
  go_wp2_with fail
  refine (dMul1 w).mono ?_
  rintro e w' ⟨rfl, rfl⟩
  go_wp2_with fail
  refine (hD.out w).mono ?_
  rintro e w' ⟨rfl, d, rfl⟩
  go_wp2
  go_ret
  exact ⟨rfl, _, rfl⟩

theorem over_iff (n w : Nat) (hn : 0 < n) : 18446744073709551615 / n < w ↔ 18446744073709551616 ≤ n * w := by
  rw [Nat.div_lt_iff_lt_mul hn, Nat.mul_comm w n]; omega
theorem worth_le (c : UInt8) : worthN c ≤ 1000000000 := by
  unfold worthN; split; decide; split; decide; split; decide; decide
theorem lastW_at (s : ByteArray) (h : 0 < s.size) : lastW (bl s) = worthN (s[s.size - 1]'(by omega)) := by
  unfold lastW
  rw [last_get _ (by rw [bl_len]; exact h)]
  simp only [bl_len]
  rfl
theorem ofNat_toNat (c : UInt8) : UInt8.ofNat c.toNat = c := by simp
theorem lastW_le (l : List UInt8) : lastW l ≤ 1000000000 := by
  unfold lastW
  cases l.getLast? with
  | none => simp
  | some c => exact worth_le c
theorem lastW_big (l : List UInt8) (h : 0 < lastW l) : 1 < lastW l := by
  unfold lastW at h ⊢
  cases e : l.getLast? with
  | none => rw [e] at h; simp at h
  | some c =>
    rw [e] at h
    simp only at h ⊢
    unfold worthN at h ⊢
    split at h
    · rename_i h1; rw [if_pos h1]; decide
    · rename_i h1
      rw [if_neg h1]
      split at h
      · rename_i h2; rw [if_pos h2]; decide
      · rename_i h2
        rw [if_neg h2]
        split at h
        · rename_i h3; rw [if_pos h3]; decide
        · omega
theorem unitU_le (l : List UInt8) : 1 ≤ unitU l ∧ unitU l ≤ 1000000000 := by
  have := lastW_le l
  unfold unitU
  split <;> omega
theorem rd_lt (l : List UInt8) : (rd l).1 ≤ 18446744073709551615 := by
  unfold rd M64; split
  · split
    · simp only; omega
    · simp
  · simp
theorem bl_dropLast (s : ByteArray) : bl (s.extract 0 (s.size - 1)) = (bl s).dropLast := by
  rw [bl_cut, ← bl_len, ← dropLast_take]; simp

theorem rdU_err {l : List UInt8} {n : Nat} {e : Int} (h : rd (cutU l) = (n, e)) (he : e ≠ 0) : rdU l = (0, e) := by unfold rdU; rw [h]; simp [he]
theorem rdU_ok {l : List UInt8} {n W : Nat} (h : rd (cutU l) = (n, 0)) (hu : unitU l = W) (hm : n * W ≤ 18446744073709551615) : rdU l = (n * W, 0) := by
  unfold rdU; rw [h, hu]; simp only [ne_eq, not_true, if_false]; rw [if_pos (by unfold M64; omega)]
theorem rdU_over {l : List UInt8} {n W : Nat} (h : rd (cutU l) = (n, 0)) (hu : unitU l = W) (hm : ¬ n * W ≤ 18446744073709551615) : rdU l = (0, 5) := by
  unfold rdU; rw [h, hu]; simp only [ne_eq, not_true, if_false]; rw [if_neg (by unfold M64; omega)]
theorem mulM (n W M : Nat) (hn : 0 < n) (hW : 0 < W) : (n * W ≤ M → (n : Int) * W ≤ M ∧ 0 ≤ (n : Int) * W ∧ (W : Int) ≤ (M : Int) / n ∧ (n : Int) ≤ (M : Int) / W) ∧ (¬ n * W ≤ M → (M : Int) / n < W ∧ (M : Int) / W < n) := by
  have h1 : (0 : Int) < n := by omega
  have h2 : (0 : Int) < W := by omega
  constructor
  · intro h
    have h3 : (n : Int) * W ≤ M := by exact_mod_cast h
    exact ⟨h3, Int.mul_nonneg (by omega) (by omega), (Int.le_ediv_iff_mul_le h1).2 (by rw [Int.mul_comm]; exact h3), (Int.le_ediv_iff_mul_le h2).2 h3⟩
  · intro h
    have h3 : (M : Int) < (n : Int) * W := by exact_mod_cast (Nat.lt_of_not_le h)
    exact ⟨(Int.ediv_lt_iff_lt_mul h1).2 (by rw [Int.mul_comm]; exact h3), (Int.ediv_lt_iff_lt_mul h2).2 h3⟩
/-- What is left behind the unit. -/
theorem rdU_cases (l : List UInt8) (n W : Nat) (e : Int) (h : rd (cutU l) = (n, e)) (hu : unitU l = W) (hn : n ≤ 18446744073709551615) (hW : 1 ≤ W) (hW2 : W ≤ 1000000000) :
    (((e == 0) = false ∧ Hid (rdU l = (0, e))) ∨ (e = 0 ∧ n = 0 ∧ Hid (rdU l = (0, 0))) ∨
    (e = 0 ∧ 0 < n ∧ (n : Int) * W ≤ 18446744073709551615 ∧ 0 ≤ (n : Int) * W ∧ (W : Int) ≤ 18446744073709551615 / (n : Int) ∧ (n : Int) ≤ 18446744073709551615 / (W : Int) ∧ Hid (rdU l = (n * W, 0))) ∨
    (e = 0 ∧ 0 < n ∧ 18446744073709551615 / (n : Int) < W ∧ 18446744073709551615 / (W : Int) < n ∧ Hid (rdU l = (0, 5)))) := by
  by_cases he : e = 0
  · subst he
    by_cases h0 : n = 0
    · subst h0
      have := rdU_ok h hu (by omega)
      exact .inr (.inl ⟨rfl, rfl, by rw [this]; simp [Hid]⟩)
    · by_cases hm : n * W ≤ 18446744073709551615
      · obtain ⟨a1, a2, a3, a4⟩ := (mulM n W 18446744073709551615 (by omega) (by omega)).1 hm
        exact .inr (.inr (.inl ⟨rfl, by omega, a1, a2, a3, a4, rdU_ok h hu hm⟩))
      · obtain ⟨a1, a2⟩ := (mulM n W 18446744073709551615 (by omega) (by omega)).2 hm
        exact .inr (.inr (.inr ⟨rfl, by omega, a1, a2, rdU_over h hu hm⟩))
  · exact .inl ⟨by rw [beq_eq_false_iff_ne]; exact he, rdU_err h he⟩

theorem rdU_cases1 (l : List UInt8) (n : Nat) (e : Int) (h : rd (cutU l) = (n, e)) (hu : unitU l = 1) (hn : n ≤ 18446744073709551615) :
    (((e == 0) = false ∧ Hid (rdU l = (0, e))) ∨ (e = 0 ∧ n = 0 ∧ Hid (rdU l = (0, 0))) ∨ (e = 0 ∧ 0 < n ∧ (1 : Int) ≤ 18446744073709551615 / (n : Int) ∧ Hid (rdU l = (n, 0)))) := by
  by_cases he : e = 0
  · subst he
    have hr := rdU_ok h hu (by omega)
    rw [Nat.mul_one] at hr
    by_cases h0 : n = 0
    · subst h0; exact .inr (.inl ⟨rfl, rfl, hr⟩)
    · exact .inr (.inr ⟨rfl, by omega, (Int.le_ediv_iff_mul_le (by omega)).2 (by omega), hr⟩)
  · exact .inl ⟨by rw [beq_eq_false_iff_ne]; exact he, rdU_err h he⟩
set_option maxHeartbeats 1000000 in
theorem dReadUnit (s : ByteArray) (w : World) (hs : s.size ≤ 1000000) : Calls Tryz.prog 89 #[.string s] w fun e w' => e = .returned (.tuple #[.int .u64 (rdU (bl s)).1, .int .i64 (rdU (bl s)).2]) ∧ ∃ d, w' = w.drewN d := by
  have hcut : ∀ (s' : ByteArray) (W : Nat), bl s' = cutU (bl s) → unitU (bl s) = W → s'.size ≤ 1000000 → ∃ (n : Nat) (e : Int), (∀ w, Calls Tryz.prog 119 #[.string s'] w fun e' w' => e' = .returned (.tuple #[.int .u64 n, .int .i64 e]) ∧ w = w') ∧ n ≤ 18446744073709551615 ∧ rd (cutU (bl s)) = (n, e) := fun s' W h1 h2 h3 =>
    ⟨(rd (bl s')).1, (rd (bl s')).2, fun w => dRead s' w h3, rd_lt _, by rw [h1]⟩
  have hDM := Lib.hid dMax
  by_cases h0 : s.size = 0
  · have hnil : bl s = [] := List.eq_nil_of_length_eq_zero (by rw [bl_len]; exact h0)
    have hR := fun w => dRead s w hs
    have hrd : rd (bl s) = (0, 3) := by rw [hnil]; rfl
    have hr : Hid (rdU (bl s) = (0, 3)) := by rw [hnil]; show _ = _; rfl
    rw [hrd] at hR
    have HR := Lib.hid hR
    have hem : s.toList.isEmpty = true := by rw [bl_nil, hnil]; rfl
    clear hcut hR hrd hnil h0
    go_enter Tryz.func89, Tryz.ntmps89
    go_wp2_with fail
    refine (HR.out _).mono ?_
    rintro e' w' ⟨rfl, rfl⟩
    go_wp2_with fail
    go_ret2
    exact ⟨ret_pair hr.out, 0, rfl⟩
  · have hpos : 0 < s.size := by omega
    clear h0
    have hlw := lastW_at s hpos
    have hw := dWorth (s[s.size - 1]'(by omega)).toNat (UInt8.toNat_lt _)
    rw [ofNat_toNat, ← hlw] at hw
    have HW := Lib.hid hw
    have hle := lastW_le (bl s)
    have hnem : s.toList.isEmpty = false := by
      rw [bl_nil]
      cases e : bl s with
      | nil => have := bl_len s; rw [e] at this; simp at this; omega
      | cons a r => rfl
    by_cases hz : 0 < lastW (bl s)
    · obtain ⟨n, e, hR, hn, hrd⟩ := hcut (s.extract 0 (s.size - 1)) (lastW (bl s)) (by rw [bl_dropLast]; unfold cutU; rw [if_pos hz]) (by unfold unitU; rw [if_pos hz]) (by have := bl_len (s.extract 0 (s.size - 1)); rw [bl_dropLast, List.length_dropLast, bl_len] at this; omega)
      have hcs := rdU_cases (bl s) n (lastW (bl s)) e hrd (by unfold unitU; rw [if_pos hz]) hn (by omega) hle
      obtain ⟨W, hWW⟩ : ∃ W, lastW (bl s) = W := ⟨_, rfl⟩
      rw [hWW] at hcs HW hz hle
      have HR := Lib.hid hR
      clear hcut hw hlw hR hrd hWW
      rcases hcs with ⟨he, hr⟩ | ⟨rfl, rfl, hr⟩ | ⟨rfl, h1, h2, h3, h4, _, hr⟩ | ⟨rfl, h1, h2, _, hr⟩
      · go_enter Tryz.func89, Tryz.ntmps89
        go_wp2_with (go_at_call 118; refine (HW.out _).mono ?_; rintro e w' ⟨rfl, rfl⟩)
        refine (HR.out _).mono ?_
        rintro e' w' ⟨rfl, rfl⟩
        go_wp2_with fail
        go_ret2
        exact ⟨ret_pair hr.out, 0, rfl⟩
      · go_enter Tryz.func89, Tryz.ntmps89
        go_wp2_with (go_at_call 118; refine (HW.out _).mono ?_; rintro e w' ⟨rfl, rfl⟩)
        refine (HR.out _).mono ?_
        rintro e' w' ⟨rfl, rfl⟩
        go_wp2_with fail
        go_ret2
        exact ⟨ret_pair hr.out, 0, rfl⟩
      · go_enter Tryz.func89, Tryz.ntmps89
        go_wp2_with (go_at_call 118; refine (HW.out _).mono ?_; rintro e w' ⟨rfl, rfl⟩)
        refine (HR.out _).mono ?_
        rintro e' w' ⟨rfl, rfl⟩
        go_wp2_with fail
        refine (hDM.out n h1 hn _).mono ?_
        rintro e' w' ⟨rfl, d, rfl⟩
        go_wp2_with fail
        go_ret2
        exact ⟨ret_pair hr.out, d, rfl⟩
      · go_enter Tryz.func89, Tryz.ntmps89
        go_wp2_with (go_at_call 118; refine (HW.out _).mono ?_; rintro e w' ⟨rfl, rfl⟩)
        refine (HR.out _).mono ?_
        rintro e' w' ⟨rfl, rfl⟩
        go_wp2_with fail
        refine (hDM.out n h1 hn _).mono ?_
        rintro e' w' ⟨rfl, d, rfl⟩
        go_wp2_with fail
        go_ret2
        exact ⟨ret_pair hr.out, d, rfl⟩
    · obtain ⟨n, e, hR, hn, hrd⟩ := hcut s 1 (by unfold cutU; rw [if_neg hz]) (by unfold unitU; rw [if_neg hz]) hs
      have hcs := rdU_cases1 (bl s) n e hrd (by unfold unitU; rw [if_neg hz]) hn
      have hW0 : lastW (bl s) = 0 := by omega
      rw [hW0] at HW
      have HR := Lib.hid hR
      clear hcut hw hlw hR hrd hz hle hW0
      rcases hcs with ⟨he, hr⟩ | ⟨rfl, rfl, hr⟩ | ⟨rfl, h1, h2, hr⟩
      · go_enter Tryz.func89, Tryz.ntmps89
        go_wp2_with (go_at_call 118; refine (HW.out _).mono ?_; rintro e w' ⟨rfl, rfl⟩)
        refine (HR.out _).mono ?_
        rintro e' w' ⟨rfl, rfl⟩
        go_wp2_with fail
        go_ret2
        exact ⟨ret_pair hr.out, 0, rfl⟩
      · go_enter Tryz.func89, Tryz.ntmps89
        go_wp2_with (go_at_call 118; refine (HW.out _).mono ?_; rintro e w' ⟨rfl, rfl⟩)
        refine (HR.out _).mono ?_
        rintro e' w' ⟨rfl, rfl⟩
        go_wp2_with fail
        go_ret2
        exact ⟨ret_pair hr.out, 0, rfl⟩
      · go_enter Tryz.func89, Tryz.ntmps89
        go_wp2_with (go_at_call 118; refine (HW.out _).mono ?_; rintro e w' ⟨rfl, rfl⟩)
        refine (HR.out _).mono ?_
        rintro e' w' ⟨rfl, rfl⟩
        go_wp2_with fail
        refine (hDM.out n h1 hn _).mono ?_
        rintro e' w' ⟨rfl, d, rfl⟩
        go_wp2_with fail
        go_ret2
        exact ⟨ret_pair hr.out, d, rfl⟩

end Go.Proofs.YtacgabagfdlpeaaGreatDoor
