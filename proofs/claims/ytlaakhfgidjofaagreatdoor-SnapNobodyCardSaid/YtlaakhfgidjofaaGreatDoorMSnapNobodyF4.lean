/- Walks of layer 3: numbers with units read. -/
import Derived.Test.YtlaakhfgidjofaaGreatDoorMSnapNobodyF3
import Derived.Test.YtlaakhfgidjofaaGreatDoorShelf
import Derived.Deep.QuietTactic
import Derived.BigQuiet
import Derived.RegionTactic
import Derived.ChangeAlike
import Derived.Test.YtlaakhfgidjofaaGreatDoorMSnapNobodyF0
import Derived.StillTail
namespace Go.Proofs.YtlaakhfgidjofaaGreatDoor
set_option linter.unusedVariables false
set_option linter.unusedSimpArgs false
open Go.RowKit Go.Shelf
theorem dMul1 (w : World) : Calls Tryz.prog 180 #[.int .u64 18446744073709551615, .int .u64 1] w fun e w' => e = .returned (.tuple #[.int .u64 0, .int .u64 18446744073709551615]) ∧ w = w' :=
  (Tryz.bits_Mul64 18446744073709551615 1 (by decide) (by decide) w).mono fun e w' ⟨h1, h2⟩ => ⟨by rw [h1]; rfl, h2.symm⟩
theorem ret_fst {k : IntKind} {a b : Int} {v : Value} (h : a = b) : Ending.returned (.tuple #[.int k a, v]) = .returned (.tuple #[.int k b, v]) := by rw [h]
theorem div_wrap (lo y : Nat) (hl : lo ≤ 18446744073709551615) : IntKind.u64.wrap ((lo : Int) / (y : Int)) = (lo : Int) / (y : Int) := by
  have h1 : lo / y ≤ lo := Nat.div_le_self _ _
  have h2 : (lo : Int) / (y : Int) = ((lo / y : Nat) : Int) := by simp
  rw [IntKind.wrap_u64, h2]
  generalize lo / y = q at *
  omega
set_option maxRecDepth 100000 in
set_option maxHeartbeats 400000 in
theorem dDiv0 (lo y : Nat) (hy : 0 < y) (hy2 : y ≤ 18446744073709551615) (hl : lo ≤ 18446744073709551615) (w : World) : Calls Tryz.prog 181 #[.int .u64 0, .int .u64 lo, .int .u64 y] w fun e w' => e = .returned (.tuple #[.int .u64 ((lo : Int) / (y : Int)), .int .u64 ((lo : Int) % (y : Int))]) ∧ ∃ d, w' = w.drewN d := by
  have h0 : ((y : Int) == 0) = false := by rw [beq_eq_false_iff_ne]; omega
  go_enter Tryz.func181, Tryz.ntmps181
  go_wp2
  go_region
  all_goals go_wp2
  all_goals go_ret2
  all_goals exact ⟨ret_fst (div_wrap lo y hl), _, rfl⟩
theorem dMax (y : Nat) (hy : 0 < y) (hy2 : y ≤ 18446744073709551615) (w : World) : Calls Tryz.prog 175 #[.int .u64 18446744073709551615, .int .u64 1, .int .u64 y] w fun e w' => e = .returned (.int .u64 (18446744073709551615 / (y : Int))) ∧ ∃ d, w' = w.drewN d := by
  have hD := Lib.hid (fun W => dDiv0 18446744073709551615 y hy hy2 (Nat.le_refl _) W)
  go_enter Tryz.func175, Tryz.ntmps175
  go_wp2_with fail
  refine (dMul1 w).mono ?_
  rintro e w' ⟨rfl, rfl⟩
  go_wp2_with fail
  refine (hD.out w).mono ?_
  rintro e w' ⟨rfl, d, rfl⟩
  go_wp2
  go_ret
  exact ⟨rfl, _, rfl⟩
theorem worth_le (c : UInt8) : worthN c ≤ 1000000000 := by
  unfold worthN; split; decide; split; decide; split; decide; decide
theorem lastW_at (s : ByteArray) (h : 0 < s.size) : lastW (bl s) = worthN (s[s.size - 1]'(by omega)) := by
  unfold lastW
  rw [last_get _ (by rw [bl_len]; exact h)]
  simp only [bl_len]
  rfl
theorem ofNat_toNat (c : UInt8) : UInt8.ofNat c.toNat = c := by simp
theorem lastW_le (l : List UInt8) : lastW l ≤ 1000000000 := by
  unfold lastW
  cases l.getLast? with
  | none => simp
  | some c => exact worth_le c
theorem rd_lt (l : List UInt8) : (rd l).1 ≤ 18446744073709551615 := by
  unfold rd M64; split
  · split
    · simp only; omega
    · simp
  · simp
theorem bl_dropLast (s : ByteArray) : bl (s.extract 0 (s.size - 1)) = (bl s).dropLast := by
  rw [bl_cut, ← bl_len, ← dropLast_take]; simp
theorem rdU_err {l : List UInt8} {n : Nat} {e : Int} (h : rd (cutU l) = (n, e)) (he : e ≠ 0) : rdU l = (0, e) := by unfold rdU; rw [h]; simp [he]
theorem rdU_ok {l : List UInt8} {n W : Nat} (h : rd (cutU l) = (n, 0)) (hu : unitU l = W) (hm : n * W ≤ 18446744073709551615) : rdU l = (n * W, 0) := by
  unfold rdU; rw [h, hu]; simp only [ne_eq, not_true, if_false]; rw [if_pos (by unfold M64; omega)]
theorem rdU_over {l : List UInt8} {n W : Nat} (h : rd (cutU l) = (n, 0)) (hu : unitU l = W) (hm : ¬ n * W ≤ 18446744073709551615) : rdU l = (0, 5) := by
  unfold rdU; rw [h, hu]; simp only [ne_eq, not_true, if_false]; rw [if_neg (by unfold M64; omega)]
theorem mulM (n W M : Nat) (hn : 0 < n) (hW : 0 < W) : (n * W ≤ M → (n : Int) * W ≤ M ∧ 0 ≤ (n : Int) * W ∧ (W : Int) ≤ (M : Int) / n ∧ (n : Int) ≤ (M : Int) / W) ∧ (¬ n * W ≤ M → (M : Int) / n < W ∧ (M : Int) / W < n) := by
  have h1 : (0 : Int) < n := by omega
  have h2 : (0 : Int) < W := by omega
  constructor
  · intro h
    have h3 : (n : Int) * W ≤ M := by exact_mod_cast h
    exact ⟨h3, Int.mul_nonneg (by omega) (by omega), (Int.le_ediv_iff_mul_le h1).2 (by rw [Int.mul_comm]; exact h3), (Int.le_ediv_iff_mul_le h2).2 h3⟩
  · intro h
    have h3 : (M : Int) < (n : Int) * W := by exact_mod_cast (Nat.lt_of_not_le h)
    exact ⟨(Int.ediv_lt_iff_lt_mul h1).2 (by rw [Int.mul_comm]; exact h3), (Int.ediv_lt_iff_lt_mul h2).2 h3⟩
theorem rdU_cases (l : List UInt8) (n W : Nat) (e : Int) (h : rd (cutU l) = (n, e)) (hu : unitU l = W) (hn : n ≤ 18446744073709551615) (hW : 1 ≤ W) (hW2 : W ≤ 1000000000) :
    (((e == 0) = false ∧ Hid (rdU l = (0, e))) ∨ (e = 0 ∧ n = 0 ∧ Hid (rdU l = (0, 0))) ∨
    (e = 0 ∧ 0 < n ∧ (n : Int) * W ≤ 18446744073709551615 ∧ 0 ≤ (n : Int) * W ∧ (W : Int) ≤ 18446744073709551615 / (n : Int) ∧ (n : Int) ≤ 18446744073709551615 / (W : Int) ∧ Hid (rdU l = (n * W, 0))) ∨
    (e = 0 ∧ 0 < n ∧ 18446744073709551615 / (n : Int) < W ∧ 18446744073709551615 / (W : Int) < n ∧ Hid (rdU l = (0, 5)))) := by
  by_cases he : e = 0
  · subst he
    by_cases h0 : n = 0
    · subst h0
      have := rdU_ok h hu (by omega)
      exact .inr (.inl ⟨rfl, rfl, by rw [this]; simp [Hid]⟩)
    · by_cases hm : n * W ≤ 18446744073709551615
      · obtain ⟨a1, a2, a3, a4⟩ := (mulM n W 18446744073709551615 (by omega) (by omega)).1 hm
        exact .inr (.inr (.inl ⟨rfl, by omega, a1, a2, a3, a4, rdU_ok h hu hm⟩))
      · obtain ⟨a1, a2⟩ := (mulM n W 18446744073709551615 (by omega) (by omega)).2 hm
        exact .inr (.inr (.inr ⟨rfl, by omega, a1, a2, rdU_over h hu hm⟩))
  · exact .inl ⟨by rw [beq_eq_false_iff_ne]; exact he, rdU_err h he⟩
theorem rdU_cases1 (l : List UInt8) (n : Nat) (e : Int) (h : rd (cutU l) = (n, e)) (hu : unitU l = 1) (hn : n ≤ 18446744073709551615) :
    (((e == 0) = false ∧ Hid (rdU l = (0, e))) ∨ (e = 0 ∧ n = 0 ∧ Hid (rdU l = (0, 0))) ∨ (e = 0 ∧ 0 < n ∧ (1 : Int) ≤ 18446744073709551615 / (n : Int) ∧ Hid (rdU l = (n, 0)))) := by
  by_cases he : e = 0
  · subst he
    have hr := rdU_ok h hu (by omega)
    rw [Nat.mul_one] at hr
    by_cases h0 : n = 0
    · subst h0; exact .inr (.inl ⟨rfl, rfl, hr⟩)
    · exact .inr (.inr ⟨rfl, by omega, (Int.le_ediv_iff_mul_le (by omega)).2 (by omega), hr⟩)
  · exact .inl ⟨by rw [beq_eq_false_iff_ne]; exact he, rdU_err h he⟩
set_option maxHeartbeats 1000000 in
theorem dReadUnit (s : ByteArray) (w : World) (hs : s.size ≤ 1000000) : Calls Tryz.prog 166 #[.string s] w fun e w' => e = .returned (.tuple #[.int .u64 (rdU (bl s)).1, .int .i64 (rdU (bl s)).2]) ∧ ∃ d, w' = w.drewN d := by
  have hcut : ∀ (s' : ByteArray) (W : Nat), bl s' = cutU (bl s) → unitU (bl s) = W → s'.size ≤ 1000000 → ∃ (n : Nat) (e : Int), (∀ w, Calls Tryz.prog 174 #[.string s'] w fun e' w' => e' = .returned (.tuple #[.int .u64 n, .int .i64 e]) ∧ w = w') ∧ n ≤ 18446744073709551615 ∧ rd (cutU (bl s)) = (n, e) := fun s' W h1 h2 h3 =>
    ⟨(rd (bl s')).1, (rd (bl s')).2, fun w => dRead s' w h3, rd_lt _, by rw [h1]⟩
  have hDM := Lib.hid dMax
  by_cases h0 : s.size = 0
  · have hnil : bl s = [] := List.eq_nil_of_length_eq_zero (by rw [bl_len]; exact h0)
    have hR := fun w => dRead s w hs
    have hrd : rd (bl s) = (0, 3) := by rw [hnil]; rfl
    have hr : Hid (rdU (bl s) = (0, 3)) := by rw [hnil]; show _ = _; rfl
    rw [hrd] at hR
    have HR := Lib.hid hR
    have hem : s.toList.isEmpty = true := by rw [bl_nil, hnil]; rfl
    clear hcut hR hrd hnil h0
    go_enter Tryz.func166, Tryz.ntmps166
    go_wp2_with fail
    refine (HR.out _).mono ?_
    rintro e' w' ⟨rfl, rfl⟩
    go_wp2_with fail
    go_ret2
    exact ⟨ret_pair hr.out, 0, rfl⟩
  · have hpos : 0 < s.size := by omega
    clear h0
    have hlw := lastW_at s hpos
    have hw := dWorth (s[s.size - 1]'(by omega)).toNat (UInt8.toNat_lt _)
    rw [ofNat_toNat, ← hlw] at hw
    have HW := Lib.hid hw
    have hle := lastW_le (bl s)
    have hnem : s.toList.isEmpty = false := by
      rw [bl_nil]
      cases e : bl s with
      | nil => have := bl_len s; rw [e] at this; simp at this; omega
      | cons a r => rfl
    by_cases hz : 0 < lastW (bl s)
    · obtain ⟨n, e, hR, hn, hrd⟩ := hcut (s.extract 0 (s.size - 1)) (lastW (bl s)) (by rw [bl_dropLast]; unfold cutU; rw [if_pos hz]) (by unfold unitU; rw [if_pos hz]) (by have := bl_len (s.extract 0 (s.size - 1)); rw [bl_dropLast, List.length_dropLast, bl_len] at this; omega)
      have hcs := rdU_cases (bl s) n (lastW (bl s)) e hrd (by unfold unitU; rw [if_pos hz]) hn (by omega) hle
      obtain ⟨W, hWW⟩ : ∃ W, lastW (bl s) = W := ⟨_, rfl⟩
      rw [hWW] at hcs HW hz hle
      have HR := Lib.hid hR
      clear hcut hw hlw hR hrd hWW
      rcases hcs with ⟨he, hr⟩ | ⟨rfl, rfl, hr⟩ | ⟨rfl, h1, h2, h3, h4, _, hr⟩ | ⟨rfl, h1, h2, _, hr⟩
      · go_enter Tryz.func166, Tryz.ntmps166
        go_wp2_with (go_at_call 96; refine (HW.out _).mono ?_; rintro e w' ⟨rfl, rfl⟩)
        refine (HR.out _).mono ?_
        rintro e' w' ⟨rfl, rfl⟩
        go_wp2_with fail
        go_ret2
        exact ⟨ret_pair hr.out, 0, rfl⟩
      · go_enter Tryz.func166, Tryz.ntmps166
        go_wp2_with (go_at_call 96; refine (HW.out _).mono ?_; rintro e w' ⟨rfl, rfl⟩)
        refine (HR.out _).mono ?_
        rintro e' w' ⟨rfl, rfl⟩
        go_wp2_with fail
        go_ret2
        exact ⟨ret_pair hr.out, 0, rfl⟩
      · go_enter Tryz.func166, Tryz.ntmps166
        go_wp2_with (go_at_call 96; refine (HW.out _).mono ?_; rintro e w' ⟨rfl, rfl⟩)
        refine (HR.out _).mono ?_
        rintro e' w' ⟨rfl, rfl⟩
        go_wp2_with fail
        refine (hDM.out n h1 hn _).mono ?_
        rintro e' w' ⟨rfl, d, rfl⟩
        go_wp2_with fail
        go_ret2
        exact ⟨ret_pair hr.out, d, rfl⟩
      · go_enter Tryz.func166, Tryz.ntmps166
        go_wp2_with (go_at_call 96; refine (HW.out _).mono ?_; rintro e w' ⟨rfl, rfl⟩)
        refine (HR.out _).mono ?_
        rintro e' w' ⟨rfl, rfl⟩
        go_wp2_with fail
        refine (hDM.out n h1 hn _).mono ?_
        rintro e' w' ⟨rfl, d, rfl⟩
        go_wp2_with fail
        go_ret2
        exact ⟨ret_pair hr.out, d, rfl⟩
    · obtain ⟨n, e, hR, hn, hrd⟩ := hcut s 1 (by unfold cutU; rw [if_neg hz]) (by unfold unitU; rw [if_neg hz]) hs
      have hcs := rdU_cases1 (bl s) n e hrd (by unfold unitU; rw [if_neg hz]) hn
      have hW0 : lastW (bl s) = 0 := by omega
      rw [hW0] at HW
      have HR := Lib.hid hR
      clear hcut hw hlw hR hrd hz hle hW0
      rcases hcs with ⟨he, hr⟩ | ⟨rfl, rfl, hr⟩ | ⟨rfl, h1, h2, hr⟩
      · go_enter Tryz.func166, Tryz.ntmps166
        go_wp2_with (go_at_call 96; refine (HW.out _).mono ?_; rintro e w' ⟨rfl, rfl⟩)
        refine (HR.out _).mono ?_
        rintro e' w' ⟨rfl, rfl⟩
        go_wp2_with fail
        go_ret2
        exact ⟨ret_pair hr.out, 0, rfl⟩
      · go_enter Tryz.func166, Tryz.ntmps166
        go_wp2_with (go_at_call 96; refine (HW.out _).mono ?_; rintro e w' ⟨rfl, rfl⟩)
        refine (HR.out _).mono ?_
        rintro e' w' ⟨rfl, rfl⟩
        go_wp2_with fail
        go_ret2
        exact ⟨ret_pair hr.out, 0, rfl⟩
      · go_enter Tryz.func166, Tryz.ntmps166
        go_wp2_with (go_at_call 96; refine (HW.out _).mono ?_; rintro e w' ⟨rfl, rfl⟩)
        refine (HR.out _).mono ?_
        rintro e' w' ⟨rfl, rfl⟩
        go_wp2_with fail
        refine (hDM.out n h1 hn _).mono ?_
        rintro e' w' ⟨rfl, d, rfl⟩
        go_wp2_with fail
        go_ret2
        exact ⟨ret_pair hr.out, d, rfl⟩

def putK (n : Nat) : Nat → List UInt8
  | 0 => putU n
  | 1 => if 0 < n ∧ n % 1000000 = 0 then put (n / 1000000) ++ [77] else if 0 < n ∧ n % 1000 = 0 then put (n / 1000) ++ [75] else put n
  | 2 => if 0 < n ∧ n % 1000 = 0 then put (n / 1000) ++ [75] else put n
  | _ => put n
def unitW : Nat → Nat | 0 => 1000000000 | 1 => 1000000 | _ => 1000
def unitC : Nat → UInt8 | 0 => 71 | 1 => 77 | _ => 75
theorem putK_yes (n k : Nat) (hk : k < 3) (h : 0 < n ∧ n % unitW k = 0) : putK n k = put (n / unitW k) ++ [unitC k] := by
  match k, hk with
  | 0, _ => exact if_pos h
  | 1, _ => exact if_pos h
  | 2, _ => exact if_pos h
theorem putK_no (n k : Nat) (hk : k < 3) (h : ¬ (0 < n ∧ n % unitW k = 0)) : putK n k = putK n (k + 1) := by
  match k, hk with
  | 0, _ => exact if_neg h
  | 1, _ => exact if_neg h
  | 2, _ => exact if_neg h
theorem dWorthG (w : World) : Calls Tryz.prog 96 #[.int .u8 71] w fun e w' => e = .returned (.int .u64 1000000000) ∧ w = w' := dWorth 71 (by decide) w
theorem dWorthM (w : World) : Calls Tryz.prog 96 #[.int .u8 77] w fun e w' => e = .returned (.int .u64 1000000) ∧ w = w' := dWorth 77 (by decide) w
theorem dWorthK (w : World) : Calls Tryz.prog 96 #[.int .u8 75] w fun e w' => e = .returned (.int .u64 1000) ∧ w = w' := dWorth 75 (by decide) w
theorem enc71 : bl (Utf8.encode 71) = [71] := by decide +kernel
theorem enc77 : bl (Utf8.encode 77) = [77] := by decide +kernel
theorem enc75 : bl (Utf8.encode 75) = [75] := by decide +kernel
theorem ix0 (w : World) : (Instr.index 206 (.agg #[.int .u8 71, .int .u8 77, .int .u8 75]) (.int .i64 0)).run Tryz.prog w = .ok (.int .u8 71) w := by kernel_rfl
theorem ix1 (w : World) : (Instr.index 206 (.agg #[.int .u8 71, .int .u8 77, .int .u8 75]) (.int .i64 1)).run Tryz.prog w = .ok (.int .u8 77) w := by kernel_rfl
theorem ix2 (w : World) : (Instr.index 206 (.agg #[.int .u8 71, .int .u8 77, .int .u8 75]) (.int .i64 2)).run Tryz.prog w = .ok (.int .u8 75) w := by kernel_rfl
set_option maxHeartbeats 2000000 in
theorem dPutUnit (n : Nat) (hn : n ≤ 18446744073709551615) (w : World) : Calls Tryz.prog 47 #[.int .u64 n] w fun e w' => ∃ s, e = .returned (.string s) ∧ bl s = putU n ∧ Kp none' w w' := by
  have i0 := ix0; have i1 := ix1; have i2 := ix2
  have hP := Lib.hid (fun (m : Nat) (hm : m ≤ 18446744073709551615) => dPut m hm w)
  go_enter Tryz.func47, Tryz.ntmps47
  go_wp2
  go_loop [7] (fun i => ∃ k : Nat, k ≤ 3 ∧ i = .int .i64 k ∧ Hid (putU n = putK n k)) (fun i => 3 - (intOf i).toNat)
  case atStart => exact ⟨0, by omega, rfl, rfl⟩
  case round =>
    obtain ⟨k, hk, rfl, hp⟩ := hrel
    by_cases hk3 : k < 3
    · have hc : k = 0 ∨ k = 1 ∨ k = 2 := by omega
      rcases hc with rfl | rfl | rfl
      · by_cases hd : 0 < n ∧ n % 1000000000 = 0
        · have hr := Lib.hid (hp.out.trans (putK_yes n 0 (by decide) hd))
          have hz : ((n : Int) % 1000000000 == 0) = true := by rw [beq_iff_eq]; omega
          have hi := hP.out (n / 1000000000) (by omega)
          have hq : ((n / 1000000000 : Nat) : Int) = (n : Int) / 1000000000 := by simp
          rw [hq] at hi
          have HI := Lib.hid hi
          have hl := put_len20 (n / 1000000000) (by omega)
          obtain ⟨hn0, _⟩ := hd
          clear hi hq
          go_wp2_with (go_at_call 96; refine (dWorthG _).mono ?_; rintro e w' ⟨rfl, rfl⟩)
          refine (HI.out).mono ?_
          rintro e w1 ⟨s1, rfl, h1, hk1⟩
          have hct := fun W => cat_run (P := Tryz.prog) s1 (Utf8.encode 71) (by rw [← bl_len, ← bl_len (Utf8.encode 71), h1, enc71]; simp; omega) W
          have H1 := Lib.hid h1; have HK := Lib.hid hk1
          clear h1 hk1 hl
          go_wp2_with fail
          go_ret
          exact ⟨_, rfl, by rw [hr.out, bl_app, H1.out, enc71]; rfl, HK.out⟩
        · have hr := Lib.hid (hp.out.trans (putK_no n 0 (by decide) hd))
          by_cases hn0 : 0 < n
          · have hz : ((n : Int) % 1000000000 == 0) = false := by rw [beq_eq_false_iff_ne]; omega
            clear hd
            go_wp2_with (go_at_call 96; refine (dWorthG _).mono ?_; rintro e w' ⟨rfl, rfl⟩)
            go_round
            case rel => exact ⟨1, by omega, rfl, hr.out⟩
            case measure => simp [intOf]
          · clear hd
            go_wp2_with (go_at_call 96; refine (dWorthG _).mono ?_; rintro e w' ⟨rfl, rfl⟩)
            go_round
            case rel => exact ⟨1, by omega, rfl, hr.out⟩
            case measure => simp [intOf]
      · by_cases hd : 0 < n ∧ n % 1000000 = 0
        · have hr := Lib.hid (hp.out.trans (putK_yes n 1 (by decide) hd))
          have hz : ((n : Int) % 1000000 == 0) = true := by rw [beq_iff_eq]; omega
          have hi := hP.out (n / 1000000) (by omega)
          have hq : ((n / 1000000 : Nat) : Int) = (n : Int) / 1000000 := by simp
          rw [hq] at hi
          have HI := Lib.hid hi
          have hl := put_len20 (n / 1000000) (by omega)
          obtain ⟨hn0, _⟩ := hd
          clear hi hq
          go_wp2_with (go_at_call 96; refine (dWorthM _).mono ?_; rintro e w' ⟨rfl, rfl⟩)
          refine (HI.out).mono ?_
          rintro e w1 ⟨s1, rfl, h1, hk1⟩
          have hct := fun W => cat_run (P := Tryz.prog) s1 (Utf8.encode 77) (by rw [← bl_len, ← bl_len (Utf8.encode 77), h1, enc77]; simp; omega) W
          have H1 := Lib.hid h1; have HK := Lib.hid hk1
          clear h1 hk1 hl
          go_wp2_with fail
          go_ret
          exact ⟨_, rfl, by rw [hr.out, bl_app, H1.out, enc77]; rfl, HK.out⟩
        · have hr := Lib.hid (hp.out.trans (putK_no n 1 (by decide) hd))
          by_cases hn0 : 0 < n
          · have hz : ((n : Int) % 1000000 == 0) = false := by rw [beq_eq_false_iff_ne]; omega
            clear hd
            go_wp2_with (go_at_call 96; refine (dWorthM _).mono ?_; rintro e w' ⟨rfl, rfl⟩)
            go_round
            case rel => exact ⟨2, by omega, rfl, hr.out⟩
            case measure => simp [intOf]
          · clear hd
            go_wp2_with (go_at_call 96; refine (dWorthM _).mono ?_; rintro e w' ⟨rfl, rfl⟩)
            go_round
            case rel => exact ⟨2, by omega, rfl, hr.out⟩
            case measure => simp [intOf]
      · by_cases hd : 0 < n ∧ n % 1000 = 0
        · have hr := Lib.hid (hp.out.trans (putK_yes n 2 (by decide) hd))
          have hz : ((n : Int) % 1000 == 0) = true := by rw [beq_iff_eq]; omega
          have hi := hP.out (n / 1000) (by omega)
          have hq : ((n / 1000 : Nat) : Int) = (n : Int) / 1000 := by simp
          rw [hq] at hi
          have HI := Lib.hid hi
          have hl := put_len20 (n / 1000) (by omega)
          obtain ⟨hn0, _⟩ := hd
          clear hi hq
          go_wp2_with (go_at_call 96; refine (dWorthK _).mono ?_; rintro e w' ⟨rfl, rfl⟩)
          refine (HI.out).mono ?_
          rintro e w1 ⟨s1, rfl, h1, hk1⟩
          have hct := fun W => cat_run (P := Tryz.prog) s1 (Utf8.encode 75) (by rw [← bl_len, ← bl_len (Utf8.encode 75), h1, enc75]; simp; omega) W
          have H1 := Lib.hid h1; have HK := Lib.hid hk1
          clear h1 hk1 hl
          go_wp2_with fail
          go_ret
          exact ⟨_, rfl, by rw [hr.out, bl_app, H1.out, enc75]; rfl, HK.out⟩
        · have hr := Lib.hid (hp.out.trans (putK_no n 2 (by decide) hd))
          by_cases hn0 : 0 < n
          · have hz : ((n : Int) % 1000 == 0) = false := by rw [beq_eq_false_iff_ne]; omega
            clear hd
            go_wp2_with (go_at_call 96; refine (dWorthK _).mono ?_; rintro e w' ⟨rfl, rfl⟩)
            go_round
            case rel => exact ⟨3, by omega, rfl, hr.out⟩
            case measure => simp [intOf]
          · clear hd
            go_wp2_with (go_at_call 96; refine (dWorthK _).mono ?_; rintro e w' ⟨rfl, rfl⟩)
            go_round
            case rel => exact ⟨3, by omega, rfl, hr.out⟩
            case measure => simp [intOf]
    · obtain rfl : k = 3 := by omega
      have HI := Lib.hid (hP.out n hn)
      go_wp2_with fail
      refine (HI.out).mono ?_
      rintro e w1 ⟨s1, rfl, h1, hk1⟩
      have H1 := Lib.hid h1; have HK := Lib.hid hk1
      clear h1 hk1
      go_wp2_with fail
      go_ret
      exact ⟨_, rfl, by rw [hp.out, H1.out]; rfl, HK.out⟩
end Go.Proofs.YtlaakhfgidjofaaGreatDoor

namespace Go.Proofs.YtlaakhfgidjofaaGreatDoor
set_option linter.unusedVariables false
set_option linter.unusedSimpArgs false
open Go Go.RowKit
def Ever (P : Program) (ops : Array Oper) (o : Oper) (v : Value) (a : Act) : Prop :=
  (Region.wanted o (yielded ops a.tmps) = true ∧ ∀ w, (execOp a.eval o).run P w = .ok (.value v) w ∨ ∃ f args, (execOp a.eval o).run P w = .ok (.enter f args) w ∧ Calls P f args w fun e w' => e = .returned v ∧ w = w') ∨
  (Region.wanted o (yielded ops a.tmps) = false ∧ v = undef)
variable {P : Program} {ops : Array Oper} {Q : Exit → Act → World → Prop} {md : Region.Mode}
theorem Ever.wpOp {i : Nat} {o : Oper} {v : Value} {a : Act} (hi : ops[i]? = some o) (hy : Ever P ops o v a) {K : Act → World → Prop} {w : World} (h : K (a.put o.dst v) w) : Go.wpOp P ops Q i K a w := by
  unfold Go.wpOp
  simp only [hi]
  rcases hy with ⟨hw, hv⟩ | ⟨hw, rfl⟩
  · rw [if_pos hw]
    refine .inl ?_
    unfold Oper.wp
    rcases hv w with e | ⟨f, args, e, hc⟩
    · rw [e]; exact h
    · rw [e]
      refine Calls.mono hc fun x w' hx => ?_
      obtain ⟨rfl, rfl⟩ := hx
      exact h
  · rw [if_neg (by rw [hw]; simp)]; exact h
theorem Ever.alike {o : Oper} {v : Value} {a a' : Act} (hy : Ever P ops o v a) (he : execOp a'.eval o = execOp a.eval o) (hw : Region.wanted o (yielded ops a'.tmps) = Region.wanted o (yielded ops a.tmps)) : Ever P ops o v a' := by
  unfold Ever at *; rw [he, hw]; exact hy
theorem Ever.swap {j : Nat} {oi oj : Oper} {v : Value} (hj : ops[j]? = some oj) (hap : oi.apart ops oj = true) (hsi : ∀ cs b, oi.op ≠ .select cs b) (hsj : ∀ cs b, oj.op ≠ .select cs b)
    (hQ : ∀ c a d u w, Q (.panic c) (Act.put a d u) w → Q (.panic c) a w) {K : Act → World → Prop} {a : Act} {w : World} (hy : Ever P ops oi v a) (h : Go.wpOp P ops Q j K (a.put oi.dst v) w) :
    Go.wpOp P ops Q j (fun a' w' => Ever P ops oi v a' ∧ K (a'.put oi.dst v) w') a w := by
  obtain ⟨h1, h2, h3⟩ := Oper.apart_spec hap
  have stays : ∀ (b : Act), Ever P ops oi v b → ∀ u, Ever P ops oi v (b.put oj.dst u) := fun b hb u => hb.alike (execOp_put oi hsi b oj.dst u h3) (wanted_put oi b oj.dst u h3)
  have staysD : ∀ d, Ever P ops oi v { a with defers := d :: a.defers } := fun d => hy.alike rfl rfl
  unfold Go.wpOp at *
  simp only [hj] at *
  rw [wanted_put oj a oi.dst v h1] at h
  by_cases hw : Region.wanted oj (yielded ops a.tmps) = true
  · rw [if_pos hw] at h ⊢
    rcases h with h | ⟨g1, g2⟩
    · refine .inl ?_
      unfold Oper.wp at *
      rw [execOp_put oj hsj a oi.dst v h1] at h
      generalize (execOp a.eval oj).run P w = r at *
      match r, h with
      | .ok (.value u) w', h => exact ⟨stays a hy u, by rw [← Act.put_comm a v u h2]; exact h⟩
      | .ok .skip w', h => exact ⟨stays a hy _, by rw [← Act.put_comm a v undef h2]; exact h⟩
      | .ok (.defer d) w', h => exact ⟨stays _ (staysD d) _, by rw [← Act.put_comm _ v undef h2, ← Act.put_defers]; exact h⟩
      | .ok (.row row args) w', h => exact Rows.mono h fun u w'' he => ⟨stays a hy u, by rw [← Act.put_comm a v u h2]; exact he⟩
      | .ok (.enter f args) w', h =>
        refine Calls.mono h fun e w'' he => ?_
        match e, he with
        | .returned u, he => exact ⟨stays a hy u, by rw [← Act.put_comm a v u h2]; exact he⟩
        | .panicked c, he => exact hQ _ _ _ _ _ he
        | .outgrown, he => exact he
      | .halt (.panic u) w', h => exact hQ _ _ _ _ _ h
    · exact .inr ⟨by unfold Oper.asks at *; rw [execOp_put oj hsj a oi.dst v h1] at g1; exact g1, g2⟩
  · rw [if_neg hw] at h ⊢
    exact ⟨stays a hy _, by rw [← Act.put_comm a v undef h2]; exact h⟩
theorem listed_on {listed : Array Bool} {i : Nat} (h0 : listed.getD i true = false) (h1 : listed.getD i false = true) : False := by
  rcases Nat.lt_or_ge i listed.size with h | h
  · simp [h] at h0 h1; rw [h0] at h1; cases h1
  · simp [Array.getElem?_eq_none h] at h1
theorem wpAny_ever {i : Nat} {oi : Oper} {v : Value} (hi : ops[i]? = some oi) (hsel : ∀ (j : Nat) (o : Oper) cs b, ops[j]? = some o → o.op ≠ .select cs b) (hQ : ∀ c a d u w, Q (.panic c) (Act.put a d u) w → Q (.panic c) a w) :
    ∀ (fuel : Nat) (listed : Array Bool) (a : Act) (w : World),
      (∀ j oj, ops[j]? = some oj → j ≠ i → listed.getD j true = false → (∀ e ∈ oj.after, Region.binds md e = true → e.on ≠ i) → oi.apart ops oj = true) →
      i ∈ Region.ready md ops listed → Ever P ops oi v a → wpAny P md ops Q fuel (listed.setIfInBounds i true) (a.put oi.dst v) w → wpAny P md ops Q (fuel + 1) listed a w
  | 0, listed, a, w, _, hr, hy, H => by
    refine ⟨fun h => (by rw [h] at hr; cases hr), fun j hj => ?_⟩
    by_cases hji : j = i
    · subst hji; exact hy.wpOp hi H
    · have := ready_mono hj hji
      rw [H.1] at this; cases this
  | fuel + 1, listed, a, w, hfree, hr, hy, H => by
    refine ⟨fun h => (by rw [h] at hr; cases hr), fun j hj => ?_⟩
    by_cases hji : j = i
    · subst hji; exact hy.wpOp hi H
    · have h1 := H.2 j (ready_mono hj hji)
      obtain ⟨hjun, oj, hoj, hall⟩ := mem_ready.1 hj
      have hnot : ∀ e ∈ oj.after, Region.binds md e = true → e.on ≠ i := fun e he hb heq => listed_on (mem_ready.1 hr).1 (heq ▸ hall e he hb)
      have h2 := Ever.swap hoj (hfree j oj hoj hji hjun hnot) (fun cs b => hsel i oi cs b hi) (fun cs b => hsel j oj cs b hoj) hQ hy h1
      refine wpOp_mono (fun a' w' h3 => wpAny_ever hi hsel hQ fuel (listed.setIfInBounds j true) a' w' (fun k ok hk hki hun hno => hfree k ok hk hki ?_ hno) (ready_mono hr (Ne.symm hji)) h3.1 ?_) h2
      · by_cases hjk : j = k
        · subst hjk; exact hjun
        · rwa [getD_set_ne true hjk] at hun
      · rw [Array.setIfInBounds_comm _ _ hji]; exact h3.2
def wpHeads (P : Program) (ops : Array Oper) (C : Act → Prop) : List Oper → Act → Prop
  | [], a => C a
  | o :: rest, a => ∃ v, Ever P ops o v a ∧ wpHeads P ops C rest (a.put o.dst v)
theorem wpHeads_op {C : Act → Prop} {o : Oper} {rest : List Oper} {a : Act} {v : Value} (hw : Region.wanted o (yielded ops a.tmps) = true) (h1 : ∀ W, (execOp a.eval o).run P W = .ok (.value v) W) (h2 : wpHeads P ops C rest (a.put o.dst v)) : wpHeads P ops C (o :: rest) a :=
  ⟨v, .inl ⟨hw, fun W => .inl (h1 W)⟩, h2⟩
theorem wpHeads_off {C : Act → Prop} {o : Oper} {rest : List Oper} {a : Act} (hw : Region.wanted o (yielded ops a.tmps) = false) (h2 : wpHeads P ops C rest (a.put o.dst undef)) : wpHeads P ops C (o :: rest) a :=
  ⟨undef, .inr ⟨hw, rfl⟩, h2⟩
end Go.Proofs.YtlaakhfgidjofaaGreatDoor
