/- Walks of layer 3: numbers with units put. -/
import Derived.Test.YtkkgpaabbgdfmaaDoorDigY
import Derived.Test.YtkkgpaabbgdfmaaDoorDigX
namespace Go.Proofs.YtkkgpaabbgdfmaaDoor
set_option linter.unusedVariables false
set_option linter.unusedSimpArgs false
open Go.RowKit Go.Shelf

def putK (n : Nat) : Nat → List UInt8
  | 0 => putU n
  | 1 => if 0 < n ∧ n % 1000000 = 0 then put (n / 1000000) ++ [77] else if 0 < n ∧ n % 1000 = 0 then put (n / 1000) ++ [75] else put n
  | 2 => if 0 < n ∧ n % 1000 = 0 then put (n / 1000) ++ [75] else put n
  | _ => put n
def unitW : Nat → Nat | 0 => 1000000000 | 1 => 1000000 | _ => 1000
def unitC : Nat → UInt8 | 0 => 71 | 1 => 77 | _ => 75
theorem putK_yes (n k : Nat) (hk : k < 3) (h : 0 < n ∧ n % unitW k = 0) : putK n k = put (n / unitW k) ++ [unitC k] := by
  match k, hk with
  | 0, _ => exact if_pos h
  | 1, _ => exact if_pos h
  | 2, _ => exact if_pos h
theorem putK_no (n k : Nat) (hk : k < 3) (h : ¬ (0 < n ∧ n % unitW k = 0)) : putK n k = putK n (k + 1) := by
  match k, hk with
  | 0, _ => exact if_neg h
  | 1, _ => exact if_neg h
  | 2, _ => exact if_neg h
theorem dWorthG (w : World) : Calls Tryd.prog 38 #[.int .u8 71] w fun e w' => e = .returned (.int .u64 1000000000) ∧ w = w' := dWorth 71 (by decide) w
theorem dWorthM (w : World) : Calls Tryd.prog 38 #[.int .u8 77] w fun e w' => e = .returned (.int .u64 1000000) ∧ w = w' := dWorth 77 (by decide) w
theorem dWorthK (w : World) : Calls Tryd.prog 38 #[.int .u8 75] w fun e w' => e = .returned (.int .u64 1000) ∧ w = w' := dWorth 75 (by decide) w
theorem rUnitG (w : World) : Calls Tryd.prog 41 #[.int .u8 71] w fun e w' => e = .returned (.int .u64 1000000000) ∧ w = w' := rUnit 71 (by decide) w
theorem rUnitM (w : World) : Calls Tryd.prog 41 #[.int .u8 77] w fun e w' => e = .returned (.int .u64 1000000) ∧ w = w' := rUnit 77 (by decide) w
theorem rUnitK (w : World) : Calls Tryd.prog 41 #[.int .u8 75] w fun e w' => e = .returned (.int .u64 1000) ∧ w = w' := rUnit 75 (by decide) w
theorem enc71 : bl (Utf8.encode 71) = [71] := by decide +kernel
theorem enc77 : bl (Utf8.encode 77) = [77] := by decide +kernel
theorem enc75 : bl (Utf8.encode 75) = [75] := by decide +kernel
theorem ix0 (w : World) : (Instr.index 79 (.agg #[.int .u8 71, .int .u8 77, .int .u8 75]) (.int .i64 0)).run Tryd.prog w = .ok (.int .u8 71) w := by kernel_rfl
theorem ix1 (w : World) : (Instr.index 79 (.agg #[.int .u8 71, .int .u8 77, .int .u8 75]) (.int .i64 1)).run Tryd.prog w = .ok (.int .u8 77) w := by kernel_rfl
theorem ix2 (w : World) : (Instr.index 79 (.agg #[.int .u8 71, .int .u8 77, .int .u8 75]) (.int .i64 2)).run Tryd.prog w = .ok (.int .u8 75) w := by kernel_rfl

set_option maxHeartbeats 2000000 in
theorem dPutUnit (n : Nat) (hn : n ≤ 18446744073709551615) (w : World) : Calls Tryd.prog 19 #[.int .u64 n] w fun e w' => ∃ s, e = .returned (.string s) ∧ bl s = putU n ∧ Kp none' w w' := by
  have i0 := ix0; have i1 := ix1; have i2 := ix2
  have hP := Lib.hid (fun (m : Nat) (hm : m ≤ 18446744073709551615) => dPut m hm w)
  go_enter Tryd.func19, Tryd.ntmps19
  go_wp2
  go_loop [7] (fun i => ∃ k : Nat, k ≤ 3 ∧ i = .int .i64 k ∧ Hid (putU n = putK n k)) (fun i => 3 - (intOf i).toNat)
  case atStart => exact ⟨0, by omega, rfl, rfl⟩
  case round =>
    obtain ⟨k, hk, rfl, hp⟩ := hrel
    by_cases hk3 : k < 3
    · have hc : k = 0 ∨ k = 1 ∨ k = 2 := by omega
      rcases hc with rfl | rfl | rfl
      · by_cases hd : 0 < n ∧ n % 1000000000 = 0
        · have hr := Lib.hid (hp.out.trans (putK_yes n 0 (by decide) hd))
          have hz : ((n : Int) % 1000000000 == 0) = true := by rw [beq_iff_eq]; omega
          have hi := hP.out (n / 1000000000) (by omega)
          have hq : ((n / 1000000000 : Nat) : Int) = (n : Int) / 1000000000 := by simp
          rw [hq] at hi
          have HI := Lib.hid hi
          have hl := put_len20 (n / 1000000000) (by omega)
          obtain ⟨hn0, _⟩ := hd
          clear hi hq
          go_wp2_with (go_at_call 38; refine (dWorthG _).mono ?_; rintro e w' ⟨rfl, rfl⟩)
          refine (HI.out).mono ?_
          rintro e w1 ⟨s1, rfl, h1, hk1⟩
          have hct := fun W => cat_run (P := Tryd.prog) s1 (Utf8.encode 71) (by rw [← bl_len, ← bl_len (Utf8.encode 71), h1, enc71]; simp; omega) W
          have H1 := Lib.hid h1; have HK := Lib.hid hk1
          clear h1 hk1 hl
          go_wp2_with fail
          go_ret
          exact ⟨_, rfl, by rw [hr.out, bl_app, H1.out, enc71]; rfl, HK.out⟩
        · have hr := Lib.hid (hp.out.trans (putK_no n 0 (by decide) hd))
          by_cases hn0 : 0 < n
          · have hz : ((n : Int) % 1000000000 == 0) = false := by rw [beq_eq_false_iff_ne]; omega
            clear hd
            go_wp2_with (go_at_call 38; refine (dWorthG _).mono ?_; rintro e w' ⟨rfl, rfl⟩)
            go_round
            case rel => exact ⟨1, by omega, rfl, hr.out⟩
            case measure => simp [intOf]
          · clear hd
            go_wp2_with (go_at_call 38; refine (dWorthG _).mono ?_; rintro e w' ⟨rfl, rfl⟩)
            go_round
            case rel => exact ⟨1, by omega, rfl, hr.out⟩
            case measure => simp [intOf]
      · by_cases hd : 0 < n ∧ n % 1000000 = 0
        · have hr := Lib.hid (hp.out.trans (putK_yes n 1 (by decide) hd))
          have hz : ((n : Int) % 1000000 == 0) = true := by rw [beq_iff_eq]; omega
          have hi := hP.out (n / 1000000) (by omega)
          have hq : ((n / 1000000 : Nat) : Int) = (n : Int) / 1000000 := by simp
          rw [hq] at hi
          have HI := Lib.hid hi
          have hl := put_len20 (n / 1000000) (by omega)
          obtain ⟨hn0, _⟩ := hd
          clear hi hq
          go_wp2_with (go_at_call 38; refine (dWorthM _).mono ?_; rintro e w' ⟨rfl, rfl⟩)
          refine (HI.out).mono ?_
          rintro e w1 ⟨s1, rfl, h1, hk1⟩
          have hct := fun W => cat_run (P := Tryd.prog) s1 (Utf8.encode 77) (by rw [← bl_len, ← bl_len (Utf8.encode 77), h1, enc77]; simp; omega) W
          have H1 := Lib.hid h1; have HK := Lib.hid hk1
          clear h1 hk1 hl
          go_wp2_with fail
          go_ret
          exact ⟨_, rfl, by rw [hr.out, bl_app, H1.out, enc77]; rfl, HK.out⟩
        · have hr := Lib.hid (hp.out.trans (putK_no n 1 (by decide) hd))
          by_cases hn0 : 0 < n
          · have hz : ((n : Int) % 1000000 == 0) = false := by rw [beq_eq_false_iff_ne]; omega
            clear hd
            go_wp2_with (go_at_call 38; refine (dWorthM _).mono ?_; rintro e w' ⟨rfl, rfl⟩)
            go_round
            case rel => exact ⟨2, by omega, rfl, hr.out⟩
            case measure => simp [intOf]
          · clear hd
            go_wp2_with (go_at_call 38; refine (dWorthM _).mono ?_; rintro e w' ⟨rfl, rfl⟩)
            go_round
            case rel => exact ⟨2, by omega, rfl, hr.out⟩
            case measure => simp [intOf]
      · by_cases hd : 0 < n ∧ n % 1000 = 0
        · have hr := Lib.hid (hp.out.trans (putK_yes n 2 (by decide) hd))
          have hz : ((n : Int) % 1000 == 0) = true := by rw [beq_iff_eq]; omega
          have hi := hP.out (n / 1000) (by omega)
          have hq : ((n / 1000 : Nat) : Int) = (n : Int) / 1000 := by simp
          rw [hq] at hi
          have HI := Lib.hid hi
          have hl := put_len20 (n / 1000) (by omega)
          obtain ⟨hn0, _⟩ := hd
          clear hi hq
          go_wp2_with (go_at_call 38; refine (dWorthK _).mono ?_; rintro e w' ⟨rfl, rfl⟩)
          refine (HI.out).mono ?_
          rintro e w1 ⟨s1, rfl, h1, hk1⟩
          have hct := fun W => cat_run (P := Tryd.prog) s1 (Utf8.encode 75) (by rw [← bl_len, ← bl_len (Utf8.encode 75), h1, enc75]; simp; omega) W
          have H1 := Lib.hid h1; have HK := Lib.hid hk1
          clear h1 hk1 hl
          go_wp2_with fail
          go_ret
          exact ⟨_, rfl, by rw [hr.out, bl_app, H1.out, enc75]; rfl, HK.out⟩
        · have hr := Lib.hid (hp.out.trans (putK_no n 2 (by decide) hd))
          by_cases hn0 : 0 < n
          · have hz : ((n : Int) % 1000 == 0) = false := by rw [beq_eq_false_iff_ne]; omega
            clear hd
            go_wp2_with (go_at_call 38; refine (dWorthK _).mono ?_; rintro e w' ⟨rfl, rfl⟩)
            go_round
            case rel => exact ⟨3, by omega, rfl, hr.out⟩
            case measure => simp [intOf]
          · clear hd
            go_wp2_with (go_at_call 38; refine (dWorthK _).mono ?_; rintro e w' ⟨rfl, rfl⟩)
            go_round
            case rel => exact ⟨3, by omega, rfl, hr.out⟩
            case measure => simp [intOf]
    · obtain rfl : k = 3 := by omega
      have HI := Lib.hid (hP.out n hn)
      go_wp2_with fail
      refine (HI.out).mono ?_
      rintro e w1 ⟨s1, rfl, h1, hk1⟩
      have H1 := Lib.hid h1; have HK := Lib.hid hk1
      clear h1 hk1
      go_wp2_with fail
      go_ret
      exact ⟨_, rfl, by rw [hp.out, H1.out]; rfl, HK.out⟩

theorem gmk0 : bl ((⟨#[71, 77, 75]⟩ : ByteArray).extract 0 1) = [71] := by rw [bl_cut]; rfl
theorem gmk1 : bl ((⟨#[71, 77, 75]⟩ : ByteArray).extract 1 2) = [77] := by rw [bl_cut]; rfl
theorem gmk2 : bl ((⟨#[71, 77, 75]⟩ : ByteArray).extract 2 3) = [75] := by rw [bl_cut]; rfl
theorem rPutAny (n : Nat) (hn : n ≤ 18446744073709551615) (w : World) : Calls Tryd.prog 42 #[.int .u64 n] w fun e w' => e = .returned (.string (tx (put n))) ∧ ∃ d, w' = w.drewN d := rPut 19 n w (by omega) hn
set_option maxHeartbeats 4000000 in
theorem rPutUnit (n : Nat) (hn : n ≤ 18446744073709551615) (w : World) : Calls Tryd.prog 27 #[.int .u64 n] w fun e w' => e = .returned (.string (tx (putU n))) ∧ ∃ d, w' = w.drewN d := by
  have hP := Lib.hid (fun (m : Nat) (hm : m ≤ 18446744073709551615) (W : World) => rPutAny m hm W)
  go_enter Tryd.func27, Tryd.ntmps27
  go_wp2
  go_loop [4] (fun i => ∃ k : Nat, k ≤ 3 ∧ i = .int .i64 k ∧ Hid (putU n = putK n k)) (fun i => 3 - (intOf i).toNat)
  case atStart => exact ⟨0, by omega, rfl, rfl⟩
  case round =>
    obtain ⟨k, hk, rfl, hp⟩ := hrel
    by_cases hk3 : k < 3
    · have hc : k = 0 ∨ k = 1 ∨ k = 2 := by omega
      rcases hc with rfl | rfl | rfl
      · by_cases hd : 0 < n ∧ n % 1000000000 = 0
        · have hr := Lib.hid (hp.out.trans (putK_yes n 0 (by decide) hd))
          have hz : ((n : Int) % 1000000000 == 0) = true := by rw [beq_iff_eq]; omega
          have hi := hP.out (n / 1000000000) (by omega)
          have hq : ((n / 1000000000 : Nat) : Int) = (n : Int) / 1000000000 := by simp
          simp only [hq] at hi
          have HI := Lib.hid hi
          have hl := put_len20 (n / 1000000000) (by omega)
          have hw4 : IntKind.u64.wrap ((n : Int) / 1000000000) = (n : Int) / 1000000000 := by rw [IntKind.wrap_u64]; omega
          have hct := fun W => cat_run (P := Tryd.prog) (tx (put (n / 1000000000))) ((⟨#[71, 77, 75]⟩ : ByteArray).extract 0 1) (by rw [tx_size, ← bl_len ((⟨#[71, 77, 75]⟩ : ByteArray).extract 0 1), gmk0]; simp; omega) W
          obtain ⟨hn0, _⟩ := hd
          clear hi hq hl
          go_wp2_with (go_at_call 41; refine (rUnitG _).mono ?_; rintro e w' ⟨rfl, rfl⟩)
          go_quiet (first | (go_at_call 41; exact quiet0 (rUnitG _)) | (go_at_call 42; exact quiet1 (HI.out _)))
          go_wp2
          go_ret
          exact ⟨ret_str (by rw [hr.out, bl_app, bl_tx, gmk0]; rfl), _, rfl⟩
        · have hr := Lib.hid (hp.out.trans (putK_no n 0 (by decide) hd))
          by_cases hn0 : 0 < n
          · have hz : ((n : Int) % 1000000000 == 0) = false := by rw [beq_eq_false_iff_ne]; omega
            clear hd
            go_wp2_with (go_at_call 41; refine (rUnitG _).mono ?_; rintro e w' ⟨rfl, rfl⟩)
            go_round
            case rel => exact ⟨1, by omega, rfl, hr.out⟩
            case measure => simp [intOf]
          · clear hd
            go_wp2_with (go_at_call 41; refine (rUnitG _).mono ?_; rintro e w' ⟨rfl, rfl⟩)
            go_round
            case rel => exact ⟨1, by omega, rfl, hr.out⟩
            case measure => simp [intOf]
      · by_cases hd : 0 < n ∧ n % 1000000 = 0
        · have hr := Lib.hid (hp.out.trans (putK_yes n 1 (by decide) hd))
          have hz : ((n : Int) % 1000000 == 0) = true := by rw [beq_iff_eq]; omega
          have hi := hP.out (n / 1000000) (by omega)
          have hq : ((n / 1000000 : Nat) : Int) = (n : Int) / 1000000 := by simp
          simp only [hq] at hi
          have HI := Lib.hid hi
          have hl := put_len20 (n / 1000000) (by omega)
          have hw4 : IntKind.u64.wrap ((n : Int) / 1000000) = (n : Int) / 1000000 := by rw [IntKind.wrap_u64]; omega
          have hct := fun W => cat_run (P := Tryd.prog) (tx (put (n / 1000000))) ((⟨#[71, 77, 75]⟩ : ByteArray).extract 1 2) (by rw [tx_size, ← bl_len ((⟨#[71, 77, 75]⟩ : ByteArray).extract 1 2), gmk1]; simp; omega) W
          obtain ⟨hn0, _⟩ := hd
          clear hi hq hl
          go_wp2_with (go_at_call 41; refine (rUnitM _).mono ?_; rintro e w' ⟨rfl, rfl⟩)
          go_quiet (first | (go_at_call 41; exact quiet0 (rUnitM _)) | (go_at_call 42; exact quiet1 (HI.out _)))
          go_wp2
          go_ret
          exact ⟨ret_str (by rw [hr.out, bl_app, bl_tx, gmk1]; rfl), _, rfl⟩
        · have hr := Lib.hid (hp.out.trans (putK_no n 1 (by decide) hd))
          by_cases hn0 : 0 < n
          · have hz : ((n : Int) % 1000000 == 0) = false := by rw [beq_eq_false_iff_ne]; omega
            clear hd
            go_wp2_with (go_at_call 41; refine (rUnitM _).mono ?_; rintro e w' ⟨rfl, rfl⟩)
            go_round
            case rel => exact ⟨2, by omega, rfl, hr.out⟩
            case measure => simp [intOf]
          · clear hd
            go_wp2_with (go_at_call 41; refine (rUnitM _).mono ?_; rintro e w' ⟨rfl, rfl⟩)
            go_round
            case rel => exact ⟨2, by omega, rfl, hr.out⟩
            case measure => simp [intOf]
      · by_cases hd : 0 < n ∧ n % 1000 = 0
        · have hr := Lib.hid (hp.out.trans (putK_yes n 2 (by decide) hd))
          have hz : ((n : Int) % 1000 == 0) = true := by rw [beq_iff_eq]; omega
          have hi := hP.out (n / 1000) (by omega)
          have hq : ((n / 1000 : Nat) : Int) = (n : Int) / 1000 := by simp
          simp only [hq] at hi
          have HI := Lib.hid hi
          have hl := put_len20 (n / 1000) (by omega)
          have hw4 : IntKind.u64.wrap ((n : Int) / 1000) = (n : Int) / 1000 := by rw [IntKind.wrap_u64]; omega
          have hct := fun W => cat_run (P := Tryd.prog) (tx (put (n / 1000))) ((⟨#[71, 77, 75]⟩ : ByteArray).extract 2 3) (by rw [tx_size, ← bl_len ((⟨#[71, 77, 75]⟩ : ByteArray).extract 2 3), gmk2]; simp; omega) W
          obtain ⟨hn0, _⟩ := hd
          clear hi hq hl
          go_wp2_with (go_at_call 41; refine (rUnitK _).mono ?_; rintro e w' ⟨rfl, rfl⟩)
          go_quiet (first | (go_at_call 41; exact quiet0 (rUnitK _)) | (go_at_call 42; exact quiet1 (HI.out _)))
          go_wp2
          go_ret
          exact ⟨ret_str (by rw [hr.out, bl_app, bl_tx, gmk2]; rfl), _, rfl⟩
        · have hr := Lib.hid (hp.out.trans (putK_no n 2 (by decide) hd))
          by_cases hn0 : 0 < n
          · have hz : ((n : Int) % 1000 == 0) = false := by rw [beq_eq_false_iff_ne]; omega
            clear hd
            go_wp2_with (go_at_call 41; refine (rUnitK _).mono ?_; rintro e w' ⟨rfl, rfl⟩)
            go_round
            case rel => exact ⟨3, by omega, rfl, hr.out⟩
            case measure => simp [intOf]
          · clear hd
            go_wp2_with (go_at_call 41; refine (rUnitK _).mono ?_; rintro e w' ⟨rfl, rfl⟩)
            go_round
            case rel => exact ⟨3, by omega, rfl, hr.out⟩
            case measure => simp [intOf]
    · obtain rfl : k = 3 := by omega
      have HI := Lib.hid (hP.out n hn)
      go_wp2_with fail
      refine (HI.out _).mono ?_
      rintro e w1 ⟨rfl, d, rfl⟩
      go_wp2_with fail
      go_ret
      exact ⟨ret_str (by rw [bl_tx, hp.out]; rfl), d, rfl⟩
end Go.Proofs.YtkkgpaabbgdfmaaDoor
