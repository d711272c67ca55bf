/- The law DigitsBack, walked. -/
import Derived.Test.YtmgbkffpjlbhmaaDigL
namespace Go.Proofs.Ytmgbkffpjlbhmaa
set_option linter.unusedVariables false
set_option linter.unusedSimpArgs false
open Go.RowKit Go.Shelf

theorem put_len30 (n : Nat) (h : n ≤ 18446744073709551615) : (put n).length ≤ 30 := by have := put_len20 n h; omega
theorem putU_len (n : Nat) (h : n ≤ 18446744073709551615) : (putU n).length ≤ 30 := by
  unfold putU
  have h1 := put_len20 (n / 1000000000) (by omega)
  have h2 := put_len20 (n / 1000000) (by omega)
  have h3 := put_len20 (n / 1000) (by omega)
  have h4 := put_len20 n h
  split
  · simp; omega
  · split
    · simp; omega
    · split
      · simp; omega
      · omega

set_option maxHeartbeats 4000000 in
theorem back03 (n : Nat) (s : ByteArray) (w : World) (hn : n ≤ 18446744073709551615) (hm : s.size ≤ 9223372036854775807) : Calls Try.prog 4 #[.int .u64 n, .string s] w fun e w' => e = .returned (.bool true) ∧ Kp none' w w' := by
  have HL := Lib.hid dLives
  by_cases h : 1000 < s.size
  · go_enter Try.func4, Try.ntmps4
    go_wp2_with fail
    refine (HL.out w).mono ?_
    rintro e w1 ⟨rfl, hk⟩
    have HK := Lib.hid hk; clear hk
    go_wp2_with fail
    go_ret
    exact ⟨rfl, HK.out⟩
  · have hP := Lib.hid (fun W => dPut n hn W)
    have hPU := Lib.hid (fun W => dPutUnit n hn W)
    have hrP := Lib.hid (fun W => rPutAny n hn W)
    have hrPU := Lib.hid (fun W => rPutUnit n hn W)
    have hRS := fun W => dRead s W (by omega)
    have hlt := rd_lt (bl s)
    have hpo := put_of_rd (bl s)
    obtain ⟨⟨m, g⟩, hmg⟩ : ∃ ab, rd (bl s) = ab := ⟨_, rfl⟩
    simp only [hmg] at hRS hlt hpo
    have HRS := Lib.hid hRS; have HPO := Lib.hid hpo
    clear hRS hpo hmg
    have e1 : ((n : Int) != n) = false := by simp
    go_enter Try.func4, Try.ntmps4
    go_wp2_with fail
    refine (hP.out w).mono ?_
    rintro e w1 ⟨s1, rfl, h1, hk1⟩
    have hr1 := fun W => dRead s1 W (by have := put_len30 n hn; rw [← h1, bl_len] at this; omega)
    rw [h1, rd_put n (by unfold M64; omega)] at hr1
    have HR1 := Lib.hid hr1; have HK1 := Lib.hid hk1
    clear hr1 hk1 h1
    go_wp2_with fail
    refine (HR1.out _).mono ?_
    rintro e w2 ⟨rfl, rfl⟩
    go_wp2_with fail
    refine (hPU.out _).mono ?_
    rintro e w2 ⟨s2, rfl, h2, hk2⟩
    have hr2 := fun W => dReadUnit s2 W (by have := putU_len n hn; rw [← h2, bl_len] at this; omega)
    rw [h2, rdU_putU n (by unfold M64; omega)] at hr2
    have HR2 := Lib.hid hr2; have HK2 := Lib.hid (HK1.out.trans hk2)
    clear hr2 hk2 h2
    go_wp2_with fail
    refine (HR2.out _).mono ?_
    rintro e w3 ⟨rfl, d, rfl⟩
    have HK3 := Lib.hid (HK2.out.drewN d)
    go_wp2_with fail
    refine (hP.out _).mono ?_
    rintro e w4 ⟨s4, rfl, h4, hk4⟩
    have HK4 := Lib.hid (HK3.out.trans hk4); have H4 := Lib.hid h4
    clear hk4 h4
    go_wp2_with fail
    refine (hrP.out _).mono ?_
    rintro e w5 ⟨rfl, d2, rfl⟩
    have HK5 := Lib.hid (HK4.out.drewN d2)
    have q1 : (s4.toList == (tx (put n)).toList) = true := str_beq (str_ext (by rw [H4.out, bl_tx]))
    go_wp2_with fail
    refine (hPU.out _).mono ?_
    rintro e w6 ⟨s6, rfl, h6, hk6⟩
    have HK6 := Lib.hid (HK5.out.trans hk6); have H6 := Lib.hid h6
    clear hk6 h6
    go_wp2_with fail
    refine (hrPU.out _).mono ?_
    rintro e w7 ⟨rfl, d3, rfl⟩
    have HK7 := Lib.hid (HK6.out.drewN d3)
    have q2 : (s6.toList == (tx (putU n)).toList) = true := str_beq (str_ext (by rw [H6.out, bl_tx]))
    go_wp2_with fail
    refine (HRS.out _).mono ?_
    rintro e w8 ⟨rfl, rfl⟩
    by_cases hg : g = 0
    · have hgb : (g != 0) = false := by simp [hg]
      have HPT := Lib.hid (HPO.out hg)
      clear hg
      go_wp2_with fail
      refine (dPut m hlt _).mono ?_
      rintro e w9 ⟨s9, rfl, h9, hk9⟩
      have HK9 := Lib.hid (HK7.out.trans hk9)
      have q3 : (s9.toList == s.toList) = true := str_beq (str_ext (by rw [h9]; exact HPT.out))
      clear hk9 h9
      go_wp2_with fail
      refine (HL.out _).mono ?_
      rintro e w10 ⟨rfl, hk⟩
      have HK := Lib.hid (HK9.out.trans hk); clear hk
      go_wp2_with fail
      go_ret
      exact ⟨rfl, HK.out⟩
    · have hgb : (g != 0) = true := by simpa using hg
      clear hg
      go_wp2_with fail
      refine (HL.out _).mono ?_
      rintro e w10 ⟨rfl, hk⟩
      have HK := Lib.hid (HK7.out.trans hk); clear hk
      go_wp2_with fail
      go_ret
      exact ⟨rfl, HK.out⟩
end Go.Proofs.Ytmgbkffpjlbhmaa
