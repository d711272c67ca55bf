/- The law DigitsReads, walked. -/
import Derived.Test.YtmgbkffpjlbhmaaDigL
namespace Go.Proofs.Ytmgbkffpjlbhmaa
set_option linter.unusedVariables false
set_option linter.unusedSimpArgs false
open Go.RowKit Go.Shelf

set_option maxHeartbeats 2000000 in
theorem reads03 (s : ByteArray) (w : World) (hm : s.size ≤ 9223372036854775807) : Calls Try.prog 3 #[.string s] w fun e w' => e = .returned (.bool true) ∧ Kp none' w w' := by
  have HL := Lib.hid dLives
  by_cases h : 1000 < s.size
  · go_enter Try.func3, Try.ntmps3
    go_wp2_with fail
    refine (HL.out w).mono ?_
    rintro e w1 ⟨rfl, hk⟩
    have HK := Lib.hid hk; clear hk
    go_wp2_with fail
    go_ret
    exact ⟨rfl, HK.out⟩
  · have h1 := fun W => dRead s W (by omega)
    have h2 := fun W => rRead s W (by omega)
    have h3 := fun W => dReadUnit s W (by omega)
    have h4 := fun W => rReadUnit s W (by omega)
    obtain ⟨⟨a, b⟩, hab⟩ : ∃ ab, rd (bl s) = ab := ⟨_, rfl⟩
    obtain ⟨⟨c, d⟩, hcd⟩ : ∃ ab, rdU (bl s) = ab := ⟨_, rfl⟩
    simp only [hab] at h1 h2
    simp only [hcd] at h3 h4
    have H1 := Lib.hid h1; have H2 := Lib.hid h2; have H3 := Lib.hid h3; have H4 := Lib.hid h4
    clear h1 h2 h3 h4 hab hcd
    have e1 : ((a : Int) == a) = true := by simp
    have e2 : (b == b) = true := by simp
    have e3 : ((c : Int) == c) = true := by simp
    have e4 : (d == d) = true := by simp
    go_enter Try.func3, Try.ntmps3
    go_wp2_with fail
    refine (H1.out _).mono ?_
    rintro e w1 ⟨rfl, rfl⟩
    go_wp2_with fail
    refine (H2.out _).mono ?_
    rintro e w1 ⟨rfl, rfl⟩
    go_wp2_with fail
    refine (H3.out _).mono ?_
    rintro e w1 ⟨rfl, n, rfl⟩
    go_wp2_with fail
    refine (H4.out _).mono ?_
    rintro e w1 ⟨rfl, rfl⟩
    go_wp2_with fail
    refine (HL.out _).mono ?_
    rintro e w1 ⟨rfl, hk⟩
    have HK := Lib.hid (((Kp.refl none' w).drewN n).trans hk); clear hk
    go_wp2_with fail
    go_ret
    exact ⟨rfl, HK.out⟩
end Go.Proofs.Ytmgbkffpjlbhmaa
