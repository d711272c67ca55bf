/- Walks of layer 38: a bucket's numbers. -/
import Derived.Test.YtkhipbpjknfloaaHistX
namespace Go.Proofs.Ytkhipbpjknfloaa
set_option linter.unusedVariables false
set_option linter.unusedSimpArgs false
open Go.RowKit
theorem bk_topv (f : Nat) (hf : f ≤ 8) : bk f 18446744073709551615 + 1 = (65 - f) * pw f := by
  have := bk_top f (by omega)
  rw [pw64] at this
  exact this
theorem lo_bnd {f b : Nat} (hf : f ≤ 8) (hb : b ≤ bk f 18446744073709551615) : lo f b < 18446744073709551616 ∧ lo f (b + 1) ≤ 18446744073709551616 ∧ lo f b < lo f (b + 1) := by
  have h1 := bk_topv f hf
  have h2 := lo_mono f (show b + 1 ≤ (65 - f) * pw f by omega)
  rw [lo_top f (by omega), pw64] at h2
  have h3 := lo_next f b
  have h4 : 0 < wd f b := by unfold wd; split; omega; exact pw_pos _
  omega
theorem more_le {f b : Nat} (hf : f ≤ 8) (hb : b ≤ bk f 18446744073709551615) : b / pw f - 1 ≤ 63 := by
  have h1 := bk_topv f hf
  have h2 : b / pw f < 65 - f := (Nat.div_lt_iff_lt_mul (pw_pos f)).2 (by omega)
  omega
theorem top_le {f : Nat} (hf : f ≤ 8) : bk f 18446744073709551615 ≤ 20000 := by
  have h1 := bk_topv f hf
  have h2 : (65 - f) * pw f ≤ 65 * 256 := Nat.mul_le_mul (by omega) (pw_fine hf)
  omega
/-- What Range says of a bucket. -/
def rgN (f : Nat) (b : Int) : Value := if b < 0 ∨ (bk f 18446744073709551615 : Nat) < b then .tuple #[.int .u64 0, .int .u64 0, .bool false] else .tuple #[.int .u64 (lo f b.toNat : Nat), .int .u64 ((lo f (b.toNat + 1) : Nat) - 1), .bool true]
set_option maxRecDepth 100000 in
set_option maxHeartbeats 4000000 in
theorem hRange (hb f mb : Nat) (b : Int) (hf : f ≤ 8) (w : World) (H : HTop w hb f mb) : Calls Try.prog 18 #[.pointer (some ⟨hb, 0, none⟩), .int .i64 b] w fun e w' => e = .returned (rgN f b) ∧ Kp none' w w' := by
  have hp := pw_pos f
  have hpf := pw_fine hf
  have c0 := H.top.cell 0 rfl
  have HB := Lib.hid (hBucket hb f mb 18446744073709551615 hf (by omega) w H)
  have hpi := pw_int f
  have htl := top_le hf
  by_cases h0 : b < 0
  · have hr : Hid (rgN f b = .tuple #[.int .u64 0, .int .u64 0, .bool false]) := if_pos (.inl h0)
    clear H
    go_enter Try.func18, Try.ntmps18
    go_wp2
    go_ret3
    exact ⟨congrArg Ending.returned hr.out.symm, Kp.refl _ _⟩
  · obtain ⟨c, rfl⟩ : ∃ c : Nat, b = c := ⟨b.toNat, by omega⟩
    have h0d : decide ((c : Int) < 0) = false := by simp
    by_cases h1 : bk f 18446744073709551615 < c
    · have hr : Hid (rgN f (c : Int) = .tuple #[.int .u64 0, .int .u64 0, .bool false]) := if_pos (.inr (by omega))
      have h1i : ((bk f 18446744073709551615 : Nat) : Int) < (c : Int) := by omega
      clear H
      go_enter Try.func18, Try.ntmps18
      go_wp2_with fail
      refine HB.out.mono ?_
      rintro e w1 ⟨rfl, k1⟩
      have K1 := Lib.hid k1
      clear k1
      go_wp2
      go_ret3
      exact ⟨congrArg Ending.returned hr.out.symm, K1.out⟩
    · have h1i : ¬ ((bk f 18446744073709551615 : Nat) : Int) < (c : Int) := by omega
      have hr : Hid (rgN f (c : Int) = .tuple #[.int .u64 (lo f c : Nat), .int .u64 ((lo f (c + 1) : Nat) - 1), .bool true]) := by
        show _ = _; unfold rgN; rw [if_neg (by omega)]; rfl
      obtain ⟨l1, l2, l3⟩ := lo_bnd (f := f) (b := c) hf (by omega)
      by_cases hlt : c < pw f
      · have e1 : lo f c = c := if_pos hlt
        have e2 : lo f (c + 1) = c + 1 := by rw [lo_next, e1]; unfold wd; rw [if_pos hlt]
        have hlti : (c : Int) < (pw f : Nat) := by omega
        have hr2 : Hid (rgN f (c : Int) = .tuple #[.int .u64 c, .int .u64 c, .bool true]) := by
          show _ = _; rw [hr.out, e1, e2]; simp
        clear H hr e1 e2 l1 l2 l3
        go_enter Try.func18, Try.ntmps18
        go_wp2_with fail
        refine HB.out.mono ?_
        rintro e w1 ⟨rfl, k1⟩
        have K1 := Lib.hid k1
        have d0 := k1.cell c0 (fun x => x)
        clear k1
        go_wp2
        go_ret3
        exact ⟨congrArg Ending.returned hr2.out.symm, K1.out⟩
      · have hlti : ¬ (c : Int) < (pw f : Nat) := by omega
        obtain ⟨r1, r2, r3, r4⟩ := row_of (f := f) (b := c) (by omega)
        have hm63 := more_le (f := f) (b := c) hf (by omega)
        have e1 : lo f c = (c - (c / pw f - 1) * pw f) * pw (c / pw f - 1) := if_neg hlt
        have e2 := lo_next f c
        rw [show wd f c = pw (c / pw f - 1) from if_neg hlt] at e2
        have hmi : (c : Int) / (pw f : Nat) - 1 = ((c / pw f - 1 : Nat) : Int) := by
          have : ((c / pw f : Nat) : Int) = (c : Int) / (pw f : Nat) := by simp
          omega
        generalize c / pw f - 1 = m at *
        have hpm := pw_int m
        have hpp := pw_pos m
        have e3 : (((c - m * pw f) * pw m : Nat) : Int) = ((c : Int) - (m : Int) * (pw f : Nat)) * (pw m : Nat) := by
          rw [Int.natCast_mul, Int.natCast_sub (by omega), Int.natCast_mul]
        have e4 : ((m * pw f : Nat) : Int) = (m : Int) * (pw f : Nat) := by rw [Int.natCast_mul]
        have b1 : ((c : Int) - (m : Int) * (pw f : Nat)) * (pw m : Nat) < 18446744073709551616 := by omega
        have b2 : 0 ≤ ((c : Int) - (m : Int) * (pw f : Nat)) * (pw m : Nat) := by omega
        have b3 : (m : Int) * (pw f : Nat) ≤ c := by omega
        have b4 : 0 ≤ (m : Int) * (pw f : Nat) := by omega
        have b5 : ((c : Int) - (m : Int) * (pw f : Nat)) * (pw m : Nat) + ((pw m : Nat) - 1) < 18446744073709551616 := by omega
        have b6 : ((pw m : Nat) : Int) < 18446744073709551616 := by
          have h7 := pw_le hm63
          have h8 : pw 63 = 9223372036854775808 := by decide
          omega
        have hr2 : Hid (rgN f (c : Int) = .tuple #[.int .u64 (((c : Int) - (m : Int) * (pw f : Nat)) * (pw m : Nat)), .int .u64 (((c : Int) - (m : Int) * (pw f : Nat)) * (pw m : Nat) + ((pw m : Nat) - 1)), .bool true]) := by
          
          have e5 : ((lo f (c + 1) : Nat) : Int) - 1 = ((c : Int) - (m : Int) * (pw f : Nat)) * (pw m : Nat) + ((pw m : Nat) - 1) := by rw [e2, e1, Int.natCast_add, e3]; omega
          have e6 : ((lo f c : Nat) : Int) = ((c : Int) - (m : Int) * (pw f : Nat)) * (pw m : Nat) := by rw [e1, e3]
          show _ = _
          rw [hr.out, e5, e6]
        clear H hr e1 e2 e3 e4 l1 l2 l3 r1 r2 r3 r4
        go_enter Try.func18, Try.ntmps18
        go_wp2_with fail
        refine HB.out.mono ?_
        rintro e w1 ⟨rfl, k1⟩
        have K1 := Lib.hid k1
        have d0 := k1.cell c0 (fun x => x)
        clear k1 c0
        go_wp2_with fail
        go_quiet (fail)
        have K2 := Lib.hid (K1.out.drewN nq)
        go_wp2
        go_ret3
        exact ⟨congrArg Ending.returned hr2.out.symm, K2.out⟩
end Go.Proofs.Ytkhipbpjknfloaa
