/- Layer 38: the place of a part (small numbers). -/
import Derived.Test.YtkhipbpjknfloaaHistC
import Derived.Deep.QuietTactic
import Derived.BigQuiet
import Derived.RegionTactic
import Derived.ChangeAlike
namespace Go.Proofs.Ytkhipbpjknfloaa
set_option linter.unusedVariables false
set_option linter.unusedSimpArgs false
open Go.RowKit Go.Shelf

theorem pMul (a b p : Nat) (ha : a < 18446744073709551616) (hb : b < 18446744073709551616) (h : a * b = p) (hp : p < 18446744073709551616) (w : World) : Calls Try.prog 92 #[.int .u64 a, .int .u64 b] w fun e w' => e = .returned (.tuple #[.int .u64 0, .int .u64 p]) ∧ w = w' :=
  (Try.bits_Mul64 a b ha hb w).mono fun e w' ⟨h1, h2⟩ => ⟨by rw [h1, h, Nat.div_eq_of_lt hp, Nat.mod_eq_of_lt hp]; rfl, h2.symm⟩
theorem pDiv_wrap (lo y : Nat) (hl : lo ≤ 18446744073709551615) : IntKind.u64.wrap ((lo : Int) / (y : Int)) = ((lo / y : Nat) : Int) := by
  have h1 : lo / y ≤ lo := Nat.div_le_self _ _
  have h2 : (lo : Int) / (y : Int) = ((lo / y : Nat) : Int) := by simp
  rw [IntKind.wrap_u64, h2]
  generalize lo / y = q at *
  omega
theorem pRet {k : IntKind} {a b : Int} {v : Value} (h : a = b) : Ending.returned (.tuple #[.int k a, v]) = .returned (.tuple #[.int k b, v]) := by rw [h]
set_option maxRecDepth 100000 in
set_option maxHeartbeats 400000 in
theorem pDiv0 (lo y : Nat) (hy : 0 < y) (hy2 : y ≤ 18446744073709551615) (hl : lo ≤ 18446744073709551615) (w : World) : Calls Try.prog 93 #[.int .u64 0, .int .u64 lo, .int .u64 y] w fun e w' => e = .returned (.tuple #[.int .u64 ((lo / y : Nat) : Int), .int .u64 ((lo : Int) % (y : Int))]) ∧ Kp none' w w' := by
  have h0 : ((y : Int) == 0) = false := by rw [beq_eq_false_iff_ne]; omega
  go_enter Try.func93, Try.ntmps93
  go_wp2
  go_region
  all_goals go_wp2
  all_goals go_ret2
  all_goals exact ⟨pRet (pDiv_wrap lo y hl), (Kp.refl _ _).drewN _⟩
set_option maxRecDepth 100000 in
set_option maxHeartbeats 400000 in
theorem pMulDiv (a b p : Nat) (ha : a < 18446744073709551616) (hb : b < 18446744073709551616) (h : a * b = p) (hp : p < 18446744073709551616) (w : World) : Calls Try.prog 75 #[.int .u64 a, .int .u64 b, .int .u64 255] w fun e w' => e = .returned (.int .u64 ((p / 255 : Nat) : Int)) ∧ Kp none' w w' := by
  have hM := Lib.hid (pMul a b p ha hb h hp w)
  have hD := Lib.hid (pDiv0 p 255 (by omega) (by omega) (by omega) w)
  clear h
  go_enter Try.func75, Try.ntmps75
  go_wp2_with fail
  refine (hM.out).mono ?_
  rintro e w' ⟨rfl, rfl⟩
  go_wp2_with fail
  refine (hD.out).mono ?_
  rintro e w' ⟨rfl, kp⟩
  go_wp2
  go_ret
  exact ⟨rfl, kp⟩
set_option maxRecDepth 100000 in
set_option maxHeartbeats 400000 in
theorem pUnder (a b c d p q : Nat) (ha : a < 18446744073709551616) (hb : b < 18446744073709551616) (hc : c < 18446744073709551616) (hd : d < 18446744073709551616) (h : a * b = p) (hp : p < 18446744073709551616) (h2 : c * d = q) (hq : q < 18446744073709551616) (w : World) : Calls Try.prog 76 #[.int .u64 a, .int .u64 b, .int .u64 c, .int .u64 d] w fun e w' => e = .returned (.bool (decide (p < q))) ∧ Kp none' w w' := by
  have hM := Lib.hid (pMul a b p ha hb h hp w)
  have hN := Lib.hid (pMul c d q hc hd h2 hq w)
  have hlt : decide ((p : Int) < (q : Int)) = decide (p < q) := by simp
  clear h h2
  go_enter Try.func76, Try.ntmps76
  go_wp2_with fail
  refine (hM.out).mono ?_
  rintro e w' ⟨rfl, rfl⟩
  go_wp2_with fail
  refine (hN.out).mono ?_
  rintro e w' ⟨rfl, rfl⟩
  go_wp2
  go_ret
  first | exact ⟨by rw [hlt], Kp.refl _ _⟩ | exact ⟨rfl, Kp.refl _ _⟩
/-- The place of the part num of 255 among all numbers. -/
def kN (all num : Nat) : Nat := max ((all * num + 254) / 255) 1
set_option maxRecDepth 100000 in
set_option maxHeartbeats 400000 in
theorem pRank (all num p : Nat) (ha : all ≤ 200) (hn : num ≤ 255) (h : all * num = p) (w : World) : Calls Try.prog 58 #[.int .u64 all, .int .u64 num, .int .u64 255] w fun e w' => e = .returned (.int .u64 ((kN all num : Nat) : Int)) ∧ Kp none' w w' := by
  have hp : p ≤ 51000 := by rw [← h]; exact Nat.mul_le_mul ha hn
  have hM := Lib.hid (pMulDiv all num p (by omega) (by omega) h (by omega) w)
  have hU := Lib.hid (fun W => pUnder (p / 255) 255 all num (p / 255 * 255) p (by omega) (by omega) (by omega) (by omega) rfl (by omega) h (by omega) W)
  have hk : Hid (kN all num = max ((p + 254) / 255) 1) := by show _ = _; unfold kN; rw [h]
  clear h
  go_enter Try.func58, Try.ntmps58
  go_wp2_with fail
  refine (hM.out).mono ?_
  rintro e w1 ⟨rfl, k1⟩
  obtain ⟨q, hq⟩ : ∃ q, p / 255 = q := ⟨_, rfl⟩
  have hq2 : q ≤ 200 := by omega
  rw [hq] at hU ⊢
  by_cases hlt : q * 255 < p
  · have hU2 := (hU.out w1)
    rw [decide_eq_true hlt] at hU2
    have HU2 := Lib.hid hU2
    clear hU2 hU hM
    go_wp2_with fail
    refine (HU2.out).mono ?_
    rintro e w2 ⟨rfl, k2⟩
    have he : kN all num = q + 1 := by rw [hk.out]; omega
    go_wp2
    go_ret
    refine ⟨?_, k1.trans k2⟩
    rw [he]
    first | rfl | (congr 2; omega) | (congr 2; split <;> omega) | (simp; omega)
  · have hU2 := (hU.out w1)
    rw [decide_eq_false hlt] at hU2
    have HU2 := Lib.hid hU2
    clear hU2 hU hM
    go_wp2_with fail
    refine (HU2.out).mono ?_
    rintro e w2 ⟨rfl, k2⟩
    have he : kN all num = max q 1 := by rw [hk.out]; omega
    go_wp2
    go_ret
    refine ⟨?_, k1.trans k2⟩
    rw [he]
    first | rfl | (congr 2; omega) | (congr 2; split <;> omega) | (simp; omega)
end Go.Proofs.Ytkhipbpjknfloaa
