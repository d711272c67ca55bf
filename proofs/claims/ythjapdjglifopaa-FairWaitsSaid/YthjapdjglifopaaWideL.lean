/- Walks of layer 1, the document's: wide numbers compared. -/
import Derived.Test.YthjapdjglifopaaWideN
namespace Go.Proofs.Ythjapdjglifopaa
set_option linter.unusedVariables false
set_option linter.unusedSimpArgs false
open Go.RowKit Go.Shelf

set_option maxRecDepth 100000 in
set_option maxHeartbeats 4000000 in
theorem rLessD (a0 a1 a2 a3 b0 b1 b2 b3 : Nat) (w : World) : Calls Try.prog 45 #[.agg (wq a0 a1 a2 a3).toArray, .agg (wq b0 b1 b2 b3).toArray] w fun e w' => e = .returned (.bool (if a3 = b3 then (if a2 = b2 then (if a1 = b1 then (if a0 = b0 then false else decide (a0 < b0)) else decide (a1 < b1)) else decide (a2 < b2)) else decide (a3 < b3))) ∧ Kp none' w w' := by
  unfold wq
  by_cases h3 : a3 = b3
  rotate_left
  · rw [if_neg h3]
    have hn : ((a3 : Int) == (b3 : Int)) = false := by rw [beq_eq_false_iff_ne]; omega
    clear h3
    go_enter Try.func45, Try.ntmps45
    go_wp2
    refine wp_loop_rounds 5 ?_
    rw [rounds_succ]
    go_wp2
    go_quiet (fail)
    go_wp2
    go_quiet (fail)
    go_wp2
    go_ret
    refine ⟨rfl, ?_⟩
    repeat (first | exact Kp.refl _ _ | refine Kp.drewN ?_ _ | refine Kp.alloc ?_ _)
  rw [if_pos h3]
  subst h3
  by_cases h2 : a2 = b2
  rotate_left
  · rw [if_neg h2]
    have hn : ((a2 : Int) == (b2 : Int)) = false := by rw [beq_eq_false_iff_ne]; omega
    clear h2
    go_enter Try.func45, Try.ntmps45
    go_wp2
    refine wp_loop_rounds 5 ?_
    rw [rounds_succ]
    go_wp2
    go_quiet (fail)
    go_wp2
    rw [rounds_succ]
    go_wp2
    go_quiet (fail)
    go_wp2
    go_quiet (fail)
    go_wp2
    go_ret
    refine ⟨rfl, ?_⟩
    repeat (first | exact Kp.refl _ _ | refine Kp.drewN ?_ _ | refine Kp.alloc ?_ _)
  rw [if_pos h2]
  subst h2
  by_cases h1 : a1 = b1
  rotate_left
  · rw [if_neg h1]
    have hn : ((a1 : Int) == (b1 : Int)) = false := by rw [beq_eq_false_iff_ne]; omega
    clear h1
    go_enter Try.func45, Try.ntmps45
    go_wp2
    refine wp_loop_rounds 5 ?_
    rw [rounds_succ]
    go_wp2
    go_quiet (fail)
    go_wp2
    rw [rounds_succ]
    go_wp2
    go_quiet (fail)
    go_wp2
    rw [rounds_succ]
    go_wp2
    go_quiet (fail)
    go_wp2
    go_quiet (fail)
    go_wp2
    go_ret
    refine ⟨rfl, ?_⟩
    repeat (first | exact Kp.refl _ _ | refine Kp.drewN ?_ _ | refine Kp.alloc ?_ _)
  rw [if_pos h1]
  subst h1
  by_cases h0 : a0 = b0
  rotate_left
  · rw [if_neg h0]
    have hn : ((a0 : Int) == (b0 : Int)) = false := by rw [beq_eq_false_iff_ne]; omega
    clear h0
    go_enter Try.func45, Try.ntmps45
    go_wp2
    refine wp_loop_rounds 5 ?_
    rw [rounds_succ]
    go_wp2
    go_quiet (fail)
    go_wp2
    rw [rounds_succ]
    go_wp2
    go_quiet (fail)
    go_wp2
    rw [rounds_succ]
    go_wp2
    go_quiet (fail)
    go_wp2
    rw [rounds_succ]
    go_wp2
    go_quiet (fail)
    go_wp2
    go_quiet (fail)
    go_wp2
    go_ret
    refine ⟨rfl, ?_⟩
    repeat (first | exact Kp.refl _ _ | refine Kp.drewN ?_ _ | refine Kp.alloc ?_ _)
  rw [if_pos h0]
  subst h0
  go_enter Try.func45, Try.ntmps45
  go_wp2
  refine wp_loop_rounds 5 ?_
  rw [rounds_succ]
  go_wp2
  go_quiet (fail)
  go_wp2
  rw [rounds_succ]
  go_wp2
  go_quiet (fail)
  go_wp2
  rw [rounds_succ]
  go_wp2
  go_quiet (fail)
  go_wp2
  rw [rounds_succ]
  go_wp2
  go_quiet (fail)
  go_wp2
  rw [rounds_succ]
  go_wp2
  go_ret
  refine ⟨rfl, ?_⟩
  repeat (first | exact Kp.refl _ _ | refine Kp.drewN ?_ _ | refine Kp.alloc ?_ _)
theorem rLessN (m n : Nat) (hm : m < 340282366920938463463374607431768211456) (hn : n < 340282366920938463463374607431768211456) (w : World) : Calls Try.prog 45 #[.agg (wN m).toArray, .agg (wN n).toArray] w fun e w' => e = .returned (.bool (decide (m < n))) ∧ Kp none' w w' := by
  refine (rLessD (m % 4294967296) (m / 4294967296 % 4294967296) (m / 18446744073709551616 % 4294967296) (m / 79228162514264337593543950336 % 4294967296) (n % 4294967296) (n / 4294967296 % 4294967296) (n / 18446744073709551616 % 4294967296) (n / 79228162514264337593543950336 % 4294967296) w).mono ?_
  rintro e w' ⟨rfl, k⟩
  refine ⟨?_, k⟩
  congr 2
  split
  · split
    · split
      · split
        · rw [eq_comm, decide_eq_false_iff_not]; omega
        · rw [decide_eq_decide]; omega
      · rw [decide_eq_decide]; omega
    · rw [decide_eq_decide]; omega
  · rw [decide_eq_decide]; omega
end Go.Proofs.Ythjapdjglifopaa
