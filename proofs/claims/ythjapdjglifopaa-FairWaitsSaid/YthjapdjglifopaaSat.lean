/- Walks of layer 1: numbers added, capped. -/
import Derived.Test.YthjapdjglifopaaBase
import Derived.Test.YthjapdjglifopaaShelf
import Derived.Test.YthjapdjglifopaaProg
import Derived.Laws.Externs
namespace Go.Proofs.Ythjapdjglifopaa
set_option linter.unusedVariables false
set_option linter.unusedSimpArgs false
open Go.RowKit Go.Shelf

def satN (a b : Nat) : Nat := if a + b < 18446744073709551616 then a + b else 18446744073709551615
theorem satN_lt (a b : Nat) : satN a b < 18446744073709551616 := by unfold satN; split <;> omega
theorem run_add (a b : Nat) (w : World) : (callFunc 56 #[.int .u64 a, .int .u64 b, .int .u64 0]).run Try.prog w = .ok (.value (.tuple #[.int .u64 (((a + b) % 18446744073709551616 : Nat) : Int), .int .u64 (((a + b) / 18446744073709551616 : Nat) : Int)])) w := by
  rw [run_callFunc_extern Try.func56 (by kernel_rfl) (by kernel_rfl) (by kernel_rfl) (e := add64Entry) (by kernel_rfl), run_add64 a b 0 (by omega) (by omega) (by omega) (by omega)]
  simp only [Result.andThen]
  congr 5 <;> omega
set_option maxHeartbeats 1000000 in
theorem sAdd (a b : Nat) (ha : a < 18446744073709551616) (hb : b < 18446744073709551616) (w : World) : Calls Try.prog 36 #[.int .u64 a, .int .u64 b] w fun e w' => e = .returned (.int .u64 (satN a b)) ∧ w = w' := by
  have hr := run_add a b
  by_cases h : a + b < 18446744073709551616
  · have h1 : (a + b) % 18446744073709551616 = a + b := Nat.mod_eq_of_lt h
    have h2 : (a + b) / 18446744073709551616 = 0 := Nat.div_eq_of_lt h
    rw [h1, h2] at hr
    have HS : Hid (satN a b = a + b) := by show _ = _; unfold satN; rw [if_pos h]
    clear h1 h2
    go_enter Try.func36, Try.ntmps36
    go_wp2
    go_ret
    exact ⟨by rw [HS.out, Int.natCast_add]; rfl, rfl⟩
  · have h2 : (a + b) / 18446744073709551616 = 1 := by omega
    obtain ⟨c, hc⟩ : ∃ c, (a + b) % 18446744073709551616 = c := ⟨_, rfl⟩
    rw [h2, hc] at hr
    have HS : Hid (satN a b = 18446744073709551615) := by show _ = _; unfold satN; rw [if_neg h]
    clear h2 hc
    go_enter Try.func36, Try.ntmps36
    go_wp2
    go_ret
    exact ⟨by rw [HS.out]; rfl, rfl⟩
end Go.Proofs.Ythjapdjglifopaa
