/- Walks of layer 3: units. -/
import Derived.Test.YtacgabagfdlpeaaGreatDoorDigW
namespace Go.Proofs.YtacgabagfdlpeaaGreatDoor
set_option linter.unusedVariables false
set_option linter.unusedSimpArgs false
open Go.RowKit

set_option maxHeartbeats 400000 in
theorem dWorth (c : Nat) (hc : c < 256) (w : World) : Calls Tryz.prog 118 #[.int .u8 c] w fun e w' => e = .returned (.int .u64 (worthN (UInt8.ofNat c))) ∧ w = w' := by
  have hcc : (UInt8.ofNat c).toNat = c := by rw [UInt8.toNat_ofNat']; omega
  unfold worthN
  rw [hcc]
  clear hcc
  by_cases h1 : c = 75
  · subst h1
    go_enter Tryz.func118, Tryz.ntmps118
    go_wp2
    go_ret
    exact ⟨rfl, rfl⟩
  · by_cases h2 : c = 77
    · subst h2
      go_enter Tryz.func118, Tryz.ntmps118
      go_wp2
      go_ret
      exact ⟨rfl, rfl⟩
    · by_cases h3 : c = 71
      · subst h3
        go_enter Tryz.func118, Tryz.ntmps118
        go_wp2
        go_ret
        exact ⟨rfl, rfl⟩
      · have b1 : ((c : Int) == 75) = false := by simp; omega
        have b2 : ((c : Int) == 77) = false := by simp; omega
        have b3 : ((c : Int) == 71) = false := by simp; omega
        rw [if_neg h1, if_neg h2, if_neg h3]
        clear h1 h2 h3
        go_enter Tryz.func118, Tryz.ntmps118
        go_wp2
        go_ret
        exact ⟨rfl, rfl⟩

end Go.Proofs.YtacgabagfdlpeaaGreatDoor
