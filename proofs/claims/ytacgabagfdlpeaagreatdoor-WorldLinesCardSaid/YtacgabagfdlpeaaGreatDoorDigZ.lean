/- Walks of layer 3: numbers with units put. -/
import Derived.Test.YtacgabagfdlpeaaGreatDoorDigY
import Derived.Test.YtacgabagfdlpeaaGreatDoorDigX
namespace Go.Proofs.YtacgabagfdlpeaaGreatDoor
set_option linter.unusedVariables false
set_option linter.unusedSimpArgs false
open Go.RowKit Go.Shelf

def putK (n : Nat) : Nat → List UInt8
  | 0 => putU n
  | 1 => if 0 < n ∧ n % 1000000 = 0 then put (n / 1000000) ++ [77] else if 0 < n ∧ n % 1000 = 0 then put (n / 1000) ++ [75] else put n
  | 2 => if 0 < n ∧ n % 1000 = 0 then put (n / 1000) ++ [75] else put n
  | _ => put n
def unitW : Nat → Nat | 0 => 1000000000 | 1 => 1000000 | _ => 1000
def unitC : Nat → UInt8 | 0 => 71 | 1 => 77 | _ => 75
theorem putK_yes (n k : Nat) (hk : k < 3) (h : 0 < n ∧ n % unitW k = 0) : putK n k = put (n / unitW k) ++ [unitC k] := by
  match k, hk with
  | 0, _ => exact if_pos h
  | 1, _ => exact if_pos h
  | 2, _ => exact if_pos h
theorem putK_no (n k : Nat) (hk : k < 3) (h : ¬ (0 < n ∧ n % unitW k = 0)) : putK n k = putK n (k + 1) := by
  match k, hk with
  | 0, _ => exact if_neg h
  | 1, _ => exact if_neg h
  | 2, _ => exact if_neg h
theorem dWorthG (w : World) : Calls Tryz.prog 118 #[.int .u8 71] w fun e w' => e = .returned (.int .u64 1000000000) ∧ w = w' := dWorth 71 (by decide) w
theorem dWorthM (w : World) : Calls Tryz.prog 118 #[.int .u8 77] w fun e w' => e = .returned (.int .u64 1000000) ∧ w = w' := dWorth 77 (by decide) w
theorem dWorthK (w : World) : Calls Tryz.prog 118 #[.int .u8 75] w fun e w' => e = .returned (.int .u64 1000) ∧ w = w' := dWorth 75 (by decide) w
theorem enc71 : bl (Utf8.encode 71) = [71] := by decide +kernel
theorem enc77 : bl (Utf8.encode 77) = [77] := by decide +kernel
theorem enc75 : bl (Utf8.encode 75) = [75] := by decide +kernel
theorem gmk0 : bl ((⟨#[71, 77, 75]⟩ : ByteArray).extract 0 1) = [71] := by rw [bl_cut]; rfl
theorem gmk1 : bl ((⟨#[71, 77, 75]⟩ : ByteArray).extract 1 2) = [77] := by rw [bl_cut]; rfl
theorem gmk2 : bl ((⟨#[71, 77, 75]⟩ : ByteArray).extract 2 3) = [75] := by rw [bl_cut]; rfl
theorem rPutAny (n : Nat) (hn : n ≤ 18446744073709551615) (w : World) : Calls Tryz.prog 14 #[.int .u64 n] w fun e w' => e = .returned (.string (tx (put n))) ∧ ∃ d, w' = w.drewN d := rPut 19 n w (by omega) hn
end Go.Proofs.YtacgabagfdlpeaaGreatDoor
