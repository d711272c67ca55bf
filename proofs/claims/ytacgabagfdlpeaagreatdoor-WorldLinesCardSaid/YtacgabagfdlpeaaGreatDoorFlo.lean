/- Flows' numbers, and the cells that hold them. -/
import Derived.WalkKit
namespace Go.Proofs.YtacgabagfdlpeaaGreatDoor
set_option linter.unusedVariables false
set_option linter.unusedSimpArgs false

structure FlR where
  id : Nat
  cost : Nat
  budget : Nat
  size : Nat
  cap : Nat
structure FlR.ok (f : FlR) : Prop where
  id : f.id < 4294967296
  cost : f.cost < 18446744073709551616
  budget : f.budget < 18446744073709551616
  size : f.size < 18446744073709551616
  cap : f.cap < 18446744073709551616
instance : Inhabited FlR := ⟨⟨0, 0, 0, 0, 0⟩⟩
def enFl (f : FlR) : List Value := [.int .u32 f.id, .int .u64 f.cost, .int .u64 f.budget, .int .u64 f.size, .int .u64 f.cap]
theorem enFl_len (f : FlR) : (enFl f).length = 5 := rfl
end Go.Proofs.YtacgabagfdlpeaaGreatDoor
