/- The library's tables for the witness, where a row lists them. -/
import Derived.Test.YtacgabagfdlpeaaGreatDoorCards
import Derived.Test.YtacgabagfdlpeaaGreatDoorTie
import Derived.Test.YtacgabagfdlpeaaGreatDoorOpen
import Derived.Deep.DeepHandedRow
namespace Go.Proofs.YtacgabagfdlpeaaGreatDoor
set_option linter.unusedVariables false
set_option linter.unusedSimpArgs false
open Go.RowKit Go.ChangeShapes Go.WideShapes

theorem own31 : ownKnob Tryz.prog.godebug = none := by kernel_rfl
def arZ : List Nat := [128, 191, 160, 191, 128, 159, 144, 191, 128, 143] ++ List.replicate 22 0
def layCells (l : List Nat) : Obj → Obj
  | .cells _ t frozen => .cells (l.map fun (z : Nat) => Value.int .u8 (z : Int)).toArray t frozen
  | o => o
noncomputable def laidWorld (os : Os) : World :=
  { World.holding Tryz.prog os ⟨#[], #[], []⟩ with heap := ((World.holding Tryz.prog os ⟨#[], #[], []⟩).heap.modify 2 (layCells arZ)).modify 1 (layCells Go.Pinned.utf8FirstZ) }
theorem laid_met (os : Os) (args : Array Value) : laidMet Tryz.prog [("unicode/utf8.acceptRanges", Rows.laid_unicode_utf8_acceptRanges), ("unicode/utf8.first", Rows.laid_unicode_utf8_first)] ((laidWorld os).forCall (fun _ _ => 0) ⟨#[], args, []⟩).memory :=
  laidMet_of_run' 8 (by kernel_rfl) (by kernel_rfl)

end Go.Proofs.YtacgabagfdlpeaaGreatDoor
