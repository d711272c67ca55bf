/- Walks for layer 24: conf.Put's closures. -/
import Derived.Test.YtacgabagfdlpeaaGreatDoorCfE
import Derived.Test.YtacgabagfdlpeaaGreatDoorDigJd
import Derived.Test.YtacgabagfdlpeaaGreatDoorBuild
import Derived.Deep.QuietTactic
import Derived.Deep.RegionHeld3
namespace Go.Proofs.YtacgabagfdlpeaaGreatDoor
set_option linter.unusedVariables false
set_option linter.unusedSimpArgs false
open Go Go.RowKit Go.Shelf

set_option maxHeartbeats 2000000 in
theorem cNames (w : World) : Calls Tryz.prog 82 #[] w fun e w' => e = .returned (.slice (some ⟨w.heap.size, 0, none⟩) 3 3) ∧ Blk w' w.heap.size [.string ⟨#[115, 116, 102, 113]⟩, .string ⟨#[101, 100, 102]⟩, .string ⟨#[115, 114, 115]⟩] 9 ∧ Kp none' w w' := by
  go_enter Tryz.func82, Tryz.ntmps82
  go_wp2
  go_ret
  exact ⟨rfl, Blk.new w [.string ⟨#[115, 116, 102, 113]⟩, .string ⟨#[101, 100, 102]⟩, .string ⟨#[115, 114, 115]⟩] 9, (Kp.refl _ _).alloc _⟩
set_option maxHeartbeats 2000000 in
theorem cBacks (w : World) : Calls Tryz.prog 83 #[] w fun e w' => e = .returned (.slice (some ⟨w.heap.size, 0, none⟩) 3 3) ∧ Blk w' w.heap.size [.string ⟨#[104, 101, 97, 112]⟩, .string ⟨#[99, 97, 108, 101, 110, 100, 97, 114]⟩, .string ⟨#[113, 117, 101, 117, 101, 115]⟩] 9 ∧ Kp none' w w' := by
  go_enter Tryz.func83, Tryz.ntmps83
  go_wp2
  go_ret
  exact ⟨rfl, Blk.new w [.string ⟨#[104, 101, 97, 112]⟩, .string ⟨#[99, 97, 108, 101, 110, 100, 97, 114]⟩, .string ⟨#[113, 117, 101, 117, 101, 115]⟩] 9, (Kp.refl _ _).alloc _⟩
theorem sb_ne {B b sb : Nat} {L : List UInt8} {w : World} {cs : List Value} {t : TypeId} (hb : Bd B b L w) (hs : Blk w sb cs t) (ht : t ≠ 47) : sb ≠ b := by
  obtain ⟨p, hp⟩ := hb.get
  obtain ⟨v, h1, _⟩ := hp.is
  intro e
  subst e
  have := hs.is.symm.trans h1
  simp at this
  exact ht this.2
end Go.Proofs.YtacgabagfdlpeaaGreatDoor
