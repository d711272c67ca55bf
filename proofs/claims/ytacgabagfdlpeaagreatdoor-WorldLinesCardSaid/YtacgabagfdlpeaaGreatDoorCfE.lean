/- Walks for layer 24: a configuration's text, the document's. -/
import Derived.Test.YtacgabagfdlpeaaGreatDoorCfD
import Derived.Test.YtacgabagfdlpeaaGreatDoorDigZ
import Derived.Test.YtacgabagfdlpeaaGreatDoorKept
namespace Go.Proofs.YtacgabagfdlpeaaGreatDoor
set_option linter.unusedVariables false
set_option linter.unusedSimpArgs false
open Go Go.RowKit Go.Shelf

theorem cat_ex (a b : ByteArray) (na nb : Nat) (ha : a.size ≤ na) (hb : b.size ≤ nb) (h : na + nb ≤ 1000000) : ∃ x : ByteArray, (∀ W, (Op.stringOp .add a b).run Tryz.prog W = .ok (.string x) W) ∧ bl x = bl a ++ bl b ∧ x.size ≤ na + nb :=
  ⟨a ++ b, fun W => cat_run (P := Tryz.prog) a b (by omega) W, bl_app a b, by rw [ByteArray.size_append]; omega⟩
theorem putU_len (n : Nat) (h : n ≤ 18446744073709551615) : (putU n).length ≤ 30 := by
  unfold putU
  have h1 := put_len20 (n / 1000000000) (by omega)
  have h2 := put_len20 (n / 1000000) (by omega)
  have h3 := put_len20 (n / 1000) (by omega)
  have h4 := put_len20 n h
  split
  · simp; omega
  · split
    · simp; omega
    · split
      · simp; omega
      · omega
theorem kp_of_drew {w w' : World} (h : ∃ d, w' = w.drewN d) : Kp none' w w' := by obtain ⟨d, rfl⟩ := h; exact (Kp.refl none' w).drewN d
end Go.Proofs.YtacgabagfdlpeaaGreatDoor
