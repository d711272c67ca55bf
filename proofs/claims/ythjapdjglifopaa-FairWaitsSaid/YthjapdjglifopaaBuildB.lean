/- strings.Builder: WriteByte. -/
import Derived.Test.YthjapdjglifopaaBuild
namespace Go.Proofs.Ythjapdjglifopaa
set_option linter.unusedVariables false
set_option linter.unusedSimpArgs false
open Go.RowKit Go.Shelf
set_option maxRecDepth 100000 in
set_option maxHeartbeats 2000000 in
theorem bByte {B b : Nat} {l : List UInt8} {w : World} (h : Bd B b l w) (hl : l.length ≤ 100000000) (c : UInt8) :
    Calls Try.prog 75 #[.pointer (some ⟨b, 0, none⟩), .int .u8 c.toNat] w fun e w' => e = .returned .nilIface ∧ Bd B b (l ++ [c]) w' ∧ KB B b w w' := by
  have HC := Lib.hid (fun W (hW : Bd B b l W) => bCheck hW)
  have hB := h.le
  go_enter Try.func75, Try.ntmps75
  go_wp2_with fail
  refine (HC.out _ h).mono ?_
  rintro e w1 ⟨rfl, hb1, hk1⟩
  obtain ⟨v, h1, h2⟩ := hb1.is
  have HK1 := Lib.hid hk1; have H1 := Lib.hid h1; have H2 := Lib.hid h2
  have hlt := hb1.lt
  have hsz := h.lt
  have c0 : w1.cell? ⟨b, 0, none⟩ = some (.pointer (some ⟨b, 0, none⟩)) := by simp [World.cell?, h1]
  have c1 : w1.cell? ⟨b, 1, none⟩ = some v := by simp [World.cell?, h1]
  clear hk1 hb1 h1 h2
  go_wp2_with (at_builtin; refine wp_app1 tU8 (.tmp 11) (.tmp 13) rfl rfl B (H2.out.alloc _) [.int .u8 c.toNat] rfl rfl rfl (heap_new _ _) rfl (by omega) (by omega) (by simp; omega) ?_)
  intro g cap w2 hown hgrow
  have hp := bd_put (l' := l ++ [c]) hB ((Below.heap_alloc _ _ _ hlt).trans H1.out) (H2.out.alloc _) hgrow (by rw [cells_snoc, List.length_append]; exact hown)
  obtain ⟨h3, h4, h5⟩ := hp
  have d1 : w2.cell? ⟨b, 1, none⟩ = some v := by simp [World.cell?, h3]
  have f1 : w2.frozen? ⟨b, 1, none⟩ = false := by simp [World.frozen?, h3]
  have H4 := Lib.hid h4
  have H5 : Hid (KB B b w _) := (HK1.out.trans (KB.old ((Kp.refl _ _).alloc _))).trans h5
  clear hown hgrow h3 h4 h5
  go_wp2_with fail
  go_ret
  exact ⟨rfl, .inr H4.out, H5.out⟩

end Go.Proofs.Ythjapdjglifopaa
