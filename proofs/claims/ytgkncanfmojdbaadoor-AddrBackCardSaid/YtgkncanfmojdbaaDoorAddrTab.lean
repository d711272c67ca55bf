/- Layer 31: the library's tables for the witness; prefixes among the arguments. -/
import Derived.Test.YtgkncanfmojdbaaDoorCards
import Derived.Test.YtgkncanfmojdbaaDoorTie
import Derived.Test.YtgkncanfmojdbaaDoorOpen
import Derived.Test.YtgkncanfmojdbaaDoorAddrL
import Derived.Deep.DeepHandedRow
namespace Go.Proofs.YtgkncanfmojdbaaDoor
set_option linter.unusedVariables false
set_option linter.unusedSimpArgs false
open Go.RowKit Go.ChangeShapes Go.WideShapes

theorem own31 : ownKnob Tryd.prog.godebug = none := by kernel_rfl
def arZ : List Nat := [128, 191, 160, 191, 128, 159, 144, 191, 128, 143] ++ List.replicate 22 0
def layCells (l : List Nat) : Obj → Obj
  | .cells _ t frozen => .cells (l.map fun (z : Nat) => Value.int .u8 (z : Int)).toArray t frozen
  | o => o
noncomputable def laidWorld (os : Os) : World :=
  { World.holding Tryd.prog os ⟨#[], #[], []⟩ with heap := ((World.holding Tryd.prog os ⟨#[], #[], []⟩).heap.modify 2 (layCells arZ)).modify 1 (layCells Go.Pinned.utf8FirstZ) }
theorem laid_met (os : Os) (args : Array Value) : laidMet Tryd.prog [("unicode/utf8.acceptRanges", Rows.laid_unicode_utf8_acceptRanges), ("unicode/utf8.first", Rows.laid_unicode_utf8_first)] ((laidWorld os).forCall (fun _ _ => 0) ⟨#[], args, []⟩).memory :=
  laidMet_of_run' 8 (by kernel_rfl) (by kernel_rfl)

theorem cellsPrefix : Tryd.prog.cellsOf 30 = 2 := by kernel_rfl
theorem cellsInt : Tryd.prog.cellsOf 3 = 1 := by kernel_rfl
theorem cellsU32 : Tryd.prog.cellsOf 23 = 1 := by kernel_rfl
theorem bounds32 {i : Int} (h : (Lit.int .u32 i).wf = true) : 0 ≤ i ∧ i < 4294967296 := by
  simp [Lit.wf, IntKind.min, IntKind.max, IntKind.signed, IntKind.bits] at h
  omega
theorem openPrefix {H : Type} {enc : TypeId × Value → H} {w : World} {r : Reach} {b0 base : Nat} {spare : Nat → Bool} {held : Bool} {v : Value} {d : DataW H} {ps : List MemPlace} (hval : Value.okWide Tryd.prog w r b0 30 v)
    (h : DataW.Trod enc Tryd.prog w base spare held 30 v d ps) : ∃ (a : Nat) (b : Int), v = .agg #[.int .u32 a, .int .i64 b] ∧ a < 4294967296 ∧ -9223372036854775808 ≤ b ∧ b ≤ 9223372036854775807 := by
  obtain ⟨cs, rfl, hsz⟩ := okWide_struct Tryd.underlying30 hval
  obtain ⟨fuel, hf⟩ := h
  obtain ⟨hlen, hfs⟩ := flat_fields Tryd.underlying30 cellsPrefix (by decide) (by intro f hf; simp at hf; rcases hf with rfl | rfl; (exact cellsU32); exact cellsInt) hf
  obtain ⟨c0, c1, rfl⟩ : ∃ c0 c1, cs = #[c0, c1] := by
    rw [cellsPrefix] at hsz
    match cs, hsz with
    | ⟨[c0, c1]⟩, _ => exact ⟨c0, c1, rfl⟩
  obtain ⟨n0, y0, h0⟩ := hfs 0 _ c0 rfl rfl
  obtain ⟨n1, y1, h1⟩ := hfs 1 _ c1 rfl rfl
  obtain ⟨i0, e0, _, w0⟩ := DataW.trod_int Tryd.underlying23 h0
  obtain ⟨i1, e1, _, w1⟩ := DataW.trod_int Tryd.underlying3 h1
  simp at e0 e1
  subst e0 e1
  have h2 := bounds32 w0
  obtain ⟨a, rfl⟩ : ∃ a : Nat, i0 = a := ⟨i0.toNat, by omega⟩
  exact ⟨a, i1, rfl, by omega, bounds_i64 w1⟩
theorem open32 {H : Type} {enc : TypeId × Value → H} {w : World} {r : Reach} {b0 base : Nat} {spare : Nat → Bool} {held : Bool} {v : Value} {d : DataW H} {ps : List MemPlace} (hval : Value.okWide Tryd.prog w r b0 23 v)
    (h : DataW.Trod enc Tryd.prog w base spare held 23 v d ps) : ∃ x : Nat, v = .int .u32 x ∧ x < 4294967296 := by
  obtain ⟨i, rfl, rfl, rfl, wi⟩ := open_int Tryd.underlying23 hval h
  have h2 := bounds32 wi
  obtain ⟨a, rfl⟩ : ∃ a : Nat, i = a := ⟨i.toNat, by omega⟩
  exact ⟨a, rfl, by omega⟩
theorem mx_of {w : World} (h : w.ShapedOpen Tryd.prog) : MX w := Tryd.laysM144.s1_3 w h
end Go.Proofs.YtgkncanfmojdbaaDoor
