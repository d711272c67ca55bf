/- Layer 41: the examples. -/
import Derived.Test.YthgpmpmnihijnaaDoorScRe
namespace Go.Proofs.YthgpmpmnihijnaaDoor
set_option linter.unusedVariables false
set_option linter.unusedSimpArgs false
open Go.RowKit Go.Shelf
def x1 : ByteArray := ⟨#[35, 32, 97, 32, 114, 101, 109, 97, 114, 107, 10, 32, 105, 110, 32, 49, 32, 55, 32, 50, 75, 10]⟩
def x2 : ByteArray := ⟨#[111, 117, 116, 10, 105, 110, 32, 49, 32, 55]⟩
theorem readX1 : readS (bl x1) = ([⟨1, 1, 7, 2000, 0⟩], 0, 0) := by decide +kernel
theorem readX2 : readS (bl x2) = ([], 2, 31) := by decide +kernel
theorem read2 (s : ByteArray) (w : World) (hs : s.size ≤ 100000) {l : List OpR} {n : Nat} {e : Int} (h : readS (bl s) = (l, n, e)) : Calls Tryd.prog 7 #[.string s] w fun e' w' => ∃ u, e' = .returned (.tuple #[u, .int .i64 n, .int .i64 e]) ∧ Sl w' u l.length 5 (l.flatMap enO) ∧ Kp none' w w' := by
  have := sReadS s w hs
  rw [h] at this; exact this
set_option maxRecDepth 100000 in
set_option maxHeartbeats 1000000 in
theorem lives41 (w : World) : Calls Tryd.prog 6 #[] w fun e w' => e = .returned (.bool true) ∧ Kp none' w w' := by
  have H1 := Lib.hid (read2 x1 w (by decide) readX1)
  have H2 := Lib.hid (fun W => read2 x2 W (by decide) readX2)
  have EQ : ∀ W, (binOp .eql 40 (.agg #[.int .i64 1, .int .u32 1, .int .u32 7, .int .u64 2000, .int .u64 0]) (.agg #[.int .i64 1, .int .u32 1, .int .u32 7, .int .u64 2000, .int .u64 0])).run Tryd.prog W = .ok (.bool true) W := fun W => by
    have := eqlOp ⟨1, 1, 7, 2000, 0⟩ ⟨1, 1, 7, 2000, 0⟩ W
    rw [decide_eq_true rfl] at this; exact this
  go_enter Tryd.func6, Tryd.ntmps6
  go_wp2_with fail
  refine (H1.out).mono ?_
  rintro e w1 ⟨u, rfl, hsl, k1⟩
  have K1 := Lib.hid k1
  have HS := Lib.hid hsl
  clear k1 hsl H1
  go_wp2_with fail
  refine (H2.out w1).mono ?_
  rintro e w2 ⟨u2, rfl, _, k2⟩
  have hsl := HS.out.old k2
  have K2 := Lib.hid (K1.out.trans k2)
  obtain ⟨g, off, cap, rfl, hc⟩ := hsl.at enO_len (by decide) 0 (by decide)
  have c0 : w2.cell? ⟨g, off, none⟩ = some (.int .i64 1) := hc 0 _ rfl
  have c1 : w2.cell? ⟨g, off + 1, none⟩ = some (.int .u32 1) := hc 1 _ rfl
  have c2 : w2.cell? ⟨g, off + 2, none⟩ = some (.int .u32 7) := hc 2 _ rfl
  have c3 : w2.cell? ⟨g, off + 3, none⟩ = some (.int .u64 2000) := hc 3 _ rfl
  have c4 : w2.cell? ⟨g, off + 4, none⟩ = some (.int .u64 0) := hc 4 _ rfl
  have EQ2 := EQ w2
  clear k2 hsl hc H2 HS K1 EQ
  go_wp2
  go_ret
  exact ⟨rfl, K2.out⟩
end Go.Proofs.YthgpmpmnihijnaaDoor
