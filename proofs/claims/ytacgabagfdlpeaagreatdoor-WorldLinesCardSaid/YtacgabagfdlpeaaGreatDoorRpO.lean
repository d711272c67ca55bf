/- Operations and replies: their cells, and how they read in an argument. -/
import Derived.Test.YtacgabagfdlpeaaGreatDoorProg
import Derived.Test.YtacgabagfdlpeaaGreatDoorOp5
import Derived.Test.YtacgabagfdlpeaaGreatDoorShelf
import Derived.ProofKit
import Derived.OpenShut
import Derived.Deep.MidRow
namespace Go.Proofs.YtacgabagfdlpeaaGreatDoor
set_option linter.unusedVariables false
set_option linter.unusedSimpArgs false
open Go.ChangeShapes Go.WideShapes Go.ChangeAt Go.RowKit

/-- A reply: its 42 cells. -/
def RpR := { cs : List Value // cs.length = 42 }
def enQ (q : RpR) : List Value := q.val
theorem enQ_len (q : RpR) : (enQ q).length = 42 := q.property
def intAt (l : List Value) (k : Nat) : Int := match l[k]? with | some (.int _ n) => n | _ => 0
def RpR.kind (q : RpR) : Int := intAt q.val 0
def RpR.code (q : RpR) : Int := intAt q.val 1
def RpR.flow (q : RpR) : Nat := (intAt q.val 2).toNat
def RpR.id (q : RpR) : Nat := (intAt q.val 3).toNat
def RpR.len (q : RpR) : Nat := (intAt q.val 4).toNat
structure RpR.ok (q : RpR) : Prop where
  k : (enQ q)[0]? = some (.int .i64 q.kind)
  c : (enQ q)[1]? = some (.int .i64 q.code)
  f : (enQ q)[2]? = some (.int .u32 q.flow)
  i : (enQ q)[3]? = some (.int .u32 q.id)
  n : (enQ q)[4]? = some (.int .u64 q.len)
  one : ∀ v ∈ enQ q, v.oneCell' = true
  hk : -9223372036854775808 ≤ q.kind ∧ q.kind ≤ 9223372036854775807
  hc : -9223372036854775808 ≤ q.code ∧ q.code ≤ 9223372036854775807
  hf : q.flow < 4294967296
  hi : q.id < 4294967296
  hn : q.len < 18446744073709551616
instance : Inhabited RpR := ⟨⟨List.replicate 42 (.int .i64 0), by simp⟩⟩

theorem cellsE : Tryz.prog.cellsOf 22 = 1 := by kernel_rfl
theorem cellsP : Tryz.prog.cellsOf 26 = 3 := by kernel_rfl
theorem cellsS : Tryz.prog.cellsOf 29 = 36 := by kernel_rfl
theorem cellsA : Tryz.prog.cellsOf 27 = 32 := by kernel_rfl
theorem cellsQ : Tryz.prog.cellsOf 31 = 42 := by kernel_rfl

section
variable {H : Type} {enc : TypeId × Value → H} {w : World} {base : Nat} {spare : Nat → Bool} {held : Bool}
theorem at_of_take {cs : List Value} {o : Nat} {v : Value} (h : (cs.drop o).take 1 = [v]) : cs[o]? = some v := by
  have : ((cs.drop o).take 1)[0]? = some v := by rw [h]; rfl
  rw [List.getElem?_take, if_pos (by omega), List.getElem?_drop] at this
  simpa using this
theorem some_at {α : Type} {xs : List α} {i n : Nat} (h : xs.length = n) (hi : i < n) : ∃ y, xs[i]? = some y := ⟨xs[i]'(by omega), List.getElem?_eq_getElem _⟩
theorem int_at {k : IntKind} {t : TypeId} (ht : Tryz.prog.underlying t = some (.int k)) {m o : Nat} {cs : List Value} {y : DataW H × List MemPlace} (h : DataW.trod enc Tryz.prog w base spare held m t ((cs.drop o).take 1) = some y) : ∃ i, cs[o]? = some (.int k i) ∧ (Lit.int k i).wf = true := by
  obtain ⟨i, e, _, w0⟩ := DataW.trod_int ht h
  exact ⟨i, at_of_take e, w0⟩
theorem part_at {cs : List Value} {o n k : Nat} {v : Value} (h : ((cs.drop o).take n)[k]? = some v) : cs[o + k]? = some v := by
  rw [List.getElem?_take] at h
  split at h
  · rwa [List.getElem?_drop] at h
  · cases h
def IntAt (cs : List Value) (j : Nat) : Prop := ∃ k n, cs[j]? = some (.int k n)
theorem openStats (n : Nat) (cs : List Value) (x : DataW H × List MemPlace) (h : DataW.trod enc Tryz.prog w base spare held n 29 cs = some x) : ∀ j, j < 36 → IntAt cs j := by
  obtain ⟨xs, m, _, _, hl, hlen, hf⟩ := DataW.trod_struct Tryz.underlying29 h
  have g0 : DataW.trod enc Tryz.prog w base spare held m 24 ((cs.drop 0).take (Tryz.prog.cellsOf 24)) = xs[0]? := hf 0 _ rfl
  have g1 : DataW.trod enc Tryz.prog w base spare held m 24 ((cs.drop 1).take (Tryz.prog.cellsOf 24)) = xs[1]? := hf 1 _ rfl
  have g2 : DataW.trod enc Tryz.prog w base spare held m 3 ((cs.drop 2).take (Tryz.prog.cellsOf 3)) = xs[2]? := hf 2 _ rfl
  have g3 : DataW.trod enc Tryz.prog w base spare held m 24 ((cs.drop 3).take (Tryz.prog.cellsOf 24)) = xs[3]? := hf 3 _ rfl
  have g4 : DataW.trod enc Tryz.prog w base spare held m 27 ((cs.drop 4).take (Tryz.prog.cellsOf 27)) = xs[4]? := hf 4 _ rfl
  have hl5 : xs.length = 5 := hlen
  obtain ⟨y0, e0⟩ := some_at hl5 (show 0 < 5 by omega)
  obtain ⟨y1, e1⟩ := some_at hl5 (show 1 < 5 by omega)
  obtain ⟨y2, e2⟩ := some_at hl5 (show 2 < 5 by omega)
  obtain ⟨y3, e3⟩ := some_at hl5 (show 3 < 5 by omega)
  obtain ⟨y4, e4⟩ := some_at hl5 (show 4 < 5 by omega)
  rw [cellsW, e0] at g0
  rw [cellsW, e1] at g1
  rw [cellsI, e2] at g2
  rw [cellsW, e3] at g3
  rw [cellsA, e4] at g4
  obtain ⟨i0, a0, _⟩ := int_at Tryz.underlying24 g0
  obtain ⟨i1, a1, _⟩ := int_at Tryz.underlying24 g1
  obtain ⟨i2, a2, _⟩ := int_at Tryz.underlying3 g2
  obtain ⟨i3, a3, _⟩ := int_at Tryz.underlying24 g3
  obtain ⟨zs, m', _, _, _, hz, ha⟩ := DataW.trod_array Tryz.underlying27 g4
  intro j hj
  by_cases h4 : 4 ≤ j
  · obtain ⟨i, rfl⟩ : ∃ i, j = 4 + i := ⟨j - 4, by omega⟩
    have hi := ha i (by omega)
    obtain ⟨y, ey⟩ := some_at hz (show i < 32 by omega)
    rw [cellsW, ey, Nat.mul_one] at hi
    obtain ⟨z, az, _⟩ := int_at Tryz.underlying24 hi
    exact ⟨_, _, part_at az⟩
  · have : j = 0 ∨ j = 1 ∨ j = 2 ∨ j = 3 := by omega
    rcases this with rfl | rfl | rfl | rfl
    · exact ⟨_, _, a0⟩
    · exact ⟨_, _, a1⟩
    · exact ⟨_, _, a2⟩
    · exact ⟨_, _, a3⟩
theorem openReply (n : Nat) (cs : List Value) (x : DataW H × List MemPlace) (h : DataW.trod enc Tryz.prog w base spare held n 31 cs = some x) : ∃ a : RpR, a.ok ∧ cs = enQ a := by
  obtain ⟨xs, m, _, _, hl, hlen, hf⟩ := DataW.trod_struct Tryz.underlying31 h
  rw [cellsQ] at hl
  have g0 : DataW.trod enc Tryz.prog w base spare held m 3 ((cs.drop 0).take (Tryz.prog.cellsOf 3)) = xs[0]? := hf 0 _ rfl
  have g1 : DataW.trod enc Tryz.prog w base spare held m 22 ((cs.drop 1).take (Tryz.prog.cellsOf 22)) = xs[1]? := hf 1 _ rfl
  have g2 : DataW.trod enc Tryz.prog w base spare held m 26 ((cs.drop 2).take (Tryz.prog.cellsOf 26)) = xs[2]? := hf 2 _ rfl
  have g3 : DataW.trod enc Tryz.prog w base spare held m 24 ((cs.drop 5).take (Tryz.prog.cellsOf 24)) = xs[3]? := hf 3 _ rfl
  have g4 : DataW.trod enc Tryz.prog w base spare held m 29 ((cs.drop 6).take (Tryz.prog.cellsOf 29)) = xs[4]? := hf 4 _ rfl
  have hl5 : xs.length = 5 := hlen
  obtain ⟨y0, e0⟩ := some_at hl5 (show 0 < 5 by omega)
  obtain ⟨y1, e1⟩ := some_at hl5 (show 1 < 5 by omega)
  obtain ⟨y2, e2⟩ := some_at hl5 (show 2 < 5 by omega)
  obtain ⟨y3, e3⟩ := some_at hl5 (show 3 < 5 by omega)
  obtain ⟨y4, e4⟩ := some_at hl5 (show 4 < 5 by omega)
  rw [cellsI, e0] at g0
  rw [cellsE, e1] at g1
  rw [cellsP, e2] at g2
  rw [cellsW, e3] at g3
  rw [cellsS, e4] at g4
  obtain ⟨i0, a0, b0⟩ := int_at Tryz.underlying3 g0
  obtain ⟨i1, a1, b1⟩ := int_at Tryz.underlying22 g1
  obtain ⟨i5, a5, _⟩ := int_at Tryz.underlying24 g3
  obtain ⟨ps, m', _, _, _, hp, hpf⟩ := DataW.trod_struct Tryz.underlying26 g2
  have q0 : DataW.trod enc Tryz.prog w base spare held m' 23 ((((cs.drop 2).take 3).drop 0).take (Tryz.prog.cellsOf 23)) = ps[0]? := hpf 0 _ rfl
  have q1 : DataW.trod enc Tryz.prog w base spare held m' 23 ((((cs.drop 2).take 3).drop 1).take (Tryz.prog.cellsOf 23)) = ps[1]? := hpf 1 _ rfl
  have q2 : DataW.trod enc Tryz.prog w base spare held m' 24 ((((cs.drop 2).take 3).drop 2).take (Tryz.prog.cellsOf 24)) = ps[2]? := hpf 2 _ rfl
  have hp3 : ps.length = 3 := hp
  obtain ⟨z0, f0⟩ := some_at hp3 (show 0 < 3 by omega)
  obtain ⟨z1, f1⟩ := some_at hp3 (show 1 < 3 by omega)
  obtain ⟨z2, f2⟩ := some_at hp3 (show 2 < 3 by omega)
  rw [cellsH, f0] at q0
  rw [cellsH, f1] at q1
  rw [cellsW, f2] at q2
  obtain ⟨i2, a2, b2⟩ := int_at Tryz.underlying23 q0
  obtain ⟨i3, a3, b3⟩ := int_at Tryz.underlying23 q1
  obtain ⟨i4, a4, b4⟩ := int_at Tryz.underlying24 q2
  have a2 := part_at a2
  have a3 := part_at a3
  have a4 := part_at a4
  have hS := openStats _ _ _ g4
  have u2 := bounds_u32 b2
  have u3 := bounds_u32 b3
  have u4 := bounds_u64 b4
  have k0 : intAt cs 0 = i0 := by unfold intAt; rw [a0]
  have k1 : intAt cs 1 = i1 := by unfold intAt; rw [a1]
  have k2 : intAt cs 2 = i2 := by unfold intAt; rw [a2]
  have k3 : intAt cs 3 = i3 := by unfold intAt; rw [a3]
  have k4 : intAt cs 4 = i4 := by unfold intAt; rw [a4]
  have hall : ∀ j, j < 42 → IntAt cs j := by
    intro j hj
    by_cases h6 : 6 ≤ j
    · obtain ⟨i, rfl⟩ : ∃ i, j = 6 + i := ⟨j - 6, by omega⟩
      obtain ⟨k, n, e⟩ := hS i (by omega)
      exact ⟨k, n, part_at e⟩
    · have : j = 0 ∨ j = 1 ∨ j = 2 ∨ j = 3 ∨ j = 4 ∨ j = 5 := by omega
      rcases this with rfl | rfl | rfl | rfl | rfl | rfl
      · exact ⟨_, _, a0⟩
      · exact ⟨_, _, a1⟩
      · exact ⟨_, _, a2⟩
      · exact ⟨_, _, a3⟩
      · exact ⟨_, _, a4⟩
      · exact ⟨_, _, a5⟩
  refine ⟨⟨cs, hl⟩, ⟨?_, ?_, ?_, ?_, ?_, ?_, ?_, ?_, ?_, ?_, ?_⟩, rfl⟩
  · show cs[0]? = some (.int .i64 (intAt cs 0)); rw [k0]; exact a0
  · show cs[1]? = some (.int .i64 (intAt cs 1)); rw [k1]; exact a1
  · show cs[2]? = some (.int .u32 ((intAt cs 2).toNat : Int)); rw [k2, show ((i2.toNat : Nat) : Int) = i2 by omega]; exact a2
  · show cs[3]? = some (.int .u32 ((intAt cs 3).toNat : Int)); rw [k3, show ((i3.toNat : Nat) : Int) = i3 by omega]; exact a3
  · show cs[4]? = some (.int .u64 ((intAt cs 4).toNat : Int)); rw [k4, show ((i4.toNat : Nat) : Int) = i4 by omega]; exact a4
  · intro v hv
    obtain ⟨j, hj⟩ := List.getElem?_of_mem hv
    have hj42 : j < 42 := by have := (List.getElem?_eq_some_iff.1 (show cs[j]? = some v from hj)).1; omega
    obtain ⟨k, z, e⟩ := hall j hj42
    have : some v = some (.int k z) := hj.symm.trans e
    injection this with this; rw [this]; rfl
  · show _ ≤ intAt cs 0 ∧ intAt cs 0 ≤ _; rw [k0]; exact bounds_i64 b0
  · show _ ≤ intAt cs 1 ∧ intAt cs 1 ≤ _; rw [k1]; exact bounds_i64 b1
  · show (intAt cs 2).toNat < _; rw [k2]; omega
  · show (intAt cs 3).toNat < _; rw [k3]; omega
  · show (intAt cs 4).toNat < _; rw [k4]; omega
end
end Go.Proofs.YtacgabagfdlpeaaGreatDoor
