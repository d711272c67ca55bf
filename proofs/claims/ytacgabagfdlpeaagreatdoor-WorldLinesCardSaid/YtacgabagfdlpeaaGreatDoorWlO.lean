/- Layer 42: replies' cells, and how they read in an argument. -/
import Derived.Test.YtacgabagfdlpeaaGreatDoorWlP
import Derived.Test.YtacgabagfdlpeaaGreatDoorRpO
import Derived.Test.YtacgabagfdlpeaaGreatDoorOpen
namespace Go.Proofs.YtacgabagfdlpeaaGreatDoor
set_option linter.unusedVariables false
set_option linter.unusedSimpArgs false
open Go.ChangeShapes Go.WideShapes Go.ChangeAt Go.RowKit

def enRp (r : RpF) : List Value := [.int .i64 r.kind, .int .i64 r.code, .int .u32 r.flow, .int .u32 r.id, .int .u64 r.len, .int .u64 r.rank, .int .u64 r.now, .int .u64 r.tokens, .int .i64 r.packets, .int .u64 r.bytes] ++ r.ref.map fun (n : Nat) => .int .u64 (n : Int)
theorem enRp_len {r : RpF} (h : r.ok) : (enRp r).length = 42 := by simp [enRp, h.n32]
section
variable {H : Type} {enc : TypeId × Value → H} {w : World} {base : Nat} {spare : Nat → Bool} {held : Bool}
theorem chooseN {p : Nat → Nat → Prop} {n : Nat} (h : ∀ i, i < n → ∃ y, p i y) : ∃ f : Nat → Nat, ∀ i, i < n → p i (f i) :=
  ⟨fun i => if hi : i < n then (h i hi).choose else 0, fun i hi => by simp only [hi, dif_pos]; exact (h i hi).choose_spec⟩
theorem nat32 {i : Int} (h : (Lit.int .u32 i).wf = true) : ∃ n : Nat, i = n ∧ n < 4294967296 := by
  simp [Lit.wf, IntKind.min, IntKind.max, IntKind.signed, IntKind.bits] at h
  exact ⟨i.toNat, by omega, by omega⟩
theorem nat64 {i : Int} (h : (Lit.int .u64 i).wf = true) : ∃ n : Nat, i = n ∧ n < 18446744073709551616 := by
  simp [Lit.wf, IntKind.min, IntKind.max, IntKind.signed, IntKind.bits] at h
  exact ⟨i.toNat, by omega, by omega⟩
theorem int64 {i : Int} (h : (Lit.int .i64 i).wf = true) : -9223372036854775808 ≤ i ∧ i ≤ 9223372036854775807 := by
  simp [Lit.wf, IntKind.min, IntKind.max, IntKind.signed, IntKind.bits] at h
  omega
theorem openRp (n : Nat) (cs : List Value) (x : DataW H × List MemPlace) (h : DataW.trod enc Tryz.prog w base spare held n 31 cs = some x) : ∃ r : RpF, r.ok ∧ cs = enRp r := by
  obtain ⟨xs, m, _, _, hl, hlen, hf⟩ := DataW.trod_struct Tryz.underlying31 h
  rw [cellsQ] at hl
  have g0 : DataW.trod enc Tryz.prog w base spare held m 3 ((cs.drop 0).take (Tryz.prog.cellsOf 3)) = xs[0]? := hf 0 _ rfl
  have g1 : DataW.trod enc Tryz.prog w base spare held m 22 ((cs.drop 1).take (Tryz.prog.cellsOf 22)) = xs[1]? := hf 1 _ rfl
  have g2 : DataW.trod enc Tryz.prog w base spare held m 26 ((cs.drop 2).take (Tryz.prog.cellsOf 26)) = xs[2]? := hf 2 _ rfl
  have g3 : DataW.trod enc Tryz.prog w base spare held m 24 ((cs.drop 5).take (Tryz.prog.cellsOf 24)) = xs[3]? := hf 3 _ rfl
  have g4 : DataW.trod enc Tryz.prog w base spare held m 29 ((cs.drop 6).take (Tryz.prog.cellsOf 29)) = xs[4]? := hf 4 _ rfl
  have hl5 : xs.length = 5 := hlen
  obtain ⟨y0, e0⟩ := some_at hl5 (show 0 < 5 by omega)
  obtain ⟨y1, e1⟩ := some_at hl5 (show 1 < 5 by omega)
  obtain ⟨y2, e2⟩ := some_at hl5 (show 2 < 5 by omega)
  obtain ⟨y3, e3⟩ := some_at hl5 (show 3 < 5 by omega)
  obtain ⟨y4, e4⟩ := some_at hl5 (show 4 < 5 by omega)
  rw [cellsI, e0] at g0
  rw [cellsE, e1] at g1
  rw [cellsP, e2] at g2
  rw [cellsW, e3] at g3
  rw [cellsS, e4] at g4
  obtain ⟨i0, a0, b0⟩ := int_at Tryz.underlying3 g0
  obtain ⟨i1, a1, b1⟩ := int_at Tryz.underlying22 g1
  obtain ⟨i5, a5, b5⟩ := int_at Tryz.underlying24 g3
  obtain ⟨ps, m', _, _, _, hp, hpf⟩ := DataW.trod_struct Tryz.underlying26 g2
  have q0 : DataW.trod enc Tryz.prog w base spare held m' 23 ((((cs.drop 2).take 3).drop 0).take (Tryz.prog.cellsOf 23)) = ps[0]? := hpf 0 _ rfl
  have q1 : DataW.trod enc Tryz.prog w base spare held m' 23 ((((cs.drop 2).take 3).drop 1).take (Tryz.prog.cellsOf 23)) = ps[1]? := hpf 1 _ rfl
  have q2 : DataW.trod enc Tryz.prog w base spare held m' 24 ((((cs.drop 2).take 3).drop 2).take (Tryz.prog.cellsOf 24)) = ps[2]? := hpf 2 _ rfl
  have hp3 : ps.length = 3 := hp
  obtain ⟨z0, f0⟩ := some_at hp3 (show 0 < 3 by omega)
  obtain ⟨z1, f1⟩ := some_at hp3 (show 1 < 3 by omega)
  obtain ⟨z2, f2⟩ := some_at hp3 (show 2 < 3 by omega)
  rw [cellsH, f0] at q0
  rw [cellsH, f1] at q1
  rw [cellsW, f2] at q2
  obtain ⟨i2, a2, b2⟩ := int_at Tryz.underlying23 q0
  obtain ⟨i3, a3, b3⟩ := int_at Tryz.underlying23 q1
  obtain ⟨i4, a4, b4⟩ := int_at Tryz.underlying24 q2
  have a2 := part_at a2
  have a3 := part_at a3
  have a4 := part_at a4
  obtain ⟨ss, ms, _, _, _, hs, hsf⟩ := DataW.trod_struct Tryz.underlying29 g4
  have s0 : DataW.trod enc Tryz.prog w base spare held ms 24 ((((cs.drop 6).take 36).drop 0).take (Tryz.prog.cellsOf 24)) = ss[0]? := hsf 0 _ rfl
  have s1 : DataW.trod enc Tryz.prog w base spare held ms 24 ((((cs.drop 6).take 36).drop 1).take (Tryz.prog.cellsOf 24)) = ss[1]? := hsf 1 _ rfl
  have s2 : DataW.trod enc Tryz.prog w base spare held ms 3 ((((cs.drop 6).take 36).drop 2).take (Tryz.prog.cellsOf 3)) = ss[2]? := hsf 2 _ rfl
  have s3 : DataW.trod enc Tryz.prog w base spare held ms 24 ((((cs.drop 6).take 36).drop 3).take (Tryz.prog.cellsOf 24)) = ss[3]? := hsf 3 _ rfl
  have s4 : DataW.trod enc Tryz.prog w base spare held ms 27 ((((cs.drop 6).take 36).drop 4).take (Tryz.prog.cellsOf 27)) = ss[4]? := hsf 4 _ rfl
  have hs5 : ss.length = 5 := hs
  obtain ⟨t0, c0⟩ := some_at hs5 (show 0 < 5 by omega)
  obtain ⟨t1, c1⟩ := some_at hs5 (show 1 < 5 by omega)
  obtain ⟨t2, c2⟩ := some_at hs5 (show 2 < 5 by omega)
  obtain ⟨t3, c3⟩ := some_at hs5 (show 3 < 5 by omega)
  obtain ⟨t4, c4⟩ := some_at hs5 (show 4 < 5 by omega)
  rw [cellsW, c0] at s0
  rw [cellsW, c1] at s1
  rw [cellsI, c2] at s2
  rw [cellsW, c3] at s3
  rw [cellsA, c4] at s4
  obtain ⟨i6, a6, b6⟩ := int_at Tryz.underlying24 s0
  obtain ⟨i7, a7, b7⟩ := int_at Tryz.underlying24 s1
  obtain ⟨i8, a8, b8⟩ := int_at Tryz.underlying3 s2
  obtain ⟨i9, a9, b9⟩ := int_at Tryz.underlying24 s3
  have a6 := part_at a6
  have a7 := part_at a7
  have a8 := part_at a8
  have a9 := part_at a9
  obtain ⟨zs, m2, _, _, _, hz, ha⟩ := DataW.trod_array Tryz.underlying27 s4
  have hr : ∀ j, j < 32 → ∃ k : Nat, cs[10 + j]? = some (.int .u64 k) ∧ k < 18446744073709551616 := fun j hj => by
    have hi := ha j (by omega)
    obtain ⟨y, ey⟩ := some_at hz (show j < 32 by omega)
    rw [cellsW, ey, Nat.mul_one] at hi
    obtain ⟨z, az, bz⟩ := int_at Tryz.underlying24 hi
    obtain ⟨k, rfl, hk⟩ := nat64 bz
    have h1 := part_at (part_at az)
    exact ⟨k, by rw [← h1]; congr 1; omega, hk⟩
  obtain ⟨f, hf2⟩ := chooseN hr
  obtain ⟨k2, rfl, l2⟩ := nat32 b2
  obtain ⟨k3, rfl, l3⟩ := nat32 b3
  obtain ⟨k4, rfl, l4⟩ := nat64 b4
  obtain ⟨k5, rfl, l5⟩ := nat64 b5
  obtain ⟨k6, rfl, l6⟩ := nat64 b6
  obtain ⟨k7, rfl, l7⟩ := nat64 b7
  obtain ⟨k9, rfl, l9⟩ := nat64 b9
  refine ⟨⟨i0, i1, k2, k3, k4, k5, k6, k7, i8, k9, (List.range 32).map f⟩, ⟨int64 b0, int64 b1, l2, l3, l4, l5, l6, l7, int64 b8, l9, by simp, fun n hn => ?_⟩, ?_⟩
  · obtain ⟨j, hj, rfl⟩ := List.mem_map.1 hn
    exact (hf2 j (List.mem_range.1 hj)).2
  · apply List.ext_getElem?
    intro j
    by_cases h10 : j < 10
    · have : j = 0 ∨ j = 1 ∨ j = 2 ∨ j = 3 ∨ j = 4 ∨ j = 5 ∨ j = 6 ∨ j = 7 ∨ j = 8 ∨ j = 9 := by omega
      rcases this with rfl | rfl | rfl | rfl | rfl | rfl | rfl | rfl | rfl | rfl
      · exact a0
      · exact a1
      · exact a2
      · exact a3
      · exact a4
      · exact a5
      · exact a6
      · exact a7
      · exact a8
      · exact a9
    · by_cases h42 : j < 42
      · obtain ⟨k, rfl⟩ : ∃ k, j = 10 + k := ⟨j - 10, by omega⟩
        rw [(hf2 k (by omega)).1]
        unfold enRp
        rw [List.getElem?_append_right (by simp)]
        have e : 10 + k - 10 = k := by omega
        simp [e, show k < 32 by omega]
      · rw [List.getElem?_eq_none (by omega), List.getElem?_eq_none (by simp [enRp]; omega)]
set_option maxRecDepth 100000 in
theorem openReplyF {r0 : Reach} {b0 : Nat} {v : Value} {d : DataW H} {ps : List MemPlace} (hval : Value.okWide Tryz.prog w r0 b0 31 v)
    (h : DataW.Trod enc Tryz.prog w base spare held 31 v d ps) : ∃ r : RpF, r.ok ∧ v = .agg (enRp r).toArray := by
  obtain ⟨cs, rfl, hsz⟩ := okWide_struct Tryz.underlying31 hval
  obtain ⟨fuel, hf⟩ := h
  obtain ⟨r, hr, he⟩ := openRp fuel _ _ hf
  refine ⟨r, hr, ?_⟩
  have e : cs = (enRp r).toArray := by rw [← he]; simp [Value.cells]
  rw [e]
end
end Go.Proofs.YtacgabagfdlpeaaGreatDoor
