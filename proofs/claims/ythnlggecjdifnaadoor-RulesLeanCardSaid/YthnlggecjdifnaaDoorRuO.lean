/- Rules and headers among the arguments; the library's table. -/
import Derived.Test.YthnlggecjdifnaaDoorTzTab
import Derived.Test.YthnlggecjdifnaaDoorRuLv
import Derived.Test.YthnlggecjdifnaaDoorOpenCap
import Derived.ProofKit
import Derived.OpenShut
namespace Go.Proofs.YthnlggecjdifnaaDoor
set_option linter.unusedVariables false
set_option linter.unusedSimpArgs false
open Go.RowKit Go.ChangeShapes Go.WideShapes Go.ChangeAt Go.Deep

theorem ocP : Tryd.prog.cellsOf 46 = 2 := by kernel_rfl
theorem ocI : Tryd.prog.cellsOf 3 = 1 := by kernel_rfl
theorem oc32 : Tryd.prog.cellsOf 24 = 1 := by kernel_rfl
theorem oc16 : Tryd.prog.cellsOf 23 = 1 := by kernel_rfl
theorem oc8 : Tryd.prog.cellsOf 5 = 1 := by kernel_rfl
theorem ocR : Tryd.prog.cellsOf 48 = 7 := by kernel_rfl
theorem ocH : Tryd.prog.cellsOf 26 = 7 := by kernel_rfl
theorem b32 {i : Int} (h : (Lit.int .u32 i).wf = true) : 0 ≤ i ∧ i < 4294967296 := by
  simp [Lit.wf, IntKind.min, IntKind.max, IntKind.signed, IntKind.bits] at h
  omega
theorem b16 {i : Int} (h : (Lit.int .u16 i).wf = true) : 0 ≤ i ∧ i < 65536 := by
  simp [Lit.wf, IntKind.min, IntKind.max, IntKind.signed, IntKind.bits] at h
  omega
theorem b8 {i : Int} (h : (Lit.int .u8 i).wf = true) : 0 ≤ i ∧ i < 256 := by
  simp [Lit.wf, IntKind.min, IntKind.max, IntKind.signed, IntKind.bits] at h
  omega
section
variable {H : Type} {enc : TypeId × Value → H} {w : World} {base : Nat} {spare : Nat → Bool} {held : Bool}
theorem at_of_take {cs : List Value} {o : Nat} {v : Value} (h : (cs.drop o).take 1 = [v]) : cs[o]? = some v := by
  have : ((cs.drop o).take 1)[0]? = some v := by rw [h]; rfl
  rw [List.getElem?_take, if_pos (by omega), List.getElem?_drop] at this
  simpa using this
theorem some_at {α : Type} {xs : List α} {i n : Nat} (h : xs.length = n) (hi : i < n) : ∃ y, xs[i]? = some y := ⟨xs[i]'(by omega), List.getElem?_eq_getElem _⟩
theorem int_at {k : IntKind} {t : TypeId} (ht : Tryd.prog.underlying t = some (.int k)) {m o : Nat} {cs : List Value} {y : DataW H × List MemPlace} (h : DataW.trod enc Tryd.prog w base spare held m t ((cs.drop o).take 1) = some y) : ∃ i, cs[o]? = some (.int k i) ∧ (Lit.int k i).wf = true := by
  obtain ⟨i, e, _, w0⟩ := DataW.trod_int ht h
  exact ⟨i, at_of_take e, w0⟩
theorem part_at {cs : List Value} {o n k : Nat} {v : Value} (h : ((cs.drop o).take n)[k]? = some v) : cs[o + k]? = some v := by
  rw [List.getElem?_take] at h
  split at h
  · rwa [List.getElem?_drop] at h
  · cases h
theorem openPx {m : Nat} {o : Nat} {cs : List Value} {y : DataW H × List MemPlace} (h : DataW.trod enc Tryd.prog w base spare held m 46 ((cs.drop o).take 2) = some y) : ∃ p : Nat × Int, pfOk p ∧ cs[o]? = some (.int .u32 p.1) ∧ cs[o + 1]? = some (.int .i64 p.2) := by
  obtain ⟨xs, m', _, _, hl, hlen, hf⟩ := DataW.trod_struct Tryd.underlying46 h
  have g0 : DataW.trod enc Tryd.prog w base spare held m' 24 ((((cs.drop o).take 2).drop 0).take (Tryd.prog.cellsOf 24)) = xs[0]? := hf 0 _ rfl
  have g1 : DataW.trod enc Tryd.prog w base spare held m' 3 ((((cs.drop o).take 2).drop 1).take (Tryd.prog.cellsOf 3)) = xs[1]? := hf 1 _ rfl
  have hl2 : xs.length = 2 := hlen
  obtain ⟨y0, e0⟩ := some_at hl2 (show 0 < 2 by omega)
  obtain ⟨y1, e1⟩ := some_at hl2 (show 1 < 2 by omega)
  rw [oc32, e0] at g0
  rw [ocI, e1] at g1
  obtain ⟨i0, a0, b0⟩ := int_at Tryd.underlying24 g0
  obtain ⟨i1, a1, b1⟩ := int_at Tryd.underlying3 g1
  have h0 := b32 b0
  obtain ⟨a, rfl⟩ : ∃ a : Nat, i0 = a := ⟨i0.toNat, by omega⟩
  exact ⟨(a, i1), ⟨by show a < _; omega, bounds_i64 b1⟩, part_at a0, part_at a1⟩
set_option maxRecDepth 100000 in
theorem openRule (n : Nat) (cs : List Value) (x : DataW H × List MemPlace) (h : DataW.trod enc Tryd.prog w base spare held n 48 cs = some x) : ∃ a : RuN, a.Ok ∧ cs = enR7 a := by
  obtain ⟨xs, m, _, _, hl, hlen, hf⟩ := DataW.trod_struct Tryd.underlying48 h
  rw [ocR] at hl
  have g0 : DataW.trod enc Tryd.prog w base spare held m 46 ((cs.drop 0).take (Tryd.prog.cellsOf 46)) = xs[0]? := hf 0 _ rfl
  have g1 : DataW.trod enc Tryd.prog w base spare held m 46 ((cs.drop 2).take (Tryd.prog.cellsOf 46)) = xs[1]? := hf 1 _ rfl
  have g2 : DataW.trod enc Tryd.prog w base spare held m 23 ((cs.drop 4).take (Tryd.prog.cellsOf 23)) = xs[2]? := hf 2 _ rfl
  have g3 : DataW.trod enc Tryd.prog w base spare held m 23 ((cs.drop 5).take (Tryd.prog.cellsOf 23)) = xs[3]? := hf 3 _ rfl
  have g4 : DataW.trod enc Tryd.prog w base spare held m 24 ((cs.drop 6).take (Tryd.prog.cellsOf 24)) = xs[4]? := hf 4 _ rfl
  have hl5 : xs.length = 5 := hlen
  obtain ⟨y0, e0⟩ := some_at hl5 (show 0 < 5 by omega)
  obtain ⟨y1, e1⟩ := some_at hl5 (show 1 < 5 by omega)
  obtain ⟨y2, e2⟩ := some_at hl5 (show 2 < 5 by omega)
  obtain ⟨y3, e3⟩ := some_at hl5 (show 3 < 5 by omega)
  obtain ⟨y4, e4⟩ := some_at hl5 (show 4 < 5 by omega)
  rw [ocP, e0] at g0
  rw [ocP, e1] at g1
  rw [oc16, e2] at g2
  rw [oc16, e3] at g3
  rw [oc32, e4] at g4
  obtain ⟨s, hs, s0, s1⟩ := openPx g0
  obtain ⟨d, hd, d0, d1⟩ := openPx g1
  obtain ⟨i2, a2, w2⟩ := int_at Tryd.underlying23 g2
  obtain ⟨i3, a3, w3⟩ := int_at Tryd.underlying23 g3
  obtain ⟨i4, a4, w4⟩ := int_at Tryd.underlying24 g4
  have h2 := b16 w2
  have h3 := b16 w3
  have h4 := b32 w4
  obtain ⟨lo, rfl⟩ : ∃ a : Nat, i2 = a := ⟨i2.toNat, by omega⟩
  obtain ⟨hi, rfl⟩ : ∃ a : Nat, i3 = a := ⟨i3.toNat, by omega⟩
  obtain ⟨fl, rfl⟩ : ∃ a : Nat, i4 = a := ⟨i4.toNat, by omega⟩
  refine ⟨⟨s, d, lo, hi, fl⟩, ⟨hs, hd, by show lo < _; omega, by show hi < _; omega, by show fl < _; omega⟩, ?_⟩
  match cs, hl with
  | [c0, c1, c2, c3, c4, c5, c6], _ =>
    simp at s0 s1 d0 d1 a2 a3 a4
    subst s0 s1 d0 d1 a2 a3 a4
    rfl
set_option maxRecDepth 100000 in
theorem openHdr (n : Nat) (cs : List Value) (x : DataW H × List MemPlace) (h : DataW.trod enc Tryd.prog w base spare held n 26 cs = some x) : ∃ a : HdR, a.Ok ∧ cs = enHd a := by
  obtain ⟨hlen, hf⟩ := flat_fields Tryd.underlying26 ocH (by decide) (by intro f hf; simp at hf; rcases hf with rfl | rfl | rfl | rfl | rfl | rfl | rfl; (exact oc8); (exact oc16); (exact oc8); (exact oc32); (exact oc32); (exact oc16); exact oc16) h
  match cs, hlen with
  | [c0, c1, c2, c3, c4, c5, c6], _ =>
    obtain ⟨n0, y0, h0⟩ := hf 0 _ c0 rfl rfl
    obtain ⟨n1, y1, h1⟩ := hf 1 _ c1 rfl rfl
    obtain ⟨n2, y2, h2⟩ := hf 2 _ c2 rfl rfl
    obtain ⟨n3, y3, h3⟩ := hf 3 _ c3 rfl rfl
    obtain ⟨n4, y4, h4⟩ := hf 4 _ c4 rfl rfl
    obtain ⟨n5, y5, h5⟩ := hf 5 _ c5 rfl rfl
    obtain ⟨n6, y6, h6⟩ := hf 6 _ c6 rfl rfl
    obtain ⟨i0, e0, _, w0⟩ := DataW.trod_int Tryd.underlying5 h0
    obtain ⟨i1, e1, _, w1⟩ := DataW.trod_int Tryd.underlying23 h1
    obtain ⟨i2, e2, _, w2⟩ := DataW.trod_int Tryd.underlying5 h2
    obtain ⟨i3, e3, _, w3⟩ := DataW.trod_int Tryd.underlying24 h3
    obtain ⟨i4, e4, _, w4⟩ := DataW.trod_int Tryd.underlying24 h4
    obtain ⟨i5, e5, _, w5⟩ := DataW.trod_int Tryd.underlying23 h5
    obtain ⟨i6, e6, _, w6⟩ := DataW.trod_int Tryd.underlying23 h6
    simp at e0 e1 e2 e3 e4 e5 e6
    subst e0 e1 e2 e3 e4 e5 e6
    have b0 := b8 w0
    have b1 := b16 w1
    have b2 := b8 w2
    have b3 := b32 w3
    have b4 := b32 w4
    have b5 := b16 w5
    have b6 := b16 w6
    obtain ⟨x0, rfl⟩ : ∃ a : Nat, i0 = a := ⟨i0.toNat, by omega⟩
    obtain ⟨x1, rfl⟩ : ∃ a : Nat, i1 = a := ⟨i1.toNat, by omega⟩
    obtain ⟨x2, rfl⟩ : ∃ a : Nat, i2 = a := ⟨i2.toNat, by omega⟩
    obtain ⟨x3, rfl⟩ : ∃ a : Nat, i3 = a := ⟨i3.toNat, by omega⟩
    obtain ⟨x4, rfl⟩ : ∃ a : Nat, i4 = a := ⟨i4.toNat, by omega⟩
    obtain ⟨x5, rfl⟩ : ∃ a : Nat, i5 = a := ⟨i5.toNat, by omega⟩
    obtain ⟨x6, rfl⟩ : ∃ a : Nat, i6 = a := ⟨i6.toNat, by omega⟩
    exact ⟨⟨x0, x1, x2, x3, x4, x5, x6⟩, ⟨by show x3 < _; omega, by show x4 < _; omega, by show x6 < _; omega⟩, rfl⟩
end
set_option maxRecDepth 100000 in
theorem openHd {H : Type} {enc : TypeId × Value → H} {w : World} {r : Reach} {b0 base : Nat} {spare : Nat → Bool} {held : Bool} {v : Value} {d : DataW H} {ps : List MemPlace} (hval : Value.okWide Tryd.prog w r b0 26 v)
    (h : DataW.Trod enc Tryd.prog w base spare held 26 v d ps) : ∃ a : HdR, a.Ok ∧ v = .agg #[.int .u8 a.ds, .int .u16 a.id, .int .u8 a.ttl, .int .u32 a.s, .int .u32 a.d, .int .u16 a.sp, .int .u16 a.p] := by
  obtain ⟨cs, rfl, hsz⟩ := okWide_struct Tryd.underlying26 hval
  obtain ⟨fuel, hf⟩ := h
  obtain ⟨a, ha, he⟩ := openHdr fuel _ _ hf
  refine ⟨a, ha, ?_⟩
  have e : cs = (enHd a).toArray := by rw [← he]; simp [Value.cells]
  rw [e]; rfl
end Go.Proofs.YthnlggecjdifnaaDoor
