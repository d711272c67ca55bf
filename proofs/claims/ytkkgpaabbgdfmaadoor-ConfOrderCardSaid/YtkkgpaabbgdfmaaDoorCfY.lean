/- Layer 24: configurations in arguments; the library's variable. -/
import Derived.Test.YtkkgpaabbgdfmaaDoorDoorTab
import Derived.Test.YtkkgpaabbgdfmaaDoorCfW
import Derived.ChangeMaps5
namespace Go.Proofs.YtkkgpaabbgdfmaaDoor
set_option linter.unusedVariables false
set_option linter.unusedSimpArgs false
open Go.ChangeShapes Go.WideShapes Go.ChangeAt Go.RowKit
set_option maxRecDepth 100000

theorem bnd32 {i : Int} (h : (Lit.int .u32 i).wf = true) : 0 ≤ i ∧ i < 4294967296 := by
  simp [Lit.wf, IntKind.min, IntKind.max, IntKind.signed, IntKind.bits] at h
  omega
theorem bnd64 {i : Int} (h : (Lit.int .u64 i).wf = true) : 0 ≤ i ∧ i < 18446744073709551616 := by
  simp [Lit.wf, IntKind.min, IntKind.max, IntKind.signed, IntKind.bits] at h
  omega
theorem bndI {i : Int} (h : (Lit.int .i64 i).wf = true) : -9223372036854775808 ≤ i ∧ i ≤ 9223372036854775807 := by
  simp [Lit.wf, IntKind.min, IntKind.max, IntKind.signed, IntKind.bits] at h
  omega
theorem cellsFl : Tryd.prog.cellsOf 46 = 5 := by kernel_rfl
theorem cellsCf : Tryd.prog.cellsOf 25 = 11 := by kernel_rfl
theorem cells_i : Tryd.prog.cellsOf 3 = 1 := by kernel_rfl
theorem cells_u : Tryd.prog.cellsOf 22 = 1 := by kernel_rfl
theorem cells_h : Tryd.prog.cellsOf 44 = 1 := by kernel_rfl
theorem cells_s : Tryd.prog.cellsOf 23 = 1 := by kernel_rfl
section
variable {H : Type} {enc : TypeId × Value → H} {w : World} {base : Nat} {spare : Nat → Bool} {held : Bool}
theorem openFlow (n : Nat) (cs : List Value) (x : DataW H × List MemPlace) (h : DataW.trod enc Tryd.prog w base spare held n 46 cs = some x) : ∃ a : FlR, a.ok ∧ cs = enFl a := by
  obtain ⟨hlen, hf⟩ := flat_fields Tryd.underlying46 cellsFl (by decide) (by intro f hf; simp at hf; rcases hf with rfl | rfl | rfl | rfl | rfl; (exact cells_h); (exact cells_u); (exact cells_u); (exact cells_u); exact cells_u) h
  match cs, hlen with
  | [c0, c1, c2, c3, c4], _ =>
    obtain ⟨n0, y0, h0⟩ := hf 0 _ c0 rfl rfl
    obtain ⟨n1, y1, h1⟩ := hf 1 _ c1 rfl rfl
    obtain ⟨n2, y2, h2⟩ := hf 2 _ c2 rfl rfl
    obtain ⟨n3, y3, h3⟩ := hf 3 _ c3 rfl rfl
    obtain ⟨n4, y4, h4⟩ := hf 4 _ c4 rfl rfl
    obtain ⟨i0, e0, _, w0⟩ := DataW.trod_int Tryd.underlying44 h0
    obtain ⟨i1, e1, _, w1⟩ := DataW.trod_int Tryd.underlying22 h1
    obtain ⟨i2, e2, _, w2⟩ := DataW.trod_int Tryd.underlying22 h2
    obtain ⟨i3, e3, _, w3⟩ := DataW.trod_int Tryd.underlying22 h3
    obtain ⟨i4, e4, _, w4⟩ := DataW.trod_int Tryd.underlying22 h4
    simp at e0 e1 e2 e3 e4
    subst e0 e1 e2 e3 e4
    have b0 := bnd32 w0
    have b1 := bnd64 w1
    have b2 := bnd64 w2
    have b3 := bnd64 w3
    have b4 := bnd64 w4
    obtain ⟨f, rfl⟩ : ∃ z : Nat, i0 = z := ⟨i0.toNat, by omega⟩
    obtain ⟨g, rfl⟩ : ∃ z : Nat, i1 = z := ⟨i1.toNat, by omega⟩
    obtain ⟨i, rfl⟩ : ∃ z : Nat, i2 = z := ⟨i2.toNat, by omega⟩
    obtain ⟨m, rfl⟩ : ∃ z : Nat, i3 = z := ⟨i3.toNat, by omega⟩
    obtain ⟨k, rfl⟩ : ∃ z : Nat, i4 = z := ⟨i4.toNat, by omega⟩
    exact ⟨⟨f, g, i, m, k⟩, ⟨by show f < _; omega, by show g < _; omega, by show i < _; omega, by show m < _; omega, by show k < _; omega⟩, rfl⟩
theorem openCfg {r : Reach} {b0 : Nat} {v : Value} {d : DataW H} {ps : List MemPlace} (hval : Value.okWide Tryd.prog w r b0 25 v)
    (h : DataW.Trod enc Tryd.prog w base spare held 25 v d ps) : ∃ (c : CfR) (u : Value), c.ok ∧ v = .agg (enC c u).toArray ∧ Sl w u c.flows.length 5 (c.flows.flatMap enFl) := by
  obtain ⟨cs, rfl, hsz⟩ := okWide_struct Tryd.underlying25 hval
  obtain ⟨fuel, hf⟩ := h
  obtain ⟨hlen, hfs⟩ := flat_fields Tryd.underlying25 cellsCf (by decide) (by intro f hf; simp at hf; rcases hf with rfl | rfl | rfl | rfl | rfl | rfl | rfl | rfl | rfl | rfl | rfl; (exact cells_i); (exact cells_i); (exact cells_i); (exact cells_i); (exact cells_i); (exact cells_u); (exact cells_i); (exact cells_u); (exact cells_u); (exact cells_u); exact cells_s) hf
  obtain ⟨c0, c1, c2, c3, c4, c5, c6, c7, c8, c9, c10, rfl⟩ : ∃ c0 c1 c2 c3 c4 c5 c6 c7 c8 c9 c10, cs = #[c0, c1, c2, c3, c4, c5, c6, c7, c8, c9, c10] := by
    rw [cellsCf] at hsz
    match cs, hsz with
    | ⟨[c0, c1, c2, c3, c4, c5, c6, c7, c8, c9, c10]⟩, _ => exact ⟨c0, c1, c2, c3, c4, c5, c6, c7, c8, c9, c10, rfl⟩
  obtain ⟨n0, y0, h0⟩ := hfs 0 _ c0 rfl rfl
  obtain ⟨n1, y1, h1⟩ := hfs 1 _ c1 rfl rfl
  obtain ⟨n2, y2, h2⟩ := hfs 2 _ c2 rfl rfl
  obtain ⟨n3, y3, h3⟩ := hfs 3 _ c3 rfl rfl
  obtain ⟨n4, y4, h4⟩ := hfs 4 _ c4 rfl rfl
  obtain ⟨n5, y5, h5⟩ := hfs 5 _ c5 rfl rfl
  obtain ⟨n6, y6, h6⟩ := hfs 6 _ c6 rfl rfl
  obtain ⟨n7, y7, h7⟩ := hfs 7 _ c7 rfl rfl
  obtain ⟨n8, y8, h8⟩ := hfs 8 _ c8 rfl rfl
  obtain ⟨n9, y9, h9⟩ := hfs 9 _ c9 rfl rfl
  obtain ⟨n10, y10, h10⟩ := hfs 10 _ c10 rfl rfl
  obtain ⟨i0, e0, _, w0⟩ := DataW.trod_int Tryd.underlying3 h0
  obtain ⟨i1, e1, _, w1⟩ := DataW.trod_int Tryd.underlying3 h1
  obtain ⟨i2, e2, _, w2⟩ := DataW.trod_int Tryd.underlying3 h2
  obtain ⟨i3, e3, _, w3⟩ := DataW.trod_int Tryd.underlying3 h3
  obtain ⟨i4, e4, _, w4⟩ := DataW.trod_int Tryd.underlying3 h4
  obtain ⟨i5, e5, _, w5⟩ := DataW.trod_int Tryd.underlying22 h5
  obtain ⟨i6, e6, _, w6⟩ := DataW.trod_int Tryd.underlying3 h6
  obtain ⟨i7, e7, _, w7⟩ := DataW.trod_int Tryd.underlying22 h7
  obtain ⟨i8, e8, _, w8⟩ := DataW.trod_int Tryd.underlying22 h8
  obtain ⟨i9, e9, _, w9⟩ := DataW.trod_int Tryd.underlying22 h9
  obtain ⟨u, l, hu, hok, hsl⟩ := open_flat Tryd.underlying23 cellsFl (by decide) enFl FlR.ok enFl_len openFlow h10
  simp at e0 e1 e2 e3 e4 e5 e6 e7 e8 e9 hu
  subst e0 e1 e2 e3 e4 e5 e6 e7 e8 e9 hu
  have b5 := bnd64 w5; have b7 := bnd64 w7; have b8 := bnd64 w8; have b9 := bnd64 w9
  obtain ⟨m5, rfl⟩ : ∃ z : Nat, i5 = z := ⟨i5.toNat, by omega⟩
  obtain ⟨m7, rfl⟩ : ∃ z : Nat, i7 = z := ⟨i7.toNat, by omega⟩
  obtain ⟨m8, rfl⟩ : ∃ z : Nat, i8 = z := ⟨i8.toNat, by omega⟩
  obtain ⟨m9, rfl⟩ : ∃ z : Nat, i9 = z := ⟨i9.toNat, by omega⟩
  refine ⟨⟨i0, i1, i2, i3, i4, m5, i6, m7, m8, m9, l⟩, _, ⟨bndI w0, bndI w1, bndI w2, bndI w3, bndI w4, ?_, bndI w6, ?_, ?_, ?_, hok⟩, rfl, hsl⟩
  · show m5 < M64; unfold M64; omega
  · show m7 < M64; unfold M64; omega
  · show m8 < M64; unfold M64; omega
  · show m9 < M64; unfold M64; omega
end
theorem mx_of {w : World} (h : w.ShapedOpen Tryd.prog) : MX w := Tryd.laysM146.s1_3 w h
end Go.Proofs.YtkkgpaabbgdfmaaDoor
