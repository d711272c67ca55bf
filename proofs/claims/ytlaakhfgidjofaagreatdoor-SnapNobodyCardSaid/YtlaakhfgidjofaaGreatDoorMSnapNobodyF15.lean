/- Walk for layer 24: a configuration is the same as itself. -/
import Derived.Test.YtlaakhfgidjofaaGreatDoorMSnapNobodyF3
import Derived.Test.YtlaakhfgidjofaaGreatDoorMSnapNobodyF5
import Derived.Laws.StructEq
import Derived.Test.YtlaakhfgidjofaaGreatDoorMSnapNobodyF14
import Derived.Test.YtlaakhfgidjofaaGreatDoorMSnapNobodyF0
import Derived.ChangeMaps5
import Derived.Test.YtlaakhfgidjofaaGreatDoorMSnapNobodyF2
import Derived.Test.YtlaakhfgidjofaaGreatDoorMSnapNobodyF6
import Derived.Test.YtlaakhfgidjofaaGreatDoorMSnapNobodyF1
import Derived.Deep.QuietTactic
import Derived.BigQuiet
namespace Go.Proofs.YtlaakhfgidjofaaGreatDoor
set_option linter.unusedVariables false
set_option linter.unusedSimpArgs false
open Go Go.RowKit Go.Shelf
theorem eqFl (f : FlR) (w : World) : (Op.equalIn 10000 85 (.agg (enFl f).toArray) (.agg (enFl f).toArray)).run Tryz.prog w = .ok true w := by
  unfold enFl
  go_simp
theorem neFl (f : FlR) (w : World) : (binOp .neq 85 (.agg #[.int .u32 f.id, .int .u64 f.cost, .int .u64 f.budget, .int .u64 f.size, .int .u64 f.cap]) (.agg #[.int .u32 f.id, .int .u64 f.cost, .int .u64 f.budget, .int .u64 f.size, .int .u64 f.cap])).run Tryz.prog w = .ok (.bool false) w := by
  have h := eqFl f w
  unfold enFl at h
  rw [run_neq_struct, h]; rfl
set_option maxRecDepth 100000 in
set_option maxHeartbeats 4000000 in
theorem rSame (c : CfR) (v u : Value) (w : World) (hv : Sl w v c.flows.length 5 (c.flows.flatMap enFl)) (hu : Sl w u c.flows.length 5 (c.flows.flatMap enFl)) :
    Calls Tryz.prog 11 #[.agg (enC c v).toArray, .agg (enC c u).toArray] w fun e w' => e = .returned (.bool true) ∧ Kp none' w w' := by
  have hn := hv.max
  have hb0 : Blk ((w.alloc (.cells (enC c v).toArray 25)).alloc (.cells (enC c u).toArray 25)) w.heap.size (enC c v) 25 := (Blk.new w (enC c v) 25).alloc _
  have hb1 : Blk ((w.alloc (.cells (enC c v).toArray 25)).alloc (.cells (enC c u).toArray 25)) (w.heap.size + 1) (enC c u) 25 := by
    have := Blk.new (w.alloc (.cells (enC c v).toArray 25)) (enC c u) 25
    rwa [World.size_alloc] at this
  have hk : Kp none' w ((w.alloc (.cells (enC c v).toArray 25)).alloc (.cells (enC c u).toArray 25)) := ((Kp.refl _ _).alloc _).alloc _
  obtain ⟨w0, hw0⟩ : ∃ W, (w.alloc (.cells #[.int .i64 c.rank, .int .i64 c.back, .int .i64 c.levels, .int .i64 c.queues, .int .i64 c.packets, .int .u64 c.bytes, .int .i64 c.share, .int .u64 c.mtu, .int .u64 c.rate, .int .u64 c.burst, v] 25)).alloc (.cells #[.int .i64 c.rank, .int .i64 c.back, .int .i64 c.levels, .int .i64 c.queues, .int .i64 c.packets, .int .u64 c.bytes, .int .i64 c.share, .int .u64 c.mtu, .int .u64 c.rate, .int .u64 c.burst, u] 25) = W := ⟨_, rfl⟩
  have hw1 : (w.alloc (.cells (enC c v).toArray 25)).alloc (.cells (enC c u).toArray 25) = w0 := hw0
  rw [hw1] at hb0 hb1 hk
  obtain ⟨vo, vc, rfl⟩ : ∃ ao cap, v = .slice ao c.flows.length cap := by obtain ⟨ao, cap, rfl, _⟩ := hv.is; exact ⟨_, _, rfl⟩
  obtain ⟨uo, uc, rfl⟩ : ∃ ao cap, u = .slice ao c.flows.length cap := by obtain ⟨ao, cap, rfl, _⟩ := hu.is; exact ⟨_, _, rfl⟩
  have HV := Lib.hid (hv.old hk); have HU := Lib.hid (hu.old hk); have HK := Lib.hid hk
  have hcf : c.flows.length = c.flows.length := rfl
  obtain ⟨rk, bk, lv, qu, pk, bt, sh, mt, rt, bu, fl⟩ := c
  simp only at hn hb0 hb1 HV HU
  have a0 := hb0.cell 0 rfl; have a1 := hb0.cell 1 rfl; have a2 := hb0.cell 2 rfl; have a3 := hb0.cell 3 rfl; have a4 := hb0.cell 4 rfl; have a5 := hb0.cell 5 rfl; have a6 := hb0.cell 6 rfl; have a7 := hb0.cell 7 rfl; have a8 := hb0.cell 8 rfl; have a9 := hb0.cell 9 rfl; have a10 := hb0.cell 10 rfl
  have b0 := hb1.cell 0 rfl; have b1 := hb1.cell 1 rfl; have b2 := hb1.cell 2 rfl; have b3 := hb1.cell 3 rfl; have b4 := hb1.cell 4 rfl; have b5 := hb1.cell 5 rfl; have b6 := hb1.cell 6 rfl; have b7 := hb1.cell 7 rfl; have b8 := hb1.cell 8 rfl; have b9 := hb1.cell 9 rfl; have b10 := hb1.cell 10 rfl
  simp only at a0 a1 a2 a3 a4 a5 a6 a7 a8 a9 a10 b0 b1 b2 b3 b4 b5 b6 b7 b8 b9 b10 hw0
  have HA := Lib.hid hb0; have HB := Lib.hid hb1
  have HNE := Lib.hid (fun f W => neFl f W)
  clear hb0 hb1 hk hw1 hv hu hcf
  unfold enC
  simp only
  go_enter Tryz.func11, Tryz.ntmps11
  go_wp2_with fail
  clear hw0
  go_loopw [5] (fun i0 wr => ∃ k : Nat, i0 = .int .i64 k ∧ k ≤ fl.length ∧ Hid (Kp none' w0 wr)) (fun i0 _ => fl.length - (intOf i0).toNat)
  case atStart => exact ⟨0, rfl, by omega, Kp.refl _ _⟩
  case round =>
    obtain ⟨k, rfl, hk, hr⟩ := hrel
    have c0 := hr.out.cell a0 (fun x => x); have c1 := hr.out.cell a1 (fun x => x); have c2 := hr.out.cell a2 (fun x => x); have c3 := hr.out.cell a3 (fun x => x); have c4 := hr.out.cell a4 (fun x => x); have c5 := hr.out.cell a5 (fun x => x); have c6 := hr.out.cell a6 (fun x => x); have c7 := hr.out.cell a7 (fun x => x); have c8 := hr.out.cell a8 (fun x => x); have c9 := hr.out.cell a9 (fun x => x); have c10 := hr.out.cell a10 (fun x => x)
    have d0 := hr.out.cell b0 (fun x => x); have d1 := hr.out.cell b1 (fun x => x); have d2 := hr.out.cell b2 (fun x => x); have d3 := hr.out.cell b3 (fun x => x); have d4 := hr.out.cell b4 (fun x => x); have d5 := hr.out.cell b5 (fun x => x); have d6 := hr.out.cell b6 (fun x => x); have d7 := hr.out.cell b7 (fun x => x); have d8 := hr.out.cell b8 (fun x => x); have d9 := hr.out.cell b9 (fun x => x); have d10 := hr.out.cell b10 (fun x => x)
    by_cases hlt : k < fl.length
    · have hki : (k : Int) < fl.length := by omega
      obtain ⟨gv, ov, cv, e1, hcv⟩ := (HV.out.old hr.out).at enFl_len (by decide) k hlt
      injection e1 with e1 _ e3
      obtain ⟨gu, ou, cu, f1, hcu⟩ := (HU.out.old hr.out).at enFl_len (by decide) k hlt
      injection f1 with f1 _ f3
      subst e1 e3 f1 f3
      obtain ⟨f, hf⟩ : ∃ f, fl[k] = f := ⟨_, rfl⟩
      rw [hf] at hcv hcu
      have p0 := hcv 0 _ rfl; have p1 := hcv 1 _ rfl; have p2 := hcv 2 _ rfl; have p3 := hcv 3 _ rfl; have p4 := hcv 4 _ rfl
      have q0 := hcu 0 _ rfl; have q1 := hcu 1 _ rfl; have q2 := hcu 2 _ rfl; have q3 := hcu 3 _ rfl; have q4 := hcu 4 _ rfl
      simp only [Nat.add_zero] at p0 q0
      have hne := HNE.out f
      clear hcv hcu hf a0 a1 a2 a3 a4 a5 a6 a7 a8 a9 a10 b0 b1 b2 b3 b4 b5 b6 b7 b8 b9 b10 c0 c1 c2 c3 c4 c5 c6 c7 c8 c9 d0 d1 d2 d3 d4 d5 d6 d7 d8 d9
      go_wp2_with fail
      refine wp_region_kept2 [] [0, 1, 2, 3, 4, 5, 6, 7, 8, 9] 10 (by kernel_rfl) (by kernel_rfl) (fun c a d u w h => by cases d <;> exact h) ?_
      simp only [pick, List.getElem?_cons_succ, List.getElem?_cons_zero, List.drop_succ_cons, List.drop_zero]
      show wpKL _ _ _ _ _ _
      repeat (first
        | (refine wpKL_op (by exact rfl) (by as_aux_lemma => intro W hK; have y10 := hK.cell c10 (fun x => x); have z10 := hK.cell d10 (fun x => x); have r0 := hK.cell p0 (fun x => x); have r1 := hK.cell p1 (fun x => x); have r2 := hK.cell p2 (fun x => x); have r3 := hK.cell p3 (fun x => x); have r4 := hK.cell p4 (fun x => x); have s0 := hK.cell q0 (fun x => x); have s1 := hK.cell q1 (fun x => x); have s2 := hK.cell q2 (fun x => x); have s3 := hK.cell q3 (fun x => x); have s4 := hK.cell q4 (fun x => x); go_simp; exact rfl) ?_; simp only [Act.put, List.setIfInBounds_toArray, List.set_cons_succ, List.set_cons_zero])
        | (refine wpKL_off (by exact rfl) ?_; simp only [Act.put, List.setIfInBounds_toArray, List.set_cons_succ, List.set_cons_zero]))
      show ∀ W, _ → wpList _ _ _ _ _ _
      intro W2 hK2
      have HK2 := Lib.hid (hr.out.trans hK2)
      clear hK2
      go_wp2_with fail
      go_roundw
      case rel => exact ⟨k + 1, by go_num, by omega, HK2.out⟩
      case measure => simp [intOf]; omega
    · have hke : ¬ (k : Int) < fl.length := by omega
      go_wp2_with fail
      go_ret
      exact ⟨rfl, HK.out.trans hr.out⟩


end Go.Proofs.YtlaakhfgidjofaaGreatDoor

namespace Go.Proofs.YtlaakhfgidjofaaGreatDoor
set_option linter.unusedVariables false
set_option linter.unusedSimpArgs false
open Go.ChangeShapes Go.WideShapes Go.ChangeAt Go.RowKit
set_option maxRecDepth 100000
theorem bnd32 {i : Int} (h : (Lit.int .u32 i).wf = true) : 0 ≤ i ∧ i < 4294967296 := by
  simp [Lit.wf, IntKind.min, IntKind.max, IntKind.signed, IntKind.bits] at h
  omega
theorem bnd64 {i : Int} (h : (Lit.int .u64 i).wf = true) : 0 ≤ i ∧ i < 18446744073709551616 := by
  simp [Lit.wf, IntKind.min, IntKind.max, IntKind.signed, IntKind.bits] at h
  omega
theorem bndI {i : Int} (h : (Lit.int .i64 i).wf = true) : -9223372036854775808 ≤ i ∧ i ≤ 9223372036854775807 := by
  simp [Lit.wf, IntKind.min, IntKind.max, IntKind.signed, IntKind.bits] at h
  omega
theorem cellsFl : Tryz.prog.cellsOf 85 = 5 := by kernel_rfl
theorem cellsCf : Tryz.prog.cellsOf 25 = 11 := by kernel_rfl
theorem cells_i : Tryz.prog.cellsOf 3 = 1 := by kernel_rfl
theorem cells_u : Tryz.prog.cellsOf 22 = 1 := by kernel_rfl
theorem cells_h : Tryz.prog.cellsOf 69 = 1 := by kernel_rfl
theorem cells_s : Tryz.prog.cellsOf 23 = 1 := by kernel_rfl
section
variable {H : Type} {enc : TypeId × Value → H} {w : World} {base : Nat} {spare : Nat → Bool} {held : Bool}
theorem openFlow (n : Nat) (cs : List Value) (x : DataW H × List MemPlace) (h : DataW.trod enc Tryz.prog w base spare held n 85 cs = some x) : ∃ a : FlR, a.ok ∧ cs = enFl a := by
  obtain ⟨hlen, hf⟩ := flat_fields Tryz.underlying85 cellsFl (by decide) (by intro f hf; simp at hf; rcases hf with rfl | rfl | rfl | rfl | rfl; (exact cells_h); (exact cells_u); (exact cells_u); (exact cells_u); exact cells_u) h
  match cs, hlen with
  | [c0, c1, c2, c3, c4], _ =>
    obtain ⟨n0, y0, h0⟩ := hf 0 _ c0 rfl rfl
    obtain ⟨n1, y1, h1⟩ := hf 1 _ c1 rfl rfl
    obtain ⟨n2, y2, h2⟩ := hf 2 _ c2 rfl rfl
    obtain ⟨n3, y3, h3⟩ := hf 3 _ c3 rfl rfl
    obtain ⟨n4, y4, h4⟩ := hf 4 _ c4 rfl rfl
    obtain ⟨i0, e0, _, w0⟩ := DataW.trod_int Tryz.underlying69 h0
    obtain ⟨i1, e1, _, w1⟩ := DataW.trod_int Tryz.underlying22 h1
    obtain ⟨i2, e2, _, w2⟩ := DataW.trod_int Tryz.underlying22 h2
    obtain ⟨i3, e3, _, w3⟩ := DataW.trod_int Tryz.underlying22 h3
    obtain ⟨i4, e4, _, w4⟩ := DataW.trod_int Tryz.underlying22 h4
    simp at e0 e1 e2 e3 e4
    subst e0 e1 e2 e3 e4
    have b0 := bnd32 w0
    have b1 := bnd64 w1
    have b2 := bnd64 w2
    have b3 := bnd64 w3
    have b4 := bnd64 w4
    obtain ⟨f, rfl⟩ : ∃ z : Nat, i0 = z := ⟨i0.toNat, by omega⟩
    obtain ⟨g, rfl⟩ : ∃ z : Nat, i1 = z := ⟨i1.toNat, by omega⟩
    obtain ⟨i, rfl⟩ : ∃ z : Nat, i2 = z := ⟨i2.toNat, by omega⟩
    obtain ⟨m, rfl⟩ : ∃ z : Nat, i3 = z := ⟨i3.toNat, by omega⟩
    obtain ⟨k, rfl⟩ : ∃ z : Nat, i4 = z := ⟨i4.toNat, by omega⟩
    exact ⟨⟨f, g, i, m, k⟩, ⟨by show f < _; omega, by show g < _; omega, by show i < _; omega, by show m < _; omega, by show k < _; omega⟩, rfl⟩
theorem openCfg {r : Reach} {b0 : Nat} {v : Value} {d : DataW H} {ps : List MemPlace} (hval : Value.okWide Tryz.prog w r b0 25 v)
    (h : DataW.Trod enc Tryz.prog w base spare held 25 v d ps) : ∃ (c : CfR) (u : Value), c.ok ∧ v = .agg (enC c u).toArray ∧ Sl w u c.flows.length 5 (c.flows.flatMap enFl) := by
  obtain ⟨cs, rfl, hsz⟩ := okWide_struct Tryz.underlying25 hval
  obtain ⟨fuel, hf⟩ := h
  obtain ⟨hlen, hfs⟩ := flat_fields Tryz.underlying25 cellsCf (by decide) (by intro f hf; simp at hf; rcases hf with rfl | rfl | rfl | rfl | rfl | rfl | rfl | rfl | rfl | rfl | rfl; (exact cells_i); (exact cells_i); (exact cells_i); (exact cells_i); (exact cells_i); (exact cells_u); (exact cells_i); (exact cells_u); (exact cells_u); (exact cells_u); exact cells_s) hf
  obtain ⟨c0, c1, c2, c3, c4, c5, c6, c7, c8, c9, c10, rfl⟩ : ∃ c0 c1 c2 c3 c4 c5 c6 c7 c8 c9 c10, cs = #[c0, c1, c2, c3, c4, c5, c6, c7, c8, c9, c10] := by
    rw [cellsCf] at hsz
    match cs, hsz with
    | ⟨[c0, c1, c2, c3, c4, c5, c6, c7, c8, c9, c10]⟩, _ => exact ⟨c0, c1, c2, c3, c4, c5, c6, c7, c8, c9, c10, rfl⟩
  obtain ⟨n0, y0, h0⟩ := hfs 0 _ c0 rfl rfl
  obtain ⟨n1, y1, h1⟩ := hfs 1 _ c1 rfl rfl
  obtain ⟨n2, y2, h2⟩ := hfs 2 _ c2 rfl rfl
  obtain ⟨n3, y3, h3⟩ := hfs 3 _ c3 rfl rfl
  obtain ⟨n4, y4, h4⟩ := hfs 4 _ c4 rfl rfl
  obtain ⟨n5, y5, h5⟩ := hfs 5 _ c5 rfl rfl
  obtain ⟨n6, y6, h6⟩ := hfs 6 _ c6 rfl rfl
  obtain ⟨n7, y7, h7⟩ := hfs 7 _ c7 rfl rfl
  obtain ⟨n8, y8, h8⟩ := hfs 8 _ c8 rfl rfl
  obtain ⟨n9, y9, h9⟩ := hfs 9 _ c9 rfl rfl
  obtain ⟨n10, y10, h10⟩ := hfs 10 _ c10 rfl rfl
  obtain ⟨i0, e0, _, w0⟩ := DataW.trod_int Tryz.underlying3 h0
  obtain ⟨i1, e1, _, w1⟩ := DataW.trod_int Tryz.underlying3 h1
  obtain ⟨i2, e2, _, w2⟩ := DataW.trod_int Tryz.underlying3 h2
  obtain ⟨i3, e3, _, w3⟩ := DataW.trod_int Tryz.underlying3 h3
  obtain ⟨i4, e4, _, w4⟩ := DataW.trod_int Tryz.underlying3 h4
  obtain ⟨i5, e5, _, w5⟩ := DataW.trod_int Tryz.underlying22 h5
  obtain ⟨i6, e6, _, w6⟩ := DataW.trod_int Tryz.underlying3 h6
  obtain ⟨i7, e7, _, w7⟩ := DataW.trod_int Tryz.underlying22 h7
  obtain ⟨i8, e8, _, w8⟩ := DataW.trod_int Tryz.underlying22 h8
  obtain ⟨i9, e9, _, w9⟩ := DataW.trod_int Tryz.underlying22 h9
  obtain ⟨u, l, hu, hok, hsl⟩ := open_flat Tryz.underlying23 cellsFl (by decide) enFl FlR.ok enFl_len openFlow h10
  simp at e0 e1 e2 e3 e4 e5 e6 e7 e8 e9 hu
  subst e0 e1 e2 e3 e4 e5 e6 e7 e8 e9 hu
  have b5 := bnd64 w5; have b7 := bnd64 w7; have b8 := bnd64 w8; have b9 := bnd64 w9
  obtain ⟨m5, rfl⟩ : ∃ z : Nat, i5 = z := ⟨i5.toNat, by omega⟩
  obtain ⟨m7, rfl⟩ : ∃ z : Nat, i7 = z := ⟨i7.toNat, by omega⟩
  obtain ⟨m8, rfl⟩ : ∃ z : Nat, i8 = z := ⟨i8.toNat, by omega⟩
  obtain ⟨m9, rfl⟩ : ∃ z : Nat, i9 = z := ⟨i9.toNat, by omega⟩
  refine ⟨⟨i0, i1, i2, i3, i4, m5, i6, m7, m8, m9, l⟩, _, ⟨bndI w0, bndI w1, bndI w2, bndI w3, bndI w4, ?_, bndI w6, ?_, ?_, ?_, hok⟩, rfl, hsl⟩
  · show m5 < M64; unfold M64; omega
  · show m7 < M64; unfold M64; omega
  · show m8 < M64; unfold M64; omega
  · show m9 < M64; unfold M64; omega
end
theorem mx_of {w : World} (h : w.ShapedOpen Tryz.prog) : MX w := Tryz.laysM146.s1_3 w h
end Go.Proofs.YtlaakhfgidjofaaGreatDoor

namespace Go.Proofs.YtlaakhfgidjofaaGreatDoor
set_option linter.unusedVariables false
set_option linter.unusedSimpArgs false
def be : Nat → Nat → List UInt8
  | 0, _ => []
  | w + 1, n => be w (n / 256) ++ [UInt8.ofNat (n % 256)]
theorem be_len (w : Nat) : ∀ n, (be w n).length = w := by
  induction w with
  | zero => intro n; rfl
  | succ w ih => intro n; simp [be, ih]

theorem snocT {α : Type} {P : List α → Prop} (h0 : P []) (hs : ∀ l c, P l → P (l ++ [c])) (l : List α) : P l := by
  have h : ∀ r : List α, P r.reverse := by
    intro r
    induction r with
    | nil => exact h0
    | cons c r ih => rw [List.reverse_cons]; exact hs _ _ ih
  have := h l.reverse
  rwa [List.reverse_reverse] at this
def numB (l : List UInt8) : Nat := l.foldl (fun n c => n * 256 + c.toNat) 0
theorem numB_snoc (l : List UInt8) (c : UInt8) : numB (l ++ [c]) = numB l * 256 + c.toNat := by simp [numB]
theorem num_lt (l : List UInt8) : numB l < 256 ^ l.length := by
  refine snocT (P := fun l => numB l < 256 ^ l.length) (by simp [numB]) (fun l c ih => ?_) l
  rw [numB_snoc, List.length_append]
  have := UInt8.toNat_lt c
  simp only [List.length_cons, List.length_nil, Nat.pow_add, Nat.pow_one, Nat.zero_add]
  omega
theorem num_be (w : Nat) : ∀ n, n < 256 ^ w → numB (be w n) = n := by
  induction w with
  | zero => intro n h; simp at h; subst h; rfl
  | succ w ih =>
    intro n h
    rw [Nat.pow_succ] at h
    rw [be, numB_snoc, ih (n / 256) (by omega)]
    have : (UInt8.ofNat (n % 256)).toNat = n % 256 := by simp
    omega
def adB (p : Nat × Nat) (c : UInt8) : Nat × Nat := ((p.1 + c.toNat) % 65521, (p.2 + (p.1 + c.toNat) % 65521) % 65521)
def adl (p : Nat × Nat) (l : List UInt8) : Nat × Nat := l.foldl adB p
theorem adl_snoc (p : Nat × Nat) (l : List UInt8) (c : UInt8) : adl p (l ++ [c]) = adB (adl p l) c := by simp [adl]
def sumN (l : List UInt8) : Nat := (adl (1, 0) l).2 * 65536 + (adl (1, 0) l).1
def sealL (l : List UInt8) : List UInt8 := l ++ be 4 (sumN l)
theorem seal_len (l : List UInt8) : (sealL l).length = l.length + 4 := by simp [sealL, be_len]
theorem adl_lt (l : List UInt8) : (adl (1, 0) l).1 < 65521 ∧ (adl (1, 0) l).2 < 65521 := by
  refine snocT (P := fun l => (adl (1, 0) l).1 < 65521 ∧ (adl (1, 0) l).2 < 65521) (by simp [adl]) (fun l c ih => ?_) l
  rw [adl_snoc]; unfold adB
  exact ⟨Nat.mod_lt _ (by decide), Nat.mod_lt _ (by decide)⟩
theorem sumN_lt (l : List UInt8) : sumN l < 4294967296 := by
  have := adl_lt l
  unfold sumN; omega
def tot (l : List UInt8) : Nat := (l.map UInt8.toNat).sum
structure Rec where
  t : Nat
  kind : Int
  flow : Nat
  id : Nat
  len : Nat
  code : Int
def rightB (r : Rec) : Bool := decide (0 ≤ r.kind ∧ r.kind ≤ 5 ∧ 0 ≤ r.code ∧ r.code ≤ 31)
def parseR (s : List UInt8) : Rec := ⟨numB (s.take 8), numB ((s.drop 8).take 1), numB ((s.drop 9).take 4), numB ((s.drop 13).take 4), numB ((s.drop 17).take 8), numB ((s.drop 25).take 1)⟩
def goodB (s : List UInt8) : Bool := decide (sealL (s.take 26) = s) && rightB (parseR s)
def piece (s : List UInt8) (i : Nat) : List UInt8 := (s.drop (30 * i)).take 30
structure RT (s : List UInt8) (l : List Rec) : Prop where
  len : 30 * l.length ≤ s.length
  is : ∀ j (h : j < l.length), goodB (piece s j) = true ∧ parseR (piece s j) = l[j]
structure Reads (s : List UInt8) (l : List Rec) : Prop where
  toR : RT s l
  no : s.length < 30 * (l.length + 1) ∨ goodB (piece s l.length) = false
theorem RT.nil (s : List UInt8) : RT s [] := ⟨by simp, fun j h => by simp at h⟩
theorem RT.snoc {s : List UInt8} {l : List Rec} (h : RT s l) (hl : 30 * (l.length + 1) ≤ s.length) (hg : goodB (piece s l.length) = true) : RT s (l ++ [parseR (piece s l.length)]) := by
  refine ⟨by simpa using hl, fun j hj => ?_⟩
  by_cases e : j < l.length
  · rw [List.getElem_append_left e]; exact h.is j e
  · have : j = l.length := by simp at hj; omega
    subst this
    simp [hg]
theorem Reads.uniq {s : List UInt8} {l m : List Rec} (h : Reads s l) (k : Reads s m) : l = m := by
  have key : ∀ {l m : List Rec}, Reads s l → Reads s m → ¬ l.length < m.length := fun {l m} h k e => by
    have h1 := k.toR.is _ e
    have h2 := k.toR.len
    rcases h.no with h3 | h3
    · omega
    · rw [h1.1] at h3; cases h3
  have hl : l.length = m.length := by
    have h1 := key h k
    have h2 := key k h
    omega
  apply List.ext_getElem hl
  intro j h1 h2
  rw [← (h.toR.is j h1).2, (k.toR.is j h2).2]
end Go.Proofs.YtlaakhfgidjofaaGreatDoor

namespace Go.Proofs.YtlaakhfgidjofaaGreatDoor
set_option linter.unusedVariables false
set_option linter.unusedSimpArgs false
open Go.RowKit Go.Shelf
set_option maxRecDepth 100000 in
set_option maxHeartbeats 2000000 in
theorem bByte {B b : Nat} {l : List UInt8} {w : World} (h : Bd B b l w) (hl : l.length ≤ 100000000) (c : UInt8) :
    Calls Tryz.prog 101 #[.pointer (some ⟨b, 0, none⟩), .int .u8 c.toNat] w fun e w' => e = .returned .nilIface ∧ Bd B b (l ++ [c]) w' ∧ KB B b w w' := by
  have HC := Lib.hid (fun W (hW : Bd B b l W) => bCheck hW)
  have hB := h.le
  go_enter Tryz.func101, Tryz.ntmps101
  go_wp2_with fail
  refine (HC.out _ h).mono ?_
  rintro e w1 ⟨rfl, hb1, hk1⟩
  obtain ⟨v, h1, h2⟩ := hb1.is
  have HK1 := Lib.hid hk1; have H1 := Lib.hid h1; have H2 := Lib.hid h2
  have hlt := hb1.lt
  have hsz := h.lt
  have c0 : w1.cell? ⟨b, 0, none⟩ = some (.pointer (some ⟨b, 0, none⟩)) := by simp [World.cell?, h1]
  have c1 : w1.cell? ⟨b, 1, none⟩ = some v := by simp [World.cell?, h1]
  clear hk1 hb1 h1 h2
  go_wp2_with (at_builtin; refine wp_app1 tU8 (.tmp 11) (.tmp 13) rfl rfl B (H2.out.alloc _) [.int .u8 c.toNat] rfl rfl rfl (heap_new _ _) rfl (by omega) (by omega) (by simp; omega) ?_)
  intro g cap w2 hown hgrow
  have hp := bd_put (l' := l ++ [c]) hB ((Below.heap_alloc _ _ _ hlt).trans H1.out) (H2.out.alloc _) hgrow (by rw [cells_snoc, List.length_append]; exact hown)
  obtain ⟨h3, h4, h5⟩ := hp
  have d1 : w2.cell? ⟨b, 1, none⟩ = some v := by simp [World.cell?, h3]
  have f1 : w2.frozen? ⟨b, 1, none⟩ = false := by simp [World.frozen?, h3]
  have H4 := Lib.hid h4
  have H5 : Hid (KB B b w _) := (HK1.out.trans (KB.old ((Kp.refl _ _).alloc _))).trans h5
  clear hown hgrow h3 h4 h5
  go_wp2_with fail
  go_ret
  exact ⟨rfl, .inr H4.out, H5.out⟩
end Go.Proofs.YtlaakhfgidjofaaGreatDoor

namespace Go.Proofs.YtlaakhfgidjofaaGreatDoor
set_option linter.unusedVariables false
set_option linter.unusedSimpArgs false
open Go.RowKit
theorem byte_of (n : Nat) : ((UInt8.ofNat (n % 256)).toNat : Int) = (n : Int) % 256 := by simp
theorem be4_cells (n : Nat) (h : (n : Int) < 4294967296) : u8s (be 4 n) = [.int .u8 ((n : Int) / 16777216), .int .u8 ((n : Int) / 65536 % 256), .int .u8 ((n : Int) / 256 % 256), .int .u8 ((n : Int) % 256)] := by
  simp only [be, u8s, List.nil_append, List.map_append, List.map_cons, List.map_nil, byte_of, List.cons_append]
  have e1 : ((n / 256 / 256 / 256 : Nat) : Int) % 256 = (n : Int) / 16777216 := by omega
  have e2 : ((n / 256 / 256 : Nat) : Int) % 256 = (n : Int) / 65536 % 256 := by omega
  have e3 : ((n / 256 : Nat) : Int) % 256 = (n : Int) / 256 % 256 := by omega
  rw [e1, e2, e3]
theorem ret_strs {a b : ByteArray} (h : a = b) : Ending.returned (.string a) = .returned (.string b) := by rw [h]
end Go.Proofs.YtlaakhfgidjofaaGreatDoor

namespace Go.Proofs.YtlaakhfgidjofaaGreatDoor
set_option linter.unusedVariables false
set_option linter.unusedSimpArgs false
open Go.RowKit Go.Shelf
theorem take_bl1 (s : ByteArray) (k : Nat) (h : k < s.size) : (bl s).take (k + 1) = (bl s).take k ++ [s[k]] := by
  rw [List.take_succ_eq_append_getElem (by rw [bl_len]; exact h), bl_get s k h]
theorem take_all (s : ByteArray) {k : Nat} (h : ¬ k < s.size) : (bl s).take k = bl s := List.take_of_length_le (by rw [bl_len]; omega)
theorem ad_int (p : Nat × Nat) (c : UInt8) : ((adB p c).1 : Int) = ((p.1 : Int) + (c.toNat : Int)) % 65521 ∧ ((adB p c).2 : Int) = ((p.2 : Int) + ((p.1 : Int) + (c.toNat : Int)) % 65521) % 65521 := by
  unfold adB; constructor <;> simp
set_option maxHeartbeats 1000000 in
theorem sMore (s : ByteArray) (hs : s.size ≤ 1000000) (w : World) : Calls Tryz.prog 102 #[.int .u32 1, .string s] w fun e w' => e = .returned (.int .u32 (sumN (bl s))) ∧ w = w' := by
  go_enter Tryz.func102, Tryz.ntmps102
  go_wp2
  go_loop [5, 6, 16] (fun a b i => ∃ k : Nat, k ≤ s.size ∧ i = .int .i64 k ∧ ∃ x y : Nat, a = .int .u32 x ∧ b = .int .u32 y ∧ x < 65521 ∧ y < 65521 ∧ Hid (adl (1, 0) ((bl s).take k) = (x, y))) (fun _ _ i => s.size - (intOf i).toNat)
  case atStart => exact ⟨0, by omega, rfl, 1, 0, rfl, rfl, by omega, by omega, rfl⟩
  case round =>
    obtain ⟨k, hk, rfl, x, y, rfl, rfl, hx, hy, hp⟩ := hrel
    by_cases hlt : k < s.size
    · have hc := UInt8.toNat_lt s[k]
      obtain ⟨h1, h2⟩ := ad_int (x, y) s[k]
      have HP : Hid (adl (1, 0) ((bl s).take (k + 1)) = adB (x, y) s[k]) := by show _ = _; rw [take_bl1 s k hlt, adl_snoc, hp.out]
      have H1 := Lib.hid h1; have H2 := Lib.hid h2
      clear h1 h2
      go_wp2
      go_round
      case rel =>
        have l1 : (adB (x, y) s[k]).1 < 65521 := Nat.mod_lt _ (by decide)
        have l2 : (adB (x, y) s[k]).2 < 65521 := Nat.mod_lt _ (by decide)
        exact ⟨k + 1, by omega, by go_num, (adB (x, y) s[k]).1, (adB (x, y) s[k]).2, by rw [H1.out], by rw [H2.out], l1, l2, HP.out⟩
      case measure => simp [intOf]; omega
    · have HP : Hid (sumN (bl s) = y * 65536 + x) := by show _ = _; unfold sumN; rw [← take_all s hlt, hp.out]
      go_wp2
      go_ret
      have e : (y : Int) * 65536 + (x : Int) = ((sumN (bl s) : Nat) : Int) := by rw [HP.out]; simp
      exact ⟨ret_int e, rfl⟩
theorem sumN_wrap (l : List UInt8) : (sumN l : Int) < 4294967296 := by have := sumN_lt l; omega
set_option maxHeartbeats 1000000 in
theorem sOf (s : ByteArray) (hs : s.size ≤ 1000000) (w : World) (b : Nat) (hb : w.cell? ⟨b, 0, none⟩ = some (.string s)) : Calls Tryz.prog 57 #[.slice (some ⟨b, 0, none⟩) 1 1] w fun e w' => e = .returned (.int .u32 (sumN (bl s))) ∧ w = w' := by
  have H1 := Lib.hid (sMore s hs)
  go_enter Tryz.func57, Tryz.ntmps57
  go_wp2_with fail
  refine wp_loop_rounds 2 ?_
  rw [rounds_succ]
  go_wp2_with fail
  refine (H1.out _).mono ?_
  rintro e w' ⟨rfl, rfl⟩
  go_wp2_with fail
  rw [rounds_succ]
  go_wp2_with fail
  go_ret
  exact ⟨rfl, rfl⟩
theorem seal_str (s : ByteArray) (n : Nat) (h : sumN (bl s) = n) : s ++ tx (be 4 n) = tx (sealL (bl s)) := by
  apply str_ext
  rw [bl_app, bl_tx, bl_tx, sealL, h]
set_option maxRecDepth 100000 in
set_option maxHeartbeats 1000000 in
theorem sSeal (s : ByteArray) (hs : s.size ≤ 900000) (w : World) : Calls Tryz.prog 21 #[.string s] w fun e w' => e = .returned (.string (tx (sealL (bl s)))) ∧ Kp none' w w' := by
  have H1 := Lib.hid (fun W b h => sOf s (by omega) W b h)
  have hc : (w.alloc (.cells #[.string s] 9)).cell? ⟨w.heap.size, 0, none⟩ = some (.string s) := by simp
  have hn := sumN_wrap (bl s)
  have HC := Lib.hid hc
  clear hc
  go_enter Tryz.func21, Tryz.ntmps21
  go_wp2_with fail
  refine (H1.out _ _ HC.out).mono ?_
  rintro e w' ⟨rfl, rfl⟩
  obtain ⟨n, hN⟩ : ∃ n, sumN (bl s) = n := ⟨_, rfl⟩
  rw [hN] at hn ⊢
  have HR := Lib.hid (seal_str s n hN)
  have hcv := conv_u8s (P := Tryz.prog) 108 5 9 Tryz.underlying108 Tryz.underlying5 Tryz.underlying9 (w := (w.alloc (.cells #[.string s] 9)).alloc (.cells #[.int .u8 ((n : Int) / 16777216), .int .u8 ((n : Int) / 65536 % 256), .int .u8 ((n : Int) / 256 % 256), .int .u8 ((n : Int) % 256)] 5)) (b := w.heap.size + 1) (off := 0) (n := 4) (cap := 4)
    (by have := Blk.new (w.alloc (.cells #[.string s] 9)) [.int .u8 ((n : Int) / 16777216), .int .u8 ((n : Int) / 65536 % 256), .int .u8 ((n : Int) / 256 % 256), .int .u8 ((n : Int) % 256)] 5; simpa using this) (be 4 n) (by rw [be4_cells n hn]; rfl) (be_len 4 n)
  have hct := cat_run (P := Tryz.prog) s (tx (be 4 n)) (by rw [tx_size, be_len]; omega)
  clear hN
  go_wp2_with fail
  go_ret
  exact ⟨ret_strs HR.out, ((Kp.refl _ _).alloc _).alloc _⟩
end Go.Proofs.YtlaakhfgidjofaaGreatDoor
