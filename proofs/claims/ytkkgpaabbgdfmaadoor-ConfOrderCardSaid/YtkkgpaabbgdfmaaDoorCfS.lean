/- Walk for layer 24: a configuration is the same as itself. -/
import Derived.Test.YtkkgpaabbgdfmaaDoorCfD
import Derived.Test.YtkkgpaabbgdfmaaDoorKept
import Derived.Laws.StructEq
namespace Go.Proofs.YtkkgpaabbgdfmaaDoor
set_option linter.unusedVariables false
set_option linter.unusedSimpArgs false
open Go Go.RowKit Go.Shelf

theorem eqFl (f : FlR) (w : World) : (Op.equalIn 10000 46 (.agg (enFl f).toArray) (.agg (enFl f).toArray)).run Tryd.prog w = .ok true w := by
  unfold enFl
  go_simp
theorem neFl (f : FlR) (w : World) : (binOp .neq 46 (.agg #[.int .u32 f.id, .int .u64 f.cost, .int .u64 f.budget, .int .u64 f.size, .int .u64 f.cap]) (.agg #[.int .u32 f.id, .int .u64 f.cost, .int .u64 f.budget, .int .u64 f.size, .int .u64 f.cap])).run Tryd.prog w = .ok (.bool false) w := by
  have h := eqFl f w
  unfold enFl at h
  rw [run_neq_struct, h]; rfl
set_option maxRecDepth 100000 in
set_option maxHeartbeats 4000000 in
theorem rSame (c : CfR) (v u : Value) (w : World) (hv : Sl w v c.flows.length 5 (c.flows.flatMap enFl)) (hu : Sl w u c.flows.length 5 (c.flows.flatMap enFl)) :
    Calls Tryd.prog 12 #[.agg (enC c v).toArray, .agg (enC c u).toArray] w fun e w' => e = .returned (.bool true) ∧ Kp none' w w' := by
  have hn := hv.max
  have hb0 : Blk ((w.alloc (.cells (enC c v).toArray 25)).alloc (.cells (enC c u).toArray 25)) w.heap.size (enC c v) 25 := (Blk.new w (enC c v) 25).alloc _
  have hb1 : Blk ((w.alloc (.cells (enC c v).toArray 25)).alloc (.cells (enC c u).toArray 25)) (w.heap.size + 1) (enC c u) 25 := by
    have := Blk.new (w.alloc (.cells (enC c v).toArray 25)) (enC c u) 25
    rwa [World.size_alloc] at this
  have hk : Kp none' w ((w.alloc (.cells (enC c v).toArray 25)).alloc (.cells (enC c u).toArray 25)) := ((Kp.refl _ _).alloc _).alloc _
  obtain ⟨w0, hw0⟩ : ∃ W, (w.alloc (.cells #[.int .i64 c.rank, .int .i64 c.back, .int .i64 c.levels, .int .i64 c.queues, .int .i64 c.packets, .int .u64 c.bytes, .int .i64 c.share, .int .u64 c.mtu, .int .u64 c.rate, .int .u64 c.burst, v] 25)).alloc (.cells #[.int .i64 c.rank, .int .i64 c.back, .int .i64 c.levels, .int .i64 c.queues, .int .i64 c.packets, .int .u64 c.bytes, .int .i64 c.share, .int .u64 c.mtu, .int .u64 c.rate, .int .u64 c.burst, u] 25) = W := ⟨_, rfl⟩
  have hw1 : (w.alloc (.cells (enC c v).toArray 25)).alloc (.cells (enC c u).toArray 25) = w0 := hw0
  rw [hw1] at hb0 hb1 hk
  obtain ⟨vo, vc, rfl⟩ : ∃ ao cap, v = .slice ao c.flows.length cap := by obtain ⟨ao, cap, rfl, _⟩ := hv.is; exact ⟨_, _, rfl⟩
  obtain ⟨uo, uc, rfl⟩ : ∃ ao cap, u = .slice ao c.flows.length cap := by obtain ⟨ao, cap, rfl, _⟩ := hu.is; exact ⟨_, _, rfl⟩
  have HV := Lib.hid (hv.old hk); have HU := Lib.hid (hu.old hk); have HK := Lib.hid hk
  have hcf : c.flows.length = c.flows.length := rfl
  obtain ⟨rk, bk, lv, qu, pk, bt, sh, mt, rt, bu, fl⟩ := c
  simp only at hn hb0 hb1 HV HU
  have a0 := hb0.cell 0 rfl; have a1 := hb0.cell 1 rfl; have a2 := hb0.cell 2 rfl; have a3 := hb0.cell 3 rfl; have a4 := hb0.cell 4 rfl; have a5 := hb0.cell 5 rfl; have a6 := hb0.cell 6 rfl; have a7 := hb0.cell 7 rfl; have a8 := hb0.cell 8 rfl; have a9 := hb0.cell 9 rfl; have a10 := hb0.cell 10 rfl
  have b0 := hb1.cell 0 rfl; have b1 := hb1.cell 1 rfl; have b2 := hb1.cell 2 rfl; have b3 := hb1.cell 3 rfl; have b4 := hb1.cell 4 rfl; have b5 := hb1.cell 5 rfl; have b6 := hb1.cell 6 rfl; have b7 := hb1.cell 7 rfl; have b8 := hb1.cell 8 rfl; have b9 := hb1.cell 9 rfl; have b10 := hb1.cell 10 rfl
  simp only at a0 a1 a2 a3 a4 a5 a6 a7 a8 a9 a10 b0 b1 b2 b3 b4 b5 b6 b7 b8 b9 b10 hw0
  have HA := Lib.hid hb0; have HB := Lib.hid hb1
  have HNE := Lib.hid (fun f W => neFl f W)
  clear hb0 hb1 hk hw1 hv hu hcf
  unfold enC
  simp only
  go_enter Tryd.func12, Tryd.ntmps12
  go_wp2_with fail
  clear hw0
  go_loopw [5] (fun i0 wr => ∃ k : Nat, i0 = .int .i64 k ∧ k ≤ fl.length ∧ Hid (Kp none' w0 wr)) (fun i0 _ => fl.length - (intOf i0).toNat)
  case atStart => exact ⟨0, rfl, by omega, Kp.refl _ _⟩
  case round =>
    obtain ⟨k, rfl, hk, hr⟩ := hrel
    have c0 := hr.out.cell a0 (fun x => x); have c1 := hr.out.cell a1 (fun x => x); have c2 := hr.out.cell a2 (fun x => x); have c3 := hr.out.cell a3 (fun x => x); have c4 := hr.out.cell a4 (fun x => x); have c5 := hr.out.cell a5 (fun x => x); have c6 := hr.out.cell a6 (fun x => x); have c7 := hr.out.cell a7 (fun x => x); have c8 := hr.out.cell a8 (fun x => x); have c9 := hr.out.cell a9 (fun x => x); have c10 := hr.out.cell a10 (fun x => x)
    have d0 := hr.out.cell b0 (fun x => x); have d1 := hr.out.cell b1 (fun x => x); have d2 := hr.out.cell b2 (fun x => x); have d3 := hr.out.cell b3 (fun x => x); have d4 := hr.out.cell b4 (fun x => x); have d5 := hr.out.cell b5 (fun x => x); have d6 := hr.out.cell b6 (fun x => x); have d7 := hr.out.cell b7 (fun x => x); have d8 := hr.out.cell b8 (fun x => x); have d9 := hr.out.cell b9 (fun x => x); have d10 := hr.out.cell b10 (fun x => x)
    by_cases hlt : k < fl.length
    · have hki : (k : Int) < fl.length := by omega
      obtain ⟨gv, ov, cv, e1, hcv⟩ := (HV.out.old hr.out).at enFl_len (by decide) k hlt
      injection e1 with e1 _ e3
      obtain ⟨gu, ou, cu, f1, hcu⟩ := (HU.out.old hr.out).at enFl_len (by decide) k hlt
      injection f1 with f1 _ f3
      subst e1 e3 f1 f3
      obtain ⟨f, hf⟩ : ∃ f, fl[k] = f := ⟨_, rfl⟩
      rw [hf] at hcv hcu
      have p0 := hcv 0 _ rfl; have p1 := hcv 1 _ rfl; have p2 := hcv 2 _ rfl; have p3 := hcv 3 _ rfl; have p4 := hcv 4 _ rfl
      have q0 := hcu 0 _ rfl; have q1 := hcu 1 _ rfl; have q2 := hcu 2 _ rfl; have q3 := hcu 3 _ rfl; have q4 := hcu 4 _ rfl
      simp only [Nat.add_zero] at p0 q0
      have hne := HNE.out f
      clear hcv hcu hf a0 a1 a2 a3 a4 a5 a6 a7 a8 a9 a10 b0 b1 b2 b3 b4 b5 b6 b7 b8 b9 b10 c0 c1 c2 c3 c4 c5 c6 c7 c8 c9 d0 d1 d2 d3 d4 d5 d6 d7 d8 d9
      go_wp2_with fail
      refine wp_region_kept2 [] [0, 1, 2, 3, 4, 5, 6, 7, 8, 9] 10 (by kernel_rfl) (by kernel_rfl) (fun c a d u w h => by cases d <;> exact h) ?_
      simp only [pick, List.getElem?_cons_succ, List.getElem?_cons_zero, List.drop_succ_cons, List.drop_zero]
      show wpKL _ _ _ _ _ _
      repeat (first
        | (refine wpKL_op (by exact rfl) (by as_aux_lemma => intro W hK; have y10 := hK.cell c10 (fun x => x); have z10 := hK.cell d10 (fun x => x); have r0 := hK.cell p0 (fun x => x); have r1 := hK.cell p1 (fun x => x); have r2 := hK.cell p2 (fun x => x); have r3 := hK.cell p3 (fun x => x); have r4 := hK.cell p4 (fun x => x); have s0 := hK.cell q0 (fun x => x); have s1 := hK.cell q1 (fun x => x); have s2 := hK.cell q2 (fun x => x); have s3 := hK.cell q3 (fun x => x); have s4 := hK.cell q4 (fun x => x); go_simp; exact rfl) ?_; simp only [Act.put, List.setIfInBounds_toArray, List.set_cons_succ, List.set_cons_zero])
        | (refine wpKL_off (by exact rfl) ?_; simp only [Act.put, List.setIfInBounds_toArray, List.set_cons_succ, List.set_cons_zero]))
      show ∀ W, _ → wpList _ _ _ _ _ _
      intro W2 hK2
      have HK2 := Lib.hid (hr.out.trans hK2)
      clear hK2
      go_wp2_with fail
      go_roundw
      case rel => exact ⟨k + 1, by go_num, by omega, HK2.out⟩
      case measure => simp [intOf]; omega
    · have hke : ¬ (k : Int) < fl.length := by omega
      go_wp2_with fail
      go_ret
      exact ⟨rfl, HK.out.trans hr.out⟩
end Go.Proofs.YtkkgpaabbgdfmaaDoor
