/- Walks for layer 42: a reply's line, the document's. Printed by wlq.py. -/
import Derived.Test.YtacgabagfdlpeaaGreatDoorWlN
import Derived.Test.YtacgabagfdlpeaaGreatDoorCfE
namespace Go.Proofs.YtacgabagfdlpeaaGreatDoor
set_option linter.unusedVariables false
set_option linter.unusedSimpArgs false
open Go Go.RowKit Go.Shelf
set_option maxHeartbeats 1000000 in
theorem rNum (n : Nat) (hn : n < 18446744073709551616) : ∃ x : ByteArray, bl x = nums [n] ∧ x.size ≤ 21 ∧ ∀ w, Calls Tryz.prog 10 #[.int .u64 n] w fun e w' => e = .returned (.string x) ∧ Kp none' w w' := by
  obtain ⟨x1, q1, e1, z1⟩ := cat_ex ⟨#[32]⟩ (tx (put n)) 1 20 (by decide) (by rw [tx_size]; exact put_lenW n hn) (by omega)
  refine ⟨x1, by rw [e1, bl_tx]; show [32] ++ put n = _; simp [nums], z1, fun w => ?_⟩
  have HU := Lib.hid (fun W => rPut 19 n W (Nat.lt_of_lt_of_le hn (by decide)) (by omega))
  clear e1
  go_enter Tryz.func10, Tryz.ntmps10
  go_wp2_with fail
  refine (HU.out _).mono ?_
  rintro e w1 ⟨rfl, h1⟩
  have HK := Lib.hid (kp_of_drew h1)
  clear h1
  go_wp2
  go_ret
  exact ⟨rfl, HK.out⟩

set_option maxRecDepth 100000 in
set_option maxHeartbeats 1000000 in
theorem rLineA (r : RpF) (hr : r.ok) (hk : r.kind < 0) (w : World) : Calls Tryz.prog 5 #[.agg (enRp r).toArray] w fun e w' => e = .returned (.string (tx (lineT r))) ∧ Kp none' w w' := by
  obtain ⟨c0, c1, c2, c3, c4, c5, c6⟩ := box_rp r w
  have HK0 := Lib.hid ((Kp.refl none' w).alloc (.cells (enRp r).toArray 31))
  have HE : Hid (lineT r = []) := by show _ = _; unfold lineT; rw [if_pos (.inl hk)]
  rw [HE.out]
  clear c1 c2 c3 c4 c5 c6 hr
  have hz0 : w.heap.size < (w.alloc (.cells (enRp r).toArray 31)).heap.size := World.block_lt_of_cell? _ _ c0
  have g0 : (enRp r)[0]? = some (.int .i64 r.kind) := rfl
  generalize enRp r = cs at *
  generalize r.kind = k at *
  go_enter Tryz.func5, Tryz.ntmps5
  go_wp2
  go_ret
  exact ⟨rfl, HK0.out.alloc _⟩

set_option maxRecDepth 100000 in
set_option maxHeartbeats 1000000 in
theorem rLineB (r : RpF) (hr : r.ok) (hk : 5 < r.kind) (w : World) : Calls Tryz.prog 5 #[.agg (enRp r).toArray] w fun e w' => e = .returned (.string (tx (lineT r))) ∧ Kp none' w w' := by
  obtain ⟨c0, c1, c2, c3, c4, c5, c6⟩ := box_rp r w
  have HK0 := Lib.hid ((Kp.refl none' w).alloc (.cells (enRp r).toArray 31))
  have HE : Hid (lineT r = []) := by show _ = _; unfold lineT; rw [if_pos (.inr hk)]
  rw [HE.out]
  clear c1 c2 c3 c4 c5 c6 hr
  have hz0 : w.heap.size < (w.alloc (.cells (enRp r).toArray 31)).heap.size := World.block_lt_of_cell? _ _ c0
  have g0 : (enRp r)[0]? = some (.int .i64 r.kind) := rfl
  generalize enRp r = cs at *
  generalize r.kind = k at *
  have hk0 : ¬ k < 0 := by omega
  go_enter Tryz.func5, Tryz.ntmps5
  go_wp2
  go_ret
  exact ⟨rfl, HK0.out.alloc _⟩

set_option maxRecDepth 100000 in
set_option maxHeartbeats 1000000 in
theorem rLine0z (r : RpF) (hr : r.ok) (hk : r.kind = 0) (hc : r.code = 0) (w : World) : Calls Tryz.prog 5 #[.agg (enRp r).toArray] w fun e w' => e = .returned (.string (tx (lineT r))) ∧ Kp none' w w' := by
  obtain ⟨c0, c1, c2, c3, c4, c5, c6⟩ := box_rp r w
  have HK0 := Lib.hid ((Kp.refl none' w).alloc (.cells (enRp r).toArray 31))
  have hz0 : w.heap.size < (w.alloc (.cells (enRp r).toArray 31)).heap.size := World.block_lt_of_cell? _ _ c0
  have g0 : (enRp r)[0]? = some (.int .i64 r.kind) := rfl
  have g1 : (enRp r)[1]? = some (.int .i64 r.code) := rfl
  have g5 : (enRp r)[5]? = some (.int .u64 r.rank) := rfl
  have hwf : IntKind.u64.wrap (r.flow : Int) = r.flow := by have := hr.flow; rw [IntKind.wrap_u64]; omega
  have hwi : IntKind.u64.wrap (r.id : Int) = r.id := by have := hr.id; rw [IntKind.wrap_u64]; omega
  have HF : Hid (firstT r = bl ⟨#[106, 117, 110, 107]⟩) := by show _ = _; unfold firstT; rw [hk, if_neg (by simp)]; rfl
  have HX : Hid (lineT r = bl ⟨#[106, 117, 110, 107]⟩) := by show _ = _; unfold lineT; rw [if_neg (by omega), if_neg (by omega), if_neg (by omega), if_neg (by omega), HF.out]
  rw [HX.out, tx_bl]
  rw [hk] at c0 g0
  rw [hc] at c1 g1
  clear hk hc hr c6 HX HF
  generalize enRp r = cs at *
  generalize r.code = cd at *
  generalize r.flow = fl at *
  generalize r.id = id_ at *
  generalize r.len = ln at *
  generalize r.rank = rk at *
  go_enter Tryz.func5, Tryz.ntmps5
  go_wp2
  go_ret
  exact ⟨rfl, HK0.out.alloc _⟩

set_option maxRecDepth 100000 in
set_option maxHeartbeats 1000000 in
theorem rLine0n (r : RpF) (hr : r.ok) (hk : r.kind = 0) (hc : r.code ≠ 0) (w : World) : Calls Tryz.prog 5 #[.agg (enRp r).toArray] w fun e w' => e = .returned (.string (tx (lineT r))) ∧ Kp none' w w' := by
  obtain ⟨c0, c1, c2, c3, c4, c5, c6⟩ := box_rp r w
  have HK0 := Lib.hid ((Kp.refl none' w).alloc (.cells (enRp r).toArray 31))
  have hz0 : w.heap.size < (w.alloc (.cells (enRp r).toArray 31)).heap.size := World.block_lt_of_cell? _ _ c0
  have g0 : (enRp r)[0]? = some (.int .i64 r.kind) := rfl
  have g1 : (enRp r)[1]? = some (.int .i64 r.code) := rfl
  have g5 : (enRp r)[5]? = some (.int .u64 r.rank) := rfl
  have hwf : IntKind.u64.wrap (r.flow : Int) = r.flow := by have := hr.flow; rw [IntKind.wrap_u64]; omega
  have hwi : IntKind.u64.wrap (r.id : Int) = r.id := by have := hr.id; rw [IntKind.wrap_u64]; omega
  have HF : Hid (firstT r = bl ⟨#[106, 117, 110, 107]⟩) := by show _ = _; unfold firstT; rw [hk, if_neg (by simp)]; rfl
  obtain ⟨n4, t4, z4, N4⟩ := rNum (codeN r) (codeN_lt r)
  have M4 := Lib.hid N4
  obtain ⟨v1, qv1, ev1, zv1⟩ := cat_ex ⟨#[106, 117, 110, 107]⟩ ⟨#[32, 110, 111]⟩ 10 3 (by decide) (by decide) (by omega)
  obtain ⟨z, qz, ez, _⟩ := cat_ex v1 n4 13 21 zv1 z4 (by omega)
  have HX : Hid (lineT r = bl z) := by show _ = _; unfold lineT; rw [if_neg (by omega), if_pos hc, HF.out, ez, ev1, t4, List.append_assoc]; rfl
  have hwc := codeN_wrap r
  rw [HX.out, tx_bl]
  rw [hk] at c0 g0
  have hcb : (r.code == 0) = false := by simpa using hc
  clear ez ev1 t4 N4
  clear hk hc hr c6 HX HF
  generalize codeN r = cn at *
  generalize enRp r = cs at *
  generalize r.code = cd at *
  generalize r.flow = fl at *
  generalize r.id = id_ at *
  generalize r.len = ln at *
  generalize r.rank = rk at *
  go_enter Tryz.func5, Tryz.ntmps5
  go_wp2_with fail
  refine (M4.out _).mono ?_
  rintro e w3 ⟨rfl, k3⟩
  have HK3 := Lib.hid ((HK0.out.alloc _).trans k3)
  clear k3
  go_wp2
  go_ret
  exact ⟨rfl, HK3.out⟩

set_option maxRecDepth 100000 in
set_option maxHeartbeats 1000000 in
theorem rLine1z (r : RpF) (hr : r.ok) (hk : r.kind = 1) (hc : r.code = 0) (w : World) : Calls Tryz.prog 5 #[.agg (enRp r).toArray] w fun e w' => e = .returned (.string (tx (lineT r))) ∧ Kp none' w w' := by
  obtain ⟨c0, c1, c2, c3, c4, c5, c6⟩ := box_rp r w
  have HK0 := Lib.hid ((Kp.refl none' w).alloc (.cells (enRp r).toArray 31))
  have hz0 : w.heap.size < (w.alloc (.cells (enRp r).toArray 31)).heap.size := World.block_lt_of_cell? _ _ c0
  have g0 : (enRp r)[0]? = some (.int .i64 r.kind) := rfl
  have g1 : (enRp r)[1]? = some (.int .i64 r.code) := rfl
  have g5 : (enRp r)[5]? = some (.int .u64 r.rank) := rfl
  have hwf : IntKind.u64.wrap (r.flow : Int) = r.flow := by have := hr.flow; rw [IntKind.wrap_u64]; omega
  have hwi : IntKind.u64.wrap (r.id : Int) = r.id := by have := hr.id; rw [IntKind.wrap_u64]; omega
  obtain ⟨n1, t1, z1, N1⟩ := rNum r.flow (by have := hr.flow; omega)
  obtain ⟨n2, t2, z2, N2⟩ := rNum r.id (by have := hr.id; omega)
  obtain ⟨n3, t3, z3, N3⟩ := rNum r.len hr.len
  obtain ⟨y1, qy1, ey1, zy1⟩ := cat_ex n1 n2 21 21 z1 z2 (by omega)
  obtain ⟨y2, qy2, ey2, zy2⟩ := cat_ex y1 n3 42 21 zy1 z3 (by omega)
  obtain ⟨y, qy3, ey3, zy⟩ := cat_ex ⟨#[105, 110]⟩ y2 10 63 (by decide) zy2 (by omega)
  have M1 := Lib.hid N1; have M2 := Lib.hid N2; have M3 := Lib.hid N3
  have HF : Hid (firstT r = bl y) := by show _ = _; unfold firstT; rw [hk, if_pos (.inl rfl), ey3, ey2, ey1, t1, t2, t3, ← nums_app, ← nums_app]; rfl
  obtain ⟨n4, t4, z4, N4⟩ := rNum (r.rank) hr.rank
  have M4 := Lib.hid N4
  obtain ⟨v1, qv1, ev1, zv1⟩ := cat_ex y ⟨#[32, 97, 116]⟩ 73 3 (zy) (by decide) (by omega)
  obtain ⟨z, qz, ez, _⟩ := cat_ex v1 n4 76 21 zv1 z4 (by omega)
  have HX : Hid (lineT r = bl z) := by show _ = _; unfold lineT; rw [if_neg (by omega), if_neg (by omega), if_pos (by omega), HF.out, ez, ev1, t4, List.append_assoc]; rfl
  rw [HX.out, tx_bl]
  rw [hk] at c0 g0
  rw [hc] at c1 g1
  clear ey1 ey2 ey3 t1 t2 t3 N1 N2 N3
  clear ez ev1 t4 N4
  clear hk hc hr c6 HX HF
  generalize enRp r = cs at *
  generalize r.code = cd at *
  generalize r.flow = fl at *
  generalize r.id = id_ at *
  generalize r.len = ln at *
  generalize r.rank = rk at *
  go_enter Tryz.func5, Tryz.ntmps5
  go_wp2_with fail
  have d0 := ((Kp.refl none' _).alloc (.cells #[.string ⟨#[106, 117, 110, 107]⟩, .string ⟨#[105, 110]⟩, .string ⟨#[111, 117, 116]⟩, .string ⟨#[116, 105, 99, 107]⟩, .string ⟨#[115, 116, 97, 116, 115]⟩, .string ⟨#[116, 111, 114, 110]⟩] 9)).cell c0 id; have d1 := ((Kp.refl none' _).alloc (.cells #[.string ⟨#[106, 117, 110, 107]⟩, .string ⟨#[105, 110]⟩, .string ⟨#[111, 117, 116]⟩, .string ⟨#[116, 105, 99, 107]⟩, .string ⟨#[115, 116, 97, 116, 115]⟩, .string ⟨#[116, 111, 114, 110]⟩] 9)).cell c1 id; have d2 := ((Kp.refl none' _).alloc (.cells #[.string ⟨#[106, 117, 110, 107]⟩, .string ⟨#[105, 110]⟩, .string ⟨#[111, 117, 116]⟩, .string ⟨#[116, 105, 99, 107]⟩, .string ⟨#[115, 116, 97, 116, 115]⟩, .string ⟨#[116, 111, 114, 110]⟩] 9)).cell c2 id; have d3 := ((Kp.refl none' _).alloc (.cells #[.string ⟨#[106, 117, 110, 107]⟩, .string ⟨#[105, 110]⟩, .string ⟨#[111, 117, 116]⟩, .string ⟨#[116, 105, 99, 107]⟩, .string ⟨#[115, 116, 97, 116, 115]⟩, .string ⟨#[116, 111, 114, 110]⟩] 9)).cell c3 id; have d4 := ((Kp.refl none' _).alloc (.cells #[.string ⟨#[106, 117, 110, 107]⟩, .string ⟨#[105, 110]⟩, .string ⟨#[111, 117, 116]⟩, .string ⟨#[116, 105, 99, 107]⟩, .string ⟨#[115, 116, 97, 116, 115]⟩, .string ⟨#[116, 111, 114, 110]⟩] 9)).cell c4 id; have d5 := ((Kp.refl none' _).alloc (.cells #[.string ⟨#[106, 117, 110, 107]⟩, .string ⟨#[105, 110]⟩, .string ⟨#[111, 117, 116]⟩, .string ⟨#[116, 105, 99, 107]⟩, .string ⟨#[115, 116, 97, 116, 115]⟩, .string ⟨#[116, 111, 114, 110]⟩] 9)).cell c5 id
  have HK1 := Lib.hid (HK0.out.alloc (.cells #[.string ⟨#[106, 117, 110, 107]⟩, .string ⟨#[105, 110]⟩, .string ⟨#[111, 117, 116]⟩, .string ⟨#[116, 105, 99, 107]⟩, .string ⟨#[115, 116, 97, 116, 115]⟩, .string ⟨#[116, 111, 114, 110]⟩] 9))
  clear HK0
  refine wp_region_kept2 [] [0, 1, 2, 3, 4, 5, 6, 7, 8, 9, 10, 11, 12, 13, 14, 15, 16, 17] 18 (by kernel_rfl) (by kernel_rfl) (fun c a d u w h => by cases d <;> exact h) ?_
  simp only [pick, List.getElem?_cons_succ, List.getElem?_cons_zero, List.drop_succ_cons, List.drop_zero]
  show wpKL _ _ _ _ _ _
  repeat (first
    | (refine wpKL_op (by exact rfl) (by as_aux_lemma => intro W hK; have e2 := hK.cell d2 id; have e3 := hK.cell d3 id; have e4 := hK.cell d4 id; go_simp; exact rfl) ?_; simp only [Act.put, List.setIfInBounds_toArray, List.set_cons_succ, List.set_cons_zero])
    | (refine wpKL_off (by exact rfl) ?_; simp only [Act.put, List.setIfInBounds_toArray, List.set_cons_succ, List.set_cons_zero])
    | (refine wpKL_call (by exact rfl) (by as_aux_lemma => intro W; go_simp; exact ⟨rfl, rfl⟩) (by intro W hK; with_reducible first | exact M1.out W | exact M2.out W | exact M3.out W) ?_; simp only [Act.put, List.setIfInBounds_toArray, List.set_cons_succ, List.set_cons_zero]))
  show ∀ W, _ → wpList _ _ _ _ _ _
  intro W2 hK2
  have f0 := hK2.cell d0 id; have f1 := hK2.cell d1 id; have f5 := hK2.cell d5 id
  have HK2 := Lib.hid (HK1.out.trans hK2)
  clear hK2 d0 d1 d2 d3 d4 d5
  go_wp2_with fail
  refine (M4.out _).mono ?_
  rintro e w3 ⟨rfl, k3⟩
  have HK3 := Lib.hid ((HK2.out).trans k3)
  clear k3
  go_wp2
  go_ret
  exact ⟨rfl, HK3.out⟩

set_option maxRecDepth 100000 in
set_option maxHeartbeats 1000000 in
theorem rLine1n (r : RpF) (hr : r.ok) (hk : r.kind = 1) (hc : r.code ≠ 0) (w : World) : Calls Tryz.prog 5 #[.agg (enRp r).toArray] w fun e w' => e = .returned (.string (tx (lineT r))) ∧ Kp none' w w' := by
  obtain ⟨c0, c1, c2, c3, c4, c5, c6⟩ := box_rp r w
  have HK0 := Lib.hid ((Kp.refl none' w).alloc (.cells (enRp r).toArray 31))
  have hz0 : w.heap.size < (w.alloc (.cells (enRp r).toArray 31)).heap.size := World.block_lt_of_cell? _ _ c0
  have g0 : (enRp r)[0]? = some (.int .i64 r.kind) := rfl
  have g1 : (enRp r)[1]? = some (.int .i64 r.code) := rfl
  have g5 : (enRp r)[5]? = some (.int .u64 r.rank) := rfl
  have hwf : IntKind.u64.wrap (r.flow : Int) = r.flow := by have := hr.flow; rw [IntKind.wrap_u64]; omega
  have hwi : IntKind.u64.wrap (r.id : Int) = r.id := by have := hr.id; rw [IntKind.wrap_u64]; omega
  obtain ⟨n1, t1, z1, N1⟩ := rNum r.flow (by have := hr.flow; omega)
  obtain ⟨n2, t2, z2, N2⟩ := rNum r.id (by have := hr.id; omega)
  obtain ⟨n3, t3, z3, N3⟩ := rNum r.len hr.len
  obtain ⟨y1, qy1, ey1, zy1⟩ := cat_ex n1 n2 21 21 z1 z2 (by omega)
  obtain ⟨y2, qy2, ey2, zy2⟩ := cat_ex y1 n3 42 21 zy1 z3 (by omega)
  obtain ⟨y, qy3, ey3, zy⟩ := cat_ex ⟨#[105, 110]⟩ y2 10 63 (by decide) zy2 (by omega)
  have M1 := Lib.hid N1; have M2 := Lib.hid N2; have M3 := Lib.hid N3
  have HF : Hid (firstT r = bl y) := by show _ = _; unfold firstT; rw [hk, if_pos (.inl rfl), ey3, ey2, ey1, t1, t2, t3, ← nums_app, ← nums_app]; rfl
  obtain ⟨n4, t4, z4, N4⟩ := rNum (codeN r) (codeN_lt r)
  have M4 := Lib.hid N4
  obtain ⟨v1, qv1, ev1, zv1⟩ := cat_ex y ⟨#[32, 110, 111]⟩ 73 3 (zy) (by decide) (by omega)
  obtain ⟨z, qz, ez, _⟩ := cat_ex v1 n4 76 21 zv1 z4 (by omega)
  have HX : Hid (lineT r = bl z) := by show _ = _; unfold lineT; rw [if_neg (by omega), if_pos hc, HF.out, ez, ev1, t4, List.append_assoc]; rfl
  have hwc := codeN_wrap r
  rw [HX.out, tx_bl]
  rw [hk] at c0 g0
  have hcb : (r.code == 0) = false := by simpa using hc
  clear ey1 ey2 ey3 t1 t2 t3 N1 N2 N3
  clear ez ev1 t4 N4
  clear hk hc hr c6 HX HF
  generalize codeN r = cn at *
  generalize enRp r = cs at *
  generalize r.code = cd at *
  generalize r.flow = fl at *
  generalize r.id = id_ at *
  generalize r.len = ln at *
  generalize r.rank = rk at *
  go_enter Tryz.func5, Tryz.ntmps5
  go_wp2_with fail
  have d0 := ((Kp.refl none' _).alloc (.cells #[.string ⟨#[106, 117, 110, 107]⟩, .string ⟨#[105, 110]⟩, .string ⟨#[111, 117, 116]⟩, .string ⟨#[116, 105, 99, 107]⟩, .string ⟨#[115, 116, 97, 116, 115]⟩, .string ⟨#[116, 111, 114, 110]⟩] 9)).cell c0 id; have d1 := ((Kp.refl none' _).alloc (.cells #[.string ⟨#[106, 117, 110, 107]⟩, .string ⟨#[105, 110]⟩, .string ⟨#[111, 117, 116]⟩, .string ⟨#[116, 105, 99, 107]⟩, .string ⟨#[115, 116, 97, 116, 115]⟩, .string ⟨#[116, 111, 114, 110]⟩] 9)).cell c1 id; have d2 := ((Kp.refl none' _).alloc (.cells #[.string ⟨#[106, 117, 110, 107]⟩, .string ⟨#[105, 110]⟩, .string ⟨#[111, 117, 116]⟩, .string ⟨#[116, 105, 99, 107]⟩, .string ⟨#[115, 116, 97, 116, 115]⟩, .string ⟨#[116, 111, 114, 110]⟩] 9)).cell c2 id; have d3 := ((Kp.refl none' _).alloc (.cells #[.string ⟨#[106, 117, 110, 107]⟩, .string ⟨#[105, 110]⟩, .string ⟨#[111, 117, 116]⟩, .string ⟨#[116, 105, 99, 107]⟩, .string ⟨#[115, 116, 97, 116, 115]⟩, .string ⟨#[116, 111, 114, 110]⟩] 9)).cell c3 id; have d4 := ((Kp.refl none' _).alloc (.cells #[.string ⟨#[106, 117, 110, 107]⟩, .string ⟨#[105, 110]⟩, .string ⟨#[111, 117, 116]⟩, .string ⟨#[116, 105, 99, 107]⟩, .string ⟨#[115, 116, 97, 116, 115]⟩, .string ⟨#[116, 111, 114, 110]⟩] 9)).cell c4 id; have d5 := ((Kp.refl none' _).alloc (.cells #[.string ⟨#[106, 117, 110, 107]⟩, .string ⟨#[105, 110]⟩, .string ⟨#[111, 117, 116]⟩, .string ⟨#[116, 105, 99, 107]⟩, .string ⟨#[115, 116, 97, 116, 115]⟩, .string ⟨#[116, 111, 114, 110]⟩] 9)).cell c5 id
  have HK1 := Lib.hid (HK0.out.alloc (.cells #[.string ⟨#[106, 117, 110, 107]⟩, .string ⟨#[105, 110]⟩, .string ⟨#[111, 117, 116]⟩, .string ⟨#[116, 105, 99, 107]⟩, .string ⟨#[115, 116, 97, 116, 115]⟩, .string ⟨#[116, 111, 114, 110]⟩] 9))
  clear HK0
  refine wp_region_kept2 [] [0, 1, 2, 3, 4, 5, 6, 7, 8, 9, 10, 11, 12, 13, 14, 15, 16, 17] 18 (by kernel_rfl) (by kernel_rfl) (fun c a d u w h => by cases d <;> exact h) ?_
  simp only [pick, List.getElem?_cons_succ, List.getElem?_cons_zero, List.drop_succ_cons, List.drop_zero]
  show wpKL _ _ _ _ _ _
  repeat (first
    | (refine wpKL_op (by exact rfl) (by as_aux_lemma => intro W hK; have e2 := hK.cell d2 id; have e3 := hK.cell d3 id; have e4 := hK.cell d4 id; go_simp; exact rfl) ?_; simp only [Act.put, List.setIfInBounds_toArray, List.set_cons_succ, List.set_cons_zero])
    | (refine wpKL_off (by exact rfl) ?_; simp only [Act.put, List.setIfInBounds_toArray, List.set_cons_succ, List.set_cons_zero])
    | (refine wpKL_call (by exact rfl) (by as_aux_lemma => intro W; go_simp; exact ⟨rfl, rfl⟩) (by intro W hK; with_reducible first | exact M1.out W | exact M2.out W | exact M3.out W) ?_; simp only [Act.put, List.setIfInBounds_toArray, List.set_cons_succ, List.set_cons_zero]))
  show ∀ W, _ → wpList _ _ _ _ _ _
  intro W2 hK2
  have f0 := hK2.cell d0 id; have f1 := hK2.cell d1 id; have f5 := hK2.cell d5 id
  have HK2 := Lib.hid (HK1.out.trans hK2)
  clear hK2 d0 d1 d2 d3 d4 d5
  go_wp2_with fail
  refine (M4.out _).mono ?_
  rintro e w3 ⟨rfl, k3⟩
  have HK3 := Lib.hid ((HK2.out).trans k3)
  clear k3
  go_wp2
  go_ret
  exact ⟨rfl, HK3.out⟩

set_option maxRecDepth 100000 in
set_option maxHeartbeats 1000000 in
theorem rLine2z (r : RpF) (hr : r.ok) (hk : r.kind = 2) (hc : r.code = 0) (w : World) : Calls Tryz.prog 5 #[.agg (enRp r).toArray] w fun e w' => e = .returned (.string (tx (lineT r))) ∧ Kp none' w w' := by
  obtain ⟨c0, c1, c2, c3, c4, c5, c6⟩ := box_rp r w
  have HK0 := Lib.hid ((Kp.refl none' w).alloc (.cells (enRp r).toArray 31))
  have hz0 : w.heap.size < (w.alloc (.cells (enRp r).toArray 31)).heap.size := World.block_lt_of_cell? _ _ c0
  have g0 : (enRp r)[0]? = some (.int .i64 r.kind) := rfl
  have g1 : (enRp r)[1]? = some (.int .i64 r.code) := rfl
  have g5 : (enRp r)[5]? = some (.int .u64 r.rank) := rfl
  have hwf : IntKind.u64.wrap (r.flow : Int) = r.flow := by have := hr.flow; rw [IntKind.wrap_u64]; omega
  have hwi : IntKind.u64.wrap (r.id : Int) = r.id := by have := hr.id; rw [IntKind.wrap_u64]; omega
  obtain ⟨n1, t1, z1, N1⟩ := rNum r.flow (by have := hr.flow; omega)
  obtain ⟨n2, t2, z2, N2⟩ := rNum r.id (by have := hr.id; omega)
  obtain ⟨n3, t3, z3, N3⟩ := rNum r.len hr.len
  obtain ⟨y1, qy1, ey1, zy1⟩ := cat_ex n1 n2 21 21 z1 z2 (by omega)
  obtain ⟨y2, qy2, ey2, zy2⟩ := cat_ex y1 n3 42 21 zy1 z3 (by omega)
  obtain ⟨y, qy3, ey3, zy⟩ := cat_ex ⟨#[111, 117, 116]⟩ y2 10 63 (by decide) zy2 (by omega)
  have M1 := Lib.hid N1; have M2 := Lib.hid N2; have M3 := Lib.hid N3
  have HF : Hid (firstT r = bl y) := by show _ = _; unfold firstT; rw [hk, if_pos (.inr ⟨rfl, hc⟩), ey3, ey2, ey1, t1, t2, t3, ← nums_app, ← nums_app]; rfl
  obtain ⟨n4, t4, z4, N4⟩ := rNum (r.rank) hr.rank
  have M4 := Lib.hid N4
  obtain ⟨v1, qv1, ev1, zv1⟩ := cat_ex y ⟨#[32, 97, 116]⟩ 73 3 (zy) (by decide) (by omega)
  obtain ⟨z, qz, ez, _⟩ := cat_ex v1 n4 76 21 zv1 z4 (by omega)
  have HX : Hid (lineT r = bl z) := by show _ = _; unfold lineT; rw [if_neg (by omega), if_neg (by omega), if_pos (by omega), HF.out, ez, ev1, t4, List.append_assoc]; rfl
  rw [HX.out, tx_bl]
  rw [hk] at c0 g0
  rw [hc] at c1 g1
  clear ey1 ey2 ey3 t1 t2 t3 N1 N2 N3
  clear ez ev1 t4 N4
  clear hk hc hr c6 HX HF
  generalize enRp r = cs at *
  generalize r.code = cd at *
  generalize r.flow = fl at *
  generalize r.id = id_ at *
  generalize r.len = ln at *
  generalize r.rank = rk at *
  go_enter Tryz.func5, Tryz.ntmps5
  go_wp2_with fail
  have d0 := ((Kp.refl none' _).alloc (.cells #[.string ⟨#[106, 117, 110, 107]⟩, .string ⟨#[105, 110]⟩, .string ⟨#[111, 117, 116]⟩, .string ⟨#[116, 105, 99, 107]⟩, .string ⟨#[115, 116, 97, 116, 115]⟩, .string ⟨#[116, 111, 114, 110]⟩] 9)).cell c0 id; have d1 := ((Kp.refl none' _).alloc (.cells #[.string ⟨#[106, 117, 110, 107]⟩, .string ⟨#[105, 110]⟩, .string ⟨#[111, 117, 116]⟩, .string ⟨#[116, 105, 99, 107]⟩, .string ⟨#[115, 116, 97, 116, 115]⟩, .string ⟨#[116, 111, 114, 110]⟩] 9)).cell c1 id; have d2 := ((Kp.refl none' _).alloc (.cells #[.string ⟨#[106, 117, 110, 107]⟩, .string ⟨#[105, 110]⟩, .string ⟨#[111, 117, 116]⟩, .string ⟨#[116, 105, 99, 107]⟩, .string ⟨#[115, 116, 97, 116, 115]⟩, .string ⟨#[116, 111, 114, 110]⟩] 9)).cell c2 id; have d3 := ((Kp.refl none' _).alloc (.cells #[.string ⟨#[106, 117, 110, 107]⟩, .string ⟨#[105, 110]⟩, .string ⟨#[111, 117, 116]⟩, .string ⟨#[116, 105, 99, 107]⟩, .string ⟨#[115, 116, 97, 116, 115]⟩, .string ⟨#[116, 111, 114, 110]⟩] 9)).cell c3 id; have d4 := ((Kp.refl none' _).alloc (.cells #[.string ⟨#[106, 117, 110, 107]⟩, .string ⟨#[105, 110]⟩, .string ⟨#[111, 117, 116]⟩, .string ⟨#[116, 105, 99, 107]⟩, .string ⟨#[115, 116, 97, 116, 115]⟩, .string ⟨#[116, 111, 114, 110]⟩] 9)).cell c4 id; have d5 := ((Kp.refl none' _).alloc (.cells #[.string ⟨#[106, 117, 110, 107]⟩, .string ⟨#[105, 110]⟩, .string ⟨#[111, 117, 116]⟩, .string ⟨#[116, 105, 99, 107]⟩, .string ⟨#[115, 116, 97, 116, 115]⟩, .string ⟨#[116, 111, 114, 110]⟩] 9)).cell c5 id
  have HK1 := Lib.hid (HK0.out.alloc (.cells #[.string ⟨#[106, 117, 110, 107]⟩, .string ⟨#[105, 110]⟩, .string ⟨#[111, 117, 116]⟩, .string ⟨#[116, 105, 99, 107]⟩, .string ⟨#[115, 116, 97, 116, 115]⟩, .string ⟨#[116, 111, 114, 110]⟩] 9))
  clear HK0
  refine wp_region_kept2 [] [0, 1, 2, 3, 4, 5, 6, 7, 8, 9, 10, 11, 12, 13, 14, 15, 16, 17] 18 (by kernel_rfl) (by kernel_rfl) (fun c a d u w h => by cases d <;> exact h) ?_
  simp only [pick, List.getElem?_cons_succ, List.getElem?_cons_zero, List.drop_succ_cons, List.drop_zero]
  show wpKL _ _ _ _ _ _
  repeat (first
    | (refine wpKL_op (by exact rfl) (by as_aux_lemma => intro W hK; have e2 := hK.cell d2 id; have e3 := hK.cell d3 id; have e4 := hK.cell d4 id; go_simp; exact rfl) ?_; simp only [Act.put, List.setIfInBounds_toArray, List.set_cons_succ, List.set_cons_zero])
    | (refine wpKL_off (by exact rfl) ?_; simp only [Act.put, List.setIfInBounds_toArray, List.set_cons_succ, List.set_cons_zero])
    | (refine wpKL_call (by exact rfl) (by as_aux_lemma => intro W; go_simp; exact ⟨rfl, rfl⟩) (by intro W hK; with_reducible first | exact M1.out W | exact M2.out W | exact M3.out W) ?_; simp only [Act.put, List.setIfInBounds_toArray, List.set_cons_succ, List.set_cons_zero]))
  show ∀ W, _ → wpList _ _ _ _ _ _
  intro W2 hK2
  have f0 := hK2.cell d0 id; have f1 := hK2.cell d1 id; have f5 := hK2.cell d5 id
  have HK2 := Lib.hid (HK1.out.trans hK2)
  clear hK2 d0 d1 d2 d3 d4 d5
  go_wp2_with fail
  refine (M4.out _).mono ?_
  rintro e w3 ⟨rfl, k3⟩
  have HK3 := Lib.hid ((HK2.out).trans k3)
  clear k3
  go_wp2
  go_ret
  exact ⟨rfl, HK3.out⟩

set_option maxRecDepth 100000 in
set_option maxHeartbeats 1000000 in
theorem rLine2n (r : RpF) (hr : r.ok) (hk : r.kind = 2) (hc : r.code ≠ 0) (w : World) : Calls Tryz.prog 5 #[.agg (enRp r).toArray] w fun e w' => e = .returned (.string (tx (lineT r))) ∧ Kp none' w w' := by
  obtain ⟨c0, c1, c2, c3, c4, c5, c6⟩ := box_rp r w
  have HK0 := Lib.hid ((Kp.refl none' w).alloc (.cells (enRp r).toArray 31))
  have hz0 : w.heap.size < (w.alloc (.cells (enRp r).toArray 31)).heap.size := World.block_lt_of_cell? _ _ c0
  have g0 : (enRp r)[0]? = some (.int .i64 r.kind) := rfl
  have g1 : (enRp r)[1]? = some (.int .i64 r.code) := rfl
  have g5 : (enRp r)[5]? = some (.int .u64 r.rank) := rfl
  have hwf : IntKind.u64.wrap (r.flow : Int) = r.flow := by have := hr.flow; rw [IntKind.wrap_u64]; omega
  have hwi : IntKind.u64.wrap (r.id : Int) = r.id := by have := hr.id; rw [IntKind.wrap_u64]; omega
  have HF : Hid (firstT r = bl ⟨#[111, 117, 116]⟩) := by show _ = _; unfold firstT; rw [hk, if_neg (by simp; exact hc)]; rfl
  obtain ⟨n4, t4, z4, N4⟩ := rNum (codeN r) (codeN_lt r)
  have M4 := Lib.hid N4
  obtain ⟨v1, qv1, ev1, zv1⟩ := cat_ex ⟨#[111, 117, 116]⟩ ⟨#[32, 110, 111]⟩ 10 3 (by decide) (by decide) (by omega)
  obtain ⟨z, qz, ez, _⟩ := cat_ex v1 n4 13 21 zv1 z4 (by omega)
  have HX : Hid (lineT r = bl z) := by show _ = _; unfold lineT; rw [if_neg (by omega), if_pos hc, HF.out, ez, ev1, t4, List.append_assoc]; rfl
  have hwc := codeN_wrap r
  rw [HX.out, tx_bl]
  rw [hk] at c0 g0
  have hcb : (r.code == 0) = false := by simpa using hc
  clear ez ev1 t4 N4
  clear hk hc hr c6 HX HF
  generalize codeN r = cn at *
  generalize enRp r = cs at *
  generalize r.code = cd at *
  generalize r.flow = fl at *
  generalize r.id = id_ at *
  generalize r.len = ln at *
  generalize r.rank = rk at *
  go_enter Tryz.func5, Tryz.ntmps5
  go_wp2_with fail
  refine (M4.out _).mono ?_
  rintro e w3 ⟨rfl, k3⟩
  have HK3 := Lib.hid ((HK0.out.alloc _).trans k3)
  clear k3
  go_wp2
  go_ret
  exact ⟨rfl, HK3.out⟩

set_option maxRecDepth 100000 in
set_option maxHeartbeats 1000000 in
theorem rLine3z (r : RpF) (hr : r.ok) (hk : r.kind = 3) (hc : r.code = 0) (w : World) : Calls Tryz.prog 5 #[.agg (enRp r).toArray] w fun e w' => e = .returned (.string (tx (lineT r))) ∧ Kp none' w w' := by
  obtain ⟨c0, c1, c2, c3, c4, c5, c6⟩ := box_rp r w
  have HK0 := Lib.hid ((Kp.refl none' w).alloc (.cells (enRp r).toArray 31))
  have hz0 : w.heap.size < (w.alloc (.cells (enRp r).toArray 31)).heap.size := World.block_lt_of_cell? _ _ c0
  have g0 : (enRp r)[0]? = some (.int .i64 r.kind) := rfl
  have g1 : (enRp r)[1]? = some (.int .i64 r.code) := rfl
  have g5 : (enRp r)[5]? = some (.int .u64 r.rank) := rfl
  have hwf : IntKind.u64.wrap (r.flow : Int) = r.flow := by have := hr.flow; rw [IntKind.wrap_u64]; omega
  have hwi : IntKind.u64.wrap (r.id : Int) = r.id := by have := hr.id; rw [IntKind.wrap_u64]; omega
  have HF : Hid (firstT r = bl ⟨#[116, 105, 99, 107]⟩) := by show _ = _; unfold firstT; rw [hk, if_neg (by simp)]; rfl
  have HX : Hid (lineT r = bl ⟨#[116, 105, 99, 107]⟩) := by show _ = _; unfold lineT; rw [if_neg (by omega), if_neg (by omega), if_neg (by omega), if_neg (by omega), HF.out]
  rw [HX.out, tx_bl]
  rw [hk] at c0 g0
  rw [hc] at c1 g1
  clear hk hc hr c6 HX HF
  generalize enRp r = cs at *
  generalize r.code = cd at *
  generalize r.flow = fl at *
  generalize r.id = id_ at *
  generalize r.len = ln at *
  generalize r.rank = rk at *
  go_enter Tryz.func5, Tryz.ntmps5
  go_wp2
  go_ret
  exact ⟨rfl, HK0.out.alloc _⟩

set_option maxRecDepth 100000 in
set_option maxHeartbeats 1000000 in
theorem rLine3n (r : RpF) (hr : r.ok) (hk : r.kind = 3) (hc : r.code ≠ 0) (w : World) : Calls Tryz.prog 5 #[.agg (enRp r).toArray] w fun e w' => e = .returned (.string (tx (lineT r))) ∧ Kp none' w w' := by
  obtain ⟨c0, c1, c2, c3, c4, c5, c6⟩ := box_rp r w
  have HK0 := Lib.hid ((Kp.refl none' w).alloc (.cells (enRp r).toArray 31))
  have hz0 : w.heap.size < (w.alloc (.cells (enRp r).toArray 31)).heap.size := World.block_lt_of_cell? _ _ c0
  have g0 : (enRp r)[0]? = some (.int .i64 r.kind) := rfl
  have g1 : (enRp r)[1]? = some (.int .i64 r.code) := rfl
  have g5 : (enRp r)[5]? = some (.int .u64 r.rank) := rfl
  have hwf : IntKind.u64.wrap (r.flow : Int) = r.flow := by have := hr.flow; rw [IntKind.wrap_u64]; omega
  have hwi : IntKind.u64.wrap (r.id : Int) = r.id := by have := hr.id; rw [IntKind.wrap_u64]; omega
  have HF : Hid (firstT r = bl ⟨#[116, 105, 99, 107]⟩) := by show _ = _; unfold firstT; rw [hk, if_neg (by simp)]; rfl
  obtain ⟨n4, t4, z4, N4⟩ := rNum (codeN r) (codeN_lt r)
  have M4 := Lib.hid N4
  obtain ⟨v1, qv1, ev1, zv1⟩ := cat_ex ⟨#[116, 105, 99, 107]⟩ ⟨#[32, 110, 111]⟩ 10 3 (by decide) (by decide) (by omega)
  obtain ⟨z, qz, ez, _⟩ := cat_ex v1 n4 13 21 zv1 z4 (by omega)
  have HX : Hid (lineT r = bl z) := by show _ = _; unfold lineT; rw [if_neg (by omega), if_pos hc, HF.out, ez, ev1, t4, List.append_assoc]; rfl
  have hwc := codeN_wrap r
  rw [HX.out, tx_bl]
  rw [hk] at c0 g0
  have hcb : (r.code == 0) = false := by simpa using hc
  clear ez ev1 t4 N4
  clear hk hc hr c6 HX HF
  generalize codeN r = cn at *
  generalize enRp r = cs at *
  generalize r.code = cd at *
  generalize r.flow = fl at *
  generalize r.id = id_ at *
  generalize r.len = ln at *
  generalize r.rank = rk at *
  go_enter Tryz.func5, Tryz.ntmps5
  go_wp2_with fail
  refine (M4.out _).mono ?_
  rintro e w3 ⟨rfl, k3⟩
  have HK3 := Lib.hid ((HK0.out.alloc _).trans k3)
  clear k3
  go_wp2
  go_ret
  exact ⟨rfl, HK3.out⟩

set_option maxRecDepth 100000 in
set_option maxHeartbeats 1000000 in
theorem rLine4n (r : RpF) (hr : r.ok) (hk : r.kind = 4) (hc : r.code ≠ 0) (w : World) : Calls Tryz.prog 5 #[.agg (enRp r).toArray] w fun e w' => e = .returned (.string (tx (lineT r))) ∧ Kp none' w w' := by
  obtain ⟨c0, c1, c2, c3, c4, c5, c6⟩ := box_rp r w
  have HK0 := Lib.hid ((Kp.refl none' w).alloc (.cells (enRp r).toArray 31))
  have hz0 : w.heap.size < (w.alloc (.cells (enRp r).toArray 31)).heap.size := World.block_lt_of_cell? _ _ c0
  have g0 : (enRp r)[0]? = some (.int .i64 r.kind) := rfl
  have g1 : (enRp r)[1]? = some (.int .i64 r.code) := rfl
  have g5 : (enRp r)[5]? = some (.int .u64 r.rank) := rfl
  have hwf : IntKind.u64.wrap (r.flow : Int) = r.flow := by have := hr.flow; rw [IntKind.wrap_u64]; omega
  have hwi : IntKind.u64.wrap (r.id : Int) = r.id := by have := hr.id; rw [IntKind.wrap_u64]; omega
  have HF : Hid (firstT r = bl ⟨#[115, 116, 97, 116, 115]⟩) := by show _ = _; unfold firstT; rw [hk, if_neg (by simp)]; rfl
  obtain ⟨n4, t4, z4, N4⟩ := rNum (codeN r) (codeN_lt r)
  have M4 := Lib.hid N4
  obtain ⟨v1, qv1, ev1, zv1⟩ := cat_ex ⟨#[115, 116, 97, 116, 115]⟩ ⟨#[32, 110, 111]⟩ 10 3 (by decide) (by decide) (by omega)
  obtain ⟨z, qz, ez, _⟩ := cat_ex v1 n4 13 21 zv1 z4 (by omega)
  have HX : Hid (lineT r = bl z) := by show _ = _; unfold lineT; rw [if_neg (by omega), if_pos hc, HF.out, ez, ev1, t4, List.append_assoc]; rfl
  have hwc := codeN_wrap r
  rw [HX.out, tx_bl]
  rw [hk] at c0 g0
  have hcb : (r.code == 0) = false := by simpa using hc
  clear ez ev1 t4 N4
  clear hk hc hr c6 HX HF
  generalize codeN r = cn at *
  generalize enRp r = cs at *
  generalize r.code = cd at *
  generalize r.flow = fl at *
  generalize r.id = id_ at *
  generalize r.len = ln at *
  generalize r.rank = rk at *
  go_enter Tryz.func5, Tryz.ntmps5
  go_wp2_with fail
  refine (M4.out _).mono ?_
  rintro e w3 ⟨rfl, k3⟩
  have HK3 := Lib.hid ((HK0.out.alloc _).trans k3)
  clear k3
  go_wp2
  go_ret
  exact ⟨rfl, HK3.out⟩

set_option maxRecDepth 100000 in
set_option maxHeartbeats 1000000 in
theorem rLine5z (r : RpF) (hr : r.ok) (hk : r.kind = 5) (hc : r.code = 0) (w : World) : Calls Tryz.prog 5 #[.agg (enRp r).toArray] w fun e w' => e = .returned (.string (tx (lineT r))) ∧ Kp none' w w' := by
  obtain ⟨c0, c1, c2, c3, c4, c5, c6⟩ := box_rp r w
  have HK0 := Lib.hid ((Kp.refl none' w).alloc (.cells (enRp r).toArray 31))
  have hz0 : w.heap.size < (w.alloc (.cells (enRp r).toArray 31)).heap.size := World.block_lt_of_cell? _ _ c0
  have g0 : (enRp r)[0]? = some (.int .i64 r.kind) := rfl
  have g1 : (enRp r)[1]? = some (.int .i64 r.code) := rfl
  have g5 : (enRp r)[5]? = some (.int .u64 r.rank) := rfl
  have hwf : IntKind.u64.wrap (r.flow : Int) = r.flow := by have := hr.flow; rw [IntKind.wrap_u64]; omega
  have hwi : IntKind.u64.wrap (r.id : Int) = r.id := by have := hr.id; rw [IntKind.wrap_u64]; omega
  have HF : Hid (firstT r = bl ⟨#[116, 111, 114, 110]⟩) := by show _ = _; unfold firstT; rw [hk, if_neg (by simp)]; rfl
  have HX : Hid (lineT r = bl ⟨#[116, 111, 114, 110]⟩) := by show _ = _; unfold lineT; rw [if_neg (by omega), if_neg (by omega), if_neg (by omega), if_neg (by omega), HF.out]
  rw [HX.out, tx_bl]
  rw [hk] at c0 g0
  rw [hc] at c1 g1
  clear hk hc hr c6 HX HF
  generalize enRp r = cs at *
  generalize r.code = cd at *
  generalize r.flow = fl at *
  generalize r.id = id_ at *
  generalize r.len = ln at *
  generalize r.rank = rk at *
  go_enter Tryz.func5, Tryz.ntmps5
  go_wp2
  go_ret
  exact ⟨rfl, HK0.out.alloc _⟩

set_option maxRecDepth 100000 in
set_option maxHeartbeats 1000000 in
theorem rLine5n (r : RpF) (hr : r.ok) (hk : r.kind = 5) (hc : r.code ≠ 0) (w : World) : Calls Tryz.prog 5 #[.agg (enRp r).toArray] w fun e w' => e = .returned (.string (tx (lineT r))) ∧ Kp none' w w' := by
  obtain ⟨c0, c1, c2, c3, c4, c5, c6⟩ := box_rp r w
  have HK0 := Lib.hid ((Kp.refl none' w).alloc (.cells (enRp r).toArray 31))
  have hz0 : w.heap.size < (w.alloc (.cells (enRp r).toArray 31)).heap.size := World.block_lt_of_cell? _ _ c0
  have g0 : (enRp r)[0]? = some (.int .i64 r.kind) := rfl
  have g1 : (enRp r)[1]? = some (.int .i64 r.code) := rfl
  have g5 : (enRp r)[5]? = some (.int .u64 r.rank) := rfl
  have hwf : IntKind.u64.wrap (r.flow : Int) = r.flow := by have := hr.flow; rw [IntKind.wrap_u64]; omega
  have hwi : IntKind.u64.wrap (r.id : Int) = r.id := by have := hr.id; rw [IntKind.wrap_u64]; omega
  have HF : Hid (firstT r = bl ⟨#[116, 111, 114, 110]⟩) := by show _ = _; unfold firstT; rw [hk, if_neg (by simp)]; rfl
  obtain ⟨n4, t4, z4, N4⟩ := rNum (codeN r) (codeN_lt r)
  have M4 := Lib.hid N4
  obtain ⟨v1, qv1, ev1, zv1⟩ := cat_ex ⟨#[116, 111, 114, 110]⟩ ⟨#[32, 110, 111]⟩ 10 3 (by decide) (by decide) (by omega)
  obtain ⟨z, qz, ez, _⟩ := cat_ex v1 n4 13 21 zv1 z4 (by omega)
  have HX : Hid (lineT r = bl z) := by show _ = _; unfold lineT; rw [if_neg (by omega), if_pos hc, HF.out, ez, ev1, t4, List.append_assoc]; rfl
  have hwc := codeN_wrap r
  rw [HX.out, tx_bl]
  rw [hk] at c0 g0
  have hcb : (r.code == 0) = false := by simpa using hc
  clear ez ev1 t4 N4
  clear hk hc hr c6 HX HF
  generalize codeN r = cn at *
  generalize enRp r = cs at *
  generalize r.code = cd at *
  generalize r.flow = fl at *
  generalize r.id = id_ at *
  generalize r.len = ln at *
  generalize r.rank = rk at *
  go_enter Tryz.func5, Tryz.ntmps5
  go_wp2_with fail
  refine (M4.out _).mono ?_
  rintro e w3 ⟨rfl, k3⟩
  have HK3 := Lib.hid ((HK0.out.alloc _).trans k3)
  clear k3
  go_wp2
  go_ret
  exact ⟨rfl, HK3.out⟩

set_option maxRecDepth 100000 in
set_option maxHeartbeats 1000000 in
theorem rLine4z (r : RpF) (hr : r.ok) (hk : r.kind = 4) (hc : r.code = 0) (w : World) : Calls Tryz.prog 5 #[.agg (enRp r).toArray] w fun e w' => e = .returned (.string (tx (lineT r))) ∧ Kp none' w w' := by
  obtain ⟨c0, c1, _, _, _, _, c6⟩ := box_rp r w
  have HK0 := Lib.hid ((Kp.refl none' w).alloc (.cells (enRp r).toArray 31))
  have hz0 : w.heap.size < (w.alloc (.cells (enRp r).toArray 31)).heap.size := World.block_lt_of_cell? _ _ c0
  have g0 : (enRp r)[0]? = some (.int .i64 r.kind) := rfl
  have g1 : (enRp r)[1]? = some (.int .i64 r.code) := rfl
  have g8 : (enRp r)[8]? = some (.int .i64 r.packets) := rfl
  rw [hk] at c0 g0
  rw [hc] at c1 g1
  have d6 : ((w.alloc (.cells (enRp r).toArray 31)).alloc (.cells #[.string ⟨#[106, 117, 110, 107]⟩, .string ⟨#[105, 110]⟩, .string ⟨#[111, 117, 116]⟩, .string ⟨#[116, 105, 99, 107]⟩, .string ⟨#[115, 116, 97, 116, 115]⟩, .string ⟨#[116, 111, 114, 110]⟩] 9)).cell? ⟨w.heap.size, 6, none⟩ = some (.int .u64 r.now) := ((Kp.refl none' _).alloc _).cell (c6 0 _ rfl) id
  have d7 : ((w.alloc (.cells (enRp r).toArray 31)).alloc (.cells #[.string ⟨#[106, 117, 110, 107]⟩, .string ⟨#[105, 110]⟩, .string ⟨#[111, 117, 116]⟩, .string ⟨#[116, 105, 99, 107]⟩, .string ⟨#[115, 116, 97, 116, 115]⟩, .string ⟨#[116, 111, 114, 110]⟩] 9)).cell? ⟨w.heap.size, 7, none⟩ = some (.int .u64 r.tokens) := ((Kp.refl none' _).alloc _).cell (c6 1 _ rfl) id
  have d8 : ((w.alloc (.cells (enRp r).toArray 31)).alloc (.cells #[.string ⟨#[106, 117, 110, 107]⟩, .string ⟨#[105, 110]⟩, .string ⟨#[111, 117, 116]⟩, .string ⟨#[116, 105, 99, 107]⟩, .string ⟨#[115, 116, 97, 116, 115]⟩, .string ⟨#[116, 111, 114, 110]⟩] 9)).cell? ⟨w.heap.size, 8, none⟩ = some (.int .i64 r.packets) := ((Kp.refl none' _).alloc _).cell (c6 2 _ rfl) id
  have d9 : ((w.alloc (.cells (enRp r).toArray 31)).alloc (.cells #[.string ⟨#[106, 117, 110, 107]⟩, .string ⟨#[105, 110]⟩, .string ⟨#[111, 117, 116]⟩, .string ⟨#[116, 105, 99, 107]⟩, .string ⟨#[115, 116, 97, 116, 115]⟩, .string ⟨#[116, 111, 114, 110]⟩] 9)).cell? ⟨w.heap.size, 9, none⟩ = some (.int .u64 r.bytes) := ((Kp.refl none' _).alloc _).cell (c6 3 _ rfl) id
  have HR1 : Hid (((w.alloc (.cells (enRp r).toArray 31)).alloc (.cells #[.string ⟨#[106, 117, 110, 107]⟩, .string ⟨#[105, 110]⟩, .string ⟨#[111, 117, 116]⟩, .string ⟨#[116, 105, 99, 107]⟩, .string ⟨#[115, 116, 97, 116, 115]⟩, .string ⟨#[116, 111, 114, 110]⟩] 9)).rangeAt w.heap.size 10 (u64w r.ref)) := fun j v hv => ((Kp.refl none' _).alloc _).cell (by
    have h := c6 (4 + j) v (by
      show ([.int .u64 (r.now : Int), .int .u64 (r.tokens : Int), .int .i64 r.packets, .int .u64 (r.bytes : Int)] ++ u64w r.ref)[4 + j]? = _
      rw [List.getElem?_append_right (by simp)]
      rw [show 4 + j - ([.int .u64 (r.now : Int), .int .u64 (r.tokens : Int), .int .i64 r.packets, .int .u64 (r.bytes : Int)] : List Value).length = j by simp]; exact hv)
    rw [show 6 + (4 + j) = 10 + j by omega] at h; exact h) id
  have HK1 := Lib.hid (HK0.out.alloc (.cells #[.string ⟨#[106, 117, 110, 107]⟩, .string ⟨#[105, 110]⟩, .string ⟨#[111, 117, 116]⟩, .string ⟨#[116, 105, 99, 107]⟩, .string ⟨#[115, 116, 97, 116, 115]⟩, .string ⟨#[116, 111, 114, 110]⟩] 9))
  obtain ⟨p, hp⟩ : ∃ p : Nat, (p : Int) = max r.packets 0 := ⟨r.packets.toNat, by omega⟩
  have hpk := hr.packets
  obtain ⟨n1, t1, z1, N1⟩ := rNum r.now hr.now
  obtain ⟨n2, t2, z2, N2⟩ := rNum r.tokens hr.tokens
  obtain ⟨n3, t3, z3, N3⟩ := rNum p (by omega)
  obtain ⟨n4, t4, z4, N4⟩ := rNum r.bytes hr.bytes
  obtain ⟨y1, qy1, ey1, zy1⟩ := cat_ex n1 n2 21 21 z1 z2 (by omega)
  obtain ⟨y2, qy2, ey2, zy2⟩ := cat_ex y1 n3 42 21 zy1 z3 (by omega)
  obtain ⟨y3, qy3, ey3, zy3⟩ := cat_ex y2 n4 63 21 zy2 z4 (by omega)
  obtain ⟨y, qy, ey, zy⟩ := cat_ex ⟨#[115, 116, 97, 116, 115]⟩ y3 10 84 (by decide) zy3 (by omega)
  have M1 := Lib.hid N1; have M2 := Lib.hid N2; have M3 := Lib.hid N3; have M4 := Lib.hid N4
  have HNUM := Lib.hid rNum
  have h32 := hr.n32
  have HRF := Lib.hid hr.ref
  have hst : statN r = [r.now, r.tokens, p, r.bytes] ++ refN 0 r.ref := by unfold statN; rw [show r.packets.toNat = p by omega]
  have HSN : ∀ (i : Nat) (hi : i < r.ref.length), [r.now, r.tokens, p, r.bytes] ++ refN 0 (r.ref.take (i + 1)) = ([r.now, r.tokens, p, r.bytes] ++ refN 0 (r.ref.take i)) ++ (if 0 < r.ref[i] then [i, r.ref[i]] else []) := fun i hi => by
    rw [List.take_succ_eq_append_getElem hi, refN_snoc, List.length_take, Nat.min_eq_left (by omega), Nat.zero_add, List.append_assoc]
  have HLEN : ∀ i, (nums ([r.now, r.tokens, p, r.bytes] ++ refN 0 (r.ref.take i))).length ≤ 1500 := fun i => by
    have h1 := refN_len (r.ref.take i) 0
    rw [List.length_take] at h1
    have h2 := nums_len ([r.now, r.tokens, p, r.bytes] ++ refN 0 (r.ref.take i)) (fun n hn => by
      rcases List.mem_append.1 hn with hn | hn
      · have h1 := hr.now; have h2 := hr.tokens; have h3 := hr.bytes
        simp only [List.mem_cons, List.not_mem_nil, or_false] at hn
        rcases hn with rfl | rfl | rfl | rfl <;> omega
      · exact refN_small _ 0 (fun m hm => hr.ref m (List.mem_of_mem_take hm)) (by rw [List.length_take]; omega) n hn)
    rw [List.length_append] at h2; simp only [List.length_cons, List.length_nil] at h2; omega
  have hy : bl y = bl ⟨#[115, 116, 97, 116, 115]⟩ ++ nums ([r.now, r.tokens, p, r.bytes] ++ refN 0 (r.ref.take 0)) := by
    rw [ey, ey3, ey2, ey1, t1, t2, t3, t4, ← nums_app, ← nums_app, ← nums_app]; rfl
  have hlt : lineT r = bl ⟨#[115, 116, 97, 116, 115]⟩ ++ nums ([r.now, r.tokens, p, r.bytes] ++ refN 0 (r.ref.take 32)) := by
    unfold lineT; rw [if_neg (by omega), if_neg (by omega), if_neg (by omega), if_pos hk, hst, List.take_of_length_le (by omega)]
    unfold firstT; rw [hk, if_neg (by simp)]; rfl
  obtain ⟨X, hX⟩ : ∃ X : Nat → List Nat, ∀ i, [r.now, r.tokens, p, r.bytes] ++ refN 0 (r.ref.take i) = X i := ⟨_, fun i => rfl⟩
  simp only [hX] at HSN HLEN hy hlt
  rw [hlt]
  have HY := Lib.hid hy
  have HSN := Lib.hid HSN; have HLEN := Lib.hid HLEN
  have HAT := Lib.hid (u64w_at r.ref)
  obtain ⟨F, hF⟩ : ∃ F, bl ⟨#[115, 116, 97, 116, 115]⟩ = F := ⟨_, rfl⟩
  rw [hF] at HY ⊢
  have hFl : F.length ≤ 10 := by rw [← hF]; decide
  clear hF hy hlt hX hst t1 t2 t3 t4 ey ey1 ey2 ey3 N1 N2 N3 N4 hk hc hr c6 HK0
  generalize enRp r = cs at *
  generalize r.ref = l at *
  generalize r.packets = q at *
  generalize r.now = v0 at *
  generalize r.tokens = v1 at *
  generalize r.bytes = v3 at *
  by_cases hq : q < 0
  · obtain rfl : p = 0 := by omega
    have M3 : Hid (∀ W, Calls Tryz.prog 10 #[.int .u64 0] W fun e w' => e = .returned (.string n3) ∧ Kp none' W w') := M3
    clear hp
    go_enter Tryz.func5, Tryz.ntmps5
    go_wp2_with fail
    refine wp_region_kept2 [] [0, 1, 2, 3, 4, 5, 6, 7, 8, 9, 10, 11, 12, 13, 14, 15, 16, 17, 18, 19] 20 (by kernel_rfl) (by kernel_rfl) (fun c a d u w h => by cases d <;> exact h) ?_
    simp only [pick, List.getElem?_cons_succ, List.getElem?_cons_zero, List.drop_succ_cons, List.drop_zero]
    show wpKL _ _ _ _ _ _
    repeat (first
      | (refine wpKL_op (by exact rfl) (by as_aux_lemma => intro W hK; have e6 := hK.cell d6 id; have e7 := hK.cell d7 id; have e8 := hK.cell d8 id; have e9 := hK.cell d9 id; go_simp; exact rfl) ?_; simp only [Act.put, List.setIfInBounds_toArray, List.set_cons_succ, List.set_cons_zero])
      | (refine wpKL_off (by exact rfl) ?_; simp only [Act.put, List.setIfInBounds_toArray, List.set_cons_succ, List.set_cons_zero])
      | (refine wpKL_call (by exact rfl) (by as_aux_lemma => intro W; go_simp; exact ⟨rfl, rfl⟩) (by intro W hK; with_reducible first | exact M1.out W | exact M2.out W | exact M4.out W | with_unfolding_all exact M3.out W) ?_; simp only [Act.put, List.setIfInBounds_toArray, List.set_cons_succ, List.set_cons_zero]))
    show ∀ W, _ → wpList _ _ _ _ _ _
    intro W2 hK2
    have HK2 := Lib.hid (HK1.out.trans hK2)
    have HR2 : Hid (W2.rangeAt w.heap.size 10 (u64w l)) := fun j v hv => hK2.cell (HR1.out j v hv) id
    clear hK2 d6 d7 d8 d9 c0 c1 HK1 HR1
    go_wp2_with fail
    go_loopw [4, 6] (fun u0 i0 wr => ∃ (i : Nat) (s : ByteArray), u0 = .string s ∧ i0 = .int .i64 i ∧ i ≤ 32 ∧ Hid (bl s = F ++ nums (X i)) ∧ Hid (Kp none' W2 wr)) (fun _ i0 _ => 32 - (intOf i0).toNat)
    case atStart => exact ⟨0, y, rfl, rfl, by omega, HY, Lib.hid (Kp.refl _ _)⟩
    case round =>
      obtain ⟨i, s, rfl, rfl, hi, HS, HK⟩ := hrel
      by_cases hlt : i < 32
      · have hki : (i : Int) < 32 := by omega
        obtain ⟨n, hn⟩ : ∃ n, l[i]'(by omega) = n := ⟨_, rfl⟩
        have hn64 : n < 18446744073709551616 := by rw [← hn]; exact HRF.out _ (List.getElem_mem _)
        have hcl := HK.out.cell (HR2.out i (.int .u64 n) (by rw [HAT.out i (by omega), hn])) id
        have hz : w.heap.size < wr.heap.size := World.block_lt_of_cell? _ _ hcl
        have HSI := Lib.hid (HSN.out i (by omega))
        rw [hn] at HSI
        clear hn
        by_cases h0 : 0 < n
        · have h0' : (0 : Int) < (n : Int) := by omega
          have hwi : IntKind.u64.wrap (i : Int) = i := by rw [IntKind.wrap_u64]; omega
          obtain ⟨a1, ta1, za1, A1⟩ := HNUM.out i (by omega)
          obtain ⟨a2, ta2, za2, A2⟩ := HNUM.out n hn64
          have hss : s.size ≤ 2000 := by rw [← bl_len, HS.out, List.length_append]; have := HLEN.out i; omega
          obtain ⟨b1, qb1, eb1, zb1⟩ := cat_ex a1 a2 21 21 za1 za2 (by omega)
          obtain ⟨b2, qb2, eb2, zb2⟩ := cat_ex s b1 2000 42 hss zb1 (by omega)
          have HS2 : Hid (bl b2 = F ++ nums (X (i + 1))) := by
            show _ = _
            rw [eb2, eb1, HS.out, ta1, ta2, HSI.out, if_pos h0, nums_app, ← nums_app [i] [n], List.append_assoc]; rfl
          have A1 := Lib.hid A1; have A2 := Lib.hid A2
          clear ta1 ta2 eb1 eb2 HSI h0
          go_wp2_with fail
          refine wp_region_kept2 [] [0, 1, 2, 3, 4, 5, 6, 7, 8, 9, 10, 11] 12 (by kernel_rfl) (by kernel_rfl) (fun c a d u w h => by cases d <;> exact h) ?_
          simp only [pick, List.getElem?_cons_succ, List.getElem?_cons_zero, List.drop_succ_cons, List.drop_zero]
          show wpKL _ _ _ _ _ _
          repeat (first
            | (refine wpKL_op (by exact rfl) (by as_aux_lemma => intro W hK; have ec := hK.cell hcl id; go_simp; exact rfl) ?_; simp only [Act.put, List.setIfInBounds_toArray, List.set_cons_succ, List.set_cons_zero])
            | (refine wpKL_off (by exact rfl) ?_; simp only [Act.put, List.setIfInBounds_toArray, List.set_cons_succ, List.set_cons_zero])
            | (refine wpKL_call (by exact rfl) (by as_aux_lemma => intro W; go_simp; exact ⟨rfl, rfl⟩) (by intro W hK; with_reducible first | exact A1.out W | exact A2.out W) ?_; simp only [Act.put, List.setIfInBounds_toArray, List.set_cons_succ, List.set_cons_zero]))
          show ∀ W, _ → wpList _ _ _ _ _ _
          intro W3 hK3
          have HK3 := Lib.hid (HK.out.trans hK3)
          clear hK3
          go_wp2_with fail
          go_roundw
          case rel => exact ⟨i + 1, b2, rfl, by go_num, by omega, HS2, HK3⟩
          case measure => simp [intOf]; omega
        · obtain rfl : n = 0 := by omega
          have HS2 : Hid (bl s = F ++ nums (X (i + 1))) := by show _ = _; rw [HS.out, HSI.out, if_neg h0, List.append_nil]
          clear HSI h0
          go_wp2_with fail
          go_roundw
          case rel => exact ⟨i + 1, s, rfl, by go_num, by omega, HS2, HK⟩
          case measure => simp [intOf]; omega
      · obtain rfl : i = 32 := by omega
        have HE := Lib.hid (eq_tx HS.out)
        go_wp2_with fail
        go_ret
        exact ⟨by rw [← HE.out]; rfl, HK2.out.trans HK.out⟩
  · obtain rfl : q = (p : Int) := by omega
    have hw : IntKind.u64.wrap (p : Int) = p := by rw [IntKind.wrap_u64]; omega
    clear hp
    go_enter Tryz.func5, Tryz.ntmps5
    go_wp2_with fail
    refine wp_region_kept2 [] [0, 1, 2, 3, 4, 5, 6, 7, 8, 9, 10, 11, 12, 13, 14, 15, 16, 17, 18, 19] 20 (by kernel_rfl) (by kernel_rfl) (fun c a d u w h => by cases d <;> exact h) ?_
    simp only [pick, List.getElem?_cons_succ, List.getElem?_cons_zero, List.drop_succ_cons, List.drop_zero]
    show wpKL _ _ _ _ _ _
    repeat (first
      | (refine wpKL_op (by exact rfl) (by as_aux_lemma => intro W hK; have e6 := hK.cell d6 id; have e7 := hK.cell d7 id; have e8 := hK.cell d8 id; have e9 := hK.cell d9 id; go_simp; exact rfl) ?_; simp only [Act.put, List.setIfInBounds_toArray, List.set_cons_succ, List.set_cons_zero])
      | (refine wpKL_off (by exact rfl) ?_; simp only [Act.put, List.setIfInBounds_toArray, List.set_cons_succ, List.set_cons_zero])
      | (refine wpKL_call (by exact rfl) (by as_aux_lemma => intro W; go_simp; exact ⟨rfl, rfl⟩) (by intro W hK; with_reducible first | exact M1.out W | exact M2.out W | exact M3.out W | exact M4.out W) ?_; simp only [Act.put, List.setIfInBounds_toArray, List.set_cons_succ, List.set_cons_zero]))
    show ∀ W, _ → wpList _ _ _ _ _ _
    intro W2 hK2
    have HK2 := Lib.hid (HK1.out.trans hK2)
    have HR2 : Hid (W2.rangeAt w.heap.size 10 (u64w l)) := fun j v hv => hK2.cell (HR1.out j v hv) id
    clear hK2 d6 d7 d8 d9 c0 c1 HK1 HR1
    go_wp2_with fail
    go_loopw [4, 6] (fun u0 i0 wr => ∃ (i : Nat) (s : ByteArray), u0 = .string s ∧ i0 = .int .i64 i ∧ i ≤ 32 ∧ Hid (bl s = F ++ nums (X i)) ∧ Hid (Kp none' W2 wr)) (fun _ i0 _ => 32 - (intOf i0).toNat)
    case atStart => exact ⟨0, y, rfl, rfl, by omega, HY, Lib.hid (Kp.refl _ _)⟩
    case round =>
      obtain ⟨i, s, rfl, rfl, hi, HS, HK⟩ := hrel
      by_cases hlt : i < 32
      · have hki : (i : Int) < 32 := by omega
        obtain ⟨n, hn⟩ : ∃ n, l[i]'(by omega) = n := ⟨_, rfl⟩
        have hn64 : n < 18446744073709551616 := by rw [← hn]; exact HRF.out _ (List.getElem_mem _)
        have hcl := HK.out.cell (HR2.out i (.int .u64 n) (by rw [HAT.out i (by omega), hn])) id
        have hz : w.heap.size < wr.heap.size := World.block_lt_of_cell? _ _ hcl
        have HSI := Lib.hid (HSN.out i (by omega))
        rw [hn] at HSI
        clear hn
        by_cases h0 : 0 < n
        · have h0' : (0 : Int) < (n : Int) := by omega
          have hwi : IntKind.u64.wrap (i : Int) = i := by rw [IntKind.wrap_u64]; omega
          obtain ⟨a1, ta1, za1, A1⟩ := HNUM.out i (by omega)
          obtain ⟨a2, ta2, za2, A2⟩ := HNUM.out n hn64
          have hss : s.size ≤ 2000 := by rw [← bl_len, HS.out, List.length_append]; have := HLEN.out i; omega
          obtain ⟨b1, qb1, eb1, zb1⟩ := cat_ex a1 a2 21 21 za1 za2 (by omega)
          obtain ⟨b2, qb2, eb2, zb2⟩ := cat_ex s b1 2000 42 hss zb1 (by omega)
          have HS2 : Hid (bl b2 = F ++ nums (X (i + 1))) := by
            show _ = _
            rw [eb2, eb1, HS.out, ta1, ta2, HSI.out, if_pos h0, nums_app, ← nums_app [i] [n], List.append_assoc]; rfl
          have A1 := Lib.hid A1; have A2 := Lib.hid A2
          clear ta1 ta2 eb1 eb2 HSI h0
          go_wp2_with fail
          refine wp_region_kept2 [] [0, 1, 2, 3, 4, 5, 6, 7, 8, 9, 10, 11] 12 (by kernel_rfl) (by kernel_rfl) (fun c a d u w h => by cases d <;> exact h) ?_
          simp only [pick, List.getElem?_cons_succ, List.getElem?_cons_zero, List.drop_succ_cons, List.drop_zero]
          show wpKL _ _ _ _ _ _
          repeat (first
            | (refine wpKL_op (by exact rfl) (by as_aux_lemma => intro W hK; have ec := hK.cell hcl id; go_simp; exact rfl) ?_; simp only [Act.put, List.setIfInBounds_toArray, List.set_cons_succ, List.set_cons_zero])
            | (refine wpKL_off (by exact rfl) ?_; simp only [Act.put, List.setIfInBounds_toArray, List.set_cons_succ, List.set_cons_zero])
            | (refine wpKL_call (by exact rfl) (by as_aux_lemma => intro W; go_simp; exact ⟨rfl, rfl⟩) (by intro W hK; with_reducible first | exact A1.out W | exact A2.out W) ?_; simp only [Act.put, List.setIfInBounds_toArray, List.set_cons_succ, List.set_cons_zero]))
          show ∀ W, _ → wpList _ _ _ _ _ _
          intro W3 hK3
          have HK3 := Lib.hid (HK.out.trans hK3)
          clear hK3
          go_wp2_with fail
          go_roundw
          case rel => exact ⟨i + 1, b2, rfl, by go_num, by omega, HS2, HK3⟩
          case measure => simp [intOf]; omega
        · obtain rfl : n = 0 := by omega
          have HS2 : Hid (bl s = F ++ nums (X (i + 1))) := by show _ = _; rw [HS.out, HSI.out, if_neg h0, List.append_nil]
          clear HSI h0
          go_wp2_with fail
          go_roundw
          case rel => exact ⟨i + 1, s, rfl, by go_num, by omega, HS2, HK⟩
          case measure => simp [intOf]; omega
      · obtain rfl : i = 32 := by omega
        have HE := Lib.hid (eq_tx HS.out)
        go_wp2_with fail
        go_ret
        exact ⟨by rw [← HE.out]; rfl, HK2.out.trans HK.out⟩
theorem rLineR (r : RpF) (hr : r.ok) (w : World) : Calls Tryz.prog 5 #[.agg (enRp r).toArray] w fun e w' => e = .returned (.string (tx (lineT r))) ∧ Kp none' w w' := by
  by_cases hk : r.kind < 0
  · exact rLineA r hr hk w
  by_cases hk2 : 5 < r.kind
  · exact rLineB r hr hk2 w
  · have h : r.kind = 0 ∨ r.kind = 1 ∨ r.kind = 2 ∨ r.kind = 3 ∨ r.kind = 4 ∨ r.kind = 5 := by omega
    by_cases hc : r.code = 0
    · rcases h with h | h | h | h | h | h
      · exact rLine0z r hr h hc w
      · exact rLine1z r hr h hc w
      · exact rLine2z r hr h hc w
      · exact rLine3z r hr h hc w
      · exact rLine4z r hr h hc w
      · exact rLine5z r hr h hc w
    · rcases h with h | h | h | h | h | h
      · exact rLine0n r hr h hc w
      · exact rLine1n r hr h hc w
      · exact rLine2n r hr h hc w
      · exact rLine3n r hr h hc w
      · exact rLine4n r hr h hc w
      · exact rLine5n r hr h hc w
end Go.Proofs.YtacgabagfdlpeaaGreatDoor
