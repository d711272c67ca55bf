/- Walks for layer 42: a reply's line. Printed by wln.py. -/
import Derived.Test.YtacgabagfdlpeaaGreatDoorWlM
namespace Go.Proofs.YtacgabagfdlpeaaGreatDoor
set_option linter.unusedVariables false
set_option linter.unusedSimpArgs false
open Go Go.RowKit Go.Shelf
theorem eq_tx {x : ByteArray} {l : List UInt8} (h : bl x = l) : x = tx l := by rw [← h, tx_bl]
theorem codeN_wrap (r : RpF) : IntKind.u64.wrap r.code = (codeN r : Int) := by rw [IntKind.wrap_u64]; unfold codeN; omega
theorem codeN_lt (r : RpF) : codeN r < 18446744073709551616 := by unfold codeN; omega
theorem statN_len {r : RpF} (h : r.ok) : (statN r).length ≤ 68 := by
  have := refN_len r.ref 0
  rw [h.n32] at this
  unfold statN; rw [List.length_append]; simp only [List.length_cons, List.length_nil]; omega
theorem statN_lt {r : RpF} (h : r.ok) : ∀ n ∈ statN r, n < 18446744073709551616 := by
  intro n hn
  unfold statN at hn
  have h1 := h.now; have h2 := h.tokens; have h3 := h.bytes; have h4 := h.packets
  rcases List.mem_append.1 hn with hn | hn
  · simp only [List.mem_cons, List.not_mem_nil, or_false] at hn
    rcases hn with rfl | rfl | rfl | rfl <;> omega
  · exact refN_small r.ref 0 h.ref (by rw [h.n32]; omega) n hn
theorem one_lt {n : Nat} (h : n < 18446744073709551616) : ∀ m ∈ [n], m < 18446744073709551616 := by intro m hm; simp at hm; subst hm; exact h
theorem box_rp (r : RpF) (w : World) : (w.alloc (.cells (enRp r).toArray 31)).cell? ⟨w.heap.size, 0, none⟩ = some (.int .i64 r.kind) ∧ (w.alloc (.cells (enRp r).toArray 31)).cell? ⟨w.heap.size, 1, none⟩ = some (.int .i64 r.code) ∧
    (w.alloc (.cells (enRp r).toArray 31)).cell? ⟨w.heap.size, 2, none⟩ = some (.int .u32 r.flow) ∧ (w.alloc (.cells (enRp r).toArray 31)).cell? ⟨w.heap.size, 3, none⟩ = some (.int .u32 r.id) ∧
    (w.alloc (.cells (enRp r).toArray 31)).cell? ⟨w.heap.size, 4, none⟩ = some (.int .u64 r.len) ∧ (w.alloc (.cells (enRp r).toArray 31)).cell? ⟨w.heap.size, 5, none⟩ = some (.int .u64 r.rank) ∧
    (w.alloc (.cells (enRp r).toArray 31)).rangeAt w.heap.size 6 (enSt r) :=
  ⟨(Blk.new w (enRp r) _).cell 0 rfl, (Blk.new w (enRp r) _).cell 1 rfl, (Blk.new w (enRp r) _).cell 2 rfl, (Blk.new w (enRp r) _).cell 3 rfl, (Blk.new w (enRp r) _).cell 4 rfl, (Blk.new w (enRp r) _).cell 5 rfl,
    fun j v hv => (Blk.new w (enRp r) _).cell (6 + j) (by rw [← enRp_drop, List.getElem?_drop] at hv; exact hv)⟩

set_option maxHeartbeats 4000000 in
theorem wLineA (r : RpF) (hk : r.kind < 0 ∨ 5 < r.kind) (w : World) : Calls Tryz.prog 4 #[.agg (enRp r).toArray] w fun e w' => e = .returned (.string (tx (lineT r))) ∧ Kp none' w w' := by
  obtain ⟨c0, c1, c2, c3, c4, c5, c6⟩ := box_rp r w
  have HK0 := Lib.hid ((Kp.refl none' w).alloc (.cells (enRp r).toArray 31))
  have HE : Hid (lineT r = []) := by show _ = _; unfold lineT; rw [if_pos hk]
  have HN : Hid (∀ W, Calls Tryz.prog 7 #[.int .i64 r.kind] W fun e w' => e = .returned (.string ⟨#[]⟩) ∧ Kp none' W w') := fun W => by
    have h := wName r.kind W
    unfold nmB at h; rw [if_pos hk] at h; exact h
  rw [HE.out]
  clear hk c1 c2 c3 c4 c5 c6
  generalize enRp r = cs at *
  generalize r.kind = k at *
  go_enter Tryz.func4, Tryz.ntmps4
  go_wp2_with fail
  refine (HN.out _).mono ?_
  rintro e w1 ⟨rfl, k1⟩
  have HK1 := Lib.hid (HK0.out.trans k1)
  clear k1
  go_wp2
  go_ret
  exact ⟨rfl, HK1.out⟩

set_option maxRecDepth 100000 in
set_option maxHeartbeats 800000 in
theorem wLine0z (r : RpF) (hr : r.ok) (hk : r.kind = 0) (hc : r.code = 0) (w : World) : Calls Tryz.prog 4 #[.agg (enRp r).toArray] w fun e w' => e = .returned (.string (tx (lineT r))) ∧ Kp none' w w' := by
  obtain ⟨c0, c1, c2, c3, c4, c5, c6⟩ := box_rp r w
  have HR0 := Lib.hid c6
  have HK0 := Lib.hid ((Kp.refl none' w).alloc (.cells (enRp r).toArray 31))
  have hwf : IntKind.u64.wrap (r.flow : Int) = r.flow := by have := hr.flow; rw [IntKind.wrap_u64]; omega
  have hwi : IntKind.u64.wrap (r.id : Int) = r.id := by have := hr.id; rw [IntKind.wrap_u64]; omega
  have HN : Hid (∀ W, Calls Tryz.prog 7 #[.int .i64 0] W fun e w' => e = .returned (.string ⟨#[106, 117, 110, 107]⟩) ∧ Kp none' W w') := fun W => wName 0 W
  have HF : Hid (firstT r = bl ⟨#[106, 117, 110, 107]⟩) := by show _ = _; unfold firstT; rw [hk, if_neg (by simp)]; rfl
  have HX : Hid (lineT r = bl ⟨#[106, 117, 110, 107]⟩) := by show _ = _; unfold lineT; rw [if_neg (by omega), if_neg (by omega), if_neg (by omega), if_neg (by omega), HF.out]
  rw [HX.out, tx_bl]
  rw [hk] at c0
  rw [hc] at c1
  clear hk hc hr c6 HX HF
  generalize enRp r = cs at *
  generalize r.code = cd at *
  generalize r.flow = fl at *
  generalize r.id = id_ at *
  generalize r.len = ln at *
  generalize r.rank = rk at *
  go_enter Tryz.func4, Tryz.ntmps4
  go_wp2_with fail
  refine (HN.out _).mono ?_
  rintro e w1 ⟨rfl, k1⟩
  have d0 := k1.cell c0 id; have d1 := k1.cell c1 id; have d2 := k1.cell c2 id; have d3 := k1.cell c3 id; have d4 := k1.cell c4 id; have d5 := k1.cell c5 id
  have hz1 : w.heap.size < w1.heap.size := World.block_lt_of_cell? w1 _ d0
  have HK1 := Lib.hid (HK0.out.trans k1)
  clear k1 c0 c1 c2 c3 c4 c5 HR0 HN
  go_wp2
  go_ret
  exact ⟨rfl, HK1.out.alloc _⟩

set_option maxRecDepth 100000 in
set_option maxHeartbeats 800000 in
theorem wLine0n (r : RpF) (hr : r.ok) (hk : r.kind = 0) (hc : r.code ≠ 0) (w : World) : Calls Tryz.prog 4 #[.agg (enRp r).toArray] w fun e w' => e = .returned (.string (tx (lineT r))) ∧ Kp none' w w' := by
  obtain ⟨c0, c1, c2, c3, c4, c5, c6⟩ := box_rp r w
  have HR0 := Lib.hid c6
  have HK0 := Lib.hid ((Kp.refl none' w).alloc (.cells (enRp r).toArray 31))
  have hwf : IntKind.u64.wrap (r.flow : Int) = r.flow := by have := hr.flow; rw [IntKind.wrap_u64]; omega
  have hwi : IntKind.u64.wrap (r.id : Int) = r.id := by have := hr.id; rw [IntKind.wrap_u64]; omega
  have HN : Hid (∀ W, Calls Tryz.prog 7 #[.int .i64 0] W fun e w' => e = .returned (.string ⟨#[106, 117, 110, 107]⟩) ∧ Kp none' W w') := fun W => wName 0 W
  have HF : Hid (firstT r = bl ⟨#[106, 117, 110, 107]⟩) := by show _ = _; unfold firstT; rw [hk, if_neg (by simp)]; rfl
  obtain ⟨x, hx, zx, _, HQ⟩ := wL ⟨#[32, 110, 111]⟩ (by decide) [codeN r] (one_lt (codeN_lt r)) (by simp)
  have HQ := Lib.hid HQ
  obtain ⟨z, qz, ez, _⟩ := cat_ex ⟨#[106, 117, 110, 107]⟩ x 10 10000 (by decide) zx (by omega)
  have HX : Hid (lineT r = bl z) := by show _ = _; unfold lineT; rw [if_neg (by omega), if_pos hc, HF.out, ez, hx]; rfl
  have hwc := codeN_wrap r
  rw [HX.out, tx_bl]
  rw [hk] at c0
  have hcb : (r.code == 0) = false := by simpa using hc
  clear ez hx
  clear hk hc hr c6 HX HF
  generalize codeN r = cn at *
  generalize enRp r = cs at *
  generalize r.code = cd at *
  generalize r.flow = fl at *
  generalize r.id = id_ at *
  generalize r.len = ln at *
  generalize r.rank = rk at *
  go_enter Tryz.func4, Tryz.ntmps4
  go_wp2_with fail
  refine (HN.out _).mono ?_
  rintro e w1 ⟨rfl, k1⟩
  have d0 := k1.cell c0 id; have d1 := k1.cell c1 id; have d2 := k1.cell c2 id; have d3 := k1.cell c3 id; have d4 := k1.cell c4 id; have d5 := k1.cell c5 id
  have hz1 : w.heap.size < w1.heap.size := World.block_lt_of_cell? w1 _ d0
  have HK1 := Lib.hid (HK0.out.trans k1)
  clear k1 c0 c1 c2 c3 c4 c5 HR0 HN
  go_wp2_with fail
  refine (HQ.out _ _ 1 rfl (heap_newC _ _ (by simp))).mono ?_
  rintro e w3 ⟨rfl, k3⟩
  have HK3 := Lib.hid (((HK1.out.alloc _).alloc _).trans k3)
  clear k3
  go_wp2
  go_ret
  exact ⟨rfl, HK3.out⟩

set_option maxRecDepth 100000 in
set_option maxHeartbeats 800000 in
theorem wLine1z (r : RpF) (hr : r.ok) (hk : r.kind = 1) (hc : r.code = 0) (w : World) : Calls Tryz.prog 4 #[.agg (enRp r).toArray] w fun e w' => e = .returned (.string (tx (lineT r))) ∧ Kp none' w w' := by
  obtain ⟨c0, c1, c2, c3, c4, c5, c6⟩ := box_rp r w
  have HR0 := Lib.hid c6
  have HK0 := Lib.hid ((Kp.refl none' w).alloc (.cells (enRp r).toArray 31))
  have hwf : IntKind.u64.wrap (r.flow : Int) = r.flow := by have := hr.flow; rw [IntKind.wrap_u64]; omega
  have hwi : IntKind.u64.wrap (r.id : Int) = r.id := by have := hr.id; rw [IntKind.wrap_u64]; omega
  have HN : Hid (∀ W, Calls Tryz.prog 7 #[.int .i64 1] W fun e w' => e = .returned (.string ⟨#[105, 110]⟩) ∧ Kp none' W w') := fun W => wName 1 W
  obtain ⟨y, hy, zy, _, HP⟩ := wL ⟨#[105, 110]⟩ (by decide) [r.flow, r.id, r.len] (by intro m hm; have h1 := hr.flow; have h2 := hr.id; have h3 := hr.len; simp only [List.mem_cons, List.not_mem_nil, or_false] at hm; rcases hm with rfl | rfl | rfl <;> omega) (by simp)
  have HP := Lib.hid HP
  have HF : Hid (firstT r = bl y) := by show _ = _; unfold firstT; rw [hk, if_pos (.inl rfl), hy]; rfl
  obtain ⟨x, hx, zx, _, HQ⟩ := wL ⟨#[32, 97, 116]⟩ (by decide) [r.rank] (one_lt hr.rank) (by simp)
  have HQ := Lib.hid HQ
  obtain ⟨z, qz, ez, _⟩ := cat_ex y x 10000 10000 (zy) zx (by omega)
  have HX : Hid (lineT r = bl z) := by show _ = _; unfold lineT; rw [if_neg (by omega), if_neg (by omega), if_pos (by omega), HF.out, ez, hx]; rfl
  rw [HX.out, tx_bl]
  rw [hk] at c0
  rw [hc] at c1
  clear hy
  clear ez hx
  clear hk hc hr c6 HX HF
  generalize enRp r = cs at *
  generalize r.code = cd at *
  generalize r.flow = fl at *
  generalize r.id = id_ at *
  generalize r.len = ln at *
  generalize r.rank = rk at *
  go_enter Tryz.func4, Tryz.ntmps4
  go_wp2_with fail
  refine (HN.out _).mono ?_
  rintro e w1 ⟨rfl, k1⟩
  have d0 := k1.cell c0 id; have d1 := k1.cell c1 id; have d2 := k1.cell c2 id; have d3 := k1.cell c3 id; have d4 := k1.cell c4 id; have d5 := k1.cell c5 id
  have hz1 : w.heap.size < w1.heap.size := World.block_lt_of_cell? w1 _ d0
  have HK1 := Lib.hid (HK0.out.trans k1)
  clear k1 c0 c1 c2 c3 c4 c5 HR0 HN
  go_wp2_with fail
  refine (HP.out _ _ 3 rfl (heap_newC _ _ (by simp))).mono ?_
  rintro e w2 ⟨rfl, k2⟩
  have e0 := k2.cell (((Kp.refl none' w1).alloc _).cell d0 id) id; have e1 := k2.cell (((Kp.refl none' w1).alloc _).cell d1 id) id; have e5 := k2.cell (((Kp.refl none' w1).alloc _).cell d5 id) id
  have hz2 : w.heap.size < w2.heap.size := World.block_lt_of_cell? w2 _ e0
  have HK2 := Lib.hid ((HK1.out.alloc _).trans k2)
  clear k2 d0 d1 d2 d3 d4 d5 HK1
  go_wp2_with fail
  refine (HQ.out _ _ 1 rfl (heap_newC _ _ (by simp))).mono ?_
  rintro e w3 ⟨rfl, k3⟩
  have HK3 := Lib.hid (((HK2.out).alloc _).trans k3)
  clear k3
  go_wp2
  go_ret
  exact ⟨rfl, HK3.out⟩

set_option maxRecDepth 100000 in
set_option maxHeartbeats 800000 in
theorem wLine1n (r : RpF) (hr : r.ok) (hk : r.kind = 1) (hc : r.code ≠ 0) (w : World) : Calls Tryz.prog 4 #[.agg (enRp r).toArray] w fun e w' => e = .returned (.string (tx (lineT r))) ∧ Kp none' w w' := by
  obtain ⟨c0, c1, c2, c3, c4, c5, c6⟩ := box_rp r w
  have HR0 := Lib.hid c6
  have HK0 := Lib.hid ((Kp.refl none' w).alloc (.cells (enRp r).toArray 31))
  have hwf : IntKind.u64.wrap (r.flow : Int) = r.flow := by have := hr.flow; rw [IntKind.wrap_u64]; omega
  have hwi : IntKind.u64.wrap (r.id : Int) = r.id := by have := hr.id; rw [IntKind.wrap_u64]; omega
  have HN : Hid (∀ W, Calls Tryz.prog 7 #[.int .i64 1] W fun e w' => e = .returned (.string ⟨#[105, 110]⟩) ∧ Kp none' W w') := fun W => wName 1 W
  obtain ⟨y, hy, zy, _, HP⟩ := wL ⟨#[105, 110]⟩ (by decide) [r.flow, r.id, r.len] (by intro m hm; have h1 := hr.flow; have h2 := hr.id; have h3 := hr.len; simp only [List.mem_cons, List.not_mem_nil, or_false] at hm; rcases hm with rfl | rfl | rfl <;> omega) (by simp)
  have HP := Lib.hid HP
  have HF : Hid (firstT r = bl y) := by show _ = _; unfold firstT; rw [hk, if_pos (.inl rfl), hy]; rfl
  obtain ⟨x, hx, zx, _, HQ⟩ := wL ⟨#[32, 110, 111]⟩ (by decide) [codeN r] (one_lt (codeN_lt r)) (by simp)
  have HQ := Lib.hid HQ
  obtain ⟨z, qz, ez, _⟩ := cat_ex y x 10000 10000 (zy) zx (by omega)
  have HX : Hid (lineT r = bl z) := by show _ = _; unfold lineT; rw [if_neg (by omega), if_pos hc, HF.out, ez, hx]; rfl
  have hwc := codeN_wrap r
  rw [HX.out, tx_bl]
  rw [hk] at c0
  have hcb : (r.code == 0) = false := by simpa using hc
  clear hy
  clear ez hx
  clear hk hc hr c6 HX HF
  generalize codeN r = cn at *
  generalize enRp r = cs at *
  generalize r.code = cd at *
  generalize r.flow = fl at *
  generalize r.id = id_ at *
  generalize r.len = ln at *
  generalize r.rank = rk at *
  go_enter Tryz.func4, Tryz.ntmps4
  go_wp2_with fail
  refine (HN.out _).mono ?_
  rintro e w1 ⟨rfl, k1⟩
  have d0 := k1.cell c0 id; have d1 := k1.cell c1 id; have d2 := k1.cell c2 id; have d3 := k1.cell c3 id; have d4 := k1.cell c4 id; have d5 := k1.cell c5 id
  have hz1 : w.heap.size < w1.heap.size := World.block_lt_of_cell? w1 _ d0
  have HK1 := Lib.hid (HK0.out.trans k1)
  clear k1 c0 c1 c2 c3 c4 c5 HR0 HN
  go_wp2_with fail
  refine (HP.out _ _ 3 rfl (heap_newC _ _ (by simp))).mono ?_
  rintro e w2 ⟨rfl, k2⟩
  have e0 := k2.cell (((Kp.refl none' w1).alloc _).cell d0 id) id; have e1 := k2.cell (((Kp.refl none' w1).alloc _).cell d1 id) id; have e5 := k2.cell (((Kp.refl none' w1).alloc _).cell d5 id) id
  have hz2 : w.heap.size < w2.heap.size := World.block_lt_of_cell? w2 _ e0
  have HK2 := Lib.hid ((HK1.out.alloc _).trans k2)
  clear k2 d0 d1 d2 d3 d4 d5 HK1
  go_wp2_with fail
  refine (HQ.out _ _ 1 rfl (heap_newC _ _ (by simp))).mono ?_
  rintro e w3 ⟨rfl, k3⟩
  have HK3 := Lib.hid (((HK2.out).alloc _).trans k3)
  clear k3
  go_wp2
  go_ret
  exact ⟨rfl, HK3.out⟩

set_option maxRecDepth 100000 in
set_option maxHeartbeats 800000 in
theorem wLine2z (r : RpF) (hr : r.ok) (hk : r.kind = 2) (hc : r.code = 0) (w : World) : Calls Tryz.prog 4 #[.agg (enRp r).toArray] w fun e w' => e = .returned (.string (tx (lineT r))) ∧ Kp none' w w' := by
  obtain ⟨c0, c1, c2, c3, c4, c5, c6⟩ := box_rp r w
  have HR0 := Lib.hid c6
  have HK0 := Lib.hid ((Kp.refl none' w).alloc (.cells (enRp r).toArray 31))
  have hwf : IntKind.u64.wrap (r.flow : Int) = r.flow := by have := hr.flow; rw [IntKind.wrap_u64]; omega
  have hwi : IntKind.u64.wrap (r.id : Int) = r.id := by have := hr.id; rw [IntKind.wrap_u64]; omega
  have HN : Hid (∀ W, Calls Tryz.prog 7 #[.int .i64 2] W fun e w' => e = .returned (.string ⟨#[111, 117, 116]⟩) ∧ Kp none' W w') := fun W => wName 2 W
  obtain ⟨y, hy, zy, _, HP⟩ := wL ⟨#[111, 117, 116]⟩ (by decide) [r.flow, r.id, r.len] (by intro m hm; have h1 := hr.flow; have h2 := hr.id; have h3 := hr.len; simp only [List.mem_cons, List.not_mem_nil, or_false] at hm; rcases hm with rfl | rfl | rfl <;> omega) (by simp)
  have HP := Lib.hid HP
  have HF : Hid (firstT r = bl y) := by show _ = _; unfold firstT; rw [hk, if_pos (.inr ⟨rfl, hc⟩), hy]; rfl
  obtain ⟨x, hx, zx, _, HQ⟩ := wL ⟨#[32, 97, 116]⟩ (by decide) [r.rank] (one_lt hr.rank) (by simp)
  have HQ := Lib.hid HQ
  obtain ⟨z, qz, ez, _⟩ := cat_ex y x 10000 10000 (zy) zx (by omega)
  have HX : Hid (lineT r = bl z) := by show _ = _; unfold lineT; rw [if_neg (by omega), if_neg (by omega), if_pos (by omega), HF.out, ez, hx]; rfl
  rw [HX.out, tx_bl]
  rw [hk] at c0
  rw [hc] at c1
  clear hy
  clear ez hx
  clear hk hc hr c6 HX HF
  generalize enRp r = cs at *
  generalize r.code = cd at *
  generalize r.flow = fl at *
  generalize r.id = id_ at *
  generalize r.len = ln at *
  generalize r.rank = rk at *
  go_enter Tryz.func4, Tryz.ntmps4
  go_wp2_with fail
  refine (HN.out _).mono ?_
  rintro e w1 ⟨rfl, k1⟩
  have d0 := k1.cell c0 id; have d1 := k1.cell c1 id; have d2 := k1.cell c2 id; have d3 := k1.cell c3 id; have d4 := k1.cell c4 id; have d5 := k1.cell c5 id
  have hz1 : w.heap.size < w1.heap.size := World.block_lt_of_cell? w1 _ d0
  have HK1 := Lib.hid (HK0.out.trans k1)
  clear k1 c0 c1 c2 c3 c4 c5 HR0 HN
  go_wp2_with fail
  refine (HP.out _ _ 3 rfl (heap_newC _ _ (by simp))).mono ?_
  rintro e w2 ⟨rfl, k2⟩
  have e0 := k2.cell (((Kp.refl none' w1).alloc _).cell d0 id) id; have e1 := k2.cell (((Kp.refl none' w1).alloc _).cell d1 id) id; have e5 := k2.cell (((Kp.refl none' w1).alloc _).cell d5 id) id
  have hz2 : w.heap.size < w2.heap.size := World.block_lt_of_cell? w2 _ e0
  have HK2 := Lib.hid ((HK1.out.alloc _).trans k2)
  clear k2 d0 d1 d2 d3 d4 d5 HK1
  go_wp2_with fail
  refine (HQ.out _ _ 1 rfl (heap_newC _ _ (by simp))).mono ?_
  rintro e w3 ⟨rfl, k3⟩
  have HK3 := Lib.hid (((HK2.out).alloc _).trans k3)
  clear k3
  go_wp2
  go_ret
  exact ⟨rfl, HK3.out⟩

set_option maxRecDepth 100000 in
set_option maxHeartbeats 800000 in
theorem wLine2n (r : RpF) (hr : r.ok) (hk : r.kind = 2) (hc : r.code ≠ 0) (w : World) : Calls Tryz.prog 4 #[.agg (enRp r).toArray] w fun e w' => e = .returned (.string (tx (lineT r))) ∧ Kp none' w w' := by
  obtain ⟨c0, c1, c2, c3, c4, c5, c6⟩ := box_rp r w
  have HR0 := Lib.hid c6
  have HK0 := Lib.hid ((Kp.refl none' w).alloc (.cells (enRp r).toArray 31))
  have hwf : IntKind.u64.wrap (r.flow : Int) = r.flow := by have := hr.flow; rw [IntKind.wrap_u64]; omega
  have hwi : IntKind.u64.wrap (r.id : Int) = r.id := by have := hr.id; rw [IntKind.wrap_u64]; omega
  have HN : Hid (∀ W, Calls Tryz.prog 7 #[.int .i64 2] W fun e w' => e = .returned (.string ⟨#[111, 117, 116]⟩) ∧ Kp none' W w') := fun W => wName 2 W
  have HF : Hid (firstT r = bl ⟨#[111, 117, 116]⟩) := by show _ = _; unfold firstT; rw [hk, if_neg (by simp; exact hc)]; rfl
  obtain ⟨x, hx, zx, _, HQ⟩ := wL ⟨#[32, 110, 111]⟩ (by decide) [codeN r] (one_lt (codeN_lt r)) (by simp)
  have HQ := Lib.hid HQ
  obtain ⟨z, qz, ez, _⟩ := cat_ex ⟨#[111, 117, 116]⟩ x 10 10000 (by decide) zx (by omega)
  have HX : Hid (lineT r = bl z) := by show _ = _; unfold lineT; rw [if_neg (by omega), if_pos hc, HF.out, ez, hx]; rfl
  have hwc := codeN_wrap r
  rw [HX.out, tx_bl]
  rw [hk] at c0
  have hcb : (r.code == 0) = false := by simpa using hc
  clear ez hx
  clear hk hc hr c6 HX HF
  generalize codeN r = cn at *
  generalize enRp r = cs at *
  generalize r.code = cd at *
  generalize r.flow = fl at *
  generalize r.id = id_ at *
  generalize r.len = ln at *
  generalize r.rank = rk at *
  go_enter Tryz.func4, Tryz.ntmps4
  go_wp2_with fail
  refine (HN.out _).mono ?_
  rintro e w1 ⟨rfl, k1⟩
  have d0 := k1.cell c0 id; have d1 := k1.cell c1 id; have d2 := k1.cell c2 id; have d3 := k1.cell c3 id; have d4 := k1.cell c4 id; have d5 := k1.cell c5 id
  have hz1 : w.heap.size < w1.heap.size := World.block_lt_of_cell? w1 _ d0
  have HK1 := Lib.hid (HK0.out.trans k1)
  clear k1 c0 c1 c2 c3 c4 c5 HR0 HN
  go_wp2_with fail
  refine (HQ.out _ _ 1 rfl (heap_newC _ _ (by simp))).mono ?_
  rintro e w3 ⟨rfl, k3⟩
  have HK3 := Lib.hid (((HK1.out.alloc _).alloc _).trans k3)
  clear k3
  go_wp2
  go_ret
  exact ⟨rfl, HK3.out⟩

set_option maxRecDepth 100000 in
set_option maxHeartbeats 800000 in
theorem wLine3z (r : RpF) (hr : r.ok) (hk : r.kind = 3) (hc : r.code = 0) (w : World) : Calls Tryz.prog 4 #[.agg (enRp r).toArray] w fun e w' => e = .returned (.string (tx (lineT r))) ∧ Kp none' w w' := by
  obtain ⟨c0, c1, c2, c3, c4, c5, c6⟩ := box_rp r w
  have HR0 := Lib.hid c6
  have HK0 := Lib.hid ((Kp.refl none' w).alloc (.cells (enRp r).toArray 31))
  have hwf : IntKind.u64.wrap (r.flow : Int) = r.flow := by have := hr.flow; rw [IntKind.wrap_u64]; omega
  have hwi : IntKind.u64.wrap (r.id : Int) = r.id := by have := hr.id; rw [IntKind.wrap_u64]; omega
  have HN : Hid (∀ W, Calls Tryz.prog 7 #[.int .i64 3] W fun e w' => e = .returned (.string ⟨#[116, 105, 99, 107]⟩) ∧ Kp none' W w') := fun W => wName 3 W
  have HF : Hid (firstT r = bl ⟨#[116, 105, 99, 107]⟩) := by show _ = _; unfold firstT; rw [hk, if_neg (by simp)]; rfl
  have HX : Hid (lineT r = bl ⟨#[116, 105, 99, 107]⟩) := by show _ = _; unfold lineT; rw [if_neg (by omega), if_neg (by omega), if_neg (by omega), if_neg (by omega), HF.out]
  rw [HX.out, tx_bl]
  rw [hk] at c0
  rw [hc] at c1
  clear hk hc hr c6 HX HF
  generalize enRp r = cs at *
  generalize r.code = cd at *
  generalize r.flow = fl at *
  generalize r.id = id_ at *
  generalize r.len = ln at *
  generalize r.rank = rk at *
  go_enter Tryz.func4, Tryz.ntmps4
  go_wp2_with fail
  refine (HN.out _).mono ?_
  rintro e w1 ⟨rfl, k1⟩
  have d0 := k1.cell c0 id; have d1 := k1.cell c1 id; have d2 := k1.cell c2 id; have d3 := k1.cell c3 id; have d4 := k1.cell c4 id; have d5 := k1.cell c5 id
  have hz1 : w.heap.size < w1.heap.size := World.block_lt_of_cell? w1 _ d0
  have HK1 := Lib.hid (HK0.out.trans k1)
  clear k1 c0 c1 c2 c3 c4 c5 HR0 HN
  go_wp2
  go_ret
  exact ⟨rfl, HK1.out.alloc _⟩

set_option maxRecDepth 100000 in
set_option maxHeartbeats 800000 in
theorem wLine3n (r : RpF) (hr : r.ok) (hk : r.kind = 3) (hc : r.code ≠ 0) (w : World) : Calls Tryz.prog 4 #[.agg (enRp r).toArray] w fun e w' => e = .returned (.string (tx (lineT r))) ∧ Kp none' w w' := by
  obtain ⟨c0, c1, c2, c3, c4, c5, c6⟩ := box_rp r w
  have HR0 := Lib.hid c6
  have HK0 := Lib.hid ((Kp.refl none' w).alloc (.cells (enRp r).toArray 31))
  have hwf : IntKind.u64.wrap (r.flow : Int) = r.flow := by have := hr.flow; rw [IntKind.wrap_u64]; omega
  have hwi : IntKind.u64.wrap (r.id : Int) = r.id := by have := hr.id; rw [IntKind.wrap_u64]; omega
  have HN : Hid (∀ W, Calls Tryz.prog 7 #[.int .i64 3] W fun e w' => e = .returned (.string ⟨#[116, 105, 99, 107]⟩) ∧ Kp none' W w') := fun W => wName 3 W
  have HF : Hid (firstT r = bl ⟨#[116, 105, 99, 107]⟩) := by show _ = _; unfold firstT; rw [hk, if_neg (by simp)]; rfl
  obtain ⟨x, hx, zx, _, HQ⟩ := wL ⟨#[32, 110, 111]⟩ (by decide) [codeN r] (one_lt (codeN_lt r)) (by simp)
  have HQ := Lib.hid HQ
  obtain ⟨z, qz, ez, _⟩ := cat_ex ⟨#[116, 105, 99, 107]⟩ x 10 10000 (by decide) zx (by omega)
  have HX : Hid (lineT r = bl z) := by show _ = _; unfold lineT; rw [if_neg (by omega), if_pos hc, HF.out, ez, hx]; rfl
  have hwc := codeN_wrap r
  rw [HX.out, tx_bl]
  rw [hk] at c0
  have hcb : (r.code == 0) = false := by simpa using hc
  clear ez hx
  clear hk hc hr c6 HX HF
  generalize codeN r = cn at *
  generalize enRp r = cs at *
  generalize r.code = cd at *
  generalize r.flow = fl at *
  generalize r.id = id_ at *
  generalize r.len = ln at *
  generalize r.rank = rk at *
  go_enter Tryz.func4, Tryz.ntmps4
  go_wp2_with fail
  refine (HN.out _).mono ?_
  rintro e w1 ⟨rfl, k1⟩
  have d0 := k1.cell c0 id; have d1 := k1.cell c1 id; have d2 := k1.cell c2 id; have d3 := k1.cell c3 id; have d4 := k1.cell c4 id; have d5 := k1.cell c5 id
  have hz1 : w.heap.size < w1.heap.size := World.block_lt_of_cell? w1 _ d0
  have HK1 := Lib.hid (HK0.out.trans k1)
  clear k1 c0 c1 c2 c3 c4 c5 HR0 HN
  go_wp2_with fail
  refine (HQ.out _ _ 1 rfl (heap_newC _ _ (by simp))).mono ?_
  rintro e w3 ⟨rfl, k3⟩
  have HK3 := Lib.hid (((HK1.out.alloc _).alloc _).trans k3)
  clear k3
  go_wp2
  go_ret
  exact ⟨rfl, HK3.out⟩

set_option maxRecDepth 100000 in
set_option maxHeartbeats 800000 in
theorem wLine4z (r : RpF) (hr : r.ok) (hk : r.kind = 4) (hc : r.code = 0) (w : World) : Calls Tryz.prog 4 #[.agg (enRp r).toArray] w fun e w' => e = .returned (.string (tx (lineT r))) ∧ Kp none' w w' := by
  obtain ⟨c0, c1, c2, c3, c4, c5, c6⟩ := box_rp r w
  have HR0 := Lib.hid c6
  have HK0 := Lib.hid ((Kp.refl none' w).alloc (.cells (enRp r).toArray 31))
  have hwf : IntKind.u64.wrap (r.flow : Int) = r.flow := by have := hr.flow; rw [IntKind.wrap_u64]; omega
  have hwi : IntKind.u64.wrap (r.id : Int) = r.id := by have := hr.id; rw [IntKind.wrap_u64]; omega
  have HN : Hid (∀ W, Calls Tryz.prog 7 #[.int .i64 4] W fun e w' => e = .returned (.string ⟨#[115, 116, 97, 116, 115]⟩) ∧ Kp none' W w') := fun W => wName 4 W
  have HF : Hid (firstT r = bl ⟨#[115, 116, 97, 116, 115]⟩) := by show _ = _; unfold firstT; rw [hk, if_neg (by simp)]; rfl
  obtain ⟨z, hz, _, HQ, _⟩ := wL ⟨#[115, 116, 97, 116, 115]⟩ (by decide) (statN r) (statN_lt hr) (by have := statN_len hr; omega)
  have HQ := Lib.hid HQ
  have HX : Hid (lineT r = bl z) := by show _ = _; unfold lineT; rw [if_neg (by omega), if_neg (by omega), if_neg (by omega), if_pos hk, HF.out, hz]
  have HS := Lib.hid (fun W => wStats r hr W)
  have HI := Lib.hid (infoSt hr)
  rw [HX.out, tx_bl]
  rw [hk] at c0
  rw [hc] at c1
  clear hz
  clear hk hc hr c6 HX HF
  generalize statN r = sn at *
  generalize enSt r = cst at *
  generalize enRp r = cs at *
  generalize r.code = cd at *
  generalize r.flow = fl at *
  generalize r.id = id_ at *
  generalize r.len = ln at *
  generalize r.rank = rk at *
  go_enter Tryz.func4, Tryz.ntmps4
  go_wp2_with fail
  refine (HN.out _).mono ?_
  rintro e w1 ⟨rfl, k1⟩
  have d0 := k1.cell c0 id; have d1 := k1.cell c1 id; have d2 := k1.cell c2 id; have d3 := k1.cell c3 id; have d4 := k1.cell c4 id; have d5 := k1.cell c5 id
  have hz1 : w.heap.size < w1.heap.size := World.block_lt_of_cell? w1 _ d0
  have HK1 := Lib.hid (HK0.out.trans k1)
  have HR1 : Hid (∀ o, (w1.alloc o).rangeAt w.heap.size 6 cst) := fun o j v hv => ((Kp.refl none' w1).alloc o).cell (k1.cell (HR0.out j v hv) id) id
  clear k1 c0 c1 c2 c3 c4 c5 HR0 HN
  go_wp2_with (refine wpList_load_mid rfl 29 (.tmp 69) rfl w.heap.size 6 rfl cst _ (HR1.out _) Tryz.underlying29 rfl HI.out ?_)
  refine (HS.out _).mono ?_
  rintro e w2 ⟨v, rfl, hsl, k2⟩
  have HSL := Lib.hid hsl
  have HK2 := Lib.hid ((HK1.out.alloc _).trans k2)
  clear k2 hsl
  go_wp2_with fail
  refine (HQ.out _ _ HSL.out).mono ?_
  rintro e w3 ⟨rfl, k3⟩
  have HK3 := Lib.hid (HK2.out.trans k3)
  clear k3
  go_wp2
  go_ret
  exact ⟨rfl, HK3.out⟩

set_option maxRecDepth 100000 in
set_option maxHeartbeats 800000 in
theorem wLine4n (r : RpF) (hr : r.ok) (hk : r.kind = 4) (hc : r.code ≠ 0) (w : World) : Calls Tryz.prog 4 #[.agg (enRp r).toArray] w fun e w' => e = .returned (.string (tx (lineT r))) ∧ Kp none' w w' := by
  obtain ⟨c0, c1, c2, c3, c4, c5, c6⟩ := box_rp r w
  have HR0 := Lib.hid c6
  have HK0 := Lib.hid ((Kp.refl none' w).alloc (.cells (enRp r).toArray 31))
  have hwf : IntKind.u64.wrap (r.flow : Int) = r.flow := by have := hr.flow; rw [IntKind.wrap_u64]; omega
  have hwi : IntKind.u64.wrap (r.id : Int) = r.id := by have := hr.id; rw [IntKind.wrap_u64]; omega
  have HN : Hid (∀ W, Calls Tryz.prog 7 #[.int .i64 4] W fun e w' => e = .returned (.string ⟨#[115, 116, 97, 116, 115]⟩) ∧ Kp none' W w') := fun W => wName 4 W
  have HF : Hid (firstT r = bl ⟨#[115, 116, 97, 116, 115]⟩) := by show _ = _; unfold firstT; rw [hk, if_neg (by simp)]; rfl
  obtain ⟨x, hx, zx, _, HQ⟩ := wL ⟨#[32, 110, 111]⟩ (by decide) [codeN r] (one_lt (codeN_lt r)) (by simp)
  have HQ := Lib.hid HQ
  obtain ⟨z, qz, ez, _⟩ := cat_ex ⟨#[115, 116, 97, 116, 115]⟩ x 10 10000 (by decide) zx (by omega)
  have HX : Hid (lineT r = bl z) := by show _ = _; unfold lineT; rw [if_neg (by omega), if_pos hc, HF.out, ez, hx]; rfl
  have hwc := codeN_wrap r
  rw [HX.out, tx_bl]
  rw [hk] at c0
  have hcb : (r.code == 0) = false := by simpa using hc
  clear ez hx
  clear hk hc hr c6 HX HF
  generalize codeN r = cn at *
  generalize enRp r = cs at *
  generalize r.code = cd at *
  generalize r.flow = fl at *
  generalize r.id = id_ at *
  generalize r.len = ln at *
  generalize r.rank = rk at *
  go_enter Tryz.func4, Tryz.ntmps4
  go_wp2_with fail
  refine (HN.out _).mono ?_
  rintro e w1 ⟨rfl, k1⟩
  have d0 := k1.cell c0 id; have d1 := k1.cell c1 id; have d2 := k1.cell c2 id; have d3 := k1.cell c3 id; have d4 := k1.cell c4 id; have d5 := k1.cell c5 id
  have hz1 : w.heap.size < w1.heap.size := World.block_lt_of_cell? w1 _ d0
  have HK1 := Lib.hid (HK0.out.trans k1)
  clear k1 c0 c1 c2 c3 c4 c5 HR0 HN
  go_wp2_with fail
  refine (HQ.out _ _ 1 rfl (heap_newC _ _ (by simp))).mono ?_
  rintro e w3 ⟨rfl, k3⟩
  have HK3 := Lib.hid (((HK1.out.alloc _).alloc _).trans k3)
  clear k3
  go_wp2
  go_ret
  exact ⟨rfl, HK3.out⟩

set_option maxRecDepth 100000 in
set_option maxHeartbeats 800000 in
theorem wLine5z (r : RpF) (hr : r.ok) (hk : r.kind = 5) (hc : r.code = 0) (w : World) : Calls Tryz.prog 4 #[.agg (enRp r).toArray] w fun e w' => e = .returned (.string (tx (lineT r))) ∧ Kp none' w w' := by
  obtain ⟨c0, c1, c2, c3, c4, c5, c6⟩ := box_rp r w
  have HR0 := Lib.hid c6
  have HK0 := Lib.hid ((Kp.refl none' w).alloc (.cells (enRp r).toArray 31))
  have hwf : IntKind.u64.wrap (r.flow : Int) = r.flow := by have := hr.flow; rw [IntKind.wrap_u64]; omega
  have hwi : IntKind.u64.wrap (r.id : Int) = r.id := by have := hr.id; rw [IntKind.wrap_u64]; omega
  have HN : Hid (∀ W, Calls Tryz.prog 7 #[.int .i64 5] W fun e w' => e = .returned (.string ⟨#[116, 111, 114, 110]⟩) ∧ Kp none' W w') := fun W => wName 5 W
  have HF : Hid (firstT r = bl ⟨#[116, 111, 114, 110]⟩) := by show _ = _; unfold firstT; rw [hk, if_neg (by simp)]; rfl
  have HX : Hid (lineT r = bl ⟨#[116, 111, 114, 110]⟩) := by show _ = _; unfold lineT; rw [if_neg (by omega), if_neg (by omega), if_neg (by omega), if_neg (by omega), HF.out]
  rw [HX.out, tx_bl]
  rw [hk] at c0
  rw [hc] at c1
  clear hk hc hr c6 HX HF
  generalize enRp r = cs at *
  generalize r.code = cd at *
  generalize r.flow = fl at *
  generalize r.id = id_ at *
  generalize r.len = ln at *
  generalize r.rank = rk at *
  go_enter Tryz.func4, Tryz.ntmps4
  go_wp2_with fail
  refine (HN.out _).mono ?_
  rintro e w1 ⟨rfl, k1⟩
  have d0 := k1.cell c0 id; have d1 := k1.cell c1 id; have d2 := k1.cell c2 id; have d3 := k1.cell c3 id; have d4 := k1.cell c4 id; have d5 := k1.cell c5 id
  have hz1 : w.heap.size < w1.heap.size := World.block_lt_of_cell? w1 _ d0
  have HK1 := Lib.hid (HK0.out.trans k1)
  clear k1 c0 c1 c2 c3 c4 c5 HR0 HN
  go_wp2
  go_ret
  exact ⟨rfl, HK1.out.alloc _⟩

set_option maxRecDepth 100000 in
set_option maxHeartbeats 800000 in
theorem wLine5n (r : RpF) (hr : r.ok) (hk : r.kind = 5) (hc : r.code ≠ 0) (w : World) : Calls Tryz.prog 4 #[.agg (enRp r).toArray] w fun e w' => e = .returned (.string (tx (lineT r))) ∧ Kp none' w w' := by
  obtain ⟨c0, c1, c2, c3, c4, c5, c6⟩ := box_rp r w
  have HR0 := Lib.hid c6
  have HK0 := Lib.hid ((Kp.refl none' w).alloc (.cells (enRp r).toArray 31))
  have hwf : IntKind.u64.wrap (r.flow : Int) = r.flow := by have := hr.flow; rw [IntKind.wrap_u64]; omega
  have hwi : IntKind.u64.wrap (r.id : Int) = r.id := by have := hr.id; rw [IntKind.wrap_u64]; omega
  have HN : Hid (∀ W, Calls Tryz.prog 7 #[.int .i64 5] W fun e w' => e = .returned (.string ⟨#[116, 111, 114, 110]⟩) ∧ Kp none' W w') := fun W => wName 5 W
  have HF : Hid (firstT r = bl ⟨#[116, 111, 114, 110]⟩) := by show _ = _; unfold firstT; rw [hk, if_neg (by simp)]; rfl
  obtain ⟨x, hx, zx, _, HQ⟩ := wL ⟨#[32, 110, 111]⟩ (by decide) [codeN r] (one_lt (codeN_lt r)) (by simp)
  have HQ := Lib.hid HQ
  obtain ⟨z, qz, ez, _⟩ := cat_ex ⟨#[116, 111, 114, 110]⟩ x 10 10000 (by decide) zx (by omega)
  have HX : Hid (lineT r = bl z) := by show _ = _; unfold lineT; rw [if_neg (by omega), if_pos hc, HF.out, ez, hx]; rfl
  have hwc := codeN_wrap r
  rw [HX.out, tx_bl]
  rw [hk] at c0
  have hcb : (r.code == 0) = false := by simpa using hc
  clear ez hx
  clear hk hc hr c6 HX HF
  generalize codeN r = cn at *
  generalize enRp r = cs at *
  generalize r.code = cd at *
  generalize r.flow = fl at *
  generalize r.id = id_ at *
  generalize r.len = ln at *
  generalize r.rank = rk at *
  go_enter Tryz.func4, Tryz.ntmps4
  go_wp2_with fail
  refine (HN.out _).mono ?_
  rintro e w1 ⟨rfl, k1⟩
  have d0 := k1.cell c0 id; have d1 := k1.cell c1 id; have d2 := k1.cell c2 id; have d3 := k1.cell c3 id; have d4 := k1.cell c4 id; have d5 := k1.cell c5 id
  have hz1 : w.heap.size < w1.heap.size := World.block_lt_of_cell? w1 _ d0
  have HK1 := Lib.hid (HK0.out.trans k1)
  clear k1 c0 c1 c2 c3 c4 c5 HR0 HN
  go_wp2_with fail
  refine (HQ.out _ _ 1 rfl (heap_newC _ _ (by simp))).mono ?_
  rintro e w3 ⟨rfl, k3⟩
  have HK3 := Lib.hid (((HK1.out.alloc _).alloc _).trans k3)
  clear k3
  go_wp2
  go_ret
  exact ⟨rfl, HK3.out⟩

theorem wLineR (r : RpF) (hr : r.ok) (w : World) : Calls Tryz.prog 4 #[.agg (enRp r).toArray] w fun e w' => e = .returned (.string (tx (lineT r))) ∧ Kp none' w w' := by
  by_cases hk : r.kind < 0 ∨ 5 < r.kind
  · exact wLineA r hk w
  · have h : r.kind = 0 ∨ r.kind = 1 ∨ r.kind = 2 ∨ r.kind = 3 ∨ r.kind = 4 ∨ r.kind = 5 := by omega
    by_cases hc : r.code = 0
    · rcases h with h | h | h | h | h | h
      · exact wLine0z r hr h hc w
      · exact wLine1z r hr h hc w
      · exact wLine2z r hr h hc w
      · exact wLine3z r hr h hc w
      · exact wLine4z r hr h hc w
      · exact wLine5z r hr h hc w
    · rcases h with h | h | h | h | h | h
      · exact wLine0n r hr h hc w
      · exact wLine1n r hr h hc w
      · exact wLine2n r hr h hc w
      · exact wLine3n r hr h hc w
      · exact wLine4n r hr h hc w
      · exact wLine5n r hr h hc w
end Go.Proofs.YtacgabagfdlpeaaGreatDoor
