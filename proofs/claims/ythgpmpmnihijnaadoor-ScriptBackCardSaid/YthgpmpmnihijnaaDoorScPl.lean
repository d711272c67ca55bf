/- Walks of layer 41: an operation's line; the program's, and the document's. -/
import Derived.Test.YthgpmpmnihijnaaDoorScRe
import Derived.Test.YthgpmpmnihijnaaDoorDigY
namespace Go.Proofs.YthgpmpmnihijnaaDoor
set_option linter.unusedVariables false
set_option linter.unusedSimpArgs false
open Go.RowKit Go.Shelf

theorem put_size (n : Nat) (h : n < 18446744073709551616) : (tx (32 :: put n)).size ≤ 21 := by
  have := put_len20 n (by omega)
  rw [tx_size, List.length_cons]; omega
theorem put_size' (n : Nat) (h : n < 18446744073709551616) : (tx (put n)).size ≤ 20 := by
  have := put_len20 n (by omega)
  rw [tx_size]; omega
theorem sLine1 (n : Nat) (hn : n < 18446744073709551616) (w : World) : Calls Tryd.prog 33 #[.int .u64 n] w fun e w' => e = .returned (.string (tx (32 :: put n))) ∧ Kp none' w w' := by
  have HP := Lib.hid (dPut n (by omega) w)
  have hsz := put_size' n hn
  have hct := fun W => cat_run (P := Tryd.prog) ⟨#[32]⟩ (tx (put n)) (by show 1 + _ ≤ _; omega) W
  have HE : Hid ((⟨#[32]⟩ : ByteArray) ++ tx (put n) = tx (32 :: put n)) := str_ext (by rw [bl_app, bl_tx, bl_tx]; rfl)
  go_enter Tryd.func33, Tryd.ntmps33
  go_wp2_with fail
  refine (HP.out).mono ?_
  rintro e w1 ⟨s, rfl, hs, k1⟩
  obtain rfl : s = tx (put n) := by rw [← hs, tx_bl]
  have K1 := Lib.hid k1
  clear k1 hs
  go_wp2
  go_ret
  exact ⟨by rw [← HE.out]; rfl, K1.out⟩
theorem lineT_in (f i n t : Nat) : ((⟨inW.toArray⟩ : ByteArray) ++ tx (32 :: put f) ++ tx (32 :: put i) ++ tx (32 :: put n)) = tx (lineT ⟨1, f, i, n, t⟩) :=
  str_ext (by rw [bl_app, bl_app, bl_app, bl_tx, bl_tx, bl_tx, bl_tx]; simp [lineT, lw, joinL, bl])
theorem lineT_one (a : List UInt8) (n : Nat) : ((⟨a.toArray⟩ : ByteArray) ++ tx (32 :: put n)) = tx (joinL [a, put n]) :=
  str_ext (by rw [bl_app, bl_tx, bl_tx]; simp [joinL, bl])

set_option maxRecDepth 100000 in
set_option maxHeartbeats 2000000 in
theorem sLineIn (f i n t : Nat) (hf : f < 4294967296) (hi : i < 4294967296) (hn : n < 18446744073709551616) (w : World) :
    Calls Tryd.prog 20 #[.agg #[.int .i64 1, .int .u32 f, .int .u32 i, .int .u64 n, .int .u64 t]] w fun e w' => e = .returned (.string (tx (lineT ⟨1, f, i, n, t⟩))) ∧ Kp none' w w' := by
  obtain ⟨w0, hw0⟩ : ∃ w0, w.alloc (.cells #[.int .i64 1, .int .u32 f, .int .u32 i, .int .u64 n, .int .u64 t] 40) = w0 := ⟨_, rfl⟩
  have hB : Blk w0 w.heap.size [.int .i64 1, .int .u32 f, .int .u32 i, .int .u64 n, .int .u64 t] 40 := by rw [← hw0]; exact Blk.new w _ _
  have HK0 : Hid (Kp none' w w0) := by show Kp none' w w0; rw [← hw0]; exact (Kp.refl _ _).alloc _
  have HW := Lib.hid hw0
  have c0 := hB.cell 0 rfl
  have c1 := hB.cell 1 rfl
  have c2 := hB.cell 2 rfl
  have c3 := hB.cell 3 rfl
  have H1 := Lib.hid (fun W => sLine1 f (by omega) W)
  have H2 := Lib.hid (fun W => sLine1 i (by omega) W)
  have H3 := Lib.hid (fun W => sLine1 n (by omega) W)
  have s1 := put_size f (by omega)
  have s2 := put_size i (by omega)
  have s3 := put_size n hn
  have e1 : IntKind.u64.wrap (f : Int) = f := by rw [IntKind.wrap_u64]; omega
  have e2 : IntKind.u64.wrap (i : Int) = i := by rw [IntKind.wrap_u64]; omega
  have HE := Lib.hid (lineT_in f i n t)
  obtain ⟨a, ha⟩ : ∃ a, tx (32 :: put f) = a := ⟨_, rfl⟩
  obtain ⟨b, hb⟩ : ∃ b, tx (32 :: put i) = b := ⟨_, rfl⟩
  obtain ⟨c, hc⟩ : ∃ c, tx (32 :: put n) = c := ⟨_, rfl⟩
  rw [ha] at H1 HE s1
  rw [hb] at H2 HE s2
  rw [hc] at H3 HE s3
  have q1 : ∀ W, (Op.stringOp .add ⟨#[105, 110]⟩ a).run Tryd.prog W = .ok (.string ((⟨inW.toArray⟩ : ByteArray) ++ a)) W := fun W => cat_run (P := Tryd.prog) ⟨inW.toArray⟩ a (by show 2 + _ ≤ _; omega) W
  have z1 : ((⟨inW.toArray⟩ : ByteArray) ++ a).size ≤ 23 := by rw [ByteArray.size_append]; show 2 + _ ≤ _; omega
  obtain ⟨x, hx⟩ : ∃ x, (⟨inW.toArray⟩ : ByteArray) ++ a = x := ⟨_, rfl⟩
  simp only [hx] at q1
  rw [hx] at HE z1
  have q2 : ∀ W, (Op.stringOp .add x b).run Tryd.prog W = .ok (.string (x ++ b)) W := fun W => cat_run (P := Tryd.prog) x b (by omega) W
  have z2 : (x ++ b).size ≤ 44 := by rw [ByteArray.size_append]; omega
  obtain ⟨y, hy⟩ : ∃ y, x ++ b = y := ⟨_, rfl⟩
  simp only [hy] at q2
  rw [hy] at HE z2
  have q3 : ∀ W, (Op.stringOp .add y c).run Tryd.prog W = .ok (.string (y ++ c)) W := fun W => cat_run (P := Tryd.prog) y c (by omega) W
  clear hw0 hB ha hb hc hx hy
  go_enter Tryd.func20, Tryd.ntmps20
  go_wp2_with fail
  rw [HW.out]
  refine wp_region_kept2 [] [0, 1, 2, 3, 4, 5, 6, 7, 8, 9, 10, 11, 12, 13, 14, 15] 16 (by kernel_rfl) (by kernel_rfl) (fun c a d u w h => by cases d <;> exact h) ?_
  simp only [pick, List.getElem?_cons_succ, List.getElem?_cons_zero, List.drop_succ_cons, List.drop_zero]
  show wpKL _ _ _ _ _ _
  repeat (first
    | (refine wpKL_op (by exact rfl) (by as_aux_lemma => intro W hK; have g1 := hK.cell c1 (fun x => x); have g2 := hK.cell c2 (fun x => x); have g3 := hK.cell c3 (fun x => x); have r1 := q1 W; have r2 := q2 W; have r3 := q3 W; go_simp; exact rfl) ?_; simp only [Act.put, List.setIfInBounds_toArray, List.set_cons_succ, List.set_cons_zero])
    | (refine wpKL_off (by exact rfl) ?_; simp only [Act.put, List.setIfInBounds_toArray, List.set_cons_succ, List.set_cons_zero])
    | (refine wpKL_call (by exact rfl) (by as_aux_lemma => intro W; go_simp; exact ⟨rfl, rfl⟩) (by intro W hK; with_reducible first | exact H1.out W | exact H2.out W | exact H3.out W) ?_; simp only [Act.put, List.setIfInBounds_toArray, List.set_cons_succ, List.set_cons_zero]))
  show ∀ W, _ → wpList _ _ _ _ _ _
  intro W2 hK2
  have HK2 := Lib.hid (HK0.out.trans hK2)
  have r3 := q3 W2
  clear hK2
  go_wp2_with fail
  go_ret
  exact ⟨by rw [← HE.out]; rfl, HK2.out⟩
theorem putAny (n : Nat) (hn : n < 18446744073709551616) (w : World) : Calls Tryd.prog 35 #[.int .u64 n] w fun e w' => e = .returned (.string (tx (put n))) ∧ Kp none' w w' :=
  (rPut 19 n w (by omega) (by omega)).mono fun e w' ⟨h1, d, h2⟩ => ⟨h1, h2 ▸ (Kp.refl _ _).drewN d⟩
set_option maxRecDepth 100000 in
set_option maxHeartbeats 2000000 in
theorem sLine (o : OpR) (hr : opR o = true) (hf : o.flow < 4294967296) (hi : o.id < 4294967296) (hn : o.len < 18446744073709551616) (ht : o.ticks < 18446744073709551616) (w : World) :
    Calls Tryd.prog 20 #[.agg #[.int .i64 o.kind, .int .u32 o.flow, .int .u32 o.id, .int .u64 o.len, .int .u64 o.ticks]] w fun e w' => e = .returned (.string (tx (lineT o))) ∧ Kp none' w w' := by
  have hc := opR_cases hr
  clear hr
  obtain ⟨k, f, i, n, t⟩ := o
  simp only at hc hf hi hn ht ⊢
  rcases hc with ⟨rfl, rfl⟩ | ⟨rfl, rfl, rfl, rfl, rfl⟩ | ⟨rfl, rfl, rfl, rfl⟩ | ⟨rfl, rfl, rfl, rfl, rfl⟩ | ⟨rfl, rfl, rfl, rfl⟩
  · exact sLineIn f i n 0 hf hi hn w
  · have HK0 := Lib.hid ((Kp.refl none' w).alloc (.cells (enO ⟨2, 0, 0, 0, 0⟩).toArray 40))
    go_enter Tryd.func20, Tryd.ntmps20
    go_wp2
    go_ret
    exact ⟨rfl, HK0.out⟩
  · have H1 := Lib.hid (fun W => sLine1 t ht W)
    have s1 := put_size t ht
    have HE : Hid ((⟨tickW.toArray⟩ : ByteArray) ++ tx (32 :: put t) = tx (lineT ⟨3, 0, 0, 0, t⟩)) := lineT_one tickW t
    obtain ⟨a, ha⟩ : ∃ a, tx (32 :: put t) = a := ⟨_, rfl⟩
    rw [ha] at H1 HE s1
    have q1 : ∀ W, (Op.stringOp .add ⟨#[116, 105, 99, 107]⟩ a).run Tryd.prog W = .ok (.string ((⟨tickW.toArray⟩ : ByteArray) ++ a)) W := fun W => cat_run (P := Tryd.prog) ⟨tickW.toArray⟩ a (by show 4 + _ ≤ _; omega) W
    have HK0 := Lib.hid ((Kp.refl none' w).alloc (.cells (enO ⟨3, 0, 0, 0, t⟩).toArray 40))
    clear ha
    go_enter Tryd.func20, Tryd.ntmps20
    go_wp2_with fail
    refine (H1.out _).mono ?_
    rintro e w1 ⟨rfl, k1⟩
    have K1 := Lib.hid (HK0.out.trans k1)
    clear k1
    go_wp2
    go_ret
    exact ⟨by rw [← HE.out]; rfl, K1.out⟩
  · have HK0 := Lib.hid ((Kp.refl none' w).alloc (.cells (enO ⟨4, 0, 0, 0, 0⟩).toArray 40))
    go_enter Tryd.func20, Tryd.ntmps20
    go_wp2
    go_ret
    exact ⟨rfl, HK0.out⟩
  · have H1 := Lib.hid (fun W => sLine1 n hn W)
    have s1 := put_size n hn
    have HE : Hid ((⟨junkW.toArray⟩ : ByteArray) ++ tx (32 :: put n) = tx (lineT ⟨0, 0, 0, n, 0⟩)) := lineT_one junkW n
    obtain ⟨a, ha⟩ : ∃ a, tx (32 :: put n) = a := ⟨_, rfl⟩
    rw [ha] at H1 HE s1
    have q1 : ∀ W, (Op.stringOp .add ⟨#[106, 117, 110, 107]⟩ a).run Tryd.prog W = .ok (.string ((⟨junkW.toArray⟩ : ByteArray) ++ a)) W := fun W => cat_run (P := Tryd.prog) ⟨junkW.toArray⟩ a (by show 4 + _ ≤ _; omega) W
    have HK0 := Lib.hid ((Kp.refl none' w).alloc (.cells (enO ⟨0, 0, 0, n, 0⟩).toArray 40))
    clear ha
    go_enter Tryd.func20, Tryd.ntmps20
    go_wp2_with fail
    refine (H1.out _).mono ?_
    rintro e w1 ⟨rfl, k1⟩
    have K1 := Lib.hid (HK0.out.trans k1)
    clear k1
    go_wp2
    go_ret
    exact ⟨by rw [← HE.out]; rfl, K1.out⟩
/-- The document's names, in a row. -/
def nmV : List Value := [.string ⟨#[106, 117, 110, 107]⟩, .string ⟨#[105, 110]⟩, .string ⟨#[111, 117, 116]⟩, .string ⟨#[116, 105, 99, 107]⟩, .string ⟨#[115, 116, 97, 116, 115]⟩]
theorem sp_cat (a : ByteArray) (h : a.size ≤ 1000) : ∀ W, (Op.stringOp .add ⟨#[32]⟩ a).run Tryd.prog W = .ok (.string ((⟨#[32]⟩ : ByteArray) ++ a)) W := fun W => cat_run (P := Tryd.prog) ⟨#[32]⟩ a (by show 1 + _ ≤ _; omega) W
theorem sp_text (n : Nat) : (⟨#[32]⟩ : ByteArray) ++ tx (put n) = tx (32 :: put n) := str_ext (by rw [bl_app, bl_tx, bl_tx]; rfl)
set_option maxRecDepth 100000 in
set_option maxHeartbeats 2000000 in
theorem rLineIn (f i n t : Nat) (hf : f < 4294967296) (hi : i < 4294967296) (hn : n < 18446744073709551616) (w : World) :
    Calls Tryd.prog 23 #[.agg #[.int .i64 1, .int .u32 f, .int .u32 i, .int .u64 n, .int .u64 t]] w fun e w' => e = .returned (.string (tx (lineT ⟨1, f, i, n, t⟩))) ∧ Kp none' w w' := by
  obtain ⟨w0, hw0⟩ : ∃ w0, (w.alloc (.cells #[.int .i64 1, .int .u32 f, .int .u32 i, .int .u64 n, .int .u64 t] 40)).alloc (.cells #[.string ⟨#[106, 117, 110, 107]⟩, .string ⟨#[105, 110]⟩, .string ⟨#[111, 117, 116]⟩, .string ⟨#[116, 105, 99, 107]⟩, .string ⟨#[115, 116, 97, 116, 115]⟩] 9) = w0 := ⟨_, rfl⟩
  have hB : Blk w0 w.heap.size [.int .i64 1, .int .u32 f, .int .u32 i, .int .u64 n, .int .u64 t] 40 := by rw [← hw0]; exact (Blk.new w _ _).alloc _
  have HK0 : Hid (Kp none' w w0) := by show Kp none' w w0; rw [← hw0]; exact ((Kp.refl _ _).alloc _).alloc _
  have HW := Lib.hid hw0
  have HB := Lib.hid hB
  have c0 := hB.cell 0 rfl
  have c1 := hB.cell 1 rfl
  have c2 := hB.cell 2 rfl
  have c3 := hB.cell 3 rfl
  have H1 := Lib.hid (fun W => putAny f (by omega) W)
  have H2 := Lib.hid (fun W => putAny i (by omega) W)
  have H3 := Lib.hid (fun W => putAny n hn W)
  have s1 := put_size' f (by omega)
  have s2 := put_size' i (by omega)
  have s3 := put_size' n hn
  have e1 : IntKind.u64.wrap (f : Int) = f := by rw [IntKind.wrap_u64]; omega
  have e2 : IntKind.u64.wrap (i : Int) = i := by rw [IntKind.wrap_u64]; omega
  have HE : Hid (((⟨inW.toArray⟩ : ByteArray) ++ ((⟨#[32]⟩ ++ tx (put f) ++ ⟨#[32]⟩) ++ tx (put i))) ++ (⟨#[32]⟩ ++ tx (put n)) = tx (lineT ⟨1, f, i, n, t⟩)) :=
    str_ext (by simp only [bl_app, bl_tx]; simp [lineT, lw, joinL, bl])
  obtain ⟨a, ha⟩ : ∃ a, tx (put f) = a := ⟨_, rfl⟩
  obtain ⟨b, hb⟩ : ∃ b, tx (put i) = b := ⟨_, rfl⟩
  obtain ⟨c, hc⟩ : ∃ c, tx (put n) = c := ⟨_, rfl⟩
  rw [ha] at H1 HE s1
  rw [hb] at H2 HE s2
  rw [hc] at H3 HE s3
  have l1 : (⟨#[32]⟩ : ByteArray).size = 1 := rfl
  have q1 := sp_cat a (by omega)
  have z1 : ((⟨#[32]⟩ : ByteArray) ++ a).size ≤ 21 := by rw [ByteArray.size_append]; omega
  obtain ⟨x1, hx1⟩ : ∃ x, (⟨#[32]⟩ : ByteArray) ++ a = x := ⟨_, rfl⟩
  simp only [hx1] at q1
  rw [hx1] at HE z1
  have q2 : ∀ W, (Op.stringOp .add x1 ⟨#[32]⟩).run Tryd.prog W = .ok (.string (x1 ++ ⟨#[32]⟩)) W := fun W => cat_run (P := Tryd.prog) x1 ⟨#[32]⟩ (by omega) W
  have z2 : (x1 ++ (⟨#[32]⟩ : ByteArray)).size ≤ 22 := by rw [ByteArray.size_append]; omega
  obtain ⟨x2, hx2⟩ : ∃ x, x1 ++ (⟨#[32]⟩ : ByteArray) = x := ⟨_, rfl⟩
  simp only [hx2] at q2
  rw [hx2] at HE z2
  have q3 : ∀ W, (Op.stringOp .add x2 b).run Tryd.prog W = .ok (.string (x2 ++ b)) W := fun W => cat_run (P := Tryd.prog) x2 b (by omega) W
  have z3 : (x2 ++ b).size ≤ 42 := by rw [ByteArray.size_append]; omega
  obtain ⟨x3, hx3⟩ : ∃ x, x2 ++ b = x := ⟨_, rfl⟩
  simp only [hx3] at q3
  rw [hx3] at HE z3
  have q4 : ∀ W, (Op.stringOp .add ⟨#[105, 110]⟩ x3).run Tryd.prog W = .ok (.string ((⟨inW.toArray⟩ : ByteArray) ++ x3)) W := fun W => cat_run (P := Tryd.prog) ⟨inW.toArray⟩ x3 (by show 2 + _ ≤ _; omega) W
  have z4 : ((⟨inW.toArray⟩ : ByteArray) ++ x3).size ≤ 44 := by rw [ByteArray.size_append]; show 2 + _ ≤ _; omega
  obtain ⟨x4, hx4⟩ : ∃ x, (⟨inW.toArray⟩ : ByteArray) ++ x3 = x := ⟨_, rfl⟩
  simp only [hx4] at q4
  rw [hx4] at HE z4
  have q5 := sp_cat c (by omega)
  have z5' : ((⟨#[32]⟩ : ByteArray) ++ c).size ≤ 21 := by rw [ByteArray.size_append]; omega
  obtain ⟨x5, hx5⟩ : ∃ x, (⟨#[32]⟩ : ByteArray) ++ c = x := ⟨_, rfl⟩
  simp only [hx5] at q5
  rw [hx5] at HE z5'
  have q6 : ∀ W, (Op.stringOp .add x4 x5).run Tryd.prog W = .ok (.string (x4 ++ x5)) W := fun W => cat_run (P := Tryd.prog) x4 x5 (by omega) W
  clear hw0 hB ha hb hc hx1 hx2 hx3 hx4 hx5
  go_enter Tryd.func23, Tryd.ntmps23
  go_wp2_with fail
  rw [HW.out]
  refine wp_region_kept2 [] [0, 1, 2, 3, 4, 5, 6, 7, 8, 9, 10, 11] 12 (by kernel_rfl) (by kernel_rfl) (fun c a d u w h => by cases d <;> exact h) ?_
  simp only [pick, List.getElem?_cons_succ, List.getElem?_cons_zero, List.drop_succ_cons, List.drop_zero]
  show wpKL _ _ _ _ _ _
  repeat (first
    | (refine wpKL_op (by exact rfl) (by as_aux_lemma => intro W hK; have g1 := hK.cell c1 (fun x => x); have g2 := hK.cell c2 (fun x => x); have g3 := hK.cell c3 (fun x => x); have r1 := q1 W; have r2 := q2 W; have r3 := q3 W; have r4 := q4 W; go_simp; exact rfl) ?_; simp only [Act.put, List.setIfInBounds_toArray, List.set_cons_succ, List.set_cons_zero])
    | (refine wpKL_off (by exact rfl) ?_; simp only [Act.put, List.setIfInBounds_toArray, List.set_cons_succ, List.set_cons_zero])
    | (refine wpKL_call (by exact rfl) (by as_aux_lemma => intro W; go_simp; exact ⟨rfl, rfl⟩) (by intro W hK; with_reducible first | exact H1.out W | exact H2.out W) ?_; simp only [Act.put, List.setIfInBounds_toArray, List.set_cons_succ, List.set_cons_zero]))
  show ∀ W, _ → wpList _ _ _ _ _ _
  intro W2 hK2
  have HK2 := Lib.hid (HK0.out.trans hK2)
  have d0 := hK2.cell c0 (fun x => x)
  have d3 := hK2.cell c3 (fun x => x)
  have r4 := q4 W2
  clear hK2
  go_wp2_with fail
  refine (H3.out _).mono ?_
  rintro e w3 ⟨rfl, k3⟩
  have HK3 := Lib.hid (HK2.out.trans k3)
  have g0 := k3.cell d0 (fun x => x)
  have r5 := q5 w3
  have r6 := q6 w3
  clear k3
  go_wp2_with fail
  go_ret
  exact ⟨by rw [← HE.out]; rfl, HK3.out⟩
end Go.Proofs.YthgpmpmnihijnaaDoor
