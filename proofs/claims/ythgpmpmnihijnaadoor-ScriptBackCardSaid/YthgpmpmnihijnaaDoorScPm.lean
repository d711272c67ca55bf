/- Walks of layer 41: operations put; the program's, and the document's. -/
import Derived.Test.YthgpmpmnihijnaaDoorScPl
import Derived.Test.YthgpmpmnihijnaaDoorBuild
namespace Go.Proofs.YthgpmpmnihijnaaDoor
set_option linter.unusedVariables false
set_option linter.unusedSimpArgs false
open Go.RowKit Go.Shelf

set_option maxRecDepth 100000 in
set_option maxHeartbeats 2000000 in
theorem rLine (o : OpR) (hr : opR o = true) (hf : o.flow < 4294967296) (hi : o.id < 4294967296) (hn : o.len < 18446744073709551616) (ht : o.ticks < 18446744073709551616) (w : World) :
    Calls Tryd.prog 23 #[.agg #[.int .i64 o.kind, .int .u32 o.flow, .int .u32 o.id, .int .u64 o.len, .int .u64 o.ticks]] w fun e w' => e = .returned (.string (tx (lineT o))) ∧ Kp none' w w' := by
  have hc := opR_cases hr
  clear hr
  obtain ⟨k, f, i, n, t⟩ := o
  simp only at hc hf hi hn ht ⊢
  have l1 : (⟨#[32]⟩ : ByteArray).size = 1 := rfl
  rcases hc with ⟨rfl, rfl⟩ | ⟨rfl, rfl, rfl, rfl, rfl⟩ | ⟨rfl, rfl, rfl, rfl⟩ | ⟨rfl, rfl, rfl, rfl, rfl⟩ | ⟨rfl, rfl, rfl, rfl⟩
  · exact rLineIn f i n 0 hf hi hn w
  · have HK0 := Lib.hid (((Kp.refl none' w).alloc (.cells (enO ⟨2, 0, 0, 0, 0⟩).toArray 40)).alloc (.cells nmV.toArray 9))
    go_enter Tryd.func23, Tryd.ntmps23
    go_wp2
    go_ret
    exact ⟨rfl, HK0.out⟩
  · have H1 := Lib.hid (fun W => putAny t ht W)
    have s1 := put_size' t ht
    have HE : Hid ((⟨tickW.toArray⟩ : ByteArray) ++ ((⟨#[32]⟩ : ByteArray) ++ tx (put t)) = tx (lineT ⟨3, 0, 0, 0, t⟩)) := by show _ = _; rw [sp_text]; exact lineT_one tickW t
    obtain ⟨a, ha⟩ : ∃ a, tx (put t) = a := ⟨_, rfl⟩
    rw [ha] at H1 HE s1
    have q1 := sp_cat a (by omega)
    have z1 : ((⟨#[32]⟩ : ByteArray) ++ a).size ≤ 21 := by rw [ByteArray.size_append]; omega
    obtain ⟨x1, hx1⟩ : ∃ x, (⟨#[32]⟩ : ByteArray) ++ a = x := ⟨_, rfl⟩
    simp only [hx1] at q1
    rw [hx1] at HE z1
    have q2 : ∀ W, (Op.stringOp .add ⟨#[116, 105, 99, 107]⟩ x1).run Tryd.prog W = .ok (.string ((⟨tickW.toArray⟩ : ByteArray) ++ x1)) W := fun W => cat_run (P := Tryd.prog) ⟨tickW.toArray⟩ x1 (by show 4 + _ ≤ _; omega) W
    have k0 := ((Kp.refl none' w).alloc (.cells (enO ⟨3, 0, 0, 0, t⟩).toArray 40)).alloc (.cells nmV.toArray 9)
    have HB := Lib.hid ((Blk.new w (enO ⟨3, 0, 0, 0, t⟩) 40).alloc (.cells nmV.toArray 9))
    have HK0 := Lib.hid k0
    clear ha hx1 k0
    go_enter Tryd.func23, Tryd.ntmps23
    go_wp2_with fail
    refine (H1.out _).mono ?_
    rintro e w1 ⟨rfl, k1⟩
    have K1 := Lib.hid (HK0.out.trans k1)
    have c0 := (HB.out.kp k1 id).cell 0 rfl
    clear k1
    go_wp2
    go_ret
    exact ⟨by rw [← HE.out]; rfl, K1.out⟩
  · have HK0 := Lib.hid (((Kp.refl none' w).alloc (.cells (enO ⟨4, 0, 0, 0, 0⟩).toArray 40)).alloc (.cells nmV.toArray 9))
    go_enter Tryd.func23, Tryd.ntmps23
    go_wp2
    go_ret
    exact ⟨rfl, HK0.out⟩
  · have H1 := Lib.hid (fun W => putAny n hn W)
    have s1 := put_size' n hn
    have HE : Hid ((⟨junkW.toArray⟩ : ByteArray) ++ ((⟨#[32]⟩ : ByteArray) ++ tx (put n)) = tx (lineT ⟨0, 0, 0, n, 0⟩)) := by show _ = _; rw [sp_text]; exact lineT_one junkW n
    obtain ⟨a, ha⟩ : ∃ a, tx (put n) = a := ⟨_, rfl⟩
    rw [ha] at H1 HE s1
    have q1 := sp_cat a (by omega)
    have z1 : ((⟨#[32]⟩ : ByteArray) ++ a).size ≤ 21 := by rw [ByteArray.size_append]; omega
    obtain ⟨x1, hx1⟩ : ∃ x, (⟨#[32]⟩ : ByteArray) ++ a = x := ⟨_, rfl⟩
    simp only [hx1] at q1
    rw [hx1] at HE z1
    have q2 : ∀ W, (Op.stringOp .add ⟨#[106, 117, 110, 107]⟩ x1).run Tryd.prog W = .ok (.string ((⟨junkW.toArray⟩ : ByteArray) ++ x1)) W := fun W => cat_run (P := Tryd.prog) ⟨junkW.toArray⟩ x1 (by show 4 + _ ≤ _; omega) W
    have k0 := ((Kp.refl none' w).alloc (.cells (enO ⟨0, 0, 0, n, 0⟩).toArray 40)).alloc (.cells nmV.toArray 9)
    have HB := Lib.hid ((Blk.new w (enO ⟨0, 0, 0, n, 0⟩) 40).alloc (.cells nmV.toArray 9))
    have HK0 := Lib.hid k0
    clear ha hx1 k0
    go_enter Tryd.func23, Tryd.ntmps23
    go_wp2_with fail
    refine (H1.out _).mono ?_
    rintro e w1 ⟨rfl, k1⟩
    have K1 := Lib.hid (HK0.out.trans k1)
    have c0 := (HB.out.kp k1 id).cell 0 rfl
    clear k1
    go_wp2
    go_ret
    exact ⟨by rw [← HE.out]; rfl, K1.out⟩

def allR (l : List OpR) : Bool := l.all opR
/-- What Put answers. -/
def putT (l : List OpR) : List UInt8 := if allR l then putS l else []
theorem putT_no {l : List OpR} {j : Nat} (hj : j < l.length) (h : opR l[j] = false) : allR l = false ∧ putT l = [] := by
  have h1 : allR l = false := by
    unfold allR; rw [List.all_eq_false]; exact ⟨l[j], List.getElem_mem hj, by rw [h]; simp⟩
  exact ⟨h1, by unfold putT; rw [h1]; rfl⟩
theorem putT_yes {l : List OpR} (h : ∀ o ∈ l, opR o = true) : allR l = true ∧ putT l = putS l := by
  have h1 : allR l = true := by unfold allR; rw [List.all_eq_true]; exact h
  exact ⟨h1, by unfold putT; rw [h1]; rfl⟩
def putC (l : List OpR) : Int := if allR l then 0 else 6
theorem putC_no {l : List OpR} (h : allR l = false) : putC l = 6 := by unfold putC; rw [h]; rfl
theorem putC_yes {l : List OpR} (h : allR l = true) : putC l = 0 := by unfold putC; rw [h]; rfl
theorem line_len (o : OpR) (hf : o.flow < 4294967296) (hi : o.id < 4294967296) (hn : o.len < 18446744073709551616) (ht : o.ticks < 18446744073709551616) : (lineT o).length ≤ 70 := by
  have h1 := put_len20 o.flow (by omega)
  have h2 := put_len20 o.id (by omega)
  have h3 := put_len20 o.len (by omega)
  have h4 := put_len20 o.ticks (by omega)
  unfold lineT lw
  split
  · simp [joinL, inW]; omega
  · split
    · decide
    · split
      · simp [joinL, tickW]; omega
      · split
        · decide
        · simp [joinL, junkW]; omega
theorem putS_len (l : List OpR) (h : ∀ o ∈ l, o.ok) : (putS l).length ≤ 71 * l.length := by
  induction l with
  | nil => simp [putS]
  | cons o l ih =>
    have ho := h o (by simp)
    have h1 := line_len o ho.flow ho.id ho.len ho.ticks
    have h2 := ih (fun x hx => h x (by simp [hx]))
    have e : putS (o :: l) = lineT o ++ [10] ++ putS l := by simp [putS]
    rw [e, List.length_append, List.length_append, List.length_cons]
    simp; omega

set_option maxRecDepth 100000 in
set_option maxHeartbeats 2000000 in
theorem rPutS (l : List OpR) (hok : ∀ o ∈ l, o.ok) (hn : l.length ≤ 200) (v : Value) (w : World) (h : Sl w v l.length 5 (l.flatMap enO)) :
    Calls Tryd.prog 11 #[v] w fun e w' => e = .returned (.tuple #[.string (tx (putT l)), .bool (allR l)]) ∧ Kp none' w w' := by
  obtain ⟨ao, cap, rfl⟩ : ∃ ao cap, v = .slice ao l.length cap := by obtain ⟨ao, cap, rfl, _⟩ := h.is; exact ⟨_, _, rfl⟩
  have HS := Lib.hid h
  clear h
  go_enter Tryd.func11, Tryd.ntmps11
  go_wp2_with fail
  go_loopw [4, 5] (fun s0 i wr => ∃ (j : Nat) (x : ByteArray), i = .int .i64 j ∧ j ≤ l.length ∧ s0 = .string x ∧ x.size ≤ 71 * j ∧ Hid ((∀ o ∈ l.take j, opR o = true) ∧ bl x = putS (l.take j) ∧ Kp none' w wr)) (fun _ i _ => l.length - (intOf i).toNat)
  case atStart => exact ⟨0, _, rfl, by omega, rfl, by decide, by simp, rfl, Kp.refl _ _⟩
  case round =>
    obtain ⟨j, x, rfl, hj, rfl, hxs, hr⟩ := hrel
    obtain ⟨r0, r1, r2⟩ := hr.out
    have R0 := Lib.hid r0; have R1 := Lib.hid r1; have R2 := Lib.hid r2
    clear r0 r1 r2 hr
    by_cases hlt : j < l.length
    · obtain ⟨g, off, cap', e1, hc⟩ := (HS.out.old R2.out).at enO_len (by decide) j hlt
      injection e1 with e1 _ e3
      subst e1 e3
      have hji : (j : Int) < l.length := by omega
      have hgo := hok l[j] (List.getElem_mem hlt)
      obtain ⟨o, ho⟩ : ∃ o, l[j] = o := ⟨_, rfl⟩
      rw [ho] at hc hgo
      have HT : Hid (putS (l.take (j + 1)) = putS (l.take j) ++ (lineT o ++ [10])) := by
        show _ = _
        rw [List.take_succ_eq_append_getElem hlt, putS_snoc, ho]
      have HN : Hid (opR o = false → allR l = false ∧ putT l = []) := fun h => putT_no hlt (by rw [ho]; exact h)
      have HY : Hid (opR o = true → ∀ x ∈ l.take (j + 1), opR x = true) := fun h x hx => by
        rw [List.take_succ_eq_append_getElem hlt, List.mem_append] at hx
        rcases hx with hx | hx
        · exact R0.out x hx
        · simp at hx; rw [hx, ho]; exact h
      have hR := fun W => rRight25 o W
      have hLL := fun (h : opR o = true) W => rLine o h hgo.flow hgo.id hgo.len hgo.ticks W
      have hll := line_len o hgo.flow hgo.id hgo.len hgo.ticks
      have c0 : wr.cell? ⟨g, off + j * 5, none⟩ = some (.int .i64 o.kind) := hc 0 _ rfl
      have c1 := hc 1 _ rfl
      have c2 := hc 2 _ rfl
      have c3 := hc 3 _ rfl
      have c4 := hc 4 _ rfl
      clear hc ho
      cases hrr : opR o with
      | false =>
        rw [hrr] at hR
        have HR := Lib.hid hR
        have HE := Lib.hid (HN.out hrr)
        clear hR hrr hLL
        go_wp2_with fail
        refine (HR.out _).mono ?_
        rintro e w1 ⟨rfl, k1⟩
        have HK1 := Lib.hid (R2.out.trans k1)
        clear k1
        go_wp2_with fail
        go_ret2
        exact ⟨by rw [HE.out.1, HE.out.2]; rfl, HK1.out⟩
      | true =>
        rw [hrr] at hR
        have HR := Lib.hid hR
        have HL := Lib.hid (hLL hrr)
        have HYY := Lib.hid (HY.out hrr)
        have hls : (tx (lineT o)).size ≤ 70 := by rw [tx_size]; exact hll
        obtain ⟨y, hy⟩ : ∃ y, tx (lineT o) = y := ⟨_, rfl⟩
        rw [hy] at HL hls
        have q1 : ∀ W, (Op.stringOp .add y ⟨#[10]⟩).run Tryd.prog W = .ok (.string (y ++ ⟨#[10]⟩)) W := fun W => cat_run (P := Tryd.prog) y ⟨#[10]⟩ (by show _ + 1 ≤ _; omega) W
        have z1 : (y ++ (⟨#[10]⟩ : ByteArray)).size ≤ 71 := by rw [ByteArray.size_append]; show _ + 1 ≤ _; omega
        obtain ⟨y2, hy2⟩ : ∃ y2, y ++ (⟨#[10]⟩ : ByteArray) = y2 := ⟨_, rfl⟩
        simp only [hy2] at q1
        rw [hy2] at z1
        have q2 : ∀ W, (Op.stringOp .add x y2).run Tryd.prog W = .ok (.string (x ++ y2)) W := fun W => cat_run (P := Tryd.prog) x y2 (by omega) W
        have HZ : Hid (bl (x ++ y2) = putS (l.take (j + 1)) ∧ (x ++ y2).size ≤ 71 * (j + 1)) := by
          refine ⟨by rw [HT.out, bl_app, R1.out, ← hy2, bl_app, ← hy, bl_tx]; rfl, by rw [ByteArray.size_append]; omega⟩
        clear hR hrr hLL hll hy hy2
        go_wp2_with fail
        refine (HR.out _).mono ?_
        rintro e w1 ⟨rfl, k1⟩
        have HK1 := Lib.hid (R2.out.trans k1)
        have d0 := k1.cell c0 (fun x => x)
        have d1 := k1.cell c1 (fun x => x)
        have d2 := k1.cell c2 (fun x => x)
        have d3 := k1.cell c3 (fun x => x)
        have d4 := k1.cell c4 (fun x => x)
        clear k1
        go_wp2_with fail
        refine (HL.out _).mono ?_
        rintro e w2 ⟨rfl, k2⟩
        have HK2 := Lib.hid (HK1.out.trans k2)
        clear k2
        go_wp2_with fail
        go_roundw
        case rel => exact ⟨j + 1, x ++ y2, by go_num, by omega, rfl, HZ.out.2, HYY.out, HZ.out.1, HK2.out⟩
        case measure => simp [intOf]; omega
    · have HD : Hid (allR l = true ∧ putT l = bl x) := by
        have h1 := R1.out
        have h2 := R0.out
        rw [List.take_of_length_le (by omega)] at h1 h2
        exact ⟨(putT_yes h2).1, by rw [h1]; exact (putT_yes h2).2⟩
      go_wp2_with fail
      go_ret2
      exact ⟨by rw [HD.out.1, HD.out.2, tx_bl]; rfl, R2.out⟩
set_option maxRecDepth 100000 in
set_option maxHeartbeats 2000000 in
theorem sPutS (l : List OpR) (hok : ∀ o ∈ l, o.ok) (hn : l.length ≤ 200) (v : Value) (w : World) (h : Sl w v l.length 5 (l.flatMap enO)) :
    Calls Tryd.prog 10 #[v] w fun e w' => e = .returned (.tuple #[.string (tx (putT l)), .int .i64 (putC l)]) ∧ Kp none' w w' := by
  obtain ⟨ao, cap, rfl⟩ : ∃ ao cap, v = .slice ao l.length cap := by obtain ⟨ao, cap, rfl, _⟩ := h.is; exact ⟨_, _, rfl⟩
  have HS := Lib.hid h
  have HD := Lib.hid (Bd.new w w.heap.size (Nat.le_refl _))
  have HK := Lib.hid ((Kp.refl none' w).alloc (.cells #[.pointer none, .slice none 0 0] 53))
  clear h
  go_enter Tryd.func10, Tryd.ntmps10
  go_wp2_with fail
  go_loopw [9] (fun i wr => ∃ j : Nat, i = .int .i64 j ∧ j ≤ l.length ∧ Hid ((∀ o ∈ l.take j, opR o = true) ∧ Bd w.heap.size w.heap.size (putS (l.take j)) wr ∧ Kp none' w wr)) (fun i _ => l.length - (intOf i).toNat)
  case atStart => exact ⟨0, rfl, by omega, by simp, HD.out, HK.out⟩
  case round =>
    obtain ⟨j, rfl, hj, hr⟩ := hrel
    obtain ⟨r0, r1, r2⟩ := hr.out
    have hcl := putS_len (l.take j) (fun o ho => hok o (List.mem_of_mem_take ho))
    have hcl2 : (putS (l.take j)).length ≤ 14200 := by rw [List.length_take] at hcl; omega
    have hsz := r2.size
    have R0 := Lib.hid r0; have R1 := Lib.hid r1; have R2 := Lib.hid r2
    clear hcl r0 r1 r2 hr
    by_cases hlt : j < l.length
    · obtain ⟨g, off, cap', e1, hc⟩ := (HS.out.old R2.out).at enO_len (by decide) j hlt
      injection e1 with e1 _ e3
      subst e1 e3
      have hji : (j : Int) < l.length := by omega
      have hgo := hok l[j] (List.getElem_mem hlt)
      obtain ⟨o, ho⟩ : ∃ o, l[j] = o := ⟨_, rfl⟩
      rw [ho] at hc hgo
      have HT : Hid (putS (l.take (j + 1)) = putS (l.take j) ++ (lineT o ++ [10])) := by
        show _ = _
        rw [List.take_succ_eq_append_getElem hlt, putS_snoc, ho]
      have HN : Hid (opR o = false → allR l = false ∧ putT l = []) := fun h => putT_no hlt (by rw [ho]; exact h)
      have HY : Hid (opR o = true → ∀ x ∈ l.take (j + 1), opR x = true) := fun h x hx => by
        rw [List.take_succ_eq_append_getElem hlt, List.mem_append] at hx
        rcases hx with hx | hx
        · exact R0.out x hx
        · simp at hx; rw [hx, ho]; exact h
      have hR := fun W => oRight o W
      have hLL := fun (h : opR o = true) W => sLine o h hgo.flow hgo.id hgo.len hgo.ticks W
      have hll := line_len o hgo.flow hgo.id hgo.len hgo.ticks
      have c0 : wr.cell? ⟨g, off + j * 5, none⟩ = some (.int .i64 o.kind) := hc 0 _ rfl
      have c1 := hc 1 _ rfl
      have c2 := hc 2 _ rfl
      have c3 := hc 3 _ rfl
      have c4 := hc 4 _ rfl
      have hk1 := (Kp.refl none' wr).alloc (.cells (enO o).toArray 40)
      have HB := Lib.hid (Blk.new wr (enO o) 40)
      have HD1 := Lib.hid (R1.out.old hk1); have HK1 := Lib.hid (R2.out.trans hk1)
      clear hc ho hk1
      cases hrr : opR o with
      | false =>
        rw [hrr] at hR
        have HR := Lib.hid hR
        have HE := Lib.hid (HN.out hrr)
        clear hR hrr hLL
        go_wp2_with fail
        refine (HR.out _).mono ?_
        rintro e w1 ⟨rfl, k1⟩
        have HK2 := Lib.hid (HK1.out.trans k1)
        clear k1
        go_wp2_with fail
        go_ret2
        exact ⟨by rw [putC_no HE.out.1, HE.out.2]; rfl, HK2.out⟩
      | true =>
        rw [hrr] at hR
        have HR := Lib.hid hR
        have HL := Lib.hid (hLL hrr)
        have HYY := Lib.hid (HY.out hrr)
        have hls : (tx (lineT o)).size ≤ 70 := by rw [tx_size]; exact hll
        have HLB : Hid (bl (tx (lineT o)) = lineT o) := bl_tx _
        obtain ⟨y, hy⟩ : ∃ y, tx (lineT o) = y := ⟨_, rfl⟩
        rw [hy] at HL hls HLB
        have q1 : ∀ W, (Op.stringOp .add y ⟨#[10]⟩).run Tryd.prog W = .ok (.string (y ++ ⟨#[10]⟩)) W := fun W => cat_run (P := Tryd.prog) y ⟨#[10]⟩ (by show _ + 1 ≤ _; omega) W
        have z1 : (y ++ (⟨#[10]⟩ : ByteArray)).size ≤ 71 := by rw [ByteArray.size_append]; show _ + 1 ≤ _; omega
        have HYB : Hid (bl (y ++ (⟨#[10]⟩ : ByteArray)) = lineT o ++ [10]) := by show _ = _; rw [bl_app, HLB.out]; rfl
        obtain ⟨y2, hy2⟩ : ∃ y2, y ++ (⟨#[10]⟩ : ByteArray) = y2 := ⟨_, rfl⟩
        simp only [hy2] at q1
        rw [hy2] at z1 HYB
        clear hR hrr hLL hll hy hy2
        go_wp2_with fail
        refine (HR.out _).mono ?_
        rintro e w1 ⟨rfl, k1⟩
        have HB2 := Lib.hid (HB.out.kp k1 id)
        have HD2 := Lib.hid (HD1.out.old k1); have HK2 := Lib.hid (HK1.out.trans k1)
        have d0 := HB2.out.cell 0 rfl
        have d1 := HB2.out.cell 1 rfl
        have d2 := HB2.out.cell 2 rfl
        have d3 := HB2.out.cell 3 rfl
        have d4 := HB2.out.cell 4 rfl
        clear k1
        go_wp2_with fail
        refine (HL.out _).mono ?_
        rintro e w3 ⟨rfl, k4⟩
        have HD4 := Lib.hid (HD2.out.old k4); have HK4 := Lib.hid (HK2.out.trans k4)
        clear k4
        go_wp2_with fail
        refine (bString HD4.out y2 (by omega)).mono ?_
        rintro e w4 ⟨rfl, b5, k5⟩
        have HK5 : Hid (Kp none' w w4) := KB.none HK4.out k5 (Nat.le_refl _) (Nat.le_refl _)
        have HD5 : Hid (Bd w.heap.size w.heap.size (putS (l.take (j + 1))) w4) := by show Bd _ _ _ _; rw [HT.out, ← HYB.out]; exact b5
        clear k5 b5
        go_wp2_with fail
        go_roundw
        case rel => exact ⟨j + 1, by go_num, by omega, HYY.out, HD5.out, HK5.out⟩
        case measure => simp [intOf]; omega
    · have HD3 : Hid (Bd w.heap.size w.heap.size (putT l) wr ∧ allR l = true) := by
        have h1 := R1.out
        have h2 := R0.out
        rw [List.take_of_length_le (by omega)] at h1 h2
        exact ⟨by rw [(putT_yes h2).2]; exact h1, (putT_yes h2).1⟩
      go_wp2_with fail
      refine (bAsk HD3.out.1 hsz).mono ?_
      rintro e w1 ⟨rfl, k1⟩
      have HK1 : Hid (Kp none' w w1) := R2.out.then k1 (fun i hi e => by omega)
      clear k1
      go_wp2_with fail
      go_ret2
      exact ⟨by rw [putC_yes HD3.out.2]; rfl, HK1.out⟩
end Go.Proofs.YthgpmpmnihijnaaDoor
