/- Walks of layer 41: what a line's words say; the program's, kind by kind (printed by sco.py). -/
import Derived.Test.YthgpmpmnihijnaaDoorScO
namespace Go.Proofs.YthgpmpmnihijnaaDoor
set_option linter.unusedVariables false
set_option linter.unusedSimpArgs false
open Go.RowKit Go.Shelf

theorem u64_cells {w : World} {B : Nat} {u : Value} {l : List Nat} {n : Nat} (h : w.ownsRow B 38 1 u n (u64s l)) (hn : l.length = n) (h0 : 0 < n) : ∃ g cap, u = .slice (some ⟨g, 0, none⟩) n cap ∧ B ≤ g ∧ g < w.heap.size ∧ ∀ i (hi : i < l.length), w.cell? ⟨g, i, none⟩ = some (.int .u64 (l[i] : Int)) := by
  obtain ⟨g, cap, rfl, hg⟩ := own_shape1 h h0
  obtain ⟨ao, cap', e, hc⟩ := (own_sl h).is
  injection e with e1 _ _
  subst e1
  refine ⟨g, cap, rfl, hg, (own_block h rfl).2, fun i hi => ?_⟩
  obtain ⟨b, o, e2, hcell⟩ := hc i (.int .u64 (l[i] : Int)) (by simp [u64s, hi])
  injection e2 with e2
  injection e2 with e1 e2 _
  subst e1 e2
  rw [Nat.zero_add] at hcell
  exact hcell

set_option maxRecDepth 100000 in
set_option maxHeartbeats 4000000 in
theorem sOneIn (x0 x1 x2 x3 : ByteArray) (g off cap : Nat) (w : World) (h : Sl w (.slice (some ⟨g, off, none⟩) 4 cap) 4 1 (strs [x0, x1, x2, x3])) (hk : kd (bl x0) = (1, 3)) (hcap : 4 ≤ cap) (hcm : cap ≤ 9223372036854775807) (hx1 : x1.size ≤ 1000000) (hx2 : x2.size ≤ 1000000) (hx3 : x3.size ≤ 1000000) :
    Calls Tryd.prog 14 #[.slice (some ⟨g, off, none⟩) 4 cap] w fun e w' => e = .returned (.tuple #[.agg (enO (oneL ([x0, x1, x2, x3].map bl)).1).toArray, .int .i64 (oneL ([x0, x1, x2, x3].map bl)).2]) ∧ Kp none' w w' := by
  obtain ⟨w0, hw0⟩ : ∃ w0, w.alloc (.cells (enO z5).toArray 40) = w0 := ⟨_, rfl⟩
  have hWX : w.alloc (.cells #[.int .i64 0, .int .u32 0, .int .u32 0, .int .u64 0, .int .u64 0] 40) = w0 := hw0
  have HB : Hid (Blk w0 w.heap.size (enO z5) 40) := by rw [← hw0]; exact Blk.new w _ _
  have HK0 : Hid (Kp none' w w0) := by show Kp none' w w0; rw [← hw0]; exact (Kp.refl _ _).alloc _
  have HW := Lib.hid hWX
  have hbs : w.heap.size < w0.heap.size := HB.out.lt
  obtain ⟨ao, cap', e, hc⟩ := h.is
  injection e with e1 _ e3
  subst e1 e3
  obtain ⟨b, o, e2, hcell⟩ := hc 0 _ rfl
  injection e2 with e2
  injection e2 with e1 e2 _
  subst e1 e2
  rw [Nat.add_zero] at hcell
  have hcell1 : (w.alloc (.cells #[.int .i64 0, .int .u32 0, .int .u32 0, .int .u64 0, .int .u64 0] 40)).cell? ⟨g, off, none⟩ = some (.string x0) := by rw [hWX]; exact HK0.out.cell hcell id
  have hKD := fun W => sKind x0 W
  rw [hk] at hKD
  simp only at hKD
  have HKD := Lib.hid hKD
  have HNUM := Lib.hid (fun c => sNumbers [x1, x2, x3] (.slice (some ⟨g, off + 1, none⟩) 3 c) 2 w0 (tl_sl (x := x0) (r := [x1, x2, x3]) (h.old HK0.out) c) (by simp; exact ⟨hx1, hx2, hx3⟩) (by simp))
  have HONE := oneO z5
  obtain ⟨es0, hes⟩ : ∃ e, es 2 0 ([x1, x2, x3].map bl) = e := ⟨_, rfl⟩
  have HES := Lib.hid hes
  rw [hes] at HNUM
  have hlen : ¬ ((1 : Int) < 0 ∨ ([x0, x1, x2, x3].map bl).length ≠ 3 + 1) := by simp
  have HERR := Lib.hid (fun (h : es0 ≠ 0) => oneL_err (l := [x0, x1, x2, x3].map bl) (k := 1) (m := 3) hk hlen hes h)
  obtain ⟨n1, hn1⟩ : ∃ n, (rdU (bl x1)).1 = n := ⟨_, rfl⟩
  have hb1 := rdU_lt (bl x1)
  rw [hn1] at hb1
  obtain ⟨n2, hn2⟩ : ∃ n, (rdU (bl x2)).1 = n := ⟨_, rfl⟩
  have hb2 := rdU_lt (bl x2)
  rw [hn2] at hb2
  obtain ⟨n3, hn3⟩ : ∃ n, (rdU (bl x3)).1 = n := ⟨_, rfl⟩
  have hb3 := rdU_lt (bl x3)
  rw [hn3] at hb3
  have hvals : vals ([x1, x2, x3].map bl) = [n1, n2, n3] := by simp [vals, hn1, hn2, hn3]
  rw [hvals] at HNUM
  have HLT := Lib.hid (fun (h : es0 = 0) => (show n1 < 4294967296 ∧ n2 < 4294967296 by
    rw [h] at hes
    have q1 := es_cons hes
    have q2 := es_cons q1.2
    rw [← hn1, ← hn2]
    exact ⟨e1_lt q1.1 (by decide), e1_lt q2.1 (by decide)⟩))
  obtain ⟨b, hb⟩ : ∃ b, opR (⟨1, n1, n2, n3, 0⟩ : OpR) = b := ⟨_, rfl⟩
  have HOK := Lib.hid (fun (h : es0 = 0) => oneL_ok (l := [x0, x1, x2, x3].map bl) (k := 1) (m := 3) (x := ⟨1, n1, n2, n3, 0⟩) (b := b) hk hlen (hes.trans h) (by rw [tl_map, hvals]; rfl) hb)
  have hRT := fun W => oRight (⟨1, n1, n2, n3, 0⟩ : OpR) W
  rw [hb] at hRT
  have HRT := Lib.hid hRT
  have hone2 := oneO (⟨1, n1, n2, n3, 0⟩ : OpR)
  clear h hc hw0 hWX hKD hes hlen hvals hb hRT hn1 hn2 hn3
  go_enter Tryd.func14, Tryd.ntmps14
  go_wp2_with fail
  rw [HW.out]
  refine (HKD.out w0).mono ?_
  rintro e w1 ⟨rfl, rfl⟩
  go_wp2_with fail
  refine (HNUM.out _).mono ?_
  rintro e w2 ⟨k2, ⟨he, rfl⟩ | ⟨rfl, u, rfl, hown⟩⟩
  · have hb2 : (es0 != 0) = true := by simpa using he
    have HE := Lib.hid (HERR.out he)
    have HB2 := Lib.hid (HB.out.kp k2 id)
    have HK2 := Lib.hid (HK0.out.trans k2)
    clear k2 he HERR HOK hone2
    go_wp2_with (first
      | (refine wp_set_row rfl 40 (.tmp 2) (.tmp 38) rfl HB2.out (enO z5) rfl rfl infoO rfl HONE ?_
         intro W2 hB2 hO2 hK2
         have HB3 := Lib.hid hB2
         have HK3 := Lib.hid (hK2 _ _ HK2.out (.inr (Nat.le_refl _)))
         clear hB2 hO2 hK2))
    refine ret_row2 rfl HB3.out _ Tryd.underlying40 rfl infoO rfl ⟨?_, HK3.out⟩
    rw [HE.out]; rfl
  · have hok := HOK.out rfl
    have HO := Lib.hid hok
    have HB2 := Lib.hid (HB.out.kp k2 id)
    have HK2 := Lib.hid (HK0.out.trans k2)
    have hz2 := k2.size
    obtain ⟨gu, capu, rfl, hgu, hgl, hcu⟩ := u64_cells hown rfl (by simp)
    have q1 := hcu 0 (by simp)
    have q2 := hcu 1 (by simp)
    have q3 := hcu 2 (by simp)
    simp only [List.getElem_cons_zero, List.getElem_cons_succ] at q1 q2 q3
    clear hcu
    obtain ⟨hl1, hl2⟩ := HLT.out rfl
    have hw1 := wrap32 n1 hl1
    have hw2 := wrap32 n2 hl2
    clear HLT
    clear k2 hok HERR HOK hown
    obtain ⟨w3, hw3⟩ : ∃ w3, w2.alloc (.cells #[.int .i64 1, .int .u32 0, .int .u32 0, .int .u64 0, .int .u64 0] 40) = w3 := ⟨_, rfl⟩
    have HW3 := Lib.hid hw3
    have HK3 : Hid (Kp none' w w3) := by show Kp none' w w3; rw [← hw3]; exact HK2.out.alloc _
    have HB3 : Hid (Blk w3 w.heap.size (enO z5) 40) := by rw [← hw3]; exact HB2.out.alloc _
    have HX3 : Hid (Blk w3 w2.heap.size [.int .i64 1, .int .u32 0, .int .u32 0, .int .u64 0, .int .u64 0] 40) := by rw [← hw3]; exact Blk.new w2 _ _
    have hlt3 := HX3.out.lt
    have hlw := HB.out.lt
    replace q1 : w3.cell? ⟨gu, 0, none⟩ = some (.int .u64 n1) := by rw [← hw3]; exact ((Kp.refl none' w2).alloc _).cell q1 id
    replace q2 : w3.cell? ⟨gu, 1, none⟩ = some (.int .u64 n2) := by rw [← hw3]; exact ((Kp.refl none' w2).alloc _).cell q2 id
    replace q3 : w3.cell? ⟨gu, 2, none⟩ = some (.int .u64 n3) := by rw [← hw3]; exact ((Kp.refl none' w2).alloc _).cell q3 id
    clear hw3
    go_wp2_with fail
    rw [HW3.out]
    have x0 := HX3.out.cell 0 rfl
    have x1' := HX3.out.cell 1 rfl
    have x2' := HX3.out.cell 2 rfl
    have x3' := HX3.out.cell 3 rfl
    have x4' := HX3.out.cell 4 rfl
    have z1 := HX3.out.fz 1
    have z2 := HX3.out.fz 2
    have z3 := HX3.out.fz 3
    have hgne : gu ≠ w2.heap.size := by omega
    have hgne2 : w2.heap.size ≠ gu := by omega
    go_region_held3 (fun w' => w'.cell? ⟨gu, 0, none⟩ = some (.int .u64 n1) ∧ w'.cell? ⟨gu, 1, none⟩ = some (.int .u64 n2) ∧ w'.cell? ⟨gu, 2, none⟩ = some (.int .u64 n3)) (go_keep) (fail)
    have hwl : w.heap.size ≤ w2.heap.size := by omega
    have hx4 : Blk ((((w3.setCell ⟨w2.heap.size, 1, none⟩ (.int .u32 n1)).setCell ⟨w2.heap.size, 2, none⟩ (.int .u32 n2)).setCell ⟨w2.heap.size, 3, none⟩ (.int .u64 n3)).drew) w2.heap.size (enO ⟨1, n1, n2, n3, 0⟩) 40 := Blk.mk (((HX3.out.set 1 (.int .u32 n1)).set 2 (.int .u32 n2)).set 3 (.int .u64 n3)).is
    have hb4 : Blk ((((w3.setCell ⟨w2.heap.size, 1, none⟩ (.int .u32 n1)).setCell ⟨w2.heap.size, 2, none⟩ (.int .u32 n2)).setCell ⟨w2.heap.size, 3, none⟩ (.int .u64 n3)).drew) w.heap.size (enO z5) 40 := Blk.mk (((HB3.out.setNe (a := ⟨w2.heap.size, 1, none⟩) (by show w.heap.size ≠ w2.heap.size; omega) (.int .u32 n1)).setNe (a := ⟨w2.heap.size, 2, none⟩) (by show w.heap.size ≠ w2.heap.size; omega) (.int .u32 n2)).setNe (a := ⟨w2.heap.size, 3, none⟩) (by show w.heap.size ≠ w2.heap.size; omega) (.int .u64 n3)).is
    have hk4 : Kp none' w ((((w3.setCell ⟨w2.heap.size, 1, none⟩ (.int .u32 n1)).setCell ⟨w2.heap.size, 2, none⟩ (.int .u32 n2)).setCell ⟨w2.heap.size, 3, none⟩ (.int .u64 n3)).drew) := (((HK3.out.set (p := ⟨w2.heap.size, 1, none⟩) (.inr hwl) (.int .u32 n1)).set (p := ⟨w2.heap.size, 2, none⟩) (.inr hwl) (.int .u32 n2)).set (p := ⟨w2.heap.size, 3, none⟩) (.inr hwl) (.int .u64 n3)).drew
    have HX4 := Lib.hid hx4; have HB4 := Lib.hid hb4; have HK4 := Lib.hid hk4
    have y0 := hx4.cell 0 rfl
    have y1 := hx4.cell 1 rfl
    have y2 := hx4.cell 2 rfl
    have y3 := hx4.cell 3 rfl
    have y4 := hx4.cell 4 rfl
    clear hx4 hb4 hk4
    go_wp2_with fail
    refine (HRT.out _).mono ?_
    rintro e w5 ⟨rfl, k5⟩
    have HX5 := Lib.hid (HX4.out.kp k5 id)
    have HB5 := Lib.hid (HB4.out.kp k5 id)
    have HK5 := Lib.hid (HK4.out.trans k5)
    clear k5
    cases b with
    | false =>
      go_wp2_with (first
        | (refine wp_set_row rfl 40 (.tmp 2) (.tmp 74) rfl HB5.out (enO z5) rfl rfl infoO rfl HONE ?_
           intro W2 hB2 hO2 hK2
           have HB6 := Lib.hid hB2
           have HK6 := Lib.hid (hK2 _ _ HK5.out (.inr (Nat.le_refl _)))
           clear hB2 hO2 hK2))
      refine ret_row2 rfl HB6.out _ Tryd.underlying40 rfl infoO rfl ⟨?_, HK6.out⟩
      rw [HO.out]; rfl
    | true =>
      go_wp2_with (first
        | (refine wp_get_row rfl 40 (.tmp 9) rfl HX5.out _ rfl Tryd.underlying40 rfl infoO ?_)
        | (refine wp_set_row rfl 40 (.tmp 2) (.tmp 75) rfl HB5.out (enO ⟨1, n1, n2, n3, 0⟩) rfl rfl infoO rfl hone2 ?_
           intro W2 hB2 hO2 hK2
           have HB6 := Lib.hid hB2
           have HK6 := Lib.hid (hK2 _ _ HK5.out (.inr (Nat.le_refl _)))
           clear hB2 hO2 hK2))
      refine ret_row2 rfl HB6.out _ Tryd.underlying40 rfl infoO rfl ⟨?_, HK6.out⟩
      rw [HO.out]; rfl

set_option maxRecDepth 100000 in
set_option maxHeartbeats 4000000 in
theorem sOneOut (x0 : ByteArray) (g off cap : Nat) (w : World) (h : Sl w (.slice (some ⟨g, off, none⟩) 1 cap) 1 1 (strs [x0])) (hk : kd (bl x0) = (2, 0)) (hcap : 1 ≤ cap) (hcm : cap ≤ 9223372036854775807)  :
    Calls Tryd.prog 14 #[.slice (some ⟨g, off, none⟩) 1 cap] w fun e w' => e = .returned (.tuple #[.agg (enO (oneL ([x0].map bl)).1).toArray, .int .i64 (oneL ([x0].map bl)).2]) ∧ Kp none' w w' := by
  obtain ⟨w0, hw0⟩ : ∃ w0, w.alloc (.cells (enO z5).toArray 40) = w0 := ⟨_, rfl⟩
  have hWX : w.alloc (.cells #[.int .i64 0, .int .u32 0, .int .u32 0, .int .u64 0, .int .u64 0] 40) = w0 := hw0
  have HB : Hid (Blk w0 w.heap.size (enO z5) 40) := by rw [← hw0]; exact Blk.new w _ _
  have HK0 : Hid (Kp none' w w0) := by show Kp none' w w0; rw [← hw0]; exact (Kp.refl _ _).alloc _
  have HW := Lib.hid hWX
  have hbs : w.heap.size < w0.heap.size := HB.out.lt
  obtain ⟨ao, cap', e, hc⟩ := h.is
  injection e with e1 _ e3
  subst e1 e3
  obtain ⟨b, o, e2, hcell⟩ := hc 0 _ rfl
  injection e2 with e2
  injection e2 with e1 e2 _
  subst e1 e2
  rw [Nat.add_zero] at hcell
  have hcell1 : (w.alloc (.cells #[.int .i64 0, .int .u32 0, .int .u32 0, .int .u64 0, .int .u64 0] 40)).cell? ⟨g, off, none⟩ = some (.string x0) := by rw [hWX]; exact HK0.out.cell hcell id
  have hKD := fun W => sKind x0 W
  rw [hk] at hKD
  simp only at hKD
  have HKD := Lib.hid hKD
  have HNUM := Lib.hid (fun (ao : Option Addr) c => sNumbers [] (.slice ao 0 c) 0 w0 ⟨rfl, by decide, ao, c, rfl, fun i u hu => by simp [strs] at hu⟩ (by simp) (by simp))
  have HONE := oneO z5
  obtain ⟨es0, hes⟩ : ∃ e, es 0 0 ([].map bl) = e := ⟨_, rfl⟩
  have HES := Lib.hid hes
  rw [hes] at HNUM
  have hlen : ¬ ((2 : Int) < 0 ∨ ([x0].map bl).length ≠ 0 + 1) := by simp
  have HERR := Lib.hid (fun (h : es0 ≠ 0) => oneL_err (l := [x0].map bl) (k := 2) (m := 0) hk hlen hes h)
  have hvals : vals ([].map bl) = [] := by simp [vals]
  rw [hvals] at HNUM
  obtain ⟨b, hb⟩ : ∃ b, opR (⟨2, 0, 0, 0, 0⟩ : OpR) = b := ⟨_, rfl⟩
  have HOK := Lib.hid (fun (h : es0 = 0) => oneL_ok (l := [x0].map bl) (k := 2) (m := 0) (x := ⟨2, 0, 0, 0, 0⟩) (b := b) hk hlen (hes.trans h) (by rw [tl_map, hvals]; rfl) hb)
  have hRT := fun W => oRight (⟨2, 0, 0, 0, 0⟩ : OpR) W
  rw [hb] at hRT
  have HRT := Lib.hid hRT
  have hone2 := oneO (⟨2, 0, 0, 0, 0⟩ : OpR)
  clear h hc hw0 hWX hKD hes hlen hvals hb hRT 
  by_cases hc1 : cap = 1
  all_goals
    go_enter Tryd.func14, Tryd.ntmps14
    go_wp2_with fail
    rw [HW.out]
    refine (HKD.out w0).mono ?_
    rintro e w1 ⟨rfl, rfl⟩
    go_wp2_with fail
    refine (HNUM.out _ _).mono ?_
    rintro e w2 ⟨k2, ⟨he, rfl⟩ | ⟨rfl, u, rfl, hown⟩⟩
    · have hb2 : (es0 != 0) = true := by simpa using he
      have HE := Lib.hid (HERR.out he)
      have HB2 := Lib.hid (HB.out.kp k2 id)
      have HK2 := Lib.hid (HK0.out.trans k2)
      clear k2 he HERR HOK hone2
      go_wp2_with (first
        | (refine wp_set_row rfl 40 (.tmp 2) (.tmp 38) rfl HB2.out (enO z5) rfl rfl infoO rfl HONE ?_
           intro W2 hB2 hO2 hK2
           have HB3 := Lib.hid hB2
           have HK3 := Lib.hid (hK2 _ _ HK2.out (.inr (Nat.le_refl _)))
           clear hB2 hO2 hK2))
      refine ret_row2 rfl HB3.out _ Tryd.underlying40 rfl infoO rfl ⟨?_, HK3.out⟩
      rw [HE.out]; rfl
    · have hok := HOK.out rfl
      have HO := Lib.hid hok
      have HB2 := Lib.hid (HB.out.kp k2 id)
      have HK2 := Lib.hid (HK0.out.trans k2)
      have hz2 := k2.size
      clear k2 hok HERR HOK hown
      have HX4 := Lib.hid (Blk.new w2 (enO ⟨2, 0, 0, 0, 0⟩) 40)
      have HB4 := Lib.hid (HB2.out.alloc (.cells (enO ⟨2, 0, 0, 0, 0⟩).toArray 40))
      have HK4 := Lib.hid (HK2.out.alloc (.cells (enO ⟨2, 0, 0, 0, 0⟩).toArray 40))
      go_wp2_with fail
      refine (HRT.out _).mono ?_
      rintro e w5 ⟨rfl, k5⟩
      have HX5 := Lib.hid (HX4.out.kp k5 id)
      have HB5 := Lib.hid (HB4.out.kp k5 id)
      have HK5 := Lib.hid (HK4.out.trans k5)
      clear k5
      cases b with
      | false =>
        go_wp2_with (first
          | (refine wp_set_row rfl 40 (.tmp 2) (.tmp 74) rfl HB5.out (enO z5) rfl rfl infoO rfl HONE ?_
             intro W2 hB2 hO2 hK2
             have HB6 := Lib.hid hB2
             have HK6 := Lib.hid (hK2 _ _ HK5.out (.inr (Nat.le_refl _)))
             clear hB2 hO2 hK2))
        refine ret_row2 rfl HB6.out _ Tryd.underlying40 rfl infoO rfl ⟨?_, HK6.out⟩
        rw [HO.out]; rfl
      | true =>
        go_wp2_with (first
          | (refine wp_get_row rfl 40 (.tmp 9) rfl HX5.out _ rfl Tryd.underlying40 rfl infoO ?_)
          | (refine wp_set_row rfl 40 (.tmp 2) (.tmp 75) rfl HB5.out (enO ⟨2, 0, 0, 0, 0⟩) rfl rfl infoO rfl hone2 ?_
             intro W2 hB2 hO2 hK2
             have HB6 := Lib.hid hB2
             have HK6 := Lib.hid (hK2 _ _ HK5.out (.inr (Nat.le_refl _)))
             clear hB2 hO2 hK2))
        refine ret_row2 rfl HB6.out _ Tryd.underlying40 rfl infoO rfl ⟨?_, HK6.out⟩
        rw [HO.out]; rfl

set_option maxRecDepth 100000 in
set_option maxHeartbeats 4000000 in
theorem sOneTick (x0 x1 : ByteArray) (g off cap : Nat) (w : World) (h : Sl w (.slice (some ⟨g, off, none⟩) 2 cap) 2 1 (strs [x0, x1])) (hk : kd (bl x0) = (3, 1)) (hcap : 2 ≤ cap) (hcm : cap ≤ 9223372036854775807) (hx1 : x1.size ≤ 1000000) :
    Calls Tryd.prog 14 #[.slice (some ⟨g, off, none⟩) 2 cap] w fun e w' => e = .returned (.tuple #[.agg (enO (oneL ([x0, x1].map bl)).1).toArray, .int .i64 (oneL ([x0, x1].map bl)).2]) ∧ Kp none' w w' := by
  obtain ⟨w0, hw0⟩ : ∃ w0, w.alloc (.cells (enO z5).toArray 40) = w0 := ⟨_, rfl⟩
  have hWX : w.alloc (.cells #[.int .i64 0, .int .u32 0, .int .u32 0, .int .u64 0, .int .u64 0] 40) = w0 := hw0
  have HB : Hid (Blk w0 w.heap.size (enO z5) 40) := by rw [← hw0]; exact Blk.new w _ _
  have HK0 : Hid (Kp none' w w0) := by show Kp none' w w0; rw [← hw0]; exact (Kp.refl _ _).alloc _
  have HW := Lib.hid hWX
  have hbs : w.heap.size < w0.heap.size := HB.out.lt
  obtain ⟨ao, cap', e, hc⟩ := h.is
  injection e with e1 _ e3
  subst e1 e3
  obtain ⟨b, o, e2, hcell⟩ := hc 0 _ rfl
  injection e2 with e2
  injection e2 with e1 e2 _
  subst e1 e2
  rw [Nat.add_zero] at hcell
  have hcell1 : (w.alloc (.cells #[.int .i64 0, .int .u32 0, .int .u32 0, .int .u64 0, .int .u64 0] 40)).cell? ⟨g, off, none⟩ = some (.string x0) := by rw [hWX]; exact HK0.out.cell hcell id
  have hKD := fun W => sKind x0 W
  rw [hk] at hKD
  simp only at hKD
  have HKD := Lib.hid hKD
  have HNUM := Lib.hid (fun c => sNumbers [x1] (.slice (some ⟨g, off + 1, none⟩) 1 c) 0 w0 (tl_sl (x := x0) (r := [x1]) (h.old HK0.out) c) (by simp; exact hx1) (by simp))
  have HONE := oneO z5
  obtain ⟨es0, hes⟩ : ∃ e, es 0 0 ([x1].map bl) = e := ⟨_, rfl⟩
  have HES := Lib.hid hes
  rw [hes] at HNUM
  have hlen : ¬ ((3 : Int) < 0 ∨ ([x0, x1].map bl).length ≠ 1 + 1) := by simp
  have HERR := Lib.hid (fun (h : es0 ≠ 0) => oneL_err (l := [x0, x1].map bl) (k := 3) (m := 1) hk hlen hes h)
  obtain ⟨n1, hn1⟩ : ∃ n, (rdU (bl x1)).1 = n := ⟨_, rfl⟩
  have hb1 := rdU_lt (bl x1)
  rw [hn1] at hb1
  have hvals : vals ([x1].map bl) = [n1] := by simp [vals, hn1]
  rw [hvals] at HNUM
  obtain ⟨b, hb⟩ : ∃ b, opR (⟨3, 0, 0, 0, n1⟩ : OpR) = b := ⟨_, rfl⟩
  have HOK := Lib.hid (fun (h : es0 = 0) => oneL_ok (l := [x0, x1].map bl) (k := 3) (m := 1) (x := ⟨3, 0, 0, 0, n1⟩) (b := b) hk hlen (hes.trans h) (by rw [tl_map, hvals]; rfl) hb)
  have hRT := fun W => oRight (⟨3, 0, 0, 0, n1⟩ : OpR) W
  rw [hb] at hRT
  have HRT := Lib.hid hRT
  have hone2 := oneO (⟨3, 0, 0, 0, n1⟩ : OpR)
  clear h hc hw0 hWX hKD hes hlen hvals hb hRT hn1
  go_enter Tryd.func14, Tryd.ntmps14
  go_wp2_with fail
  rw [HW.out]
  refine (HKD.out w0).mono ?_
  rintro e w1 ⟨rfl, rfl⟩
  go_wp2_with fail
  refine (HNUM.out _).mono ?_
  rintro e w2 ⟨k2, ⟨he, rfl⟩ | ⟨rfl, u, rfl, hown⟩⟩
  · have hb2 : (es0 != 0) = true := by simpa using he
    have HE := Lib.hid (HERR.out he)
    have HB2 := Lib.hid (HB.out.kp k2 id)
    have HK2 := Lib.hid (HK0.out.trans k2)
    clear k2 he HERR HOK hone2
    go_wp2_with (first
      | (refine wp_set_row rfl 40 (.tmp 2) (.tmp 38) rfl HB2.out (enO z5) rfl rfl infoO rfl HONE ?_
         intro W2 hB2 hO2 hK2
         have HB3 := Lib.hid hB2
         have HK3 := Lib.hid (hK2 _ _ HK2.out (.inr (Nat.le_refl _)))
         clear hB2 hO2 hK2))
    refine ret_row2 rfl HB3.out _ Tryd.underlying40 rfl infoO rfl ⟨?_, HK3.out⟩
    rw [HE.out]; rfl
  · have hok := HOK.out rfl
    have HO := Lib.hid hok
    have HB2 := Lib.hid (HB.out.kp k2 id)
    have HK2 := Lib.hid (HK0.out.trans k2)
    have hz2 := k2.size
    obtain ⟨gu, capu, rfl, hgu, hgl, hcu⟩ := u64_cells hown rfl (by simp)
    have q1 := hcu 0 (by simp)
    simp only [List.getElem_cons_zero, List.getElem_cons_succ] at q1
    clear hcu
    clear k2 hok HERR HOK hown
    have HX4 := Lib.hid (Blk.new w2 (enO ⟨3, 0, 0, 0, n1⟩) 40)
    have HB4 := Lib.hid (HB2.out.alloc (.cells (enO ⟨3, 0, 0, 0, n1⟩).toArray 40))
    have HK4 := Lib.hid (HK2.out.alloc (.cells (enO ⟨3, 0, 0, 0, n1⟩).toArray 40))
    go_wp2_with fail
    refine (HRT.out _).mono ?_
    rintro e w5 ⟨rfl, k5⟩
    have HX5 := Lib.hid (HX4.out.kp k5 id)
    have HB5 := Lib.hid (HB4.out.kp k5 id)
    have HK5 := Lib.hid (HK4.out.trans k5)
    clear k5
    cases b with
    | false =>
      go_wp2_with (first
        | (refine wp_set_row rfl 40 (.tmp 2) (.tmp 74) rfl HB5.out (enO z5) rfl rfl infoO rfl HONE ?_
           intro W2 hB2 hO2 hK2
           have HB6 := Lib.hid hB2
           have HK6 := Lib.hid (hK2 _ _ HK5.out (.inr (Nat.le_refl _)))
           clear hB2 hO2 hK2))
      refine ret_row2 rfl HB6.out _ Tryd.underlying40 rfl infoO rfl ⟨?_, HK6.out⟩
      rw [HO.out]; rfl
    | true =>
      go_wp2_with (first
        | (refine wp_get_row rfl 40 (.tmp 9) rfl HX5.out _ rfl Tryd.underlying40 rfl infoO ?_)
        | (refine wp_set_row rfl 40 (.tmp 2) (.tmp 75) rfl HB5.out (enO ⟨3, 0, 0, 0, n1⟩) rfl rfl infoO rfl hone2 ?_
           intro W2 hB2 hO2 hK2
           have HB6 := Lib.hid hB2
           have HK6 := Lib.hid (hK2 _ _ HK5.out (.inr (Nat.le_refl _)))
           clear hB2 hO2 hK2))
      refine ret_row2 rfl HB6.out _ Tryd.underlying40 rfl infoO rfl ⟨?_, HK6.out⟩
      rw [HO.out]; rfl

set_option maxRecDepth 100000 in
set_option maxHeartbeats 4000000 in
theorem sOneStats (x0 : ByteArray) (g off cap : Nat) (w : World) (h : Sl w (.slice (some ⟨g, off, none⟩) 1 cap) 1 1 (strs [x0])) (hk : kd (bl x0) = (4, 0)) (hcap : 1 ≤ cap) (hcm : cap ≤ 9223372036854775807)  :
    Calls Tryd.prog 14 #[.slice (some ⟨g, off, none⟩) 1 cap] w fun e w' => e = .returned (.tuple #[.agg (enO (oneL ([x0].map bl)).1).toArray, .int .i64 (oneL ([x0].map bl)).2]) ∧ Kp none' w w' := by
  obtain ⟨w0, hw0⟩ : ∃ w0, w.alloc (.cells (enO z5).toArray 40) = w0 := ⟨_, rfl⟩
  have hWX : w.alloc (.cells #[.int .i64 0, .int .u32 0, .int .u32 0, .int .u64 0, .int .u64 0] 40) = w0 := hw0
  have HB : Hid (Blk w0 w.heap.size (enO z5) 40) := by rw [← hw0]; exact Blk.new w _ _
  have HK0 : Hid (Kp none' w w0) := by show Kp none' w w0; rw [← hw0]; exact (Kp.refl _ _).alloc _
  have HW := Lib.hid hWX
  have hbs : w.heap.size < w0.heap.size := HB.out.lt
  obtain ⟨ao, cap', e, hc⟩ := h.is
  injection e with e1 _ e3
  subst e1 e3
  obtain ⟨b, o, e2, hcell⟩ := hc 0 _ rfl
  injection e2 with e2
  injection e2 with e1 e2 _
  subst e1 e2
  rw [Nat.add_zero] at hcell
  have hcell1 : (w.alloc (.cells #[.int .i64 0, .int .u32 0, .int .u32 0, .int .u64 0, .int .u64 0] 40)).cell? ⟨g, off, none⟩ = some (.string x0) := by rw [hWX]; exact HK0.out.cell hcell id
  have hKD := fun W => sKind x0 W
  rw [hk] at hKD
  simp only at hKD
  have HKD := Lib.hid hKD
  have HNUM := Lib.hid (fun (ao : Option Addr) c => sNumbers [] (.slice ao 0 c) 0 w0 ⟨rfl, by decide, ao, c, rfl, fun i u hu => by simp [strs] at hu⟩ (by simp) (by simp))
  have HONE := oneO z5
  obtain ⟨es0, hes⟩ : ∃ e, es 0 0 ([].map bl) = e := ⟨_, rfl⟩
  have HES := Lib.hid hes
  rw [hes] at HNUM
  have hlen : ¬ ((4 : Int) < 0 ∨ ([x0].map bl).length ≠ 0 + 1) := by simp
  have HERR := Lib.hid (fun (h : es0 ≠ 0) => oneL_err (l := [x0].map bl) (k := 4) (m := 0) hk hlen hes h)
  have hvals : vals ([].map bl) = [] := by simp [vals]
  rw [hvals] at HNUM
  obtain ⟨b, hb⟩ : ∃ b, opR (⟨4, 0, 0, 0, 0⟩ : OpR) = b := ⟨_, rfl⟩
  have HOK := Lib.hid (fun (h : es0 = 0) => oneL_ok (l := [x0].map bl) (k := 4) (m := 0) (x := ⟨4, 0, 0, 0, 0⟩) (b := b) hk hlen (hes.trans h) (by rw [tl_map, hvals]; rfl) hb)
  have hRT := fun W => oRight (⟨4, 0, 0, 0, 0⟩ : OpR) W
  rw [hb] at hRT
  have HRT := Lib.hid hRT
  have hone2 := oneO (⟨4, 0, 0, 0, 0⟩ : OpR)
  clear h hc hw0 hWX hKD hes hlen hvals hb hRT 
  by_cases hc1 : cap = 1
  all_goals
    go_enter Tryd.func14, Tryd.ntmps14
    go_wp2_with fail
    rw [HW.out]
    refine (HKD.out w0).mono ?_
    rintro e w1 ⟨rfl, rfl⟩
    go_wp2_with fail
    refine (HNUM.out _ _).mono ?_
    rintro e w2 ⟨k2, ⟨he, rfl⟩ | ⟨rfl, u, rfl, hown⟩⟩
    · have hb2 : (es0 != 0) = true := by simpa using he
      have HE := Lib.hid (HERR.out he)
      have HB2 := Lib.hid (HB.out.kp k2 id)
      have HK2 := Lib.hid (HK0.out.trans k2)
      clear k2 he HERR HOK hone2
      go_wp2_with (first
        | (refine wp_set_row rfl 40 (.tmp 2) (.tmp 38) rfl HB2.out (enO z5) rfl rfl infoO rfl HONE ?_
           intro W2 hB2 hO2 hK2
           have HB3 := Lib.hid hB2
           have HK3 := Lib.hid (hK2 _ _ HK2.out (.inr (Nat.le_refl _)))
           clear hB2 hO2 hK2))
      refine ret_row2 rfl HB3.out _ Tryd.underlying40 rfl infoO rfl ⟨?_, HK3.out⟩
      rw [HE.out]; rfl
    · have hok := HOK.out rfl
      have HO := Lib.hid hok
      have HB2 := Lib.hid (HB.out.kp k2 id)
      have HK2 := Lib.hid (HK0.out.trans k2)
      have hz2 := k2.size
      clear k2 hok HERR HOK hown
      have HX4 := Lib.hid (Blk.new w2 (enO ⟨4, 0, 0, 0, 0⟩) 40)
      have HB4 := Lib.hid (HB2.out.alloc (.cells (enO ⟨4, 0, 0, 0, 0⟩).toArray 40))
      have HK4 := Lib.hid (HK2.out.alloc (.cells (enO ⟨4, 0, 0, 0, 0⟩).toArray 40))
      go_wp2_with fail
      refine (HRT.out _).mono ?_
      rintro e w5 ⟨rfl, k5⟩
      have HX5 := Lib.hid (HX4.out.kp k5 id)
      have HB5 := Lib.hid (HB4.out.kp k5 id)
      have HK5 := Lib.hid (HK4.out.trans k5)
      clear k5
      cases b with
      | false =>
        go_wp2_with (first
          | (refine wp_set_row rfl 40 (.tmp 2) (.tmp 74) rfl HB5.out (enO z5) rfl rfl infoO rfl HONE ?_
             intro W2 hB2 hO2 hK2
             have HB6 := Lib.hid hB2
             have HK6 := Lib.hid (hK2 _ _ HK5.out (.inr (Nat.le_refl _)))
             clear hB2 hO2 hK2))
        refine ret_row2 rfl HB6.out _ Tryd.underlying40 rfl infoO rfl ⟨?_, HK6.out⟩
        rw [HO.out]; rfl
      | true =>
        go_wp2_with (first
          | (refine wp_get_row rfl 40 (.tmp 9) rfl HX5.out _ rfl Tryd.underlying40 rfl infoO ?_)
          | (refine wp_set_row rfl 40 (.tmp 2) (.tmp 75) rfl HB5.out (enO ⟨4, 0, 0, 0, 0⟩) rfl rfl infoO rfl hone2 ?_
             intro W2 hB2 hO2 hK2
             have HB6 := Lib.hid hB2
             have HK6 := Lib.hid (hK2 _ _ HK5.out (.inr (Nat.le_refl _)))
             clear hB2 hO2 hK2))
        refine ret_row2 rfl HB6.out _ Tryd.underlying40 rfl infoO rfl ⟨?_, HK6.out⟩
        rw [HO.out]; rfl

set_option maxRecDepth 100000 in
set_option maxHeartbeats 4000000 in
theorem sOneJunk (x0 x1 : ByteArray) (g off cap : Nat) (w : World) (h : Sl w (.slice (some ⟨g, off, none⟩) 2 cap) 2 1 (strs [x0, x1])) (hk : kd (bl x0) = (0, 1)) (hcap : 2 ≤ cap) (hcm : cap ≤ 9223372036854775807) (hx1 : x1.size ≤ 1000000) :
    Calls Tryd.prog 14 #[.slice (some ⟨g, off, none⟩) 2 cap] w fun e w' => e = .returned (.tuple #[.agg (enO (oneL ([x0, x1].map bl)).1).toArray, .int .i64 (oneL ([x0, x1].map bl)).2]) ∧ Kp none' w w' := by
  obtain ⟨w0, hw0⟩ : ∃ w0, w.alloc (.cells (enO z5).toArray 40) = w0 := ⟨_, rfl⟩
  have hWX : w.alloc (.cells #[.int .i64 0, .int .u32 0, .int .u32 0, .int .u64 0, .int .u64 0] 40) = w0 := hw0
  have HB : Hid (Blk w0 w.heap.size (enO z5) 40) := by rw [← hw0]; exact Blk.new w _ _
  have HK0 : Hid (Kp none' w w0) := by show Kp none' w w0; rw [← hw0]; exact (Kp.refl _ _).alloc _
  have HW := Lib.hid hWX
  have hbs : w.heap.size < w0.heap.size := HB.out.lt
  obtain ⟨ao, cap', e, hc⟩ := h.is
  injection e with e1 _ e3
  subst e1 e3
  obtain ⟨b, o, e2, hcell⟩ := hc 0 _ rfl
  injection e2 with e2
  injection e2 with e1 e2 _
  subst e1 e2
  rw [Nat.add_zero] at hcell
  have hcell1 : (w.alloc (.cells #[.int .i64 0, .int .u32 0, .int .u32 0, .int .u64 0, .int .u64 0] 40)).cell? ⟨g, off, none⟩ = some (.string x0) := by rw [hWX]; exact HK0.out.cell hcell id
  have hKD := fun W => sKind x0 W
  rw [hk] at hKD
  simp only at hKD
  have HKD := Lib.hid hKD
  have HNUM := Lib.hid (fun c => sNumbers [x1] (.slice (some ⟨g, off + 1, none⟩) 1 c) 0 w0 (tl_sl (x := x0) (r := [x1]) (h.old HK0.out) c) (by simp; exact hx1) (by simp))
  have HONE := oneO z5
  obtain ⟨es0, hes⟩ : ∃ e, es 0 0 ([x1].map bl) = e := ⟨_, rfl⟩
  have HES := Lib.hid hes
  rw [hes] at HNUM
  have hlen : ¬ ((0 : Int) < 0 ∨ ([x0, x1].map bl).length ≠ 1 + 1) := by simp
  have HERR := Lib.hid (fun (h : es0 ≠ 0) => oneL_err (l := [x0, x1].map bl) (k := 0) (m := 1) hk hlen hes h)
  obtain ⟨n1, hn1⟩ : ∃ n, (rdU (bl x1)).1 = n := ⟨_, rfl⟩
  have hb1 := rdU_lt (bl x1)
  rw [hn1] at hb1
  have hvals : vals ([x1].map bl) = [n1] := by simp [vals, hn1]
  rw [hvals] at HNUM
  obtain ⟨b, hb⟩ : ∃ b, opR (⟨0, 0, 0, n1, 0⟩ : OpR) = b := ⟨_, rfl⟩
  have HOK := Lib.hid (fun (h : es0 = 0) => oneL_ok (l := [x0, x1].map bl) (k := 0) (m := 1) (x := ⟨0, 0, 0, n1, 0⟩) (b := b) hk hlen (hes.trans h) (by rw [tl_map, hvals]; rfl) hb)
  have hRT := fun W => oRight (⟨0, 0, 0, n1, 0⟩ : OpR) W
  rw [hb] at hRT
  have HRT := Lib.hid hRT
  have hone2 := oneO (⟨0, 0, 0, n1, 0⟩ : OpR)
  clear h hc hw0 hWX hKD hes hlen hvals hb hRT hn1
  go_enter Tryd.func14, Tryd.ntmps14
  go_wp2_with fail
  rw [HW.out]
  refine (HKD.out w0).mono ?_
  rintro e w1 ⟨rfl, rfl⟩
  go_wp2_with fail
  refine (HNUM.out _).mono ?_
  rintro e w2 ⟨k2, ⟨he, rfl⟩ | ⟨rfl, u, rfl, hown⟩⟩
  · have hb2 : (es0 != 0) = true := by simpa using he
    have HE := Lib.hid (HERR.out he)
    have HB2 := Lib.hid (HB.out.kp k2 id)
    have HK2 := Lib.hid (HK0.out.trans k2)
    clear k2 he HERR HOK hone2
    go_wp2_with (first
      | (refine wp_set_row rfl 40 (.tmp 2) (.tmp 38) rfl HB2.out (enO z5) rfl rfl infoO rfl HONE ?_
         intro W2 hB2 hO2 hK2
         have HB3 := Lib.hid hB2
         have HK3 := Lib.hid (hK2 _ _ HK2.out (.inr (Nat.le_refl _)))
         clear hB2 hO2 hK2))
    refine ret_row2 rfl HB3.out _ Tryd.underlying40 rfl infoO rfl ⟨?_, HK3.out⟩
    rw [HE.out]; rfl
  · have hok := HOK.out rfl
    have HO := Lib.hid hok
    have HB2 := Lib.hid (HB.out.kp k2 id)
    have HK2 := Lib.hid (HK0.out.trans k2)
    have hz2 := k2.size
    obtain ⟨gu, capu, rfl, hgu, hgl, hcu⟩ := u64_cells hown rfl (by simp)
    have q1 := hcu 0 (by simp)
    simp only [List.getElem_cons_zero, List.getElem_cons_succ] at q1
    clear hcu
    clear k2 hok HERR HOK hown
    have HX4 := Lib.hid (Blk.new w2 (enO ⟨0, 0, 0, n1, 0⟩) 40)
    have HB4 := Lib.hid (HB2.out.alloc (.cells (enO ⟨0, 0, 0, n1, 0⟩).toArray 40))
    have HK4 := Lib.hid (HK2.out.alloc (.cells (enO ⟨0, 0, 0, n1, 0⟩).toArray 40))
    go_wp2_with fail
    refine (HRT.out _).mono ?_
    rintro e w5 ⟨rfl, k5⟩
    have HX5 := Lib.hid (HX4.out.kp k5 id)
    have HB5 := Lib.hid (HB4.out.kp k5 id)
    have HK5 := Lib.hid (HK4.out.trans k5)
    clear k5
    cases b with
    | false =>
      go_wp2_with (first
        | (refine wp_set_row rfl 40 (.tmp 2) (.tmp 74) rfl HB5.out (enO z5) rfl rfl infoO rfl HONE ?_
           intro W2 hB2 hO2 hK2
           have HB6 := Lib.hid hB2
           have HK6 := Lib.hid (hK2 _ _ HK5.out (.inr (Nat.le_refl _)))
           clear hB2 hO2 hK2))
      refine ret_row2 rfl HB6.out _ Tryd.underlying40 rfl infoO rfl ⟨?_, HK6.out⟩
      rw [HO.out]; rfl
    | true =>
      go_wp2_with (first
        | (refine wp_get_row rfl 40 (.tmp 9) rfl HX5.out _ rfl Tryd.underlying40 rfl infoO ?_)
        | (refine wp_set_row rfl 40 (.tmp 2) (.tmp 75) rfl HB5.out (enO ⟨0, 0, 0, n1, 0⟩) rfl rfl infoO rfl hone2 ?_
           intro W2 hB2 hO2 hK2
           have HB6 := Lib.hid hB2
           have HK6 := Lib.hid (hK2 _ _ HK5.out (.inr (Nat.le_refl _)))
           clear hB2 hO2 hK2))
      refine ret_row2 rfl HB6.out _ Tryd.underlying40 rfl infoO rfl ⟨?_, HK6.out⟩
      rw [HO.out]; rfl
end Go.Proofs.YthgpmpmnihijnaaDoor
