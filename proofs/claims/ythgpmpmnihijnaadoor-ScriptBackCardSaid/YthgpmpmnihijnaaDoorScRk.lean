/- Walks of layer 41: what a line's words say; the document's, kind by kind (printed by scr.py). -/
import Derived.Test.YthgpmpmnihijnaaDoorScOk
namespace Go.Proofs.YthgpmpmnihijnaaDoor
set_option linter.unusedVariables false
set_option linter.unusedSimpArgs false
open Go.RowKit Go.Shelf

theorem strs_tail (x : ByteArray) (r : List ByteArray) (j : Nat) (h : j < r.length) : (strs (x :: r))[j + 1]? = some (.string r[j]) := by simp [strs, h]

set_option maxRecDepth 100000 in
set_option maxHeartbeats 2000000 in
theorem rOneNo (x : ByteArray) (r : List ByteArray) (g off cap : Nat) (w : World) (h : Sl w (.slice (some ⟨g, off, none⟩) (r.length + 1) cap) (r.length + 1) 1 (strs (x :: r))) (k : Int) (m : Nat) (hk : kd (bl x) = (k, m)) (hno : k < 0 ∨ r.length ≠ m) (hrl : r.length < 1000000) (hm : m ≤ 3) :
    Calls Tryd.prog 17 #[.slice (some ⟨g, off, none⟩) (r.length + 1 : Nat) cap] w fun e w' => e = .returned (.tuple #[.agg (enO z5).toArray, .int .i64 31]) ∧ Kp none' w w' := by
  obtain ⟨w0, hw0⟩ : ∃ w0, (w.alloc (.cells (enO z5).toArray 40)).alloc (.cells #[.int .i64 1, .int .i64 3, .int .i64 0, .int .i64 1, .int .i64 0] 3) = w0 := ⟨_, rfl⟩
  have hWX : (w.alloc (.cells #[.int .i64 0, .int .u32 0, .int .u32 0, .int .u64 0, .int .u64 0] 40)).alloc (.cells #[.int .i64 1, .int .i64 3, .int .i64 0, .int .i64 1, .int .i64 0] 3) = w0 := hw0
  have HB : Hid (Blk w0 w.heap.size (enO z5) 40) := by rw [← hw0]; exact (Blk.new w _ _).alloc _
  have HM : Hid (Blk w0 (w.heap.size + 1) [.int .i64 1, .int .i64 3, .int .i64 0, .int .i64 1, .int .i64 0] 3) := by rw [← hw0]; have := Blk.new (w.alloc (.cells (enO z5).toArray 40)) [.int .i64 1, .int .i64 3, .int .i64 0, .int .i64 1, .int .i64 0] 3; exact Lib.hid (by simpa only [World.size_alloc] using this)
  have HK0 : Hid (Kp none' w w0) := by show Kp none' w w0; rw [← hw0]; exact ((Kp.refl _ _).alloc _).alloc _
  have HW := Lib.hid hWX
  obtain ⟨ao, cap', e, hc⟩ := h.is
  injection e with e1 _ e3
  subst e1 e3
  obtain ⟨b, o, e2, hcell⟩ := hc 0 _ rfl
  injection e2 with e2
  injection e2 with e1 e2 _
  subst e1 e2
  rw [Nat.add_zero] at hcell
  have hcell1 : ((w.alloc (.cells #[.int .i64 0, .int .u32 0, .int .u32 0, .int .u64 0, .int .u64 0] 40)).alloc (.cells #[.int .i64 1, .int .i64 3, .int .i64 0, .int .i64 1, .int .i64 0] 3)).cell? ⟨g, off, none⟩ = some (.string x) := by rw [hWX]; exact HK0.out.cell hcell id
  have hKD := fun W => rWhich x W
  rw [hk] at hKD
  simp only at hKD
  have HKD := Lib.hid hKD
  have HONE := oneO z5
  have KD := kd_cases (bl x)
  rw [hk] at KD
  clear h hc hw0 hWX hKD
  by_cases hk0 : k < 0
  · clear hno KD
    go_enter Tryd.func17, Tryd.ntmps17
    go_wp2_with fail
    rw [HW.out]
    refine (HKD.out w0).mono ?_
    rintro e w1 ⟨rfl, k1⟩
    have HB1 := Lib.hid (HB.out.kp k1 id)
    have HK1 := Lib.hid (HK0.out.trans k1)
    clear k1
    go_wp2_with (first
      | (refine wp_set_row rfl 40 (.tmp 2) (.tmp 28) rfl HB1.out (enO z5) rfl rfl infoO rfl HONE ?_
         intro W2 hB2 hO2 hK2
         have HB2 := Lib.hid hB2
         have HK2 := Lib.hid (hK2 _ _ HK1.out (.inr (Nat.le_refl _)))
         clear hB2 hO2 hK2))
    exact ret_row2 rfl HB2.out _ Tryd.underlying40 rfl infoO rfl ⟨rfl, HK2.out⟩
  · have hne : ((r.length : Int) + 1 != (m : Int) + 1) = true := by
      rw [bne_iff_ne]; rcases hno with h | h
      · exact absurd h hk0
      · omega
    have KC : (k = 1 ∧ m = 3) ∨ (k = 2 ∧ m = 0) ∨ (k = 3 ∧ m = 1) ∨ (k = 4 ∧ m = 0) ∨ (k = 0 ∧ m = 1) := by
      rcases KD with ⟨_, e⟩ | ⟨_, e⟩ | ⟨_, e⟩ | ⟨_, e⟩ | ⟨_, e⟩ | ⟨_, _, _, _, _, e⟩ <;> simp only [Prod.mk.injEq] at e <;> omega
    clear hno KD hk0
    rcases KC with ⟨rfl, rfl⟩ | ⟨rfl, rfl⟩ | ⟨rfl, rfl⟩ | ⟨rfl, rfl⟩ | ⟨rfl, rfl⟩
    all_goals
      go_enter Tryd.func17, Tryd.ntmps17
      go_wp2_with fail
      rw [HW.out]
      refine (HKD.out w0).mono ?_
      rintro e w1 ⟨rfl, k1⟩
      have HB1 := Lib.hid (HB.out.kp k1 id)
      have HK1 := Lib.hid (HK0.out.trans k1)
      have hm1 := HM.out.kp k1 id
      have m0 := hm1.cell 0 rfl
      have m1 := hm1.cell 1 rfl
      have m2 := hm1.cell 2 rfl
      have m3 := hm1.cell 3 rfl
      have m4 := hm1.cell 4 rfl
      clear k1 hm1
      go_wp2_with (first
        | (refine wp_set_row rfl 40 (.tmp 2) (.tmp 28) rfl HB1.out (enO z5) rfl rfl infoO rfl HONE ?_
           intro W2 hB2 hO2 hK2
           have HB2 := Lib.hid hB2
           have HK2 := Lib.hid (hK2 _ _ HK1.out (.inr (Nat.le_refl _)))
           clear hB2 hO2 hK2))
      exact ret_row2 rfl HB2.out _ Tryd.underlying40 rfl infoO rfl ⟨rfl, HK2.out⟩

set_option maxRecDepth 100000 in
set_option maxHeartbeats 4000000 in
theorem rOneIn (x0 x1 x2 x3 : ByteArray) (g off cap : Nat) (w : World) (h : Sl w (.slice (some ⟨g, off, none⟩) 4 cap) 4 1 (strs [x0, x1, x2, x3])) (hk : kd (bl x0) = (1, 3)) (hx1 : x1.size ≤ 1000000) (hx2 : x2.size ≤ 1000000) (hx3 : x3.size ≤ 1000000) :
    Calls Tryd.prog 17 #[.slice (some ⟨g, off, none⟩) 4 cap] w fun e w' => e = .returned (.tuple #[.agg (enO (oneL ([x0, x1, x2, x3].map bl)).1).toArray, .int .i64 (oneL ([x0, x1, x2, x3].map bl)).2]) ∧ Kp none' w w' := by
  obtain ⟨w0, hw0⟩ : ∃ w0, (w.alloc (.cells (enO z5).toArray 40)).alloc (.cells #[.int .i64 1, .int .i64 3, .int .i64 0, .int .i64 1, .int .i64 0] 3) = w0 := ⟨_, rfl⟩
  have hWX : (w.alloc (.cells #[.int .i64 0, .int .u32 0, .int .u32 0, .int .u64 0, .int .u64 0] 40)).alloc (.cells #[.int .i64 1, .int .i64 3, .int .i64 0, .int .i64 1, .int .i64 0] 3) = w0 := hw0
  have HB : Hid (Blk w0 w.heap.size (enO z5) 40) := by rw [← hw0]; exact (Blk.new w _ _).alloc _
  have HM : Hid (Blk w0 (w.heap.size + 1) [.int .i64 1, .int .i64 3, .int .i64 0, .int .i64 1, .int .i64 0] 3) := by rw [← hw0]; have := Blk.new (w.alloc (.cells (enO z5).toArray 40)) [.int .i64 1, .int .i64 3, .int .i64 0, .int .i64 1, .int .i64 0] 3; exact Lib.hid (by simpa only [World.size_alloc] using this)
  have HK0 : Hid (Kp none' w w0) := by show Kp none' w w0; rw [← hw0]; exact ((Kp.refl _ _).alloc _).alloc _
  have HW := Lib.hid hWX
  have HSL := Lib.hid h
  obtain ⟨ao, cap', e, hc⟩ := h.is
  injection e with e1 _ e3
  subst e1 e3
  obtain ⟨b, o, e2, hcell⟩ := hc 0 _ rfl
  injection e2 with e2
  injection e2 with e1 e2 _
  subst e1 e2
  rw [Nat.add_zero] at hcell
  have hcell1 : ((w.alloc (.cells #[.int .i64 0, .int .u32 0, .int .u32 0, .int .u64 0, .int .u64 0] 40)).alloc (.cells #[.int .i64 1, .int .i64 3, .int .i64 0, .int .i64 1, .int .i64 0] 3)).cell? ⟨g, off, none⟩ = some (.string x0) := by rw [hWX]; exact HK0.out.cell hcell id
  have hKD := fun W => rWhich x0 W
  rw [hk] at hKD
  simp only at hKD
  have HKD := Lib.hid hKD
  have HONE := oneO z5
  have HSZ : Hid (∀ x ∈ ([x1, x2, x3] : List ByteArray), x.size ≤ 1000000) := by show ∀ x ∈ ([x1, x2, x3] : List ByteArray), x.size ≤ 1000000; simp; exact ⟨hx1, hx2, hx3⟩
  obtain ⟨T, hT⟩ : ∃ T, T = ([x1, x2, x3] : List ByteArray) := ⟨_, rfl⟩
  have hTl : T.length = 3 := by rw [hT]; rfl
  have HT := Lib.hid hT
  have HTL := Lib.hid hTl
  rw [← hT] at HSZ
  have hlen : ¬ ((1 : Int) < 0 ∨ ([x0, x1, x2, x3].map bl).length ≠ 3 + 1) := by simp
  have hKK := Lib.hid hk
  have hLL := Lib.hid hlen
  clear h hc hw0 hWX hKD hk hlen hT
  go_enter Tryd.func17, Tryd.ntmps17
  go_wp2_with fail
  rw [HW.out]
  refine (HKD.out w0).mono ?_
  rintro e wX ⟨rfl, k1⟩
  have HB1 := Lib.hid (HB.out.kp k1 id)
  have HK1 := Lib.hid (HK0.out.trans k1)
  have hm1 := HM.out.kp k1 id
  have m1 := hm1.cell 1 rfl
  have hzX := HK1.out.size
  have hltB := HB1.out.lt
  clear k1 hm1 hcell hcell1
  go_wp2_with fail
  go_loopw [6, 7] (fun u i0 wr => ∃ i : Nat, i0 = .int .i64 i ∧ 1 ≤ i ∧ i ≤ 4 ∧ Hid (NumI T 2 wX.heap.size wX wr u (i - 1))) (fun _ i0 _ => 4 - (intOf i0).toNat)
  case atStart => exact ⟨1, rfl, by omega, by omega, ⟨fun i _ hi => by omega, World.ownsRow_nil _ _ _ _, Kp.refl _ _⟩⟩
  case round =>
    obtain ⟨i, rfl, hi1, hi2, hr⟩ := hrel
    obtain ⟨j, hj⟩ : ∃ j, i - 1 = j := ⟨_, rfl⟩
    rw [hj] at hr
    have HJ : Hid (i = j + 1) := by show _ = _; omega
    clear hj
    obtain ⟨uo, ucap, rfl⟩ := own_shape hr.out.own
    have HB2 := Lib.hid (HB1.out.kp hr.out.kp id)
    have HKr := Lib.hid (HK1.out.trans hr.out.kp)
    have hltr := HB2.out.lt
    have hlwz := HKr.out.size
    by_cases hlt : i < 4
    · have hjT : j < T.length := by have := HJ.out; omega
      have hji : (i : Int) < 4 := by omega
      obtain ⟨x, hx⟩ : ∃ x, T[j] = x := ⟨_, rfl⟩
      have hxs : x.size ≤ 1000000 := HSZ.out x (by rw [← hx]; exact List.getElem_mem hjT)
      obtain ⟨ao', cap'', e, hc⟩ := (HSL.out.old HKr.out).is
      injection e with e1 _ e3
      subst e1 e3
      obtain ⟨b', o', e2, hcj⟩ := hc i (.string x) (by rw [← hx, ← HT.out, HJ.out]; exact strs_tail x0 T j hjT)
      injection e2 with e2
      injection e2 with e1 e2 _
      subst e1 e2
      obtain ⟨⟨n, e⟩, hne⟩ : ∃ p, rdU (bl x) = p := ⟨_, rfl⟩
      have hRD := fun W => rReadUnit x W hxs
      simp only [hne] at hRD
      have HRD := Lib.hid hRD
      have HNn : Hid ((rdU (bl T[j])).1 = n) := by show _ = _; rw [hx, hne]
      have hsz := hr.out.kp.size
      clear hc HSZ
      by_cases he : e = 0
      · subst he
        by_cases hs : j < 2
        · have hsi : (i : Int) < 3 := by have := HJ.out; omega
          by_cases hb : 4294967296 ≤ n
          · have hbd : decide ((n : Int) > 4294967295) = true := decide_eq_true (by omega)
            have hB := hr.out.bad hjT (e := 5) (by rw [hx]; exact e1_over hne hs hb) (by decide)
            rw [HT.out] at hB
            have HE := Lib.hid (oneL_err (l := [x0, x1, x2, x3].map bl) (k := 1) (m := 3) hKK.out hLL.out hB (by decide))
            clear hx hne hRD hs hb hB hTl
            go_wp2_with fail
            refine (HRD.out wr).mono ?_
            rintro e2 w2 ⟨rfl, rfl⟩
            go_wp2_with (first
              | (refine wp_set_row rfl 40 (.tmp 2) (.tmp 57) rfl HB2.out (enO z5) rfl rfl infoO rfl HONE ?_
                 intro W2 hB2 hO2 hK2
                 have HB3 := Lib.hid hB2
                 have HK3 := Lib.hid (hK2 _ _ HKr.out (.inr (Nat.le_refl _)))
                 clear hB2 hO2 hK2))
            refine ret_row2 rfl HB3.out _ Tryd.underlying40 rfl infoO rfl ⟨?_, HK3.out⟩
            rw [HE.out]; rfl
          · have hbd : decide ((n : Int) > 4294967295) = false := decide_eq_false (by omega)
            have HE0 : Hid (e1 2 j (bl T[j]) = 0) := by show _ = _; rw [hx]; exact e1_ok hne (fun h => hb h.2)
            clear hx hne hRD hs hb
            go_wp2_with fail
            refine (HRD.out wr).mono ?_
            rintro e2 w2 ⟨rfl, rfl⟩
            go_wp2_with (at_builtin; refine wp_app1 tU64 (.tmp 58) (.tmp 60) rfl rfl wX.heap.size (hr.out.own.alloc _) [.int .u64 n] rfl rfl rfl (heap_new _ _) rfl (by have := HJ.out; omega) (by have := HJ.out; omega) (by simp; omega) ?_)
            intro g1 cap1 w1 hown1 hgrow
            have HK5 : Hid (Kp none' wX w1) := (hr.out.kp.alloc _).grown hgrow (fun b e => .inr (own_block hr.out.own e).1)
            have HN := Lib.hid (hr.out.next hjT HNn.out HE0.out hown1 HK5.out)
            clear hown1 hgrow
            go_wp2
            go_roundw
            case rel => exact ⟨i + 1, by go_num, by omega, by omega, by rw [show i + 1 - 1 = j + 1 by have := HJ.out; omega]; exact HN⟩
            case measure => simp [intOf]; omega
        · have hsi : ¬ (i : Int) < 3 := by have := HJ.out; omega
          have HE0 : Hid (e1 2 j (bl T[j]) = 0) := by show _ = _; rw [hx]; exact e1_ok hne (fun h => hs h.1)
          clear hx hne hRD hs
          go_wp2_with fail
          refine (HRD.out wr).mono ?_
          rintro e2 w2 ⟨rfl, rfl⟩
          go_wp2_with (at_builtin; refine wp_app1 tU64 (.tmp 58) (.tmp 60) rfl rfl wX.heap.size (hr.out.own.alloc _) [.int .u64 n] rfl rfl rfl (heap_new _ _) rfl (by have := HJ.out; omega) (by have := HJ.out; omega) (by simp; omega) ?_)
          intro g1 cap1 w1 hown1 hgrow
          have HK5 : Hid (Kp none' wX w1) := (hr.out.kp.alloc _).grown hgrow (fun b e => .inr (own_block hr.out.own e).1)
          have HN := Lib.hid (hr.out.next hjT HNn.out HE0.out hown1 HK5.out)
          clear hown1 hgrow
          go_wp2
          go_roundw
          case rel => exact ⟨i + 1, by go_num, by omega, by omega, by rw [show i + 1 - 1 = j + 1 by have := HJ.out; omega]; exact HN⟩
          case measure => simp [intOf]; omega
      · have hb : (e != 0) = true := by simpa using he
        have hB := hr.out.bad hjT (by rw [hx]; exact e1_err hne he) he
        rw [HT.out] at hB
        have HE := Lib.hid (oneL_err (l := [x0, x1, x2, x3].map bl) (k := 1) (m := 3) hKK.out hLL.out hB he)
        clear hx hne hRD he hB hTl
        go_wp2_with fail
        refine (HRD.out wr).mono ?_
        rintro e2 w2 ⟨rfl, rfl⟩
        go_wp2_with (first
          | (refine wp_set_row rfl 40 (.tmp 2) (.tmp 45) rfl HB2.out (enO z5) rfl rfl infoO rfl HONE ?_
             intro W2 hB2 hO2 hK2
             have HB3 := Lib.hid hB2
             have HK3 := Lib.hid (hK2 _ _ HKr.out (.inr (Nat.le_refl _)))
             clear hB2 hO2 hK2))
        refine ret_row2 rfl HB3.out _ Tryd.underlying40 rfl infoO rfl ⟨?_, HK3.out⟩
        rw [HE.out]; rfl
    · obtain rfl : j = 3 := by have := HJ.out; omega
      have hie : (i : Int) = 4 := by omega
      have hd := (show NumI T 2 wX.heap.size wX wr (.slice uo T.length ucap) T.length by rw [HTL.out]; exact hr.out).done
      rw [HTL.out, HT.out] at hd
      obtain ⟨n1, hn1⟩ : ∃ n, (rdU (bl x1)).1 = n := ⟨_, rfl⟩
      have hb1 := rdU_lt (bl x1)
      rw [hn1] at hb1
      obtain ⟨n2, hn2⟩ : ∃ n, (rdU (bl x2)).1 = n := ⟨_, rfl⟩
      have hb2 := rdU_lt (bl x2)
      rw [hn2] at hb2
      obtain ⟨n3, hn3⟩ : ∃ n, (rdU (bl x3)).1 = n := ⟨_, rfl⟩
      have hb3 := rdU_lt (bl x3)
      rw [hn3] at hb3
      have hvals : vals (([x1, x2, x3] : List ByteArray).map bl) = [n1, n2, n3] := by simp [vals, hn1, hn2, hn3]
      rw [hvals] at hd
      have hLT : n1 < 4294967296 ∧ n2 < 4294967296 := by
        have q1 := es_cons hd.1
        have q2 := es_cons q1.2
        rw [← hn1, ← hn2]
        exact ⟨e1_lt q1.1 (by decide), e1_lt q2.1 (by decide)⟩
      have hw1 := wrap32 n1 hLT.1
      have hw2 := wrap32 n2 hLT.2
      obtain ⟨b, hb⟩ : ∃ b, opR (⟨1, n1, n2, n3, 0⟩ : OpR) = b := ⟨_, rfl⟩
      have HO := Lib.hid (oneL_ok (l := [x0, x1, x2, x3].map bl) (k := 1) (m := 3) (x := ⟨1, n1, n2, n3, 0⟩) (b := b) hKK.out hLL.out hd.1 (by rw [tl_map, hvals]; rfl) hb)
      have hRT := fun W => rRight25 (⟨1, n1, n2, n3, 0⟩ : OpR) W
      rw [hb] at hRT
      have HRT := Lib.hid hRT
      have hone2 := oneO (⟨1, n1, n2, n3, 0⟩ : OpR)
      obtain ⟨gu, capu, e, hgu, hgl, hcu⟩ := u64_cells hd.2 rfl (by simp)
      injection e with e1 _ e3
      subst e1 e3
      have q1 := hcu 0 (by simp)
      have q2 := hcu 1 (by simp)
      have q3 := hcu 2 (by simp)
      simp only [List.getElem_cons_zero, List.getElem_cons_succ] at q1 q2 q3
      clear hcu
      clear hvals hb hRT hd hTl hn1 hn2 hn3
      have HXn := Lib.hid (Blk.new wr (enO ⟨1, n1, n2, n3, 0⟩) 40)
      have HBn := Lib.hid (HB2.out.alloc (.cells (enO ⟨1, n1, n2, n3, 0⟩).toArray 40))
      have HKn := Lib.hid (HKr.out.alloc (.cells (enO ⟨1, n1, n2, n3, 0⟩).toArray 40))
      go_wp2_with fail
      refine (HRT.out _).mono ?_
      rintro e w5 ⟨rfl, k5⟩
      have HX5 := Lib.hid (HXn.out.kp k5 id)
      have HB5 := Lib.hid (HBn.out.kp k5 id)
      have HK5 := Lib.hid (HKn.out.trans k5)
      clear k5
      cases b with
      | false =>
        go_wp2_with (first
          | (refine wp_set_row rfl 40 (.tmp 2) (.tmp 95) rfl HB5.out (enO z5) rfl rfl infoO rfl HONE ?_
             intro W2 hB2 hO2 hK2
             have HB6 := Lib.hid hB2
             have HK6 := Lib.hid (hK2 _ _ HK5.out (.inr (Nat.le_refl _)))
             clear hB2 hO2 hK2))
        refine ret_row2 rfl HB6.out _ Tryd.underlying40 rfl infoO rfl ⟨?_, HK6.out⟩
        rw [HO.out]; rfl
      | true =>
        go_wp2_with (first
          | (refine wp_get_row rfl 40 (.tmp 10) rfl HX5.out _ rfl Tryd.underlying40 rfl infoO ?_)
          | (refine wp_set_row rfl 40 (.tmp 2) (.tmp 96) rfl HB5.out (enO ⟨1, n1, n2, n3, 0⟩) rfl rfl infoO rfl hone2 ?_
             intro W2 hB2 hO2 hK2
             have HB6 := Lib.hid hB2
             have HK6 := Lib.hid (hK2 _ _ HK5.out (.inr (Nat.le_refl _)))
             clear hB2 hO2 hK2))
        refine ret_row2 rfl HB6.out _ Tryd.underlying40 rfl infoO rfl ⟨?_, HK6.out⟩
        rw [HO.out]; rfl

set_option maxRecDepth 100000 in
set_option maxHeartbeats 4000000 in
theorem rOneOut (x0 : ByteArray) (g off cap : Nat) (w : World) (h : Sl w (.slice (some ⟨g, off, none⟩) 1 cap) 1 1 (strs [x0])) (hk : kd (bl x0) = (2, 0))  :
    Calls Tryd.prog 17 #[.slice (some ⟨g, off, none⟩) 1 cap] w fun e w' => e = .returned (.tuple #[.agg (enO (oneL ([x0].map bl)).1).toArray, .int .i64 (oneL ([x0].map bl)).2]) ∧ Kp none' w w' := by
  obtain ⟨w0, hw0⟩ : ∃ w0, (w.alloc (.cells (enO z5).toArray 40)).alloc (.cells #[.int .i64 1, .int .i64 3, .int .i64 0, .int .i64 1, .int .i64 0] 3) = w0 := ⟨_, rfl⟩
  have hWX : (w.alloc (.cells #[.int .i64 0, .int .u32 0, .int .u32 0, .int .u64 0, .int .u64 0] 40)).alloc (.cells #[.int .i64 1, .int .i64 3, .int .i64 0, .int .i64 1, .int .i64 0] 3) = w0 := hw0
  have HB : Hid (Blk w0 w.heap.size (enO z5) 40) := by rw [← hw0]; exact (Blk.new w _ _).alloc _
  have HM : Hid (Blk w0 (w.heap.size + 1) [.int .i64 1, .int .i64 3, .int .i64 0, .int .i64 1, .int .i64 0] 3) := by rw [← hw0]; have := Blk.new (w.alloc (.cells (enO z5).toArray 40)) [.int .i64 1, .int .i64 3, .int .i64 0, .int .i64 1, .int .i64 0] 3; exact Lib.hid (by simpa only [World.size_alloc] using this)
  have HK0 : Hid (Kp none' w w0) := by show Kp none' w w0; rw [← hw0]; exact ((Kp.refl _ _).alloc _).alloc _
  have HW := Lib.hid hWX
  have HSL := Lib.hid h
  obtain ⟨ao, cap', e, hc⟩ := h.is
  injection e with e1 _ e3
  subst e1 e3
  obtain ⟨b, o, e2, hcell⟩ := hc 0 _ rfl
  injection e2 with e2
  injection e2 with e1 e2 _
  subst e1 e2
  rw [Nat.add_zero] at hcell
  have hcell1 : ((w.alloc (.cells #[.int .i64 0, .int .u32 0, .int .u32 0, .int .u64 0, .int .u64 0] 40)).alloc (.cells #[.int .i64 1, .int .i64 3, .int .i64 0, .int .i64 1, .int .i64 0] 3)).cell? ⟨g, off, none⟩ = some (.string x0) := by rw [hWX]; exact HK0.out.cell hcell id
  have hKD := fun W => rWhich x0 W
  rw [hk] at hKD
  simp only at hKD
  have HKD := Lib.hid hKD
  have HONE := oneO z5
  have HSZ : Hid (∀ x ∈ ([] : List ByteArray), x.size ≤ 1000000) := by show ∀ x ∈ ([] : List ByteArray), x.size ≤ 1000000; simp
  obtain ⟨T, hT⟩ : ∃ T, T = ([] : List ByteArray) := ⟨_, rfl⟩
  have hTl : T.length = 0 := by rw [hT]; rfl
  have HT := Lib.hid hT
  have HTL := Lib.hid hTl
  rw [← hT] at HSZ
  have hlen : ¬ ((2 : Int) < 0 ∨ ([x0].map bl).length ≠ 0 + 1) := by simp
  have hKK := Lib.hid hk
  have hLL := Lib.hid hlen
  clear h hc hw0 hWX hKD hk hlen hT
  go_enter Tryd.func17, Tryd.ntmps17
  go_wp2_with fail
  rw [HW.out]
  refine (HKD.out w0).mono ?_
  rintro e wX ⟨rfl, k1⟩
  have HB1 := Lib.hid (HB.out.kp k1 id)
  have HK1 := Lib.hid (HK0.out.trans k1)
  have hm1 := HM.out.kp k1 id
  have m2 := hm1.cell 2 rfl
  have hzX := HK1.out.size
  have hltB := HB1.out.lt
  clear k1 hm1 hcell hcell1
  go_wp2_with fail
  go_loopw [6, 7] (fun u i0 wr => ∃ i : Nat, i0 = .int .i64 i ∧ 1 ≤ i ∧ i ≤ 1 ∧ Hid (NumI T 0 wX.heap.size wX wr u (i - 1))) (fun _ i0 _ => 1 - (intOf i0).toNat)
  case atStart => exact ⟨1, rfl, by omega, by omega, ⟨fun i _ hi => by omega, World.ownsRow_nil _ _ _ _, Kp.refl _ _⟩⟩
  case round =>
    obtain ⟨i, rfl, hi1, hi2, hr⟩ := hrel
    obtain ⟨j, hj⟩ : ∃ j, i - 1 = j := ⟨_, rfl⟩
    rw [hj] at hr
    have HJ : Hid (i = j + 1) := by show _ = _; omega
    clear hj
    obtain ⟨uo, ucap, rfl⟩ := own_shape hr.out.own
    have HB2 := Lib.hid (HB1.out.kp hr.out.kp id)
    have HKr := Lib.hid (HK1.out.trans hr.out.kp)
    have hltr := HB2.out.lt
    have hlwz := HKr.out.size
    obtain rfl : j = 0 := by have := HJ.out; omega
    have hie : (i : Int) = 1 := by omega
    have hd := (show NumI T 0 wX.heap.size wX wr (.slice uo T.length ucap) T.length by rw [HTL.out]; exact hr.out).done
    rw [HTL.out, HT.out] at hd
    have hvals : vals (([] : List ByteArray).map bl) = [] := by simp [vals]
    rw [hvals] at hd
    obtain ⟨b, hb⟩ : ∃ b, opR (⟨2, 0, 0, 0, 0⟩ : OpR) = b := ⟨_, rfl⟩
    have HO := Lib.hid (oneL_ok (l := [x0].map bl) (k := 2) (m := 0) (x := ⟨2, 0, 0, 0, 0⟩) (b := b) hKK.out hLL.out hd.1 (by rw [tl_map, hvals]; rfl) hb)
    have hRT := fun W => rRight25 (⟨2, 0, 0, 0, 0⟩ : OpR) W
    rw [hb] at hRT
    have HRT := Lib.hid hRT
    have hone2 := oneO (⟨2, 0, 0, 0, 0⟩ : OpR)
    clear hvals hb hRT hd hTl 
    have HXn := Lib.hid (Blk.new wr (enO ⟨2, 0, 0, 0, 0⟩) 40)
    have HBn := Lib.hid (HB2.out.alloc (.cells (enO ⟨2, 0, 0, 0, 0⟩).toArray 40))
    have HKn := Lib.hid (HKr.out.alloc (.cells (enO ⟨2, 0, 0, 0, 0⟩).toArray 40))
    go_wp2_with fail
    refine (HRT.out _).mono ?_
    rintro e w5 ⟨rfl, k5⟩
    have HX5 := Lib.hid (HXn.out.kp k5 id)
    have HB5 := Lib.hid (HBn.out.kp k5 id)
    have HK5 := Lib.hid (HKn.out.trans k5)
    clear k5
    cases b with
    | false =>
      go_wp2_with (first
        | (refine wp_set_row rfl 40 (.tmp 2) (.tmp 95) rfl HB5.out (enO z5) rfl rfl infoO rfl HONE ?_
           intro W2 hB2 hO2 hK2
           have HB6 := Lib.hid hB2
           have HK6 := Lib.hid (hK2 _ _ HK5.out (.inr (Nat.le_refl _)))
           clear hB2 hO2 hK2))
      refine ret_row2 rfl HB6.out _ Tryd.underlying40 rfl infoO rfl ⟨?_, HK6.out⟩
      rw [HO.out]; rfl
    | true =>
      go_wp2_with (first
        | (refine wp_get_row rfl 40 (.tmp 10) rfl HX5.out _ rfl Tryd.underlying40 rfl infoO ?_)
        | (refine wp_set_row rfl 40 (.tmp 2) (.tmp 96) rfl HB5.out (enO ⟨2, 0, 0, 0, 0⟩) rfl rfl infoO rfl hone2 ?_
           intro W2 hB2 hO2 hK2
           have HB6 := Lib.hid hB2
           have HK6 := Lib.hid (hK2 _ _ HK5.out (.inr (Nat.le_refl _)))
           clear hB2 hO2 hK2))
      refine ret_row2 rfl HB6.out _ Tryd.underlying40 rfl infoO rfl ⟨?_, HK6.out⟩
      rw [HO.out]; rfl

set_option maxRecDepth 100000 in
set_option maxHeartbeats 4000000 in
theorem rOneTick (x0 x1 : ByteArray) (g off cap : Nat) (w : World) (h : Sl w (.slice (some ⟨g, off, none⟩) 2 cap) 2 1 (strs [x0, x1])) (hk : kd (bl x0) = (3, 1)) (hx1 : x1.size ≤ 1000000) :
    Calls Tryd.prog 17 #[.slice (some ⟨g, off, none⟩) 2 cap] w fun e w' => e = .returned (.tuple #[.agg (enO (oneL ([x0, x1].map bl)).1).toArray, .int .i64 (oneL ([x0, x1].map bl)).2]) ∧ Kp none' w w' := by
  obtain ⟨w0, hw0⟩ : ∃ w0, (w.alloc (.cells (enO z5).toArray 40)).alloc (.cells #[.int .i64 1, .int .i64 3, .int .i64 0, .int .i64 1, .int .i64 0] 3) = w0 := ⟨_, rfl⟩
  have hWX : (w.alloc (.cells #[.int .i64 0, .int .u32 0, .int .u32 0, .int .u64 0, .int .u64 0] 40)).alloc (.cells #[.int .i64 1, .int .i64 3, .int .i64 0, .int .i64 1, .int .i64 0] 3) = w0 := hw0
  have HB : Hid (Blk w0 w.heap.size (enO z5) 40) := by rw [← hw0]; exact (Blk.new w _ _).alloc _
  have HM : Hid (Blk w0 (w.heap.size + 1) [.int .i64 1, .int .i64 3, .int .i64 0, .int .i64 1, .int .i64 0] 3) := by rw [← hw0]; have := Blk.new (w.alloc (.cells (enO z5).toArray 40)) [.int .i64 1, .int .i64 3, .int .i64 0, .int .i64 1, .int .i64 0] 3; exact Lib.hid (by simpa only [World.size_alloc] using this)
  have HK0 : Hid (Kp none' w w0) := by show Kp none' w w0; rw [← hw0]; exact ((Kp.refl _ _).alloc _).alloc _
  have HW := Lib.hid hWX
  have HSL := Lib.hid h
  obtain ⟨ao, cap', e, hc⟩ := h.is
  injection e with e1 _ e3
  subst e1 e3
  obtain ⟨b, o, e2, hcell⟩ := hc 0 _ rfl
  injection e2 with e2
  injection e2 with e1 e2 _
  subst e1 e2
  rw [Nat.add_zero] at hcell
  have hcell1 : ((w.alloc (.cells #[.int .i64 0, .int .u32 0, .int .u32 0, .int .u64 0, .int .u64 0] 40)).alloc (.cells #[.int .i64 1, .int .i64 3, .int .i64 0, .int .i64 1, .int .i64 0] 3)).cell? ⟨g, off, none⟩ = some (.string x0) := by rw [hWX]; exact HK0.out.cell hcell id
  have hKD := fun W => rWhich x0 W
  rw [hk] at hKD
  simp only at hKD
  have HKD := Lib.hid hKD
  have HONE := oneO z5
  have HSZ : Hid (∀ x ∈ ([x1] : List ByteArray), x.size ≤ 1000000) := by show ∀ x ∈ ([x1] : List ByteArray), x.size ≤ 1000000; simp; exact hx1
  obtain ⟨T, hT⟩ : ∃ T, T = ([x1] : List ByteArray) := ⟨_, rfl⟩
  have hTl : T.length = 1 := by rw [hT]; rfl
  have HT := Lib.hid hT
  have HTL := Lib.hid hTl
  rw [← hT] at HSZ
  have hlen : ¬ ((3 : Int) < 0 ∨ ([x0, x1].map bl).length ≠ 1 + 1) := by simp
  have hKK := Lib.hid hk
  have hLL := Lib.hid hlen
  clear h hc hw0 hWX hKD hk hlen hT
  go_enter Tryd.func17, Tryd.ntmps17
  go_wp2_with fail
  rw [HW.out]
  refine (HKD.out w0).mono ?_
  rintro e wX ⟨rfl, k1⟩
  have HB1 := Lib.hid (HB.out.kp k1 id)
  have HK1 := Lib.hid (HK0.out.trans k1)
  have hm1 := HM.out.kp k1 id
  have m3 := hm1.cell 3 rfl
  have hzX := HK1.out.size
  have hltB := HB1.out.lt
  clear k1 hm1 hcell hcell1
  go_wp2_with fail
  go_loopw [6, 7] (fun u i0 wr => ∃ i : Nat, i0 = .int .i64 i ∧ 1 ≤ i ∧ i ≤ 2 ∧ Hid (NumI T 0 wX.heap.size wX wr u (i - 1))) (fun _ i0 _ => 2 - (intOf i0).toNat)
  case atStart => exact ⟨1, rfl, by omega, by omega, ⟨fun i _ hi => by omega, World.ownsRow_nil _ _ _ _, Kp.refl _ _⟩⟩
  case round =>
    obtain ⟨i, rfl, hi1, hi2, hr⟩ := hrel
    obtain ⟨j, hj⟩ : ∃ j, i - 1 = j := ⟨_, rfl⟩
    rw [hj] at hr
    have HJ : Hid (i = j + 1) := by show _ = _; omega
    clear hj
    obtain ⟨uo, ucap, rfl⟩ := own_shape hr.out.own
    have HB2 := Lib.hid (HB1.out.kp hr.out.kp id)
    have HKr := Lib.hid (HK1.out.trans hr.out.kp)
    have hltr := HB2.out.lt
    have hlwz := HKr.out.size
    by_cases hlt : i < 2
    · have hjT : j < T.length := by have := HJ.out; omega
      have hji : (i : Int) < 2 := by omega
      obtain ⟨x, hx⟩ : ∃ x, T[j] = x := ⟨_, rfl⟩
      have hxs : x.size ≤ 1000000 := HSZ.out x (by rw [← hx]; exact List.getElem_mem hjT)
      obtain ⟨ao', cap'', e, hc⟩ := (HSL.out.old HKr.out).is
      injection e with e1 _ e3
      subst e1 e3
      obtain ⟨b', o', e2, hcj⟩ := hc i (.string x) (by rw [← hx, ← HT.out, HJ.out]; exact strs_tail x0 T j hjT)
      injection e2 with e2
      injection e2 with e1 e2 _
      subst e1 e2
      obtain ⟨⟨n, e⟩, hne⟩ : ∃ p, rdU (bl x) = p := ⟨_, rfl⟩
      have hRD := fun W => rReadUnit x W hxs
      simp only [hne] at hRD
      have HRD := Lib.hid hRD
      have HNn : Hid ((rdU (bl T[j])).1 = n) := by show _ = _; rw [hx, hne]
      have hsz := hr.out.kp.size
      clear hc HSZ
      by_cases he : e = 0
      · subst he
        have HE0 : Hid (e1 0 j (bl T[j]) = 0) := by show _ = _; rw [hx]; exact e1_ok hne (fun h => by omega)
        clear hx hne hRD
        go_wp2_with fail
        refine (HRD.out wr).mono ?_
        rintro e2 w2 ⟨rfl, rfl⟩
        go_wp2_with (at_builtin; refine wp_app1 tU64 (.tmp 58) (.tmp 60) rfl rfl wX.heap.size (hr.out.own.alloc _) [.int .u64 n] rfl rfl rfl (heap_new _ _) rfl (by have := HJ.out; omega) (by have := HJ.out; omega) (by simp; omega) ?_)
        intro g1 cap1 w1 hown1 hgrow
        have HK5 : Hid (Kp none' wX w1) := (hr.out.kp.alloc _).grown hgrow (fun b e => .inr (own_block hr.out.own e).1)
        have HN := Lib.hid (hr.out.next hjT HNn.out HE0.out hown1 HK5.out)
        clear hown1 hgrow
        go_wp2
        go_roundw
        case rel => exact ⟨i + 1, by go_num, by omega, by omega, by rw [show i + 1 - 1 = j + 1 by have := HJ.out; omega]; exact HN⟩
        case measure => simp [intOf]; omega
      · have hb : (e != 0) = true := by simpa using he
        have hB := hr.out.bad hjT (by rw [hx]; exact e1_err hne he) he
        rw [HT.out] at hB
        have HE := Lib.hid (oneL_err (l := [x0, x1].map bl) (k := 3) (m := 1) hKK.out hLL.out hB he)
        clear hx hne hRD he hB hTl
        go_wp2_with fail
        refine (HRD.out wr).mono ?_
        rintro e2 w2 ⟨rfl, rfl⟩
        go_wp2_with (first
          | (refine wp_set_row rfl 40 (.tmp 2) (.tmp 45) rfl HB2.out (enO z5) rfl rfl infoO rfl HONE ?_
             intro W2 hB2 hO2 hK2
             have HB3 := Lib.hid hB2
             have HK3 := Lib.hid (hK2 _ _ HKr.out (.inr (Nat.le_refl _)))
             clear hB2 hO2 hK2))
        refine ret_row2 rfl HB3.out _ Tryd.underlying40 rfl infoO rfl ⟨?_, HK3.out⟩
        rw [HE.out]; rfl
    · obtain rfl : j = 1 := by have := HJ.out; omega
      have hie : (i : Int) = 2 := by omega
      have hd := (show NumI T 0 wX.heap.size wX wr (.slice uo T.length ucap) T.length by rw [HTL.out]; exact hr.out).done
      rw [HTL.out, HT.out] at hd
      obtain ⟨n1, hn1⟩ : ∃ n, (rdU (bl x1)).1 = n := ⟨_, rfl⟩
      have hb1 := rdU_lt (bl x1)
      rw [hn1] at hb1
      have hvals : vals (([x1] : List ByteArray).map bl) = [n1] := by simp [vals, hn1]
      rw [hvals] at hd
      obtain ⟨b, hb⟩ : ∃ b, opR (⟨3, 0, 0, 0, n1⟩ : OpR) = b := ⟨_, rfl⟩
      have HO := Lib.hid (oneL_ok (l := [x0, x1].map bl) (k := 3) (m := 1) (x := ⟨3, 0, 0, 0, n1⟩) (b := b) hKK.out hLL.out hd.1 (by rw [tl_map, hvals]; rfl) hb)
      have hRT := fun W => rRight25 (⟨3, 0, 0, 0, n1⟩ : OpR) W
      rw [hb] at hRT
      have HRT := Lib.hid hRT
      have hone2 := oneO (⟨3, 0, 0, 0, n1⟩ : OpR)
      obtain ⟨gu, capu, e, hgu, hgl, hcu⟩ := u64_cells hd.2 rfl (by simp)
      injection e with e1 _ e3
      subst e1 e3
      have q1 := hcu 0 (by simp)
      simp only [List.getElem_cons_zero, List.getElem_cons_succ] at q1
      clear hcu
      clear hvals hb hRT hd hTl hn1
      have HXn := Lib.hid (Blk.new wr (enO ⟨3, 0, 0, 0, n1⟩) 40)
      have HBn := Lib.hid (HB2.out.alloc (.cells (enO ⟨3, 0, 0, 0, n1⟩).toArray 40))
      have HKn := Lib.hid (HKr.out.alloc (.cells (enO ⟨3, 0, 0, 0, n1⟩).toArray 40))
      go_wp2_with fail
      refine (HRT.out _).mono ?_
      rintro e w5 ⟨rfl, k5⟩
      have HX5 := Lib.hid (HXn.out.kp k5 id)
      have HB5 := Lib.hid (HBn.out.kp k5 id)
      have HK5 := Lib.hid (HKn.out.trans k5)
      clear k5
      cases b with
      | false =>
        go_wp2_with (first
          | (refine wp_set_row rfl 40 (.tmp 2) (.tmp 95) rfl HB5.out (enO z5) rfl rfl infoO rfl HONE ?_
             intro W2 hB2 hO2 hK2
             have HB6 := Lib.hid hB2
             have HK6 := Lib.hid (hK2 _ _ HK5.out (.inr (Nat.le_refl _)))
             clear hB2 hO2 hK2))
        refine ret_row2 rfl HB6.out _ Tryd.underlying40 rfl infoO rfl ⟨?_, HK6.out⟩
        rw [HO.out]; rfl
      | true =>
        go_wp2_with (first
          | (refine wp_get_row rfl 40 (.tmp 10) rfl HX5.out _ rfl Tryd.underlying40 rfl infoO ?_)
          | (refine wp_set_row rfl 40 (.tmp 2) (.tmp 96) rfl HB5.out (enO ⟨3, 0, 0, 0, n1⟩) rfl rfl infoO rfl hone2 ?_
             intro W2 hB2 hO2 hK2
             have HB6 := Lib.hid hB2
             have HK6 := Lib.hid (hK2 _ _ HK5.out (.inr (Nat.le_refl _)))
             clear hB2 hO2 hK2))
        refine ret_row2 rfl HB6.out _ Tryd.underlying40 rfl infoO rfl ⟨?_, HK6.out⟩
        rw [HO.out]; rfl

set_option maxRecDepth 100000 in
set_option maxHeartbeats 4000000 in
theorem rOneStats (x0 : ByteArray) (g off cap : Nat) (w : World) (h : Sl w (.slice (some ⟨g, off, none⟩) 1 cap) 1 1 (strs [x0])) (hk : kd (bl x0) = (4, 0))  :
    Calls Tryd.prog 17 #[.slice (some ⟨g, off, none⟩) 1 cap] w fun e w' => e = .returned (.tuple #[.agg (enO (oneL ([x0].map bl)).1).toArray, .int .i64 (oneL ([x0].map bl)).2]) ∧ Kp none' w w' := by
  obtain ⟨w0, hw0⟩ : ∃ w0, (w.alloc (.cells (enO z5).toArray 40)).alloc (.cells #[.int .i64 1, .int .i64 3, .int .i64 0, .int .i64 1, .int .i64 0] 3) = w0 := ⟨_, rfl⟩
  have hWX : (w.alloc (.cells #[.int .i64 0, .int .u32 0, .int .u32 0, .int .u64 0, .int .u64 0] 40)).alloc (.cells #[.int .i64 1, .int .i64 3, .int .i64 0, .int .i64 1, .int .i64 0] 3) = w0 := hw0
  have HB : Hid (Blk w0 w.heap.size (enO z5) 40) := by rw [← hw0]; exact (Blk.new w _ _).alloc _
  have HM : Hid (Blk w0 (w.heap.size + 1) [.int .i64 1, .int .i64 3, .int .i64 0, .int .i64 1, .int .i64 0] 3) := by rw [← hw0]; have := Blk.new (w.alloc (.cells (enO z5).toArray 40)) [.int .i64 1, .int .i64 3, .int .i64 0, .int .i64 1, .int .i64 0] 3; exact Lib.hid (by simpa only [World.size_alloc] using this)
  have HK0 : Hid (Kp none' w w0) := by show Kp none' w w0; rw [← hw0]; exact ((Kp.refl _ _).alloc _).alloc _
  have HW := Lib.hid hWX
  have HSL := Lib.hid h
  obtain ⟨ao, cap', e, hc⟩ := h.is
  injection e with e1 _ e3
  subst e1 e3
  obtain ⟨b, o, e2, hcell⟩ := hc 0 _ rfl
  injection e2 with e2
  injection e2 with e1 e2 _
  subst e1 e2
  rw [Nat.add_zero] at hcell
  have hcell1 : ((w.alloc (.cells #[.int .i64 0, .int .u32 0, .int .u32 0, .int .u64 0, .int .u64 0] 40)).alloc (.cells #[.int .i64 1, .int .i64 3, .int .i64 0, .int .i64 1, .int .i64 0] 3)).cell? ⟨g, off, none⟩ = some (.string x0) := by rw [hWX]; exact HK0.out.cell hcell id
  have hKD := fun W => rWhich x0 W
  rw [hk] at hKD
  simp only at hKD
  have HKD := Lib.hid hKD
  have HONE := oneO z5
  have HSZ : Hid (∀ x ∈ ([] : List ByteArray), x.size ≤ 1000000) := by show ∀ x ∈ ([] : List ByteArray), x.size ≤ 1000000; simp
  obtain ⟨T, hT⟩ : ∃ T, T = ([] : List ByteArray) := ⟨_, rfl⟩
  have hTl : T.length = 0 := by rw [hT]; rfl
  have HT := Lib.hid hT
  have HTL := Lib.hid hTl
  rw [← hT] at HSZ
  have hlen : ¬ ((4 : Int) < 0 ∨ ([x0].map bl).length ≠ 0 + 1) := by simp
  have hKK := Lib.hid hk
  have hLL := Lib.hid hlen
  clear h hc hw0 hWX hKD hk hlen hT
  go_enter Tryd.func17, Tryd.ntmps17
  go_wp2_with fail
  rw [HW.out]
  refine (HKD.out w0).mono ?_
  rintro e wX ⟨rfl, k1⟩
  have HB1 := Lib.hid (HB.out.kp k1 id)
  have HK1 := Lib.hid (HK0.out.trans k1)
  have hm1 := HM.out.kp k1 id
  have m4 := hm1.cell 4 rfl
  have hzX := HK1.out.size
  have hltB := HB1.out.lt
  clear k1 hm1 hcell hcell1
  go_wp2_with fail
  go_loopw [6, 7] (fun u i0 wr => ∃ i : Nat, i0 = .int .i64 i ∧ 1 ≤ i ∧ i ≤ 1 ∧ Hid (NumI T 0 wX.heap.size wX wr u (i - 1))) (fun _ i0 _ => 1 - (intOf i0).toNat)
  case atStart => exact ⟨1, rfl, by omega, by omega, ⟨fun i _ hi => by omega, World.ownsRow_nil _ _ _ _, Kp.refl _ _⟩⟩
  case round =>
    obtain ⟨i, rfl, hi1, hi2, hr⟩ := hrel
    obtain ⟨j, hj⟩ : ∃ j, i - 1 = j := ⟨_, rfl⟩
    rw [hj] at hr
    have HJ : Hid (i = j + 1) := by show _ = _; omega
    clear hj
    obtain ⟨uo, ucap, rfl⟩ := own_shape hr.out.own
    have HB2 := Lib.hid (HB1.out.kp hr.out.kp id)
    have HKr := Lib.hid (HK1.out.trans hr.out.kp)
    have hltr := HB2.out.lt
    have hlwz := HKr.out.size
    obtain rfl : j = 0 := by have := HJ.out; omega
    have hie : (i : Int) = 1 := by omega
    have hd := (show NumI T 0 wX.heap.size wX wr (.slice uo T.length ucap) T.length by rw [HTL.out]; exact hr.out).done
    rw [HTL.out, HT.out] at hd
    have hvals : vals (([] : List ByteArray).map bl) = [] := by simp [vals]
    rw [hvals] at hd
    obtain ⟨b, hb⟩ : ∃ b, opR (⟨4, 0, 0, 0, 0⟩ : OpR) = b := ⟨_, rfl⟩
    have HO := Lib.hid (oneL_ok (l := [x0].map bl) (k := 4) (m := 0) (x := ⟨4, 0, 0, 0, 0⟩) (b := b) hKK.out hLL.out hd.1 (by rw [tl_map, hvals]; rfl) hb)
    have hRT := fun W => rRight25 (⟨4, 0, 0, 0, 0⟩ : OpR) W
    rw [hb] at hRT
    have HRT := Lib.hid hRT
    have hone2 := oneO (⟨4, 0, 0, 0, 0⟩ : OpR)
    clear hvals hb hRT hd hTl 
    have HXn := Lib.hid (Blk.new wr (enO ⟨4, 0, 0, 0, 0⟩) 40)
    have HBn := Lib.hid (HB2.out.alloc (.cells (enO ⟨4, 0, 0, 0, 0⟩).toArray 40))
    have HKn := Lib.hid (HKr.out.alloc (.cells (enO ⟨4, 0, 0, 0, 0⟩).toArray 40))
    go_wp2_with fail
    refine (HRT.out _).mono ?_
    rintro e w5 ⟨rfl, k5⟩
    have HX5 := Lib.hid (HXn.out.kp k5 id)
    have HB5 := Lib.hid (HBn.out.kp k5 id)
    have HK5 := Lib.hid (HKn.out.trans k5)
    clear k5
    cases b with
    | false =>
      go_wp2_with (first
        | (refine wp_set_row rfl 40 (.tmp 2) (.tmp 95) rfl HB5.out (enO z5) rfl rfl infoO rfl HONE ?_
           intro W2 hB2 hO2 hK2
           have HB6 := Lib.hid hB2
           have HK6 := Lib.hid (hK2 _ _ HK5.out (.inr (Nat.le_refl _)))
           clear hB2 hO2 hK2))
      refine ret_row2 rfl HB6.out _ Tryd.underlying40 rfl infoO rfl ⟨?_, HK6.out⟩
      rw [HO.out]; rfl
    | true =>
      go_wp2_with (first
        | (refine wp_get_row rfl 40 (.tmp 10) rfl HX5.out _ rfl Tryd.underlying40 rfl infoO ?_)
        | (refine wp_set_row rfl 40 (.tmp 2) (.tmp 96) rfl HB5.out (enO ⟨4, 0, 0, 0, 0⟩) rfl rfl infoO rfl hone2 ?_
           intro W2 hB2 hO2 hK2
           have HB6 := Lib.hid hB2
           have HK6 := Lib.hid (hK2 _ _ HK5.out (.inr (Nat.le_refl _)))
           clear hB2 hO2 hK2))
      refine ret_row2 rfl HB6.out _ Tryd.underlying40 rfl infoO rfl ⟨?_, HK6.out⟩
      rw [HO.out]; rfl

set_option maxRecDepth 100000 in
set_option maxHeartbeats 4000000 in
theorem rOneJunk (x0 x1 : ByteArray) (g off cap : Nat) (w : World) (h : Sl w (.slice (some ⟨g, off, none⟩) 2 cap) 2 1 (strs [x0, x1])) (hk : kd (bl x0) = (0, 1)) (hx1 : x1.size ≤ 1000000) :
    Calls Tryd.prog 17 #[.slice (some ⟨g, off, none⟩) 2 cap] w fun e w' => e = .returned (.tuple #[.agg (enO (oneL ([x0, x1].map bl)).1).toArray, .int .i64 (oneL ([x0, x1].map bl)).2]) ∧ Kp none' w w' := by
  obtain ⟨w0, hw0⟩ : ∃ w0, (w.alloc (.cells (enO z5).toArray 40)).alloc (.cells #[.int .i64 1, .int .i64 3, .int .i64 0, .int .i64 1, .int .i64 0] 3) = w0 := ⟨_, rfl⟩
  have hWX : (w.alloc (.cells #[.int .i64 0, .int .u32 0, .int .u32 0, .int .u64 0, .int .u64 0] 40)).alloc (.cells #[.int .i64 1, .int .i64 3, .int .i64 0, .int .i64 1, .int .i64 0] 3) = w0 := hw0
  have HB : Hid (Blk w0 w.heap.size (enO z5) 40) := by rw [← hw0]; exact (Blk.new w _ _).alloc _
  have HM : Hid (Blk w0 (w.heap.size + 1) [.int .i64 1, .int .i64 3, .int .i64 0, .int .i64 1, .int .i64 0] 3) := by rw [← hw0]; have := Blk.new (w.alloc (.cells (enO z5).toArray 40)) [.int .i64 1, .int .i64 3, .int .i64 0, .int .i64 1, .int .i64 0] 3; exact Lib.hid (by simpa only [World.size_alloc] using this)
  have HK0 : Hid (Kp none' w w0) := by show Kp none' w w0; rw [← hw0]; exact ((Kp.refl _ _).alloc _).alloc _
  have HW := Lib.hid hWX
  have HSL := Lib.hid h
  obtain ⟨ao, cap', e, hc⟩ := h.is
  injection e with e1 _ e3
  subst e1 e3
  obtain ⟨b, o, e2, hcell⟩ := hc 0 _ rfl
  injection e2 with e2
  injection e2 with e1 e2 _
  subst e1 e2
  rw [Nat.add_zero] at hcell
  have hcell1 : ((w.alloc (.cells #[.int .i64 0, .int .u32 0, .int .u32 0, .int .u64 0, .int .u64 0] 40)).alloc (.cells #[.int .i64 1, .int .i64 3, .int .i64 0, .int .i64 1, .int .i64 0] 3)).cell? ⟨g, off, none⟩ = some (.string x0) := by rw [hWX]; exact HK0.out.cell hcell id
  have hKD := fun W => rWhich x0 W
  rw [hk] at hKD
  simp only at hKD
  have HKD := Lib.hid hKD
  have HONE := oneO z5
  have HSZ : Hid (∀ x ∈ ([x1] : List ByteArray), x.size ≤ 1000000) := by show ∀ x ∈ ([x1] : List ByteArray), x.size ≤ 1000000; simp; exact hx1
  obtain ⟨T, hT⟩ : ∃ T, T = ([x1] : List ByteArray) := ⟨_, rfl⟩
  have hTl : T.length = 1 := by rw [hT]; rfl
  have HT := Lib.hid hT
  have HTL := Lib.hid hTl
  rw [← hT] at HSZ
  have hlen : ¬ ((0 : Int) < 0 ∨ ([x0, x1].map bl).length ≠ 1 + 1) := by simp
  have hKK := Lib.hid hk
  have hLL := Lib.hid hlen
  clear h hc hw0 hWX hKD hk hlen hT
  go_enter Tryd.func17, Tryd.ntmps17
  go_wp2_with fail
  rw [HW.out]
  refine (HKD.out w0).mono ?_
  rintro e wX ⟨rfl, k1⟩
  have HB1 := Lib.hid (HB.out.kp k1 id)
  have HK1 := Lib.hid (HK0.out.trans k1)
  have hm1 := HM.out.kp k1 id
  have m0 := hm1.cell 0 rfl
  have hzX := HK1.out.size
  have hltB := HB1.out.lt
  clear k1 hm1 hcell hcell1
  go_wp2_with fail
  go_loopw [6, 7] (fun u i0 wr => ∃ i : Nat, i0 = .int .i64 i ∧ 1 ≤ i ∧ i ≤ 2 ∧ Hid (NumI T 0 wX.heap.size wX wr u (i - 1))) (fun _ i0 _ => 2 - (intOf i0).toNat)
  case atStart => exact ⟨1, rfl, by omega, by omega, ⟨fun i _ hi => by omega, World.ownsRow_nil _ _ _ _, Kp.refl _ _⟩⟩
  case round =>
    obtain ⟨i, rfl, hi1, hi2, hr⟩ := hrel
    obtain ⟨j, hj⟩ : ∃ j, i - 1 = j := ⟨_, rfl⟩
    rw [hj] at hr
    have HJ : Hid (i = j + 1) := by show _ = _; omega
    clear hj
    obtain ⟨uo, ucap, rfl⟩ := own_shape hr.out.own
    have HB2 := Lib.hid (HB1.out.kp hr.out.kp id)
    have HKr := Lib.hid (HK1.out.trans hr.out.kp)
    have hltr := HB2.out.lt
    have hlwz := HKr.out.size
    by_cases hlt : i < 2
    · have hjT : j < T.length := by have := HJ.out; omega
      have hji : (i : Int) < 2 := by omega
      obtain ⟨x, hx⟩ : ∃ x, T[j] = x := ⟨_, rfl⟩
      have hxs : x.size ≤ 1000000 := HSZ.out x (by rw [← hx]; exact List.getElem_mem hjT)
      obtain ⟨ao', cap'', e, hc⟩ := (HSL.out.old HKr.out).is
      injection e with e1 _ e3
      subst e1 e3
      obtain ⟨b', o', e2, hcj⟩ := hc i (.string x) (by rw [← hx, ← HT.out, HJ.out]; exact strs_tail x0 T j hjT)
      injection e2 with e2
      injection e2 with e1 e2 _
      subst e1 e2
      obtain ⟨⟨n, e⟩, hne⟩ : ∃ p, rdU (bl x) = p := ⟨_, rfl⟩
      have hRD := fun W => rReadUnit x W hxs
      simp only [hne] at hRD
      have HRD := Lib.hid hRD
      have HNn : Hid ((rdU (bl T[j])).1 = n) := by show _ = _; rw [hx, hne]
      have hsz := hr.out.kp.size
      clear hc HSZ
      by_cases he : e = 0
      · subst he
        have HE0 : Hid (e1 0 j (bl T[j]) = 0) := by show _ = _; rw [hx]; exact e1_ok hne (fun h => by omega)
        clear hx hne hRD
        go_wp2_with fail
        refine (HRD.out wr).mono ?_
        rintro e2 w2 ⟨rfl, rfl⟩
        go_wp2_with (at_builtin; refine wp_app1 tU64 (.tmp 58) (.tmp 60) rfl rfl wX.heap.size (hr.out.own.alloc _) [.int .u64 n] rfl rfl rfl (heap_new _ _) rfl (by have := HJ.out; omega) (by have := HJ.out; omega) (by simp; omega) ?_)
        intro g1 cap1 w1 hown1 hgrow
        have HK5 : Hid (Kp none' wX w1) := (hr.out.kp.alloc _).grown hgrow (fun b e => .inr (own_block hr.out.own e).1)
        have HN := Lib.hid (hr.out.next hjT HNn.out HE0.out hown1 HK5.out)
        clear hown1 hgrow
        go_wp2
        go_roundw
        case rel => exact ⟨i + 1, by go_num, by omega, by omega, by rw [show i + 1 - 1 = j + 1 by have := HJ.out; omega]; exact HN⟩
        case measure => simp [intOf]; omega
      · have hb : (e != 0) = true := by simpa using he
        have hB := hr.out.bad hjT (by rw [hx]; exact e1_err hne he) he
        rw [HT.out] at hB
        have HE := Lib.hid (oneL_err (l := [x0, x1].map bl) (k := 0) (m := 1) hKK.out hLL.out hB he)
        clear hx hne hRD he hB hTl
        go_wp2_with fail
        refine (HRD.out wr).mono ?_
        rintro e2 w2 ⟨rfl, rfl⟩
        go_wp2_with (first
          | (refine wp_set_row rfl 40 (.tmp 2) (.tmp 45) rfl HB2.out (enO z5) rfl rfl infoO rfl HONE ?_
             intro W2 hB2 hO2 hK2
             have HB3 := Lib.hid hB2
             have HK3 := Lib.hid (hK2 _ _ HKr.out (.inr (Nat.le_refl _)))
             clear hB2 hO2 hK2))
        refine ret_row2 rfl HB3.out _ Tryd.underlying40 rfl infoO rfl ⟨?_, HK3.out⟩
        rw [HE.out]; rfl
    · obtain rfl : j = 1 := by have := HJ.out; omega
      have hie : (i : Int) = 2 := by omega
      have hd := (show NumI T 0 wX.heap.size wX wr (.slice uo T.length ucap) T.length by rw [HTL.out]; exact hr.out).done
      rw [HTL.out, HT.out] at hd
      obtain ⟨n1, hn1⟩ : ∃ n, (rdU (bl x1)).1 = n := ⟨_, rfl⟩
      have hb1 := rdU_lt (bl x1)
      rw [hn1] at hb1
      have hvals : vals (([x1] : List ByteArray).map bl) = [n1] := by simp [vals, hn1]
      rw [hvals] at hd
      obtain ⟨b, hb⟩ : ∃ b, opR (⟨0, 0, 0, n1, 0⟩ : OpR) = b := ⟨_, rfl⟩
      have HO := Lib.hid (oneL_ok (l := [x0, x1].map bl) (k := 0) (m := 1) (x := ⟨0, 0, 0, n1, 0⟩) (b := b) hKK.out hLL.out hd.1 (by rw [tl_map, hvals]; rfl) hb)
      have hRT := fun W => rRight25 (⟨0, 0, 0, n1, 0⟩ : OpR) W
      rw [hb] at hRT
      have HRT := Lib.hid hRT
      have hone2 := oneO (⟨0, 0, 0, n1, 0⟩ : OpR)
      obtain ⟨gu, capu, e, hgu, hgl, hcu⟩ := u64_cells hd.2 rfl (by simp)
      injection e with e1 _ e3
      subst e1 e3
      have q1 := hcu 0 (by simp)
      simp only [List.getElem_cons_zero, List.getElem_cons_succ] at q1
      clear hcu
      clear hvals hb hRT hd hTl hn1
      have HXn := Lib.hid (Blk.new wr (enO ⟨0, 0, 0, n1, 0⟩) 40)
      have HBn := Lib.hid (HB2.out.alloc (.cells (enO ⟨0, 0, 0, n1, 0⟩).toArray 40))
      have HKn := Lib.hid (HKr.out.alloc (.cells (enO ⟨0, 0, 0, n1, 0⟩).toArray 40))
      go_wp2_with fail
      refine (HRT.out _).mono ?_
      rintro e w5 ⟨rfl, k5⟩
      have HX5 := Lib.hid (HXn.out.kp k5 id)
      have HB5 := Lib.hid (HBn.out.kp k5 id)
      have HK5 := Lib.hid (HKn.out.trans k5)
      clear k5
      cases b with
      | false =>
        go_wp2_with (first
          | (refine wp_set_row rfl 40 (.tmp 2) (.tmp 95) rfl HB5.out (enO z5) rfl rfl infoO rfl HONE ?_
             intro W2 hB2 hO2 hK2
             have HB6 := Lib.hid hB2
             have HK6 := Lib.hid (hK2 _ _ HK5.out (.inr (Nat.le_refl _)))
             clear hB2 hO2 hK2))
        refine ret_row2 rfl HB6.out _ Tryd.underlying40 rfl infoO rfl ⟨?_, HK6.out⟩
        rw [HO.out]; rfl
      | true =>
        go_wp2_with (first
          | (refine wp_get_row rfl 40 (.tmp 10) rfl HX5.out _ rfl Tryd.underlying40 rfl infoO ?_)
          | (refine wp_set_row rfl 40 (.tmp 2) (.tmp 96) rfl HB5.out (enO ⟨0, 0, 0, n1, 0⟩) rfl rfl infoO rfl hone2 ?_
             intro W2 hB2 hO2 hK2
             have HB6 := Lib.hid hB2
             have HK6 := Lib.hid (hK2 _ _ HK5.out (.inr (Nat.le_refl _)))
             clear hB2 hO2 hK2))
        refine ret_row2 rfl HB6.out _ Tryd.underlying40 rfl infoO rfl ⟨?_, HK6.out⟩
        rw [HO.out]; rfl
end Go.Proofs.YthgpmpmnihijnaaDoor
