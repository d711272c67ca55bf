/- The example of layer 37 walked. -/
import Derived.Test.YtfckgddodjmbdaaGreatDoorMDeviceNobodyF43
import Derived.Test.YtfckgddodjmbdaaGreatDoorMDeviceNobodyF44
import Derived.Test.YtfckgddodjmbdaaGreatDoorMDeviceNobodyF45
import Derived.Test.YtfckgddodjmbdaaGreatDoorMDeviceNobodyF42
namespace Go.Proofs.YtfckgddodjmbdaaGreatDoor
set_option linter.unusedVariables false
set_option linter.unusedSimpArgs false
open Go Go.RowKit Go.Shelf Go.Maps
theorem puts0 {l : List Rt} {T : Tr} (h : PutsOf l T) (e : l = []) : ∃ b, T = .node b (0, 0) false 0 .nil .nil := by
  cases h with
  | nil b => exact ⟨b, rfl⟩
  | snoc l T r nb fb h => simp at e
theorem puts1 {l m : List Rt} {r : Rt} {T : Tr} (h : PutsOf l T) (e : l = m ++ [r]) : ∃ T0 nb fb, PutsOf m T0 ∧ T = T0.put nb r.1 r.2 fb := by
  cases h with
  | nil b => simp at e
  | snoc l T r' nb fb h =>
    obtain ⟨rfl, h2⟩ := List.append_inj' e rfl
    obtain rfl : r' = r := by simpa using h2
    exact ⟨T, nb, fb, h, rfl⟩
def r0D : Rt := ((167772160, 8), 0)
def r1D : Rt := ((167837696, 16), 1)
def rtsD : List Rt := [r0D, r1D]
theorem rtsD_ok : RtsOk rtsD 2 := by
  refine ⟨fun r hr => ?_, fun k T hk hp => ?_, by decide⟩
  · have : r = r0D ∨ r = r1D := by simpa [rtsD] using hr
    rcases this with rfl | rfl
    · exact ⟨⟨by decide, by decide⟩, by decide⟩
    · exact ⟨⟨by decide, by decide⟩, by decide⟩
  · have hk2 : k < 2 := hk
    rcases (by omega : k = 0 ∨ k = 1) with rfl | rfl
    · obtain ⟨b, rfl⟩ := puts0 hp rfl
      show ti.putC _ _ = _
      kernel_rfl
    · obtain ⟨T0, nb, fb, h0, rfl⟩ := puts1 (m := []) (r := r0D) hp rfl
      obtain ⟨b, rfl⟩ := puts0 h0 rfl
      show ti.putC _ _ = _
      kernel_rfl
theorem rtsD_best {T : Tr} (h : PutsOf rtsD T) : accX (T.best 167837701 none) = 1 ∧ accU (T.best 167837701 none) = true := by
  obtain ⟨T1, nb1, fb1, h1, rfl⟩ := puts1 (m := [r0D]) (r := r1D) h rfl
  obtain ⟨T0, nb, fb, h0, rfl⟩ := puts1 (m := []) (r := r0D) h1 rfl
  obtain ⟨b, rfl⟩ := puts0 h0 rfl
  constructor <;> kernel_rfl
theorem wpList_bs2 {P : Program} {ops : Array Oper} {rest : List Oper} {op : Oper} {a : Act} {w : World} {Q : Exit → Act → World → Prop} (hgd : op.guard = none) {t : TypeId} (x y : Operand) (ho : op.op = .buildSlice t 2 #[(0, x), (1, y)]) {u v r : Value} {w' : World}
    (hr : (Instr.buildSlice t 2 #[(0, u), (1, v)]).run P w = .ok r w') (hx : a.eval x = u) (hy : a.eval y = v) (h : wpList P ops Q rest (a.put op.dst r) w') : wpList P ops Q (op :: rest) a w := wpList_plain hgd fun _ hK => by
  subst hx hy
  unfold Oper.wp execOp
  have e : (#[(0, x), (1, y)] : Array (Nat × Operand)).map (fun (i, x) => (i, a.eval x)) = #[(0, a.eval x), (1, a.eval y)] := by simp
  simp only [ho, e, Sem.run_bind, hr, Result.andThen_ok, Sem.run_pure]
  exact hK _ _ h
def vS (b c : Nat) : List Value := enPc pcS (.slice (some ⟨b, 0, none⟩) 2 2) (.slice (some ⟨c, 0, none⟩) 1 1)
theorem slS (b c b' c' : Nat) (W : World) : (Instr.buildSlice 102 2 #[(0, .agg (vS b c).toArray), (1, .agg (vS b' c').toArray)]).run Tryz.prog W = .ok (.slice (some ⟨W.heap.size, 0, none⟩) 2 2) (W.alloc (.cells (vS b c ++ vS b' c').toArray 80)) := by kernel_rfl
theorem slR (W : World) : (Instr.buildSlice 105 2 #[(0, .agg #[.int .u32 167772160, .int .i64 8, .int .i64 0]), (1, .agg #[.int .u32 167837696, .int .i64 16, .int .i64 1])]).run Tryz.prog W = .ok (.slice (some ⟨W.heap.size, 0, none⟩) 2 2) (W.alloc (.cells #[.int .u32 167772160, .int .i64 8, .int .i64 0, .int .u32 167837696, .int .i64 16, .int .i64 1] 104)) := by kernel_rfl
def qS (b c : Nat) : PtC := ⟨pcS, .slice (some ⟨b, 0, none⟩) 2 2, .slice (some ⟨c, 0, none⟩) 1 1⟩
theorem qS_two (b c b' c' : Nat) : [qS b c, qS b' c'].flatMap enPt = vS b c ++ vS b' c' := by
  simp only [List.flatMap_cons, List.flatMap_nil, List.append_nil]
  rfl
theorem rtsD_flat : rtsD.flatMap enRt = [.int .u32 167772160, .int .i64 8, .int .i64 0, .int .u32 167837696, .int .i64 16, .int .i64 1] := rfl
theorem confD (W : World) (b b2 c c2 pb rb : Nat) (h1 : Blk W b (flowsS.flatMap enFl) 158) (h2 : Blk W b2 (rlS.flatMap enR7) 160) (h3 : Blk W c (flowsS.flatMap enFl) 158) (h4 : Blk W c2 (rlS.flatMap enR7) 160)
    (h5 : Blk W pb (vS b b2 ++ vS c c2) 80) (h6 : Blk W rb [.int .u32 167772160, .int .i64 8, .int .i64 0, .int .u32 167837696, .int .i64 16, .int .i64 1] 104) :
    Calls Tryz.prog 34 #[.agg #[.slice (some ⟨pb, 0, none⟩) 2 2, .slice (some ⟨rb, 0, none⟩) 2 2, .int .i64 2, .int .i64 2]] W fun e w' => ∃ pv' rv', e = .returned (.agg #[pv', rv', .int .i64 2, .int .i64 2]) ∧ Sl w' pv' 2 16 ([qS b b2, qS c c2].flatMap enPt) ∧ Sl w' rv' 2 3 (rtsD.flatMap enRt) ∧ Kp none' W w' :=
  confW [qS b b2, qS c c2] rtsD 2 2 W (by simp) (by decide) (fun q hq => by
    have : q = qS b b2 ∨ q = qS c c2 := by simpa using hq
    rcases this with rfl | rfl
    · exact ⟨blk_sl h1 2 5 rfl (by decide), blk_sl h2 1 7 rfl (by decide)⟩
    · exact ⟨blk_sl h3 2 5 rfl (by decide), blk_sl h4 1 7 rfl (by decide)⟩) _ _ (by rw [qS_two]; exact blk_sl h5 2 16 rfl (by decide)) (by rw [rtsD_flat]; exact blk_sl h6 2 3 rfl (by decide))
theorem newD (W : World) (b b2 c c2 : Nat) (h1 : Blk W b (flowsS.flatMap enFl) 158) (h2 : Blk W b2 (rlS.flatMap enR7) 160) (h3 : Blk W c (flowsS.flatMap enFl) 158) (h4 : Blk W c2 (rlS.flatMap enR7) 160) (pv rv : Value)
    (h5 : Sl W pv 2 16 ([qS b b2, qS c c2].flatMap enPt)) (h6 : Sl W rv 2 3 (rtsD.flatMap enRt)) :
    Calls Tryz.prog 33 #[.agg #[pv, rv, .int .i64 2, .int .i64 2]] W fun e w' => ∃ (d : DvR) (l0 l1 : Ln), e = .returned (.tuple #[.pointer (some ⟨d.db, 0, none⟩), .int .i64 0]) ∧ DvM w' d ∧ PutsOf rtsD d.T ∧ d.room = 2 ∧ d.batch = 2 ∧ d.ls = [l0, l1] ∧ l0.p = poS ∧ l0.q = [] ∧ l1.p = poS ∧ l1.q = [] ∧ W.heap.size ≤ d.db ∧ Kp none' W w' := by
  have hm : ∀ q ∈ [qS b b2, qS c c2], q.pc = pcS ∧ (Sl W q.v 2 5 (flowsS.flatMap enFl) ∧ Sl W q.u 1 7 (rlS.flatMap enR7)) := fun q hq => by
    have : q = qS b b2 ∨ q = qS c c2 := by simpa using hq
    rcases this with rfl | rfl
    · exact ⟨rfl, blk_sl h1 2 5 rfl (by decide), blk_sl h2 1 7 rfl (by decide)⟩
    · exact ⟨rfl, blk_sl h3 2 5 rfl (by decide), blk_sl h4 1 7 rfl (by decide)⟩
  have := dNew [qS b b2, qS c c2] rtsD 2 2 W ⟨fun q hq => by rw [(hm q hq).1]; exact ⟨pcS_ok, pcS_good⟩, fun q hq => by rw [(hm q hq).1]; exact (hm q hq).2⟩ (by simp) (by simp) rtsD_ok (by decide) (by decide) pv rv h5 h6 (fun _ => poS)
    (fun q hq W' k => by
      obtain ⟨pc, v, u⟩ := q
      obtain ⟨e1, e2, e3⟩ := hm _ hq
      obtain rfl : pc = pcS := e1
      exact pNew0 pcS pcS_ok pcS_good rfl (by decide) v u W' (e2.old k) (e3.old k) (.hp 0 []) rfl trivial
        (fun W2 _ => (madeH cS _ W2 rfl (by decide) (by decide)).mono fun e w' ⟨b, F, h1, h2, h3, h4⟩ => ⟨hpV b, F, h1, ⟨b, rfl, h2⟩, h3, h4⟩))
  refine this.mono ?_
  rintro e w' ⟨d, rfl, h1, h2, h3, h4, h5, h6, h7⟩
  obtain ⟨l0, l1, hls⟩ : ∃ l0 l1, d.ls = [l0, l1] := by
    have hlen := congrArg List.length h5
    simp at hlen
    match hd : d.ls, hlen with
    | [l0, l1], _ => exact ⟨l0, l1, rfl⟩
  rw [hls] at h5
  have h8 : stL l0 = (poS, [], zRf) ∧ stL l1 = (poS, [], zRf) := by simpa using h5
  obtain ⟨e0, e1⟩ := h8
  simp only [stL, Prod.mk.injEq] at e0 e1
  exact ⟨d, l0, l1, rfl, h1, h2, h3, h4, hls, e0.1, e0.2.1, e1.1, e1.2.1, h6, h7⟩
theorem inD {W : World} {d : DvR} {l0 l1 : Ln} (h : DvM W d) (hpu : PutsOf rtsD d.T) (hr : d.room = 2) (hls : d.ls = [l0, l1]) (hq1 : l1.q = []) :
    Calls Tryz.prog 11 #[.pointer (some ⟨d.db, 0, none⟩), .string (tx datD)] W fun e w' => e = .returned (.tuple #[.int .i64 1, .int .i64 0]) ∧ DvM w' { d with ls := [l0, { l1 with q := [tx datD] }] } ∧ Kp (fun b => d.thi ≤ b) W w' := by
  have hi : 1 < d.ls.length := by rw [hls]; simp
  have e1 : d.ls[1] = l1 := by simp [hls]
  have hb := rtsD_best hpu
  have := dInYes h (tx datD) (by rw [d_size]; decide) (by rw [bl_tx]; exact d_take) (by rw [bl_tx, d_dst]; decide) 1 hi (by rw [bl_tx, d_dst]; exact hb.1) (by rw [bl_tx, d_dst]; exact hb.2) (by rw [e1, hq1, hr]; decide)
  refine this.mono ?_
  rintro e w' ⟨rfl, h1, h2⟩
  rw [e1, hq1] at h1
  have e2 : d.ls.set 1 { l1 with q := [] ++ [tx datD] } = [l0, { l1 with q := [tx datD] }] := by rw [hls]; rfl
  rw [e2] at h1
  refine ⟨rfl, h1, h2.mono (fun x _ e => ?_)⟩
  have e3 : x = d.ls[1].xc := e
  exact (h.at_ _ (List.getElem_mem hi) x (.inl (.inr (.inr (.inl e3))))).1
theorem stepD {W : World} {d : DvR} {l0 l1 : Ln} (h : DvM W d) (hr : d.room = 2) (hb : d.batch = 2) (hls : d.ls = [l0, l1]) (hp0 : l0.p = poS) (hq0 : l0.q = []) (hp1 : l1.p = poS) (hq1 : l1.q = [tx datD]) (hT : Tab W) (hg : 0 < d.thi) :
    Calls Tryz.prog 13 #[.pointer (some ⟨d.db, 0, none⟩)] W fun e w' => ∃ v, e = .returned v ∧ Sl w' v 1 2 [.int .i64 1, .string (tx datE)] ∧ Kp (fun x => d.thi ≤ x) W w' := by
  have hl0 : l0 ∈ d.ls := by rw [hls]; simp
  have hl1 : l1 ∈ d.ls := by rw [hls]; simp
  have g0 : ¬ l0.all 0 := fun e => by have := (h.at_ l0 hl0 _ (.inl e)).1; omega
  have g1 : ¬ l1.all 0 := fun e => by have := (h.at_ l1 hl1 _ (.inl e)).1; omega
  have hlen : d.ls.length = 2 := by rw [hls]; rfl
  have := dStep h hT hg (by omega) (by omega) (fun i o => (i = 0 ∧ o = []) ∨ (i = 1 ∧ o = [tx datE])) (fun i l => (i = 0 ∧ l = []) ∨ (i = 1 ∧ l = []) ∨ (i = 2 ∧ l = [(1, tx datE)])) (.inl ⟨rfl, rfl⟩)
    (fun i l o h1 h2 => by
      rcases h1 with ⟨rfl, rfl⟩ | ⟨rfl, rfl⟩ | ⟨rfl, rfl⟩ <;> rcases h2 with ⟨h3, rfl⟩ | ⟨h3, rfl⟩
      · exact .inr (.inl ⟨rfl, rfl⟩)
      · cases h3
      · cases h3
      · exact .inr (.inr ⟨rfl, rfl⟩)
      · cases h3
      · cases h3)
    (fun i l h1 => by rcases h1 with ⟨rfl, rfl⟩ | ⟨rfl, rfl⟩ | ⟨rfl, rfl⟩ <;> simp)
    (fun i l hl W' hM hT' => by
      rw [hls] at hl
      rw [hr] at hM ⊢
      rw [hb]
      match i, hl with
      | 0, hl =>
        obtain rfl : l0 = l := by simpa using hl
        refine (step0 hM hp0 hq0 hT' g0).mono ?_
        rintro e w' ⟨v, o, f', p', h1, h2, h3⟩
        exact ⟨v, o, f', p', h1, .inl ⟨rfl, h2⟩, h3⟩
      | 1, hl =>
        obtain rfl : l1 = l := by simpa using hl
        refine (step1 hM hp1 hq1 hT' g1).mono ?_
        rintro e w' ⟨v, o, f', p', h1, h2, h3⟩
        exact ⟨v, o, f', p', h1, .inr ⟨rfl, h2⟩, h3⟩
      | n + 2, hl => simp at hl)
  refine this.mono ?_
  rintro e w' ⟨v, outs, rfl, hA, hS, hk⟩
  rw [hlen] at hA
  rcases hA with ⟨h1, _⟩ | ⟨h1, _⟩ | ⟨_, rfl⟩
  · cases h1
  · cases h1
  · exact ⟨v, rfl, hS, hk⟩
theorem tab_lt {w : World} {b j : Nat} {v : Value} (h : w.cell? ⟨b, j, none⟩ = some v) : b < w.heap.size := by
  unfold World.cell? at h
  rcases Nat.lt_or_ge b w.heap.size with h1 | h1
  · exact h1
  · rw [Array.getElem?_eq_none (by omega)] at h; cases h
set_option maxRecDepth 100000 in
set_option maxHeartbeats 2000000 in
theorem livesD (w : World) (hT : Tab w) : Calls Tryz.prog 17 #[] w fun e w' => e = .returned (.bool true) ∧ Kp none' w w' := by
  have HS := Lib.hid (fun W => someP W)
  have HT := Lib.hid hT
  have HSR := slR
  clear hT
  go_enter Tryz.func17, Tryz.ntmps17
  go_wp2_with fail
  refine (HS.out _).mono ?_
  rintro e w1 ⟨b, b2, rfl, hb, hb2, hl1, hl2, hk1⟩
  have HB1 := Lib.hid hb
  have HB2 := Lib.hid hb2
  have HK1 := Lib.hid hk1
  clear hb hb2 hl1 hl2 hk1
  go_wp2_with fail
  refine (HS.out _).mono ?_
  rintro e w2 ⟨c, c2, rfl, hc, hc2, hl1, hl2, hk2⟩
  have HC1 := Lib.hid hc
  have HC2 := Lib.hid hc2
  have HB3 := Lib.hid (HB1.out.kp hk2 (fun x => x))
  have HB4 := Lib.hid (HB2.out.kp hk2 (fun x => x))
  have HK2 := Lib.hid (HK1.out.trans hk2)
  have HSS := Lib.hid (slS b b2 c c2)
  clear hc hc2 hl1 hl2 hk2 HB1 HB2 HK1 HS
  go_upto_region 2 with (refine wpList_bs2 rfl (.tmp 7) (.tmp 8) rfl (HSS.out _) rfl rfl ?_)
  have hk3 : Kp none' w2 (((w2.alloc (.cells (vS b b2 ++ vS c c2).toArray 80)).alloc (.cells #[.int .u32 167772160, .int .i64 8, .int .i64 0, .int .u32 167837696, .int .i64 16, .int .i64 1] 104)).alloc (.cells #[.slice (some ⟨w2.heap.size, 0, none⟩) 2 2, .slice (some ⟨w2.heap.size + 1, 0, none⟩) 2 2, .int .i64 2, .int .i64 2] 107)) := (((Kp.refl none' w2).alloc _).alloc _).alloc _
  have hp3 := ((Blk.new w2 (vS b b2 ++ vS c c2) 80).alloc (.cells #[.int .u32 167772160, .int .i64 8, .int .i64 0, .int .u32 167837696, .int .i64 16, .int .i64 1] 104)).alloc (.cells #[.slice (some ⟨w2.heap.size, 0, none⟩) 2 2, .slice (some ⟨w2.heap.size + 1, 0, none⟩) 2 2, .int .i64 2, .int .i64 2] 107)
  have hr3 := (Blk.new (w2.alloc (.cells (vS b b2 ++ vS c c2).toArray 80)) [.int .u32 167772160, .int .i64 8, .int .i64 0, .int .u32 167837696, .int .i64 16, .int .i64 1] 104).alloc (.cells #[.slice (some ⟨w2.heap.size, 0, none⟩) 2 2, .slice (some ⟨w2.heap.size + 1, 0, none⟩) 2 2, .int .i64 2, .int .i64 2] 107)
  rw [World.size_alloc] at hr3
  have hcf := confD _ b b2 c c2 _ _ (HB3.out.kp hk3 (fun x => x)) (HB4.out.kp hk3 (fun x => x)) (HC1.out.kp hk3 (fun x => x)) (HC2.out.kp hk3 (fun x => x)) hp3 hr3
  have HCF := Lib.hid hcf
  have HK3 := Lib.hid (HK2.out.trans hk3)
  have HD1 := Lib.hid (HB3.out.kp hk3 (fun x => x))
  have HD2 := Lib.hid (HB4.out.kp hk3 (fun x => x))
  have HD3 := Lib.hid (HC1.out.kp hk3 (fun x => x))
  have HD4 := Lib.hid (HC2.out.kp hk3 (fun x => x))
  clear hk3 hp3 hr3 hcf HB3 HB4 HC1 HC2 HK2 HSS HSR
  go_wp2_with fail
  refine (HCF.out).mono ?_
  rintro e w4 ⟨pv, rv, rfl, hpv, hrv, hk4⟩
  have hnw := newD w4 b b2 c c2 (HD1.out.kp hk4 (fun x => x)) (HD2.out.kp hk4 (fun x => x)) (HD3.out.kp hk4 (fun x => x)) (HD4.out.kp hk4 (fun x => x)) pv rv hpv hrv
  have HNW := Lib.hid hnw
  have HK4 := Lib.hid (HK3.out.trans hk4)
  clear hpv hrv hk4 hnw HCF HD1 HD2 HD3 HD4 HK3
  go_wp2_with fail
  refine (HNW.out).mono ?_
  rintro e w5 ⟨d, l0, l1, rfl, hdv, hpu, hr, hb, hls, hp0, hq0, hp1, hq1, hwd, hk5⟩
  have HDV := Lib.hid hdv
  have HPU := Lib.hid hpu
  have HRM := Lib.hid hr
  have HBA := Lib.hid hb
  have HLS := Lib.hid hls
  have HP0 := Lib.hid (And.intro hp0 hq0)
  have HP1 := Lib.hid (And.intro hp1 hq1)
  have HK5 := Lib.hid (HK4.out.trans hk5)
  have HTH : Hid (w.heap.size ≤ d.thi) := Lib.hid (by have := HK4.out.size; have := hdv.lo; have := hdv.lh; omega)
  obtain ⟨db, hdb⟩ : ∃ db, d.db = db := ⟨_, rfl⟩
  have HDB := Lib.hid hdb
  rw [hdb]
  have HBY := Lib.hid (fun W => bytesD W)
  clear hdv hpu hr hb hls hp0 hq0 hp1 hq1 hwd hk5 hdb HNW HK4
  go_wp2_with fail
  refine (HBY.out _).mono ?_
  rintro e w6 ⟨rfl, hk6⟩
  have hin := inD (HDV.out.old hk6) HPU.out HRM.out HLS.out HP1.out.2
  rw [HDB.out] at hin
  have HIN := Lib.hid hin
  have HK6 := Lib.hid (HK5.out.trans hk6)
  clear hk6 hin HBY HDV HK5
  go_wp2_with fail
  refine (HIN.out).mono ?_
  rintro e w7 ⟨rfl, hdv7, hk7⟩
  have HK7 : Hid (Kp none' w w7) := Lib.hid (HK6.out.then hk7 (fun x hx e => by have := HTH.out; have e2 : d.thi ≤ x := e; omega))
  have hT7 : Tab w7 := HT.out.kp HK7.out (fun x => x)
  have hgw : 0 < d.thi := Nat.lt_of_lt_of_le (by
    have := HT.out 0 (by decide)
    exact tab_lt this) HTH.out
  have hst := stepD (d := { d with ls := [l0, { l1 with q := [tx datD] }] }) (by rw [HDB.out]; exact hdv7) HRM.out HBA.out rfl HP0.out.1 HP0.out.2 HP1.out.1 rfl hT7 hgw
  have hst2 : Calls Tryz.prog 13 #[.pointer (some ⟨db, 0, none⟩)] w7 fun e w' => ∃ v, e = .returned v ∧ Sl w' v 1 2 [.int .i64 1, .string (tx datE)] ∧ Kp (fun x => d.thi ≤ x) w7 w' := by rw [← HDB.out]; exact hst
  have HST := Lib.hid hst2
  clear hdv7 hk7 hT7 hgw hst hst2 HIN HK6 HPU HRM HBA HLS HP0 HP1 HDB
  go_wp2_with fail
  refine (HST.out).mono ?_
  rintro e w8 ⟨v, rfl, hsl, hk8⟩
  have HK8 : Hid (Kp none' w w8) := Lib.hid (HK7.out.then hk8 (fun x hx e => by have := HTH.out; have e2 : d.thi ≤ x := e; omega))
  obtain ⟨ao, cap, rfl, hcs⟩ := hsl.is
  obtain ⟨g, off, hao, hc0⟩ := hcs 0 (.int .i64 1) rfl
  subst hao
  have HLV := Lib.hid (livesP w8 (HT.out.kp HK8.out (fun x => x)))
  have hc1 : w8.cell? ⟨g, off, none⟩ = some (.int .i64 1) := by simpa using hc0
  clear hsl hcs hc0 hk8 HK7 HST HT HTH
  go_wp2_with fail
  refine (HLV.out).mono ?_
  rintro e w9 ⟨rfl, hk9⟩
  have HK9 := Lib.hid (HK8.out.trans hk9)
  clear hk9 HLV HK8
  go_wp2_with fail
  go_ret
  exact ⟨rfl, HK9.out⟩
end Go.Proofs.YtfckgddodjmbdaaGreatDoor

namespace Go.Proofs.YtfckgddodjmbdaaGreatDoor
set_option linter.unusedVariables false
set_option linter.unusedSimpArgs false
open Go Go.RowKit Go.Shelf
theorem nobodyD (s : ByteArray) (i : Int) (w : World) (hT : Tab w) : Calls Tryz.prog 4 #[.string s, .int .i64 i] w fun e w' => e = .returned (.bool true) ∧ Kp none' w w' :=
  nobodyD0 s i w (fun W k => livesD W (hT.kp k (fun x => x)))
end Go.Proofs.YtfckgddodjmbdaaGreatDoor
