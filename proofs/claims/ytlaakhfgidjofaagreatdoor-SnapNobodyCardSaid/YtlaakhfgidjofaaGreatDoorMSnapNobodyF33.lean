/- Walk of layer 40: a snapshot in which nothing waits, taken. -/
import Derived.Test.YtlaakhfgidjofaaGreatDoorMSnapNobodyF32
import Derived.Test.YtlaakhfgidjofaaGreatDoorMSnapNobodyF27
import Derived.Test.YtlaakhfgidjofaaGreatDoorMSnapNobodyF14
import Derived.Test.YtlaakhfgidjofaaGreatDoorMSnapNobodyF8
import Derived.Test.YtlaakhfgidjofaaGreatDoorMSnapNobodyF31
import Derived.Test.YtlaakhfgidjofaaGreatDoorMSnapNobodyF30
namespace Go.Proofs.YtlaakhfgidjofaaGreatDoor
set_option linter.unusedVariables false
set_option linter.unusedSimpArgs false
open Go Go.RowKit Go.Shelf
theorem ret_row3s {P : Program} {f : Func} {a b u : Tmp} {t1 t2 : TypeId} (hf : f.results = #[.cell a t1, .cell b t2, .tmp u]) {R : Ending → World → Prop} {W : World} {g1 g2 : Nat} {c1 c2 : List Value} {s1 s2 : TypeId} {T : Array Value} (h1 : Blk W g1 c1 s1) (h2 : Blk W g2 c2 s2) (d1 d2 : TypeDesc) (u1 : P.underlying t1 = some d1) (u2 : P.underlying t2 = some d2)
    (e1 : (match d1 with | .struct _ | .array _ _ => true | _ => false) = true) (e2 : (match d2 with | .struct _ | .array _ _ => true | _ => false) = true) (i1 : (P.info? t1).map (·.size) = some c1.length) (i2 : (P.info? t2).map (·.size) = some c2.length)
    (p1 : T.getD a undef = .pointer (some ⟨g1, 0, none⟩)) (p2 : T.getD b undef = .pointer (some ⟨g2, 0, none⟩)) (hR : R (.returned (.tuple #[.agg c1.toArray, .agg c2.toArray, T.getD u undef])) W) : bodyPost P f R Exit.ret { tmps := T, defers := [] } W := by
  refine bodyPost_ret (v := .tuple #[.agg c1.toArray, .agg c2.toArray, T.getD u undef]) ?_ rfl hR
  have p1' : T[a]?.getD undef = .pointer (some ⟨g1, 0, none⟩) := by simpa using p1
  have p2' : T[b]?.getD undef = .pointer (some ⟨g2, 0, none⟩) := by simpa using p2
  simp [results, hf, p1', p2', asAddr, run_loadVar_row W g1 s1 t1 c1.toArray (0, 0) d1 h1.is u1 e1 (by rw [List.size_toArray]; exact i1), run_loadVar_row W g2 s2 t2 c2.toArray (0, 0) d2 h2.is u2 e2 (by rw [List.size_toArray]; exact i2)]
theorem store_cells {W : World} {ty : TypeId} {o : Oper} {x y : Operand} {a : Act} {b : Nat} {t : TypeId} {v : Value} {vs old : List Value} (ho : o.op = .store ty x y) (hx : a.eval x = .pointer (some ⟨b, 0, none⟩)) (hy : a.eval y = v) (hv : v.cells.toList = vs)
    (hi : (Tryz.prog.info? ty).map (·.size) = some vs.length) (h1 : ∀ u ∈ vs, u.oneCell' = true) (h : Blk W b old t) (hl : old.length = vs.length) : (execOp a.eval o).run Tryz.prog W = .ok .skip (W.setCells b 0 vs) := by
  have hst := run_storeCells_cells (P := Tryz.prog) b 0 vs 0 W (fun j hj => by simp only [Nat.zero_add]; rw [h.cell j (List.getElem?_eq_getElem (by omega))]; rfl) (fun j hj => h.fz _) h1
  rw [Nat.add_zero] at hst
  have hs : (storeVar ty ⟨b, 0, none⟩ v).run Tryz.prog W = .ok () (W.setCells b 0 vs) := by
    cases hq : Tryz.prog.info? ty with
    | none => simp [hq] at hi
    | some i =>
      have hsz : v.cells.size = i.size := by
        have := congrArg List.length hv
        simp only [Array.length_toList] at this
        simp [hq] at hi; omega
      unfold storeVar
      simp [sizeOf, typeInfo, hq, hsz, hv, hst]
  unfold execOp
  simp only [ho, hx, hy, Instr.storeAt, Instr.sureAddr, Sem.run_bind, Sem.run_pure, Result.andThen_ok, hs]
theorem FreS.mono {B B' : Nat} {vt vb vq : Value} {vs : List Value} (h : FreS B vt vb vq vs) (hb : B' ≤ B) : FreS B' vt vb vq vs :=
  ⟨fun z e => Nat.le_trans hb (h.1 z e), fun z e => Nat.le_trans hb (h.2.1 z e), fun z e => Nat.le_trans hb (h.2.2.1 z e), fun x hx z e => Nat.le_trans hb (h.2.2.2 x hx z e)⟩
theorem StM.kpF {S : Nat → Prop} {w w' : World} {s : StS} {vt vb vq : Value} {vs : List Value} (h : StM w s vt vb vq vs) (k : Kp S w w') {B : Nat} (hf : FreS B vt vb vq vs) (hS : ∀ b, B ≤ b → ¬ S b) : StM w' s vt vb vq vs :=
  ⟨h.t.kp k (fun b _ e => hS b (hf.1 b e)), h.b.kp k (fun b _ e => hS b (hf.2.1 b e)), h.q.kp k (fun b _ e => hS b (hf.2.2.1 b e)), h.qs.kp k (fun v hv b _ e => hS b (hf.2.2.2 v hv b e))⟩
def zCfS : List Value := [.int .i64 0, .int .i64 0, .int .i64 0, .int .i64 0, .int .i64 0, .int .u64 0, .int .i64 0, .int .u64 0, .int .u64 0, .int .u64 0, .slice none 0 0]
def zStS : List Value := stC 0 0 0 (List.replicate 32 0) (.slice none 0 0) (.slice none 0 0) (.slice none 0 0)
theorem zStS_len : zStS.length = 38 := stC_len _ _ _ _ (by simp) _ _ _
set_option maxRecDepth 100000 in
set_option maxHeartbeats 4000000 in
theorem aTakeS {c : CfR} {s : StS} (ho : SnOk c s) (w : World) (hx : MX w) :
    Calls Tryz.prog 10 #[.string (tx (sealL (snB c s)))] w fun e w' => ∃ v vt vb vq vs, e = .returned (.tuple #[.agg (enC c v).toArray, .agg (stC s.now s.tok s.virt s.ref vt vb vq).toArray, .int .i64 0]) ∧ Sl w' v c.flows.length 5 (c.flows.flatMap enFl) ∧ StM w' s vt vb vq vs ∧ (∀ z, v.ownBlock = some z → w.heap.size ≤ z) ∧ Kp none' w w' := by
  have hO := fun W => aOpen (snB c s) ho.hl W
  have htx := ho.htx; have hl := ho.hl
  have hRd := fun (r : Nat) (W : World) (h : Rd W r (snB c s)) => aReadF (tx (putT c)) htx s ho.ok (by show (snB c s).length ≤ 1000000; omega) (r := r) (w := W) h
  have hpt : putT c = textC c := by unfold putT; rw [if_pos ho.hE]
  have hrp : readC (bl (tx (putT c))) = (c, 0, 0) := by rw [bl_tx, hpt]; exact read_put c ho.hc ho.hE
  have hCR := fun W (h : MX W) => gReadCB (tx (putT c)) (by omega) W h
  rw [hrp] at hCR
  simp only [show ((0 : Nat) : Int) = 0 from rfl] at hCR
  have hCP := fun v W h => gPutC c ho.hc v W h
  rw [ho.hE] at hCP
  have hLd := fun v vt vb vq vs W h1 h2 => ho.load (v := v) (vt := vt) (vb := vb) (vq := vq) (vs := vs) (w := W) h1 h2
  have olen := ho.ok.len
  refine calls_post ?_
  intro PP HP
  obtain ⟨B, hB⟩ : ∃ B, snB c s = B := ⟨_, rfl⟩
  obtain ⟨T, hT⟩ : ∃ T, tx (putT c) = T := ⟨_, rfl⟩
  rw [hB] at hO hRd ⊢
  rw [hT] at hRd hCR hCP
  have HO := Lib.hid hO; have HRd := Lib.hid hRd; have HCR := Lib.hid hCR; have HCP := Lib.hid hCP; have HLd := Lib.hid hLd; have HX := Lib.hid hx
  have E0 := Lib.hid ((Blk.new w zCfS 25).alloc (.cells zStS.toArray 30))
  have E1 : Hid (Blk ((w.alloc (.cells zCfS.toArray 25)).alloc (.cells zStS.toArray 30)) (w.heap.size + 1) zStS 30) := by
    have := Blk.new (w.alloc (.cells zCfS.toArray 25)) zStS 30
    rw [World.size_alloc] at this; exact this
  have HK : Hid (Kp none' w ((w.alloc (.cells zCfS.toArray 25)).alloc (.cells zStS.toArray 30))) := ((Kp.refl none' w).alloc _).alloc _
  clear hO hRd hCR hCP hLd hx ho htx hl hpt hrp hB hT
  go_enter Tryz.func10, Tryz.ntmps10
  go_upto_region 1 with fail
  obtain ⟨w0, hw0⟩ : ∃ w0, (w.alloc (.cells zCfS.toArray 25)).alloc (.cells zStS.toArray 30) = w0 := ⟨_, rfl⟩
  rw [hw0] at E0 E1 HK
  show Code.wp _ _ _ _ ((w.alloc (.cells zCfS.toArray 25)).alloc (.cells zStS.toArray 30))
  rw [hw0]
  clear hw0
  go_wp2_with fail
  refine (HO.out w0).mono ?_
  rintro e w1 ⟨rfl, k1⟩
  have E01 := Lib.hid (E0.out.kp k1 (fun x => x)); have E11 := Lib.hid (E1.out.kp k1 (fun x => x)); have K1 := Lib.hid (HK.out.trans k1)
  clear k1 E0 E1 HK HO
  have hR1 : Rd (w1.alloc (.cells #[.string (tx B)] 80)) w1.heap.size B := Blk.new w1 _ _
  have HR1 := Lib.hid hR1
  clear hR1
  go_wp2_with fail
  refine (HRd.out _ _ HR1.out).mono ?_
  rintro e w2 ⟨vt, vb, vq, vs, rfl, hm2, hfr2, k2⟩
  obtain ⟨ta, tc, rfl⟩ : ∃ ta tc, vt = .slice ta s.tags.length tc := by obtain ⟨_, _, ta, tc, rfl, _⟩ := hm2.t; exact ⟨_, _, rfl⟩
  obtain ⟨ba, bc, rfl⟩ : ∃ ta tc, vb = .slice ta s.bounds.length tc := by obtain ⟨_, _, ta, tc, rfl, _⟩ := hm2.b; exact ⟨_, _, rfl⟩
  obtain ⟨qa, qc, rfl⟩ : ∃ ta tc, vq = .slice ta s.qs.length tc := by obtain ⟨_, _, ta, tc, rfl, _⟩ := hm2.q; exact ⟨_, _, rfl⟩
  have hz1 := K1.out.size
  have l0 := E01.out.lt; have l1 := E11.out.lt
  rw [World.size_alloc] at hfr2
  have HF2 := Lib.hid (hfr2.mono (show w.heap.size + 2 ≤ w1.heap.size + 1 by omega))
  clear hfr2
  have kk : Kp (fun b => b = w1.heap.size) w1 w2 := by
    have h : Kp (fun b => b = w1.heap.size) w1 (w1.alloc (.cells #[.string (tx B)] 80)) := (Kp.refl _ w1).alloc _
    exact h.trans k2
  have E02 := Lib.hid (E01.out.kp kk (by omega)); have E12 := Lib.hid (E11.out.kp kk (by omega))
  have K2 := Lib.hid (K1.out.then kk (fun i hi e => by omega))
  have HM2 := Lib.hid hm2
  obtain ⟨cs, hcs⟩ : ∃ cs, stC s.now s.tok s.virt s.ref (.slice ta s.tags.length tc) (.slice ba s.bounds.length bc) (.slice qa s.qs.length qc) = cs := ⟨_, rfl⟩
  have hone : Hid (∀ u ∈ cs, u.oneCell' = true) := by rw [← hcs]; exact stOne _ _ _ _ rfl rfl rfl
  have hlen : cs.length = 38 := by rw [← hcs]; exact stC_len _ _ _ _ olen _ _ _
  have hi : Hid ((Tryz.prog.info? 30).map (·.size) = some cs.length) := by show _ = _; rw [hlen]; exact infoSt
  have ho : Hid (zStS.length = cs.length) := by show _ = _; rw [hlen, zStS_len]
  have D2 := Lib.hid (Blk.new w2 zStS 30)
  have E02a := Lib.hid (E02.out.alloc (.cells zStS.toArray 30)); have E12a := Lib.hid (E12.out.alloc (.cells zStS.toArray 30))
  have K2a := Lib.hid (K2.out.alloc (.cells zStS.toArray 30))
  have l02 := E02.out.lt; have l12 := E12.out.lt
  have HCS := Lib.hid hcs
  rw [hcs]
  clear hm2 k2 kk E01 E11 K1 HR1 HRd hcs l0 l1 E02 E12 K2
  go_wp2_with (refine wp_set_row rfl 30 (.tmp 8) (.tmp 31) rfl D2.out cs rfl rfl hi.out ho.out hone.out ?_)
  intro w3 hb hot hK
  have k3 : Kp (fun b => b = w2.heap.size) (w2.alloc (.cells zStS.toArray 30)) w3 := hK _ _ (Kp.refl _ _) (.inl rfl)
  have hz2 : w.heap.size ≤ w2.heap.size := by omega
  have E03 := Lib.hid (E02a.out.kp k3 (by omega)); have E13 := Lib.hid (E12a.out.kp k3 (by omega))
  have K3 := Lib.hid (K2a.out.then k3 (fun i hi e => by omega))
  have HM3 := Lib.hid (HM2.out.old (((Kp.refl none' w2).alloc (.cells zStS.toArray 30)).then k3 (fun i hi e => by omega)))
  have D3 := Lib.hid hb
  have hz3 := K3.out.size
  clear hb hot hK k3 E02a E12a K2a HM2 D2
  go_wp2_with fail
  refine (HCR.out w3 (HX.out.kp K3.out)).mono ?_
  have l13 := E13.out.lt
  rintro e w4 ⟨v, rfl, hv4, _, hfv, k4⟩
  obtain ⟨fa, fc, rfl⟩ : ∃ fa fc, v = .slice fa c.flows.length fc := by obtain ⟨_, _, fa, fc, rfl, _⟩ := hv4; exact ⟨_, _, rfl⟩
  have E04 := Lib.hid (E03.out.kp k4 (fun x => x)); have E14 := Lib.hid (E13.out.kp k4 (fun x => x)); have D4 := Lib.hid (D3.out.kp k4 (fun x => x))
  have K4 := Lib.hid (K3.out.trans k4); have HM4 := Lib.hid (HM3.out.old k4); have HV4 := Lib.hid hv4
  obtain ⟨cc, hcc⟩ : ∃ cc, enC c (.slice fa c.flows.length fc) = cc := ⟨_, rfl⟩
  have cone : Hid (∀ u ∈ cc, u.oneCell' = true) := by rw [← hcc]; intro u hu; simp [enC] at hu; rcases hu with rfl | rfl | rfl | rfl | rfl | rfl | rfl | rfl | rfl | rfl | rfl <;> rfl
  have clen : cc.length = 11 := by rw [← hcc]; rfl
  have ci : Hid ((Tryz.prog.info? 25).map (·.size) = some cc.length) := by show _ = _; rw [clen]; exact infoCf
  have co : Hid (zCfS.length = cc.length) := by show _ = _; rw [clen]; rfl
  have HCC := Lib.hid hcc
  have HFv : Hid (∀ z, (Value.slice fa c.flows.length fc).ownBlock = some z → w.heap.size + 2 ≤ z) := fun z h => by have := hfv z h; omega
  clear hfv l13
  have K4sz : Hid (w.heap.size + 1 < w4.heap.size) := by show _ < _; exact E14.out.lt
  have C4 := Lib.hid (Blk.new w4 zCfS 25)
  have E04a := Lib.hid (E04.out.alloc (.cells zCfS.toArray 25)); have E14a := Lib.hid (E14.out.alloc (.cells zCfS.toArray 25)); have D4a := Lib.hid (D4.out.alloc (.cells zCfS.toArray 25))
  have l04 := E04.out.lt; have l14 := E14.out.lt; have ld4 := D4.out.lt
  have K4a := Lib.hid (K4.out.alloc (.cells zCfS.toArray 25))
  have hz4 := K4.out.size
  rw [hcc]
  clear hv4 k4 E03 E13 D3 K3 HM3 hcc E04 E14 D4
  go_wp2_with (refine wp_set_row rfl 25 (.tmp 9) (.tmp 36) rfl C4.out cc rfl rfl ci.out co.out cone.out ?_)
  intro w5 hb hot hK
  have k5 : Kp (fun b => b = w4.heap.size) (w4.alloc (.cells zCfS.toArray 25)) w5 := hK _ _ (Kp.refl _ _) (.inl rfl)
  have kn5 := ((Kp.refl none' w4).alloc (.cells zCfS.toArray 25)).then k5 (fun i hi e => by omega)
  have E05 := Lib.hid (E04a.out.kp k5 (by omega)); have E15 := Lib.hid (E14a.out.kp k5 (by omega)); have D5 := Lib.hid (D4a.out.kp k5 (by omega))
  have C5 := Lib.hid hb
  have K5 := Lib.hid (K4.out.trans kn5); have HM5 := Lib.hid (HM4.out.old kn5); have HV5 := Lib.hid (HV4.out.old kn5)
  have hCP5 := HCP.out _ w5 HV5.out
  rw [HCC.out] at hCP5
  have HP5 := Lib.hid hCP5
  clear hb hot hK k5 kn5 E04a E14a D4a C4 K4 K4a HM4 HV4 hCP5
  go_wp2_with (refine wp_get_rowG (by exact rfl) 25 (.tmp 9) rfl C5.out _ rfl Tryz.underlying25 rfl ci.out ?_)
  refine HP5.out.mono ?_
  rintro e w6 ⟨rfl, k6⟩
  have E06 := Lib.hid (E05.out.kp k6 (fun x => x)); have E16 := Lib.hid (E15.out.kp k6 (fun x => x)); have D6 := Lib.hid (D5.out.kp k6 (fun x => x)); have C6 := Lib.hid (C5.out.kp k6 (fun x => x))
  have K6 := Lib.hid (K5.out.trans k6); have HM6 := Lib.hid (HM5.out.old k6); have HV6 := Lib.hid (HV5.out.old k6)
  have hLd6 := HLd.out _ _ _ _ _ w6 HV6.out HM6.out
  rw [HCC.out, HCS.out] at hLd6
  have HL6 := Lib.hid hLd6
  clear k6 E05 E15 D5 C5 K5 HM5 HV5 HP5 hLd6
  go_wp2_with (first
    | (refine wp_get_rowG (by exact rfl) 25 (.tmp 9) rfl C6.out _ rfl Tryz.underlying25 rfl ci.out ?_)
    | (refine wp_get_rowG (by exact rfl) 30 (.tmp 8) rfl D6.out _ rfl Tryz.underlying30 rfl hi.out ?_))
  refine HL6.out.mono ?_
  rintro e w7 ⟨⟨b7, rfl⟩, k7⟩
  have E07 := Lib.hid (E06.out.kp k7 (fun x => x)); have E17 := Lib.hid (E16.out.kp k7 (fun x => x)); have D7 := Lib.hid (D6.out.kp k7 (fun x => x)); have C7 := Lib.hid (C6.out.kp k7 (fun x => x))
  have K7 := Lib.hid (K6.out.trans k7); have HM7 := Lib.hid (HM6.out.old k7); have HV7 := Lib.hid (HV6.out.old k7)
  clear k7 E06 E16 D6 C6 K6 HM6 HV6 HL6
  go_upto_region 12 with fail
  have kd : Kp none' w7 w7.drew := (Kp.refl none' w7).drew
  have e0 := E07.out.kp kd (fun x => x)
  have e1 := E17.out.kp kd (fun x => x)
  have d0 := D7.out.kp kd (fun x => x)
  have c0 := C7.out.kp kd (fun x => x)
  have lc := K4sz.out
  have ke : Kp (fun b => b = w.heap.size) w7.drew (w7.drew.setCells w.heap.size 0 cc) := kp_setCells (S := fun b => b = w.heap.size) (.inl rfl) _ _ _ (Kp.refl _ _)
  have F0 : Hid (Blk (w7.drew.setCells w.heap.size 0 cc) w.heap.size cc 25) := by
    have := Blk.setCells cc 0 _ _ e0
    rw [setFlat_all cc 0 zCfS (by rw [Nat.zero_add]; exact co.out.symm)] at this
    show Blk _ _ _ _
    simpa using this
  have F1 := Lib.hid (e1.kp ke (by omega))
  have FD := Lib.hid (d0.kp ke (by omega))
  have kw8 : Kp none' w7 (w7.drew.setCells w.heap.size 0 cc) → True := fun _ => trivial
  have K8 : Hid (Kp none' w (w7.drew.setCells w.heap.size 0 cc)) := (K7.out.trans kd).then ke (fun i hi e => by omega)
  have HMd := Lib.hid (HM7.out.old kd)
  have LD : Hid (∀ W, W = w7.drew ∨ W = w7.drew.setCells w.heap.size 0 cc → (Instr.loadAt 30 (.pointer (some ⟨w2.heap.size, 0, none⟩))).run Tryz.prog W = .ok (.agg cs.toArray) W) := fun W h =>
    run_loadAt_mid W _ 0 30 cs _ (fun j u hu => by rw [Nat.zero_add]; rcases h with rfl | rfl; exact d0.cell j hu; exact FD.out.cell j hu) Tryz.underlying30 rfl hi.out
  have LC : Hid (∀ W, W = w7.drew ∨ W = w7.drew.setCells w.heap.size 0 cc → (Instr.loadAt 25 (.pointer (some ⟨w4.heap.size, 0, none⟩))).run Tryz.prog W = .ok (.agg cc.toArray) W) := fun W h =>
    run_loadAt_mid W _ 0 25 cc _ (fun j u hu => by rw [Nat.zero_add]; rcases h with rfl | rfl; exact c0.cell j hu; exact (c0.kp ke (by omega)).cell j hu) Tryz.underlying25 rfl ci.out
  have HE0 := Lib.hid e0
  refine wp_region_keptS (w2 := w7.drew.setCells w.heap.size 0 cc) 2 [0, 1, 2] 3 (by kernel_rfl) (by kernel_rfl) ?_
  simp only [pickS, List.getElem?_cons_succ, List.getElem?_cons_zero, List.drop_succ_cons, List.drop_zero]
  show wpSL _ _ _ _ _ _ _
  refine wpSL_op (by exact rfl) (load_atS rfl rfl LC.out) ?_; simp only [Act.put, List.setIfInBounds_toArray, List.set_cons_succ, List.set_cons_zero]
  refine wpSL_op (by exact rfl) (load_atS rfl rfl LD.out) ?_; simp only [Act.put, List.setIfInBounds_toArray, List.set_cons_succ, List.set_cons_zero]
  refine wpSL_store (by exact rfl) (store_cells rfl rfl rfl rfl ci.out cone.out HE0.out co.out) ?_; simp only [Act.put, List.setIfInBounds_toArray, List.set_cons_succ, List.set_cons_zero]
  show wpList _ _ _ _ _ _
  have hV8 : Sl (w7.drew.setCells w.heap.size 0 cc) (.slice fa c.flows.length fc) c.flows.length 5 (c.flows.flatMap enFl) := (HV7.out.old kd).kp ke (fun b _ hb e => by have := HFv.out b hb; omega)
  have hM8 : StM (w7.drew.setCells w.heap.size 0 cc) s (.slice ta s.tags.length tc) (.slice ba s.bounds.length bc) (.slice qa s.qs.length qc) vs := HMd.out.kpF ke HF2.out (fun b hb e => by omega)
  have HV8 := Lib.hid hV8; have HM8 := Lib.hid hM8
  clear hV8 hM8 kd e0 e1 d0 c0 ke kw8 HMd LD LC HE0 K7 HM7 HV7 E07 E17 D7 C7 FD
  generalize w7.drew.setCells w.heap.size 0 cc = w8 at *
  refine wp_set_row rfl 30 (.tmp 3) (.tmp 69) rfl F1.out cs rfl rfl hi.out ho.out hone.out ?_
  intro w9 hb hot hK
  have k9 : Kp (fun b => b = w.heap.size + 1) w8 w9 := hK _ _ (Kp.refl _ _) (.inl rfl)
  have G0 := Lib.hid (F0.out.kp k9 (by omega)); have G1 := Lib.hid hb
  have K9 := Lib.hid (K8.out.then k9 (fun i hi e => by omega))
  have hV9 : Sl w9 (.slice fa c.flows.length fc) c.flows.length 5 (c.flows.flatMap enFl) := HV8.out.kp k9 (fun b _ hb e => by have := HFv.out b hb; omega)
  have hM9 : StM w9 s (.slice ta s.tags.length tc) (.slice ba s.bounds.length bc) (.slice qa s.qs.length qc) vs := HM8.out.kpF k9 HF2.out (fun b hb e => by omega)
  have HV9 := Lib.hid hV9; have HM9 := Lib.hid hM9
  clear hb hot hK k9 hV9 hM9
  go_wp2_with fail
  exact ret_row3s rfl G0.out G1.out _ _ Tryz.underlying25 Tryz.underlying30 rfl rfl ci.out hi.out rfl rfl (HP.out _ _ ⟨_, _, _, _, _, by rw [HCC.out, HCS.out]; rfl, HV9.out, HM9.out, fun z h => by have := HFv.out z h; omega, K9.out⟩)

set_option maxRecDepth 100000 in
set_option maxHeartbeats 4000000 in
theorem aTake0 (w : World) : Calls Tryz.prog 10 #[.string ⟨#[]⟩] w fun e w' => e = .returned (.tuple #[.agg zCfS.toArray, .agg zStS.toArray, .int .i64 11]) ∧ Kp none' w w' := by
  have E0 := Lib.hid ((Blk.new w zCfS 25).alloc (.cells zStS.toArray 30))
  have E1 : Hid (Blk ((w.alloc (.cells zCfS.toArray 25)).alloc (.cells zStS.toArray 30)) (w.heap.size + 1) zStS 30) := by
    have := Blk.new (w.alloc (.cells zCfS.toArray 25)) zStS 30
    rw [World.size_alloc] at this; exact this
  have HK : Hid (Kp none' w ((w.alloc (.cells zCfS.toArray 25)).alloc (.cells zStS.toArray 30))) := ((Kp.refl none' w).alloc _).alloc _
  have hic : Hid ((Tryz.prog.info? 25).map (·.size) = some zCfS.length) := infoCf
  have his : Hid ((Tryz.prog.info? 30).map (·.size) = some zStS.length) := by show _ = _; rw [zStS_len]; exact infoSt
  have hoc : Hid (∀ u ∈ zCfS, u.oneCell' = true) := List.all_eq_true.1 (show zCfS.all (·.oneCell') = true by rfl)
  have hos : Hid (∀ u ∈ zStS, u.oneCell' = true) := stOne _ _ _ _ rfl rfl rfl
  go_enter Tryz.func10, Tryz.ntmps10
  go_upto_region 1 with fail
  obtain ⟨w0, hw0⟩ : ∃ w0, (w.alloc (.cells zCfS.toArray 25)).alloc (.cells zStS.toArray 30) = w0 := ⟨_, rfl⟩
  rw [hw0] at E0 E1 HK
  show Code.wp _ _ _ _ ((w.alloc (.cells zCfS.toArray 25)).alloc (.cells zStS.toArray 30))
  rw [hw0]
  clear hw0
  go_wp2_with fail
  refine (aOpen0 w0).mono ?_
  rintro e w1 ⟨rfl, k1⟩
  have F0 := Lib.hid (E0.out.kp k1 (fun x => x)); have F1 := Lib.hid (E1.out.kp k1 (fun x => x)); have K1 := Lib.hid (HK.out.trans k1)
  clear k1 E0 E1 HK
  go_wp2_with (refine wp_set_row rfl 25 (.tmp 2) (.tmp 23) rfl F0.out zCfS rfl rfl hic.out rfl hoc.out ?_)
  intro w2 hb hot hK
  have k2 : Kp (fun b => b = w.heap.size) w1 w2 := hK _ _ (Kp.refl _ _) (.inl rfl)
  have G0 := Lib.hid hb
  have G1 := Lib.hid (F1.out.kp k2 (by omega))
  have K2 := Lib.hid (K1.out.then k2 (fun i hi e => by omega))
  clear hb hot hK k2 F0 F1 K1
  refine wp_set_row rfl 30 (.tmp 3) (.tmp 24) rfl G1.out zStS rfl rfl his.out rfl hos.out ?_
  intro w3 hb hot hK
  have k3 : Kp (fun b => b = w.heap.size + 1) w2 w3 := hK _ _ (Kp.refl _ _) (.inl rfl)
  have H0 := Lib.hid (G0.out.kp k3 (by omega)); have H1 := Lib.hid hb
  have K3 := Lib.hid (K2.out.then k3 (fun i hi e => by omega))
  clear hb hot hK k3 G0 G1 K2
  go_wp2_with fail
  exact ret_row3s rfl H0.out H1.out _ _ Tryz.underlying25 Tryz.underlying30 rfl rfl hic.out his.out rfl rfl ⟨rfl, K3.out⟩

set_option maxRecDepth 100000 in
set_option maxHeartbeats 4000000 in
theorem aResume0 {c : CfR} {s : StS} (ho : SnOk c s) (w : World) (hx : MX w) :
    Calls Tryz.prog 16 #[.string (tx (sealL (snB c s)))] w fun e w' => ∃ v b, e = .returned (.tuple #[.agg (enC c v).toArray, .pointer (some ⟨b, 0, none⟩), .int .i64 0]) ∧ Sl w' v c.flows.length 5 (c.flows.flatMap enFl) ∧ Kp none' w w' := by
  have HC := Lib.hid (Blk.new w zCfS 25)
  have HK : Hid (Kp none' w (w.alloc (.cells zCfS.toArray 25))) := (Kp.refl none' w).alloc _
  have HT := Lib.hid (aTakeS ho _ (hx.kp HK.out))
  have HLd := Lib.hid (fun v vt vb vq vs W h1 h2 => ho.load (v := v) (vt := vt) (vb := vb) (vq := vq) (vs := vs) (w := W) h1 h2)
  have olen := ho.ok.len
  obtain ⟨B, hB⟩ : ∃ B, sealL (snB c s) = B := ⟨_, rfl⟩
  rw [hB] at HT ⊢
  refine calls_post ?_
  intro PP HP
  clear hB ho hx
  go_enter Tryz.func16, Tryz.ntmps16
  go_wp2_with fail
  refine HT.out.mono ?_
  rintro e w1 ⟨v, vt, vb, vq, vs, rfl, hv1, hm1, hfv, k1⟩
  obtain ⟨fa, fc, rfl⟩ : ∃ fa fc, v = .slice fa c.flows.length fc := by obtain ⟨_, _, fa, fc, rfl, _⟩ := hv1; exact ⟨_, _, rfl⟩
  obtain ⟨ta, tc, rfl⟩ : ∃ ta tc, vt = .slice ta s.tags.length tc := by obtain ⟨_, _, ta, tc, rfl, _⟩ := hm1.t; exact ⟨_, _, rfl⟩
  obtain ⟨ba, bc, rfl⟩ : ∃ ta tc, vb = .slice ta s.bounds.length tc := by obtain ⟨_, _, ta, tc, rfl, _⟩ := hm1.b; exact ⟨_, _, rfl⟩
  obtain ⟨qa, qc, rfl⟩ : ∃ ta tc, vq = .slice ta s.qs.length tc := by obtain ⟨_, _, ta, tc, rfl, _⟩ := hm1.q; exact ⟨_, _, rfl⟩
  rw [World.size_alloc] at hfv
  have HFv := Lib.hid hfv
  have C1 := Lib.hid (HC.out.kp k1 (fun x => x))
  have lc1 := C1.out.lt
  have K1 := Lib.hid (HK.out.trans k1)
  have ka : Kp none' w1 ((w1.alloc (.cells zCfS.toArray 25)).alloc (.cells zStS.toArray 30)) := ((Kp.refl none' w1).alloc _).alloc _
  have A0 := Lib.hid ((Blk.new w1 zCfS 25).alloc (.cells zStS.toArray 30))
  have A1 : Hid (Blk ((w1.alloc (.cells zCfS.toArray 25)).alloc (.cells zStS.toArray 30)) (w1.heap.size + 1) zStS 30) := by
    have := Blk.new (w1.alloc (.cells zCfS.toArray 25)) zStS 30
    rw [World.size_alloc] at this; exact this
  have HKa := Lib.hid ka
  have HV1 := Lib.hid hv1; have HM1 := Lib.hid hm1
  obtain ⟨cs, hcs⟩ : ∃ cs, stC s.now s.tok s.virt s.ref (.slice ta s.tags.length tc) (.slice ba s.bounds.length bc) (.slice qa s.qs.length qc) = cs := ⟨_, rfl⟩
  have hone : Hid (∀ u ∈ cs, u.oneCell' = true) := by rw [← hcs]; exact stOne _ _ _ _ rfl rfl rfl
  have hlen : cs.length = 38 := by rw [← hcs]; exact stC_len _ _ _ _ olen _ _ _
  have hi : Hid ((Tryz.prog.info? 30).map (·.size) = some cs.length) := by show _ = _; rw [hlen]; exact infoSt
  have ho : Hid (zStS.length = cs.length) := by show _ = _; rw [hlen, zStS_len]
  obtain ⟨cc, hcc⟩ : ∃ cc, enC c (.slice fa c.flows.length fc) = cc := ⟨_, rfl⟩
  have cone : Hid (∀ u ∈ cc, u.oneCell' = true) := by rw [← hcc]; intro u hu; simp [enC] at hu; rcases hu with rfl | rfl | rfl | rfl | rfl | rfl | rfl | rfl | rfl | rfl | rfl <;> rfl
  have clen : cc.length = 11 := by rw [← hcc]; rfl
  have ci : Hid ((Tryz.prog.info? 25).map (·.size) = some cc.length) := by show _ = _; rw [clen]; exact infoCf
  have co : Hid (zCfS.length = cc.length) := by show _ = _; rw [clen]; rfl
  have HCC := Lib.hid hcc; have HCS := Lib.hid hcs
  rw [hcc, hcs]
  clear hv1 hm1 hfv k1 ka hcc hcs HC HK HT
  go_wp2_with (refine wp_set_row rfl 25 (.tmp 5) (.tmp 12) rfl A0.out cc rfl rfl ci.out co.out cone.out ?_)
  intro w2 hb hot hK
  have k2 : Kp none' w1 w2 := hK _ _ HKa.out (.inr (Nat.le_refl _))
  have B0 := Lib.hid hb
  have B1 := Lib.hid (hot _ _ _ A1.out (by omega))
  have K2 := Lib.hid k2
  clear hb hot hK k2 A0 A1 HKa
  refine wp_set_row rfl 30 (.tmp 6) (.tmp 13) rfl B1.out cs rfl rfl hi.out ho.out hone.out ?_
  intro w3 hb hot hK
  have k3 : Kp none' w1 w3 := hK _ _ K2.out (.inr (by omega))
  have D0 := Lib.hid (hot _ _ _ B0.out (by omega)); have D1 := Lib.hid hb
  have C3 := Lib.hid (C1.out.kp k3 (fun x => x)); have K3 := Lib.hid (K1.out.trans k3)
  have HV3 := Lib.hid (HV1.out.old k3)
  have hL := HLd.out _ _ _ _ _ w3 HV3.out (HM1.out.old k3)
  rw [HCC.out, HCS.out] at hL
  have HL := Lib.hid hL
  clear hb hot hK k3 hL B0 B1 K2 C1 K1 HV1 HM1 HLd
  go_wp2_with (first
    | (refine wp_get_rowG (by exact rfl) 25 (.tmp 5) rfl D0.out _ rfl Tryz.underlying25 rfl ci.out ?_)
    | (refine wp_get_rowG (by exact rfl) 30 (.tmp 6) rfl D1.out _ rfl Tryz.underlying30 rfl hi.out ?_))
  refine HL.out.mono ?_
  rintro e w4 ⟨⟨b4, rfl⟩, k4⟩
  have D4 := Lib.hid (D0.out.kp k4 (fun x => x)); have C4 := Lib.hid (C3.out.kp k4 (fun x => x)); have K4 := Lib.hid (K3.out.trans k4); have HV4 := Lib.hid (HV3.out.old k4)
  clear k4 D0 D1 C3 K3 HV3 HL
  go_wp2_with (first
    | (refine wp_get_rowG (by exact rfl) 25 (.tmp 5) rfl D4.out _ rfl Tryz.underlying25 rfl ci.out ?_)
    | (refine wp_set_row rfl 25 (.tmp 2) (.tmp 25) rfl C4.out cc rfl rfl ci.out co.out cone.out ?_))
  intro w5 hb hot hK
  have k5 : Kp (fun b => b = w.heap.size) w4 w5 := hK _ _ (Kp.refl _ _) (.inl rfl)
  have G0 := Lib.hid hb
  have K5 := Lib.hid (K4.out.then k5 (fun i hi e => by omega))
  have HV5 := Lib.hid (HV4.out.kp k5 (fun b _ hb e => by have := HFv.out b hb; omega))
  clear hb hot hK k5
  go_wp2_with fail
  exact ret_row3 rfl G0.out _ Tryz.underlying25 rfl ci.out rfl (HP.out _ _ ⟨_, _, by rw [HCC.out]; rfl, HV5.out, K5.out⟩)

def s01 : StS := st0 (shNewS (cSome 1) (.hp 0 []))
theorem s01_tags : ∀ x ∈ s01.tags, u64 x := fun x hx => by
  have h : s01.tags.all (fun x => decide (x < 18446744073709551616)) = true := by decide
  have h2 := List.all_eq_true.1 h x hx
  show x < 18446744073709551616
  simpa using h2
theorem s01_ref : ∀ x ∈ s01.ref, u64 x := fun x hx => by
  have h := List.eq_of_mem_replicate hx
  subst h
  show 0 < 18446744073709551616
  omega
theorem s01_qs : ∀ q ∈ s01.qs, ∀ x ∈ q, x.ok := fun q hq x hx => by
  have h : q = [] := by simpa [s01, st0] using hq
  subst h
  cases hx
theorem s01_ok : s01.ok := ⟨by show _ < _; decide, by show _ < _; decide, by show _ < _; decide, rfl, s01_ref, s01_tags, (fun x hx => by cases hx), s01_qs⟩
theorem s01_may : mayL (cSome 1) s01 = true := by decide
theorem s01_fn : ∀ f ∈ stF s01, f.ok := fun f hf => by
  have h : ∀ l : List Fd, l.all (fun f => match f with | .var n => decide (n < 18446744073709551616) | _ => false) = true → ∀ f ∈ l, f.ok := fun l hl f hf => by
    have h2 := List.all_eq_true.1 hl f hf
    cases f with
    | var n => show n < 18446744073709551616; simpa using h2
    | _ => simp at h2
  exact h _ (by kernel_rfl) f hf
theorem snOk1 : SnOk (cSome 1) s01 where
  hc := cSome_ok (by decide)
  hE := chk1
  hbk := rfl
  hpk := by decide
  hfl := by decide
  ok := s01_ok
  hq := rfl
  hmay := s01_may
  htl := rfl
  hfn := s01_fn
  hn := Nat.le_of_ble_eq_true (by kernel_rfl)
  hl := Nat.le_of_ble_eq_true (by kernel_rfl)
  htx := Nat.le_of_ble_eq_true (by kernel_rfl)


section
variable {P : Program} {ops : Array Oper} {Q : Exit → Act → World → Prop} {a : Act} {w : World} {rest : List Oper} {o : Oper}
theorem wpList_val {v : Value} (hw : Region.wanted o (yielded ops a.tmps) = true) (h1 : (execOp a.eval o).run P w = .ok (.value v) w) (h : wpList P ops Q rest (a.put o.dst v) w) : wpList P ops Q (o :: rest) a w := by
  unfold wpList
  rw [if_pos hw]
  refine .inl ?_
  unfold Oper.wp
  rw [h1]; exact h
theorem load_here {ty : TypeId} {x : Operand} {ad : Value} {v : Value} (ho : o.op = .load ty x) (hx : a.eval x = ad) (h : (Instr.loadAt ty ad).run P w = .ok v w) : (execOp a.eval o).run P w = .ok (.value v) w := by
  unfold execOp
  simp only [ho, hx, Sem.run_bind, Sem.run_pure, Result.andThen_ok, h]
end
end Go.Proofs.YtlaakhfgidjofaaGreatDoor
