/- Law of layer 40: a shaper in which nothing waits is had again. -/
import Derived.Test.YtlaakhfgidjofaaGreatDoorMSnapNobodyF33
import Derived.Test.YtlaakhfgidjofaaGreatDoorMSnapNobodyF15
namespace Go.Proofs.YtlaakhfgidjofaaGreatDoor
set_option linter.unusedVariables false
set_option linter.unusedSimpArgs false
open Go Go.RowKit Go.Shelf
theorem blkSlX {w : World} {b : Nat} {cs : List Value} {t : TypeId} (h : Blk w b cs t) (n sz : Nat) (hl : cs.length = n * sz) (hn : n ≤ 1000000) : Sl w (.slice (some ⟨b, 0, none⟩) n n) n sz cs :=
  ⟨hl, by omega, _, _, rfl, fun i u hu => ⟨b, 0, rfl, by rw [Nat.zero_add]; exact h.cell i hu⟩⟩
theorem cfOne (c : CfR) (v : Value) (hv : v.oneCell' = true) : ∀ u ∈ enC c v, u.oneCell' = true := by
  intro u hu
  simp [enC] at hu
  rcases hu with rfl | rfl | rfl | rfl | rfl | rfl | rfl | rfl | rfl | rfl | rfl <;> first | rfl | exact hv
set_option maxRecDepth 100000 in
set_option maxHeartbeats 4000000 in
theorem lives40 (w : World) (hx : MX w) : Calls Tryz.prog 7 #[] w fun e w' => e = .returned (.bool true) ∧ Kp none' w w' := by
  have HSm := Lib.hid (someL w)
  have HX := Lib.hid hx
  clear hx
  refine calls_post ?_
  intro PP HP
  go_enter Tryz.func7, Tryz.ntmps7
  go_wp2_with fail
  refine HSm.out.mono ?_
  rintro e w1 ⟨b, rfl, hb1, hbw, k1⟩
  have hs1 : Sl w1 (.slice (some ⟨b, 0, none⟩) 2 2) (cSome 1).flows.length 5 ((cSome 1).flows.flatMap enFl) := blkSlX hb1 2 5 rfl (by omega)
  have HS1 := Lib.hid hs1
  have K1 := Lib.hid k1
  have A1 := Lib.hid (Blk.new w1 zCfS 25)
  have Ka := Lib.hid ((Kp.refl none' w1).alloc (.cells zCfS.toArray 25))
  obtain ⟨cc, hcc⟩ : ∃ cc, enC (cSome 1) (.slice (some ⟨b, 0, none⟩) 2 2) = cc := ⟨_, rfl⟩
  have cone : Hid (∀ u ∈ cc, u.oneCell' = true) := by rw [← hcc]; exact cfOne _ _ rfl
  have clen : cc.length = 11 := by rw [← hcc]; rfl
  have ci : Hid ((Tryz.prog.info? 25).map (·.size) = some cc.length) := by show _ = _; rw [clen]; exact infoCf
  have co : Hid (zCfS.length = cc.length) := by show _ = _; rw [clen]; rfl
  have HCC := Lib.hid hcc
  rw [hcc]
  clear hs1 k1 hb1 hcc HSm
  go_wp2_with (refine wp_set_row rfl 25 (.tmp 1) (.tmp 12) rfl A1.out cc rfl rfl ci.out co.out cone.out ?_)
  intro w2 hb hot hK
  have k2 : Kp none' w1 w2 := hK _ _ Ka.out (.inr (Nat.le_refl _))
  have C2 := Lib.hid hb
  have K2 := Lib.hid (K1.out.trans k2); have HS2 := Lib.hid (HS1.out.old k2)
  have hn := newH1 (cSome 1) snOk1.hc snOk1.hE rfl snOk1.hpk _ w2 HS2.out
  rw [HCC.out] at hn
  have HN := Lib.hid hn
  clear hb hot hK k2 hn A1 Ka K1 HS1
  go_wp2_with (refine wp_get_rowG (by exact rfl) 25 (.tmp 1) rfl C2.out _ rfl Tryz.underlying25 rfl ci.out ?_)
  refine HN.out.mono ?_
  rintro e w3 ⟨f, rfl, hsh, _, k3⟩
  have C3 := Lib.hid (C2.out.kp k3 (fun x => x)); have K3 := Lib.hid (K2.out.trans k3); have HS3 := Lib.hid (HS2.out.old k3)
  have hsv := aSave0 hsh 0 rfl rfl snOk1 _ HS3.out
  rw [HCC.out] at hsv
  have HSv := Lib.hid hsv
  have HRs := Lib.hid (fun W h => aResume0 snOk1 W h)
  clear k3 hsh hsv C2 K2 HS2 HN
  obtain ⟨B, hB⟩ : ∃ B, tx (sealL (snB (cSome 1) (st0 (shNewS (cSome 1) (.hp 0 []))))) = B := ⟨_, rfl⟩
  have hB2 : tx (sealL (snB (cSome 1) s01)) = B := hB
  rw [hB] at HSv
  rw [hB2] at HRs
  clear hB hB2
  go_wp2_with (refine wp_get_rowG (by exact rfl) 25 (.tmp 1) rfl C3.out _ rfl Tryz.underlying25 rfl ci.out ?_)
  refine HSv.out.mono ?_
  rintro e w4 ⟨rfl, k4⟩
  have C4 := Lib.hid (C3.out.kp k4 (fun x => x)); have K4 := Lib.hid (K3.out.trans k4); have HS4 := Lib.hid (HS3.out.old k4)
  clear k4 C3 K3 HS3 HSv
  go_wp2_with fail
  refine (HRs.out w4 (HX.out.kp K4.out)).mono ?_
  rintro e w5 ⟨v, b5, rfl, hv5, k5⟩
  obtain ⟨va, vc, rfl⟩ : ∃ va vc, v = .slice va 2 vc := by obtain ⟨_, _, va, vc, rfl, _⟩ := hv5; exact ⟨_, _, rfl⟩
  have C5 := Lib.hid (C4.out.kp k5 (fun x => x)); have K5 := Lib.hid (K4.out.trans k5); have HS5 := Lib.hid (HS4.out.old k5); have HV5 := Lib.hid hv5
  obtain ⟨dd, hdd⟩ : ∃ dd, enC (cSome 1) (.slice va 2 vc) = dd := ⟨_, rfl⟩
  have done : Hid (∀ u ∈ dd, u.oneCell' = true) := by rw [← hdd]; exact cfOne _ _ rfl
  have dlen : dd.length = 11 := by rw [← hdd]; rfl
  have di : Hid ((Tryz.prog.info? 25).map (·.size) = some dd.length) := by show _ = _; rw [dlen]; exact infoCf
  have do_ : Hid (zCfS.length = dd.length) := by show _ = _; rw [dlen]; rfl
  have HDD := Lib.hid hdd
  have A5 := Lib.hid (Blk.new w5 zCfS 25)
  have Ka := Lib.hid ((Kp.refl none' w5).alloc (.cells zCfS.toArray 25))
  rw [hdd]
  clear hv5 k5 hdd C4 K4 HS4 HRs
  go_wp2_with (refine wp_set_row rfl 25 (.tmp 6) (.tmp 27) rfl A5.out dd rfl rfl di.out do_.out done.out ?_)
  intro w6 hb hot hK
  have k6 : Kp none' w5 w6 := hK _ _ Ka.out (.inr (Nat.le_refl _))
  have D6 := Lib.hid hb
  have C6 := Lib.hid (C5.out.kp k6 (fun x => x)); have K6 := Lib.hid (K5.out.trans k6); have HS6 := Lib.hid (HS5.out.old k6); have HV6 := Lib.hid (HV5.out.old k6)
  clear hb hot hK k6 C5 K5 HS5 HV5 A5 Ka
  go_wp2_with fail
  refine (aTake0 w6).mono ?_
  rintro e w7 ⟨rfl, k7⟩
  have C7 := Lib.hid (C6.out.kp k7 (fun x => x)); have D7 := Lib.hid (D6.out.kp k7 (fun x => x)); have K7 := Lib.hid (K6.out.trans k7); have HS7 := Lib.hid (HS6.out.old k7); have HV7 := Lib.hid (HV6.out.old k7)
  clear k7 C6 D6 K6 HS6 HV6
  have ka : Kp none' w7 ((w7.alloc (.cells zCfS.toArray 25)).alloc (.cells zStS.toArray 30)) := ((Kp.refl none' w7).alloc _).alloc _
  have E0 := Lib.hid ((Blk.new w7 zCfS 25).alloc (.cells zStS.toArray 30))
  have E1 : Hid (Blk ((w7.alloc (.cells zCfS.toArray 25)).alloc (.cells zStS.toArray 30)) (w7.heap.size + 1) zStS 30) := by
    have := Blk.new (w7.alloc (.cells zCfS.toArray 25)) zStS 30
    rw [World.size_alloc] at this; exact this
  have HKa := Lib.hid ka
  have hic : Hid ((Tryz.prog.info? 25).map (·.size) = some zCfS.length) := infoCf
  have his : Hid ((Tryz.prog.info? 30).map (·.size) = some zStS.length) := by show _ = _; rw [zStS_len]; exact infoSt
  have hoc : Hid (∀ u ∈ zCfS, u.oneCell' = true) := List.all_eq_true.1 (show zCfS.all (·.oneCell') = true by rfl)
  have hos : Hid (∀ u ∈ zStS, u.oneCell' = true) := stOne _ _ _ _ rfl rfl rfl
  clear ka
  go_wp2_with (refine wp_set_row rfl 25 (.tmp 9) (.tmp 32) rfl E0.out zCfS rfl rfl hic.out rfl hoc.out ?_)
  intro w8 hb hot hK
  have k8 : Kp none' w7 w8 := hK _ _ HKa.out (.inr (Nat.le_refl _))
  have E8 := Lib.hid (hot _ _ _ E1.out (by omega))
  have K8 := Lib.hid k8
  clear hb hot hK k8 E0 E1 HKa
  refine wp_set_row rfl 30 (.tmp 10) (.tmp 33) rfl E8.out zStS rfl rfl his.out rfl hos.out ?_
  intro w9 hb hot hK
  have k9 : Kp none' w7 w9 := hK _ _ K8.out (.inr (by omega))
  have C9 := Lib.hid (C7.out.kp k9 (fun x => x)); have D9 := Lib.hid (D7.out.kp k9 (fun x => x)); have K9 := Lib.hid (K7.out.trans k9); have HS9 := Lib.hid (HS7.out.old k9); have HV9 := Lib.hid (HV7.out.old k9)
  clear hb hot hK k9 E8 K8 C7 D7 K7 HS7 HV7 hic his hoc hos HX
  have hSm : Calls Tryz.prog 11 #[.agg cc.toArray, .agg dd.toArray] w9 fun e w' => e = .returned (.bool true) ∧ Kp none' w9 w' := by
    rw [← HCC.out, ← HDD.out]; exact rSame (cSome 1) _ _ w9 HS9.out HV9.out
  have HSm := Lib.hid hSm
  clear hSm
  have hLC : Hid ((Instr.loadAt 25 (.pointer (some ⟨w1.heap.size, 0, none⟩))).run Tryz.prog w9 = .ok (.agg cc.toArray) w9) := Lib.hid (run_loadAt_mid w9 _ 0 25 cc _ (fun j u hu => by rw [Nat.zero_add]; exact C9.out.cell j hu) Tryz.underlying25 rfl ci.out)
  have hLD : Hid ((Instr.loadAt 25 (.pointer (some ⟨w5.heap.size, 0, none⟩))).run Tryz.prog w9 = .ok (.agg dd.toArray) w9) := Lib.hid (run_loadAt_mid w9 _ 0 25 dd _ (fun j u hu => by rw [Nat.zero_add]; exact D9.out.cell j hu) Tryz.underlying25 rfl di.out)
  go_upto_region 6 with fail
  refine wp_region_lit ?_
  iterate 11 (refine wpList_val (by exact rfl) (by as_aux_lemma => go_simp; exact rfl) ?_; simp only [Act.put, List.setIfInBounds_toArray, List.set_cons_succ, List.set_cons_zero])
  refine wpList_val (by exact rfl) (load_here rfl rfl hLC.out) ?_; simp only [Act.put, List.setIfInBounds_toArray, List.set_cons_succ, List.set_cons_zero]
  refine wpList_val (by exact rfl) (load_here rfl rfl hLD.out) ?_; simp only [Act.put, List.setIfInBounds_toArray, List.set_cons_succ, List.set_cons_zero]
  go_wp2_with fail
  refine HSm.out.mono ?_
  rintro e w10 ⟨rfl, k10⟩
  have HKw := Lib.hid (K9.out.trans k10)
  clear k10 HSm
  go_wp2_with fail
  exact HP.out _ _ ⟨rfl, HKw.out⟩

set_option maxRecDepth 100000 in
theorem cFar0 (c : CfR) (v : Value) (w : World) (hs : Sl w v c.flows.length 5 (c.flows.flatMap enFl)) : Calls Tryz.prog 5 #[.agg (enC c v).toArray, .slice none 0 0] w fun e w' => (∃ b, e = .returned (.bool b)) ∧ Kp none' w w' := by
  obtain ⟨ao, cap, rfl⟩ : ∃ ao cap, v = .slice ao c.flows.length cap := by obtain ⟨_, _, ao, cap, rfl, _⟩ := hs; exact ⟨_, _, rfl⟩
  have HC := Lib.hid (Blk.new w (enC c (.slice ao c.flows.length cap)) 25)
  have HK : Hid (Kp none' w (w.alloc (.cells (enC c (.slice ao c.flows.length cap)).toArray 25))) := (Kp.refl none' w).alloc _
  have hn := hs.max
  obtain ⟨n, hn'⟩ : ∃ n, c.flows.length = n := ⟨_, rfl⟩
  rw [hn'] at HC HK hn ⊢
  have e10 := HC.out.cell 10 rfl
  clear hs hn'
  refine calls_post ?_
  intro PP HP
  go_enter Tryz.func5, Tryz.ntmps5
  go_upto_region 1 with fail
  generalize w.alloc (.cells (enC c (.slice ao n cap)).toArray 25) = w0 at *
  go_wp2
  all_goals exact HP.out _ _ ⟨⟨_, rfl⟩, HK.out⟩
set_option maxRecDepth 100000 in
set_option maxHeartbeats 4000000 in
theorem nobodyS (c : CfR) (v : Value) (w : World) (hx : MX w) (hs : Sl w v c.flows.length 5 (c.flows.flatMap enFl)) :
    Calls Tryz.prog 4 #[.agg (enC c v).toArray] w fun e w' => e = .returned (.bool true) ∧ Kp none' w w' := by
  have HF := Lib.hid (fun W h => cFar0 c v W h)
  have HSv := Lib.hid (fun W => aSaveN c v W)
  have HL := Lib.hid (fun W h => lives40 W h)
  have HC := Lib.hid (Blk.new w (enC c v) 25)
  have HK : Hid (Kp none' w (w.alloc (.cells (enC c v).toArray 25))) := (Kp.refl none' w).alloc _
  have HX := Lib.hid hx; have HS := Lib.hid hs
  obtain ⟨cc, hcc⟩ : ∃ cc, enC c v = cc := ⟨_, rfl⟩
  have clen : cc.length = 11 := by rw [← hcc]; rfl
  have ci : Hid ((Tryz.prog.info? 25).map (·.size) = some cc.length) := by show _ = _; rw [clen]; exact infoCf
  rw [hcc] at HF HSv HC HK ⊢
  clear hx hs hcc
  refine calls_post ?_
  intro PP HP
  go_enter Tryz.func4, Tryz.ntmps4
  go_upto_region 1 with fail
  generalize w.alloc (.cells cc.toArray 25) = w0 at *
  go_wp2_with (refine wp_get_rowG (by exact rfl) 25 (.tmp 1) rfl HC.out _ rfl Tryz.underlying25 rfl ci.out ?_)
  refine (HF.out w0 (HS.out.old HK.out)).mono ?_
  rintro e w1 ⟨⟨b, rfl⟩, k1⟩
  have K1 := Lib.hid (HK.out.trans k1)
  have C1 := Lib.hid (HC.out.kp k1 (fun x => x))
  clear k1 HC HK HF
  cases b
  · go_wp2_with (refine wp_get_rowG (by exact rfl) 25 (.tmp 1) rfl C1.out _ rfl Tryz.underlying25 rfl ci.out ?_)
    refine (HSv.out w1).mono ?_
    rintro e w2 ⟨rfl, k2⟩
    have K2 := Lib.hid (K1.out.trans k2)
    clear k2 C1 K1
    go_wp2_with fail
    refine (HL.out w2 (HX.out.kp K2.out)).mono ?_
    rintro e w3 ⟨rfl, k3⟩
    have K3 := Lib.hid (K2.out.trans k3)
    clear k3 K2
    go_wp2_with fail
    exact HP.out _ _ ⟨rfl, K3.out⟩
  · go_wp2_with fail
    refine (HL.out w1 (HX.out.kp K1.out)).mono ?_
    rintro e w3 ⟨rfl, k3⟩
    have K3 := Lib.hid (K1.out.trans k3)
    clear k3 K1
    go_wp2_with fail
    exact HP.out _ _ ⟨rfl, K3.out⟩
end Go.Proofs.YtlaakhfgidjofaaGreatDoor
