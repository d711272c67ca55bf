/- Walk for layer 24: r24.Put. -/
import Derived.Test.YtkkgpaabbgdfmaaDoorCfE
namespace Go.Proofs.YtkkgpaabbgdfmaaDoor
set_option linter.unusedVariables false
set_option linter.unusedSimpArgs false
open Go Go.RowKit Go.Shelf

structure ChkOk (c : CfR) : Prop where
  rank : 1 ≤ c.rank ∧ c.rank ≤ 3
  back : 1 ≤ c.back ∧ c.back ≤ 3
  levels : 1 ≤ c.levels ∧ c.levels ≤ 3
  queues : 1 ≤ c.queues ∧ c.queues ≤ 32
  packets : 1 ≤ c.packets ∧ c.packets ≤ 4096
  share : 0 ≤ c.share ∧ c.share ≤ 16
  flows : 1 ≤ c.flows.length ∧ c.flows.length ≤ 64
theorem chk_ok {c : CfR} (h : chk c = 0) : ChkOk c := by
  unfold chk at h
  split at h
  · cases h
  · split at h
    · cases h
    · split at h
      · cases h
      · split at h
        · rename_i h0; exact absurd h h0
        · rename_i h1 h2 h3 h4
          have h4 : admE c = 0 := by simpa using h4
          unfold admE at h4
          split at h4
          · cases h4
          · split at h4
            · cases h4
            · split at h4
              · cases h4
              · unfold flowsE at h4
                split at h4
                · cases h4
                · exact ⟨by omega, by omega, by omega, by omega, by omega, by omega, by omega⟩
def lnT (c : CfR) (i : Nat) : List UInt8 := nms.getD i [] ++ 32 :: (wordN c i ++ [10])
def flT (f : FlR) : List UInt8 := joinL (flW f) ++ [10]
def hdT (c : CfR) : List UInt8 := lnT c 0 ++ lnT c 1 ++ (lnT c 2 ++ lnT c 3 ++ lnT c 4) ++ (lnT c 5 ++ lnT c 6 ++ lnT c 7 ++ lnT c 8 ++ lnT c 9)
theorem textC_eq (c : CfR) : textC c = hdT c ++ c.flows.flatMap flT := by
  unfold textC itemsC
  rw [List.flatMap_append]
  have e : ((List.range 10).map (hdW c)).flatMap (fun l => joinL l ++ [10]) = hdT c := by
    simp [List.range_succ, hdT, lnT, hdW, joinL]
  rw [e, List.flatMap_map]; rfl
theorem flT_eq (f : FlR) : flT f = [102, 108, 111, 119, 32] ++ putU f.id ++ [32] ++ putU f.cost ++ [32] ++ putU f.budget ++ [32] ++ putU f.size ++ [32] ++ putU f.cap ++ [10] := by
  simp [flT, flW, joinL, nms]
def putT (c : CfR) : List UInt8 := if chk c = 0 then textC c else []
set_option maxRecDepth 100000 in
set_option maxHeartbeats 8000000 in
theorem rPutC (c : CfR) (hc : c.ok) (v : Value) (w : World) (h : Sl w v c.flows.length 5 (c.flows.flatMap enFl)) : Calls Tryd.prog 9 #[.agg (enC c v).toArray] w fun e w' => e = .returned (.tuple #[.string (tx (putT c)), .int .i64 (chk c)]) ∧ Kp none' w w' := by
  have GC := Lib.hid (fun W hs => rChk c hc v W hs)
  have HS := Lib.hid h
  have hb0 := Blk.new w (enC c v) 25
  have hk0 := (Kp.refl none' w).alloc (.cells (enC c v).toArray 25)
  unfold enC at hb0 hk0 GC ⊢
  have HB0 := Lib.hid hb0; have HK0 := Lib.hid hk0
  clear h hb0 hk0
  by_cases h0 : chk c = 0
  · have HPT : Hid (putT c = textC c) := by show _ = _; unfold putT; rw [if_pos h0]
    obtain ⟨p0, p1, p2, p3, p4, p6, p10⟩ := chk_ok h0
    have b5 := hc.bytes; have b7 := hc.mtu; have b8 := hc.rate; have b9 := hc.burst
    unfold M64 at b5 b7 b8 b9
    rw [h0] at GC ⊢
    have HFO := Lib.hid hc.flows
    clear h0 hc
    obtain ⟨n0, i0⟩ : ∃ n : Nat, c.rank = n := ⟨c.rank.toNat, by omega⟩
    obtain ⟨n1, i1⟩ : ∃ n : Nat, c.back = n := ⟨c.back.toNat, by omega⟩
    obtain ⟨n2, i2⟩ : ∃ n : Nat, c.levels = n := ⟨c.levels.toNat, by omega⟩
    obtain ⟨n3, i3⟩ : ∃ n : Nat, c.queues = n := ⟨c.queues.toNat, by omega⟩
    obtain ⟨n4, i4⟩ : ∃ n : Nat, c.packets = n := ⟨c.packets.toNat, by omega⟩
    obtain ⟨n5, i5⟩ : ∃ n : Nat, c.bytes = n := ⟨_, rfl⟩
    obtain ⟨n6, i6⟩ : ∃ n : Nat, c.share = n := ⟨c.share.toNat, by omega⟩
    obtain ⟨n7, i7⟩ : ∃ n : Nat, c.mtu = n := ⟨_, rfl⟩
    obtain ⟨n8, i8⟩ : ∃ n : Nat, c.rate = n := ⟨_, rfl⟩
    obtain ⟨n9, i9⟩ : ∃ n : Nat, c.burst = n := ⟨_, rfl⟩
    obtain ⟨fl, ifl⟩ : ∃ l, c.flows = l := ⟨_, rfl⟩
    have HW : Hid (textC c = [114, 97, 110, 107, 32] ++ krs.getD (n0 - 1) [] ++ [10, 98, 97, 99, 107, 32] ++ kbs.getD (n1 - 1) [] ++ [10] ++
        ((nms.getD 2 [] ++ 32 :: (putU n2 ++ [10])) ++ (nms.getD 3 [] ++ 32 :: (putU n3 ++ [10])) ++ (nms.getD 4 [] ++ 32 :: (putU n4 ++ [10]))) ++
        ((nms.getD 5 [] ++ 32 :: (putU n5 ++ [10])) ++ (nms.getD 6 [] ++ 32 :: (putU n6 ++ [10])) ++ (nms.getD 7 [] ++ 32 :: (putU n7 ++ [10])) ++ (nms.getD 8 [] ++ 32 :: (putU n8 ++ [10])) ++ (nms.getD 9 [] ++ 32 :: (putU n9 ++ [10]))) ++ fl.flatMap flT) := by
      show _ = _
      rw [textC_eq, ifl]
      simp [hdT, lnT, wordN, valN, i0, i1, i2, i3, i4, i5, i6, i7, i8, i9, nms]
    rw [i0, i1, i2, i3, i4, i5, i6, i7, i8, i9] at HB0 HK0 GC ⊢
    rw [ifl] at HS HFO GC p10
    rw [i0] at p0; rw [i1] at p1; rw [i2] at p2; rw [i3] at p3; rw [i4] at p4; rw [i5] at b5; rw [i6] at p6; rw [i7] at b7; rw [i8] at b8; rw [i9] at b9
    clear i0 i1 i2 i3 i4 i5 i6 i7 i8 i9 ifl
    have hw2 : IntKind.u64.wrap (n2 : Int) = n2 := by rw [IntKind.wrap_u64]; omega
    have hw3 : IntKind.u64.wrap (n3 : Int) = n3 := by rw [IntKind.wrap_u64]; omega
    have hw4 : IntKind.u64.wrap (n4 : Int) = n4 := by rw [IntKind.wrap_u64]; omega
    have hw6 : IntKind.u64.wrap (n6 : Int) = n6 := by rw [IntKind.wrap_u64]; omega
    obtain ⟨s0, t0, z0, N0⟩ := rName false n0 (by omega) (by omega)
    obtain ⟨s1, t1, z1, N1⟩ := rName true n1 (by omega) (by omega)
    obtain ⟨s2, t2, z2, N2⟩ := rOne ⟨#[108, 101, 118, 101, 108, 115]⟩ (by decide) n2 (by omega)
    obtain ⟨s3, t3, z3, N3⟩ := rOne ⟨#[113, 117, 101, 117, 101, 115]⟩ (by decide) n3 (by omega)
    obtain ⟨s4, t4, z4, N4⟩ := rOne ⟨#[112, 97, 99, 107, 101, 116, 115]⟩ (by decide) n4 (by omega)
    obtain ⟨s5, t5, z5, N5⟩ := rOne ⟨#[98, 121, 116, 101, 115]⟩ (by decide) n5 (by omega)
    obtain ⟨s6, t6, z6, N6⟩ := rOne ⟨#[115, 104, 97, 114, 101]⟩ (by decide) n6 (by omega)
    obtain ⟨s7, t7, z7, N7⟩ := rOne ⟨#[109, 116, 117]⟩ (by decide) n7 (by omega)
    obtain ⟨s8, t8, z8, N8⟩ := rOne ⟨#[114, 97, 116, 101]⟩ (by decide) n8 (by omega)
    obtain ⟨s9, t9, z9, N9⟩ := rOne ⟨#[98, 117, 114, 115, 116]⟩ (by decide) n9 (by omega)
    obtain ⟨xa, qxa, exa, zxa⟩ := cat_ex ⟨#[114, 97, 110, 107, 32]⟩ s0 5 10 (by decide) z0 (by omega)
    obtain ⟨xb, qxb, exb, zxb⟩ := cat_ex xa ⟨#[10, 98, 97, 99, 107, 32]⟩ 15 6 zxa (by decide) (by omega)
    obtain ⟨xc, qxc, exc, zxc⟩ := cat_ex xb s1 21 10 zxb z1 (by omega)
    obtain ⟨xd, qxd, exd, zxd⟩ := cat_ex xc ⟨#[10]⟩ 31 1 zxc (by decide) (by omega)
    obtain ⟨xe, qxe, exe, zxe⟩ := cat_ex s2 s3 200 200 z2 z3 (by omega)
    obtain ⟨xf, qxf, exf, zxf⟩ := cat_ex xe s4 400 200 zxe z4 (by omega)
    obtain ⟨xg, qxg, exg, zxg⟩ := cat_ex xd xf 32 600 zxd zxf (by omega)
    obtain ⟨xh, qxh, exh, zxh⟩ := cat_ex s5 s6 200 200 z5 z6 (by omega)
    obtain ⟨xi, qxi, exi, zxi⟩ := cat_ex xh s7 400 200 zxh z7 (by omega)
    obtain ⟨xj, qxj, exj, zxj⟩ := cat_ex xi s8 600 200 zxi z8 (by omega)
    obtain ⟨xk, qxk, exk, zxk⟩ := cat_ex xj s9 800 200 zxj z9 (by omega)
    obtain ⟨xl, qxl, exl, zxl⟩ := cat_ex xg xk 632 1000 zxg zxk (by omega)
    have HXL : Hid (∀ r, textC c = bl xl ++ fl.flatMap flT → r = bl xl ++ fl.flatMap flT → r = textC c) := fun r a b => b.trans a.symm
    have HXT : Hid (textC c = bl xl ++ fl.flatMap flT) := by
      show _ = _
      rw [HW.out, exl, exk, exj, exi, exh, exg, exf, exe, exd, exc, exb, exa]
      rw [t0, t1, t2, t3, t4, t5, t6, t7, t8, t9]
      rfl
    have M0 := Lib.hid N0
    have M1 := Lib.hid N1
    have M2 := Lib.hid N2
    have M3 := Lib.hid N3
    have M4 := Lib.hid N4
    have M5 := Lib.hid N5
    have M6 := Lib.hid N6
    have M7 := Lib.hid N7
    have M8 := Lib.hid N8
    have M9 := Lib.hid N9
    clear t0 N0 t1 N1 t2 N2 t3 N3 t4 N4 t5 N5 t6 N6 t7 N7 t8 N8 t9 N9 exa exb exc exd exe exf exg exh exi exj exk exl HXL HW
    go_enter Tryd.func9, Tryd.ntmps9
    go_wp2_with fail
    refine (GC.out _ (HS.out.old HK0.out)).mono ?_
    rintro e w1 ⟨rfl, k1⟩
    have HK1 := Lib.hid (HK0.out.trans k1); have HB1 := Lib.hid (HB0.out.kp k1 (fun x => x))
    clear k1 GC HK0 HB0
    have c0 := HB1.out.cell 0 rfl; have c1 := HB1.out.cell 1 rfl
    go_wp2_with fail
    refine wp_region_kept2 [] [0, 1, 2, 3, 4, 5, 6, 7, 8, 9] 10 (by kernel_rfl) (by kernel_rfl) (fun c a d u w h => by cases d <;> exact h) ?_
    simp only [pick, List.getElem?_cons_succ, List.getElem?_cons_zero, List.drop_succ_cons, List.drop_zero]
    show wpKL _ _ _ _ _ _
    repeat (first
      | (refine wpKL_op (by exact rfl) (by as_aux_lemma => intro W hK; have e0 := hK.cell c0 (fun x => x); have e1 := hK.cell c1 (fun x => x); go_simp; exact rfl) ?_; simp only [Act.put, List.setIfInBounds_toArray, List.set_cons_succ, List.set_cons_zero])
      | (refine wpKL_off (by exact rfl) ?_; simp only [Act.put, List.setIfInBounds_toArray, List.set_cons_succ, List.set_cons_zero])
      | (refine wpKL_call (by exact rfl) (by as_aux_lemma => intro W; go_simp; exact ⟨rfl, rfl⟩) (by intro W hK; with_reducible first | exact M0.out W | exact M1.out W) ?_; simp only [Act.put, List.setIfInBounds_toArray, List.set_cons_succ, List.set_cons_zero]))
    show ∀ W, _ → wpList _ _ _ _ _ _
    intro W2 hK2
    have HK2 := Lib.hid (HK1.out.trans hK2); have HB2 := Lib.hid (HB1.out.kp hK2 (fun x => x))
    clear hK2 c0 c1
    have c2 := HB2.out.cell 2 rfl; have c3 := HB2.out.cell 3 rfl; have c4 := HB2.out.cell 4 rfl
    go_wp2_with fail
    refine wp_region_kept2 [] [0, 1, 2, 3, 4, 5, 6, 7, 8, 9, 10, 11, 12, 13, 14, 15] 16 (by kernel_rfl) (by kernel_rfl) (fun c a d u w h => by cases d <;> exact h) ?_
    simp only [pick, List.getElem?_cons_succ, List.getElem?_cons_zero, List.drop_succ_cons, List.drop_zero]
    show wpKL _ _ _ _ _ _
    repeat (first
      | (refine wpKL_op (by exact rfl) (by as_aux_lemma => intro W hK; have e2 := hK.cell c2 (fun x => x); have e3 := hK.cell c3 (fun x => x); have e4 := hK.cell c4 (fun x => x); go_simp; exact rfl) ?_; simp only [Act.put, List.setIfInBounds_toArray, List.set_cons_succ, List.set_cons_zero])
      | (refine wpKL_off (by exact rfl) ?_; simp only [Act.put, List.setIfInBounds_toArray, List.set_cons_succ, List.set_cons_zero])
      | (refine wpKL_call (by exact rfl) (by as_aux_lemma => intro W; go_simp; exact ⟨rfl, rfl⟩) (by intro W hK; with_reducible first | exact M2.out W | exact M3.out W | exact M4.out W) ?_; simp only [Act.put, List.setIfInBounds_toArray, List.set_cons_succ, List.set_cons_zero]))
    show ∀ W, _ → wpList _ _ _ _ _ _
    intro W3 hK3
    have HK3 := Lib.hid (HK2.out.trans hK3); have HB3 := Lib.hid (HB2.out.kp hK3 (fun x => x))
    clear hK3 c2 c3 c4 HB2 HB1
    have c5 := HB3.out.cell 5 rfl; have c6 := HB3.out.cell 6 rfl; have c7 := HB3.out.cell 7 rfl; have c8 := HB3.out.cell 8 rfl; have c9 := HB3.out.cell 9 rfl
    go_wp2_with fail
    refine wp_region_kept2 [] [0, 1, 2, 3, 4, 5, 6, 7, 8, 9, 10, 11, 12, 13, 14, 15, 16, 17, 18, 19, 20, 21] 22 (by kernel_rfl) (by kernel_rfl) (fun c a d u w h => by cases d <;> exact h) ?_
    simp only [pick, List.getElem?_cons_succ, List.getElem?_cons_zero, List.drop_succ_cons, List.drop_zero]
    show wpKL _ _ _ _ _ _
    repeat (first
      | (refine wpKL_op (by exact rfl) (by as_aux_lemma => intro W hK; have e5 := hK.cell c5 (fun x => x); have e6 := hK.cell c6 (fun x => x); have e7 := hK.cell c7 (fun x => x); have e8 := hK.cell c8 (fun x => x); have e9 := hK.cell c9 (fun x => x); go_simp; exact rfl) ?_; simp only [Act.put, List.setIfInBounds_toArray, List.set_cons_succ, List.set_cons_zero])
      | (refine wpKL_off (by exact rfl) ?_; simp only [Act.put, List.setIfInBounds_toArray, List.set_cons_succ, List.set_cons_zero])
      | (refine wpKL_call (by exact rfl) (by as_aux_lemma => intro W; go_simp; exact ⟨rfl, rfl⟩) (by intro W hK; with_reducible first | exact M5.out W | exact M6.out W | exact M7.out W | exact M8.out W | exact M9.out W) ?_; simp only [Act.put, List.setIfInBounds_toArray, List.set_cons_succ, List.set_cons_zero]))
    show ∀ W, _ → wpList _ _ _ _ _ _
    intro W4 hK4
    have HK4 := Lib.hid (HK3.out.trans hK4); have HB4 := Lib.hid (HB3.out.kp hK4 (fun x => x))
    clear hK4 c5 c6 c7 c8 c9 HB3 M0 M1 M2 M3 M4 M5 M6 M7 M8 M9
    clear z0 z1 z2 z3 z4 z5 z6 z7 z8 z9 qxa qxb qxc qxd qxe qxf qxg qxh qxi qxj qxk qxl
    go_wp2_with fail
    obtain ⟨fo, fcap, rfl⟩ : ∃ ao cap, v = .slice ao fl.length cap := by obtain ⟨ao, cap, rfl, _⟩ := HS.out.is; exact ⟨_, _, rfl⟩
    go_loopw [5, 6] (fun s0 i0 wr => ∃ (k : Nat) (x : ByteArray), i0 = .int .i64 k ∧ k ≤ fl.length ∧ s0 = .string x ∧ x.size ≤ 2000 + 300 * k ∧ Hid (bl x = bl xl ++ (fl.take k).flatMap flT ∧ Kp none' W4 wr)) (fun _ i0 _ => fl.length - (intOf i0).toNat)
    case atStart => exact ⟨0, _, rfl, by omega, rfl, by omega, by simp, Kp.refl _ _⟩
    case round =>
      obtain ⟨k, x, rfl, hk, rfl, hxs, hr⟩ := hrel
      have hbr := HB4.out.kp hr.out.2 (fun x => x)
      have c10 := hbr.cell 10 rfl
      by_cases hlt : k < fl.length
      · have hki : (k : Int) < fl.length := by omega
        obtain ⟨gx, ox, cx, e1, hcx⟩ := (HS.out.old (HK4.out.trans hr.out.2)).at enFl_len (by decide) k hlt
        injection e1 with e1 _ e3
        subst e1 e3
        have hfo := HFO.out fl[k] (List.getElem_mem hlt)
        have HTK : Hid ((fl.take (k + 1)).flatMap flT = (fl.take k).flatMap flT ++ flT fl[k]) := by
          show _ = _
          rw [List.take_succ_eq_append_getElem hlt, List.flatMap_append]; simp
        obtain ⟨f, hf⟩ : ∃ f, fl[k] = f := ⟨_, rfl⟩
        rw [hf] at hcx hfo HTK
        obtain ⟨g0, g1, g2, g3, g4⟩ := hfo
        have hwf : IntKind.u64.wrap (f.id : Int) = f.id := by rw [IntKind.wrap_u64]; omega
        have d0 := hcx 0 _ rfl
        have d1 := hcx 1 _ rfl
        have d2 := hcx 2 _ rfl
        have d3 := hcx 3 _ rfl
        have d4 := hcx 4 _ rfl
        simp only [Nat.add_zero] at d0
        obtain ⟨u0, t0, zu0, N0⟩ := rUnitT f.id (by omega)
        obtain ⟨u1, t1, zu1, N1⟩ := rUnitT f.cost (by omega)
        obtain ⟨u2, t2, zu2, N2⟩ := rUnitT f.budget (by omega)
        obtain ⟨u3, t3, zu3, N3⟩ := rUnitT f.size (by omega)
        obtain ⟨u4, t4, zu4, N4⟩ := rUnitT f.cap (by omega)
        obtain ⟨ya, qya, eya, zya⟩ := cat_ex ⟨#[102, 108, 111, 119, 32]⟩ u0 (5) (30) (by decide) zu0 (by omega)
        obtain ⟨yb, qyb, eyb, zyb⟩ := cat_ex ya ⟨#[32]⟩ (35) (1) zya (by decide) (by omega)
        obtain ⟨yc, qyc, eyc, zyc⟩ := cat_ex yb u1 (36) (30) zyb zu1 (by omega)
        obtain ⟨yd, qyd, eyd, zyd⟩ := cat_ex yc ⟨#[32]⟩ (66) (1) zyc (by decide) (by omega)
        obtain ⟨ye, qye, eye, zye⟩ := cat_ex yd u2 (67) (30) zyd zu2 (by omega)
        obtain ⟨yf, qyf, eyf, zyf⟩ := cat_ex ye ⟨#[32]⟩ (97) (1) zye (by decide) (by omega)
        obtain ⟨yg, qyg, eyg, zyg⟩ := cat_ex yf u3 (98) (30) zyf zu3 (by omega)
        obtain ⟨yh, qyh, eyh, zyh⟩ := cat_ex yg ⟨#[32]⟩ (128) (1) zyg (by decide) (by omega)
        obtain ⟨yi, qyi, eyi, zyi⟩ := cat_ex yh u4 (129) (30) zyh zu4 (by omega)
        obtain ⟨yj, qyj, eyj, zyj⟩ := cat_ex yi ⟨#[10]⟩ (159) (1) zyi (by decide) (by omega)
        obtain ⟨yk, qyk, eyk, zyk⟩ := cat_ex x yj (2000 + 300 * k) (160) hxs zyj (by omega)
        have HY : Hid (bl yk = bl xl ++ (fl.take (k + 1)).flatMap flT) := by
          show _ = _
          rw [HTK.out, flT_eq, eyk, hr.out.1, List.append_assoc, eyj, eyi, eyh, eyg, eyf, eye, eyd, eyc, eyb, eya, t0, t1, t2, t3, t4]
          rfl
        have M0 := Lib.hid N0
        have M1 := Lib.hid N1
        have M2 := Lib.hid N2
        have M3 := Lib.hid N3
        have M4 := Lib.hid N4
        have HKR := Lib.hid hr.out.2
        clear t0 N0 t1 N1 t2 N2 t3 N3 t4 N4 eya eyb eyc eyd eye eyf eyg eyh eyi eyj eyk hcx hf hbr HTK hr
        go_wp2_with fail
        have hb5 := Blk.new wr [.int .u32 f.id, .int .u64 f.cost, .int .u64 f.budget, .int .u64 f.size, .int .u64 f.cap] 46
        have hk5 := HKR.out.alloc (.cells #[.int .u32 f.id, .int .u64 f.cost, .int .u64 f.budget, .int .u64 f.size, .int .u64 f.cap] 46)
        have hb5' : Blk (wr.alloc (.cells #[.int .u32 f.id, .int .u64 f.cost, .int .u64 f.budget, .int .u64 f.size, .int .u64 f.cap] 46)) wr.heap.size [.int .u32 f.id, .int .u64 f.cost, .int .u64 f.budget, .int .u64 f.size, .int .u64 f.cap] 46 := hb5
        clear hb5 d0 d1 d2 d3 d4 c10
        generalize wr.alloc (.cells #[.int .u32 f.id, .int .u64 f.cost, .int .u64 f.budget, .int .u64 f.size, .int .u64 f.cap] 46) = w5 at *
        have HK5 := Lib.hid hk5
        have b0 := hb5'.cell 0 rfl; have b1 := hb5'.cell 1 rfl; have b2 := hb5'.cell 2 rfl; have b3 := hb5'.cell 3 rfl; have b4 := hb5'.cell 4 rfl
        clear hk5 hb5'
        go_wp2_with fail
        refine wp_region_kept2 [] [0, 1, 2, 3, 4, 5, 6, 7, 8, 9, 10, 11, 12, 13, 14, 15, 16, 17, 18, 19, 20, 21, 22, 23, 24, 25, 26, 27] 28 (by kernel_rfl) (by kernel_rfl) (fun c a d u w h => by cases d <;> exact h) ?_
        simp only [pick, List.getElem?_cons_succ, List.getElem?_cons_zero, List.drop_succ_cons, List.drop_zero]
        show wpKL _ _ _ _ _ _
        repeat (first
          | (refine wpKL_op (by exact rfl) (by as_aux_lemma => intro W hK; have e0 := hK.cell b0 (fun x => x); have e1 := hK.cell b1 (fun x => x); have e2 := hK.cell b2 (fun x => x); have e3 := hK.cell b3 (fun x => x); have e4 := hK.cell b4 (fun x => x); go_simp; exact rfl) ?_; simp only [Act.put, List.setIfInBounds_toArray, List.set_cons_succ, List.set_cons_zero])
          | (refine wpKL_off (by exact rfl) ?_; simp only [Act.put, List.setIfInBounds_toArray, List.set_cons_succ, List.set_cons_zero])
          | (refine wpKL_call (by exact rfl) (by as_aux_lemma => intro W; go_simp; exact ⟨rfl, rfl⟩) (by intro W hK; with_reducible first | exact M0.out W | exact M1.out W | exact M2.out W | exact M3.out W | exact M4.out W) ?_; simp only [Act.put, List.setIfInBounds_toArray, List.set_cons_succ, List.set_cons_zero]))
        show ∀ W, _ → wpList _ _ _ _ _ _
        intro W6 hK6
        have HK6 := Lib.hid (HK5.out.trans hK6)
        clear hK6 b0 b1 b2 b3 b4 M0 M1 M2 M3 M4
        go_wp2_with fail
        go_roundw
        case rel => exact ⟨k + 1, _, by go_num, by omega, rfl, by omega, HY.out, HK6.out⟩
        case measure => simp [intOf]; omega
      · have hke : k = fl.length := by omega
        subst hke
        have HT : Hid (bl x = textC c) := by
          have := hr.out.1
          rw [List.take_length] at this
          show _ = _
          rw [this, HXT.out]
        go_wp2_with fail
        go_ret2
        exact ⟨by rw [HPT.out, ← HT.out, tx_bl]; rfl, HK4.out.trans hr.out.2⟩
  · have HPT : Hid (putT c = []) := by show _ = _; unfold putT; rw [if_neg h0]
    obtain ⟨ec, hec⟩ : ∃ e, chk c = e := ⟨_, rfl⟩
    rw [hec] at GC h0 ⊢
    have hb : (ec != 0) = true := by simpa using h0
    clear h0 hec
    go_enter Tryd.func9, Tryd.ntmps9
    go_wp2_with fail
    refine (GC.out _ (HS.out.old HK0.out)).mono ?_
    rintro e w1 ⟨rfl, k1⟩
    have HK1 := Lib.hid (HK0.out.trans k1)
    clear k1
    go_wp2
    go_ret2
    exact ⟨by rw [HPT.out]; rfl, HK1.out⟩
end Go.Proofs.YtkkgpaabbgdfmaaDoor
