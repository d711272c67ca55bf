/- The rules that hold of a header. -/
import Derived.Test.YthnlggecjdifnaaDoorRuSe
namespace Go.Proofs.YthnlggecjdifnaaDoor
set_option linter.unusedVariables false
set_option linter.unusedSimpArgs false
open Go.RowKit

theorem accX_opt (o : Option (Px × Nat)) : accX o = optX o := by cases o <;> rfl
set_option maxRecDepth 100000 in
set_option maxHeartbeats 8000000 in
theorem tHold (w : World) (tb : Nat) (l : List RuN) (hok : ∀ r ∈ l, r.Ok) (hc : chkN l = 0) (H : RtM w tb l) (h : HdR) (hh : h.Ok) :
    Calls Tryd.prog 21 #[.pointer (some ⟨tb, 0, none⟩), .agg #[.int .u8 h.ds, .int .u16 h.id, .int .u8 h.ttl, .int .u32 h.s, .int .u32 h.d, .int .u16 h.sp, .int .u16 h.p]] w fun e w' => e = .returned (.int .u64 (bitsOf (holdsAt l h.n) l.length : Nat)) ∧ Kp none' w w' := by
  obtain ⟨base, base', sb, db, sn, dn, S, D, zs, pv, fv, h1, h2, h3, h4, h5, h6, hz9, h7, h8⟩ := H.is
  obtain ⟨po, pcap, rfl⟩ : ∃ po pcap, pv = .slice po zs.length pcap := by obtain ⟨po, pcap, rfl, _⟩ := h7.is; exact ⟨_, _, rfl⟩
  have hz := chk_zero.1 hc
  have hb64 : ∀ (f : Nat → Bool) (k : Nat), k ≤ 64 → bitsOf f k < 18446744073709551616 := fun f k hk => Nat.lt_of_lt_of_le (bitsOf_lt f k) (show 2 ^ k ≤ 2 ^ 64 from Nat.pow_le_pow_right (by decide) hk)
  have hx1 : accX (S.best h.s none) < 18446744073709551616 := by rw [accX_opt, tree_found h4]; exact hb64 _ _ (by rw [List.length_map]; exact hz.1)
  have hx2 : accX (D.best h.d none) < 18446744073709551616 := by rw [accX_opt, tree_found h5]; exact hb64 _ _ (by rw [List.length_map]; exact hz.1)
  have hval := hold_of hok hz.2 h4 h5 h6 h.n hh.p
  have hpos := (run_of h6 hok hh.p).1
  have hup := h6.up
  have hx3 : setR l (zs.getD (upTo zs h.p - 1) 0) < 18446744073709551616 := hb64 _ _ hz.1
  obtain ⟨c, hcn⟩ : ∃ c, upTo zs h.p = c + 1 := ⟨upTo zs h.p - 1, by omega⟩
  have hcl : c < zs.length := by have := upTo_le zs h.p; omega
  have hval' : accX (S.best h.s none) &&& accX (D.best h.d none) &&& setR l (zs.getD c 0) = bitsOf (holdsAt l h.n) l.length := by
    rw [accX_opt, accX_opt]
    have e : upTo zs h.n.p - 1 = c := by show upTo zs h.p - 1 = c; omega
    rw [e] at hval
    exact hval
  rw [hcn, Nat.add_sub_cancel] at hx3
  have a12 := bits_and_u64_nat _ _ hx1 hx2
  have a3 := bits_and_u64_nat (accX (S.best h.s none) &&& accX (D.best h.d none)) _ (Nat.lt_of_le_of_lt Nat.and_le_left hx1) hx3
  rw [hval'] at a3
  obtain ⟨x3, hx3e⟩ : ∃ x, setR l (zs.getD c 0) = x := ⟨_, rfl⟩
  rw [hx3e] at a3
  obtain ⟨R, hR⟩ : ∃ R, bitsOf (holdsAt l h.n) l.length = R := ⟨_, rfl⟩
  rw [hR] at a3 ⊢
  obtain ⟨x1, hx1e⟩ : ∃ x, accX (S.best h.s none) = x := ⟨_, rfl⟩
  obtain ⟨x2, hx2e⟩ : ∃ x, accX (D.best h.d none) = x := ⟨_, rfl⟩
  rw [hx1e, hx2e] at a12 a3
  obtain ⟨x12, hx12⟩ : ∃ x, x1 &&& x2 = x := ⟨_, rfl⟩
  rw [hx12] at a12 a3
  have HX1 := Lib.hid hx1e; have HX2 := Lib.hid hx2e; have HX3 := Lib.hid hx3e; have HCN := Lib.hid hcn
  clear hval hval' hx1 hx2 hx3 hR hx1e hx2e hx3e hcn hx12 hb64
  have hzl : zs.length ≤ 1000000 := by omega
  have k0 : Kp none' w ((w.alloc (.cells #[.pointer (some ⟨tb, 0, none⟩)] 28)).alloc (.cells #[.int .u8 h.ds, .int .u16 h.id, .int .u8 h.ttl, .int .u32 h.s, .int .u32 h.d, .int .u16 h.sp, .int .u16 h.p] 26)) := ((Kp.refl none' w).alloc _).alloc _
  have hI0 : HoI ((w.alloc (.cells #[.pointer (some ⟨tb, 0, none⟩)] 28)).alloc (.cells #[.int .u8 h.ds, .int .u16 h.id, .int .u8 h.ttl, .int .u32 h.s, .int .u32 h.d, .int .u16 h.sp, .int .u16 h.p] 26)) tb w.heap.size (w.heap.size + 1) (.pointer (some ⟨sb, 0, none⟩)) (.pointer (some ⟨db, 0, none⟩)) fv (.slice po zs.length pcap) l zs h := by
    refine ⟨(Blk.new w [.pointer (some ⟨tb, 0, none⟩)] _).alloc _, ?_, h1.kp k0 (fun x => x), h7.old k0⟩
    have := Blk.new (w.alloc (.cells #[.pointer (some ⟨tb, 0, none⟩)] 28)) (enHd h) 26
    rw [World.size_alloc] at this
    exact this
  have HI0 := Lib.hid hI0
  have HSt := Lib.hid (h2.old k0); have HDt := Lib.hid (h3.old k0); have HK0 := Lib.hid k0
  have HUP := Lib.hid hup
  have b0 := hI0.box.cell 0 rfl
  have h3' := hI0.hd.cell 3 rfl
  have t0 := hI0.blk.cell 0 rfl
  clear hI0 h1 h2 h3 h4 h5 h6 h7 h8 hpos hup hz hc hok k0 H
  go_enter Tryd.func21, Tryd.ntmps21
  go_wp2_with fail
  obtain ⟨W0, hW0⟩ : ∃ W, (w.alloc (.cells #[.pointer (some ⟨tb, 0, none⟩)] 28)).alloc (.cells #[.int .u8 h.ds, .int .u16 h.id, .int .u8 h.ttl, .int .u32 h.s, .int .u32 h.d, .int .u16 h.sp, .int .u16 h.p] 26) = W := ⟨_, rfl⟩
  rw [hW0] at b0 h3' t0 HI0 HSt HDt HK0 ⊢
  clear hW0
  have HF1 := Lib.hid (fun W (k : Kp none' W0 W) => tFind W sb S sn (HSt.out.old k).blk (HSt.out.old k).mem HSt.out.wf h.s hh.s)
  simp only [HX1.out] at HF1
  have N1 := World.new_ne W0 ⟨w.heap.size, 0, none⟩ b0
  have N2 := World.new_ne W0 ⟨w.heap.size + 1, 3, none⟩ h3'
  have N3 := World.new_ne W0 ⟨tb, 0, none⟩ t0
  go_region_held3 (fun w' => w'.cell? ⟨w.heap.size, 0, none⟩ = some (.pointer (some ⟨tb, 0, none⟩)) ∧ w'.cell? ⟨w.heap.size + 1, 3, none⟩ = some (.int .u32 h.s) ∧ w'.cell? ⟨tb, 0, none⟩ = some (.pointer (some ⟨sb, 0, none⟩))) (first | exact ⟨keep2 e0 e3, keep2 e1 e4, keep2 e2 e5⟩ | go_keep)
    ((go_at_call 35; refine (HF1.out _ (by first | exact (Kp.refl none' W0).drew | exact ((Kp.refl none' W0).drew.alloc _) | exact ((Kp.refl none' W0).alloc _).drew)).mono ?_; rintro e w3 ⟨rfl, hk3⟩
      have hk4 : Kp none' W0 w3 := by first | exact (Kp.refl none' W0).drew.trans hk3 | exact ((Kp.refl none' W0).drew.alloc _).trans hk3 | exact ((Kp.refl none' W0).alloc _).drew.trans hk3
      have e0 := hk4.cell b0 (fun x => x); have e1 := hk4.cell h3' (fun x => x); have e2 := hk4.cell t0 (fun x => x)
      have e3 : (⟨w.heap.size, 0, none⟩ : Addr).block ≠ W0.heap.size := N1.symm
      have e4 : (⟨w.heap.size + 1, 3, none⟩ : Addr).block ≠ W0.heap.size := N2.symm
      have e5 : (⟨tb, 0, none⟩ : Addr).block ≠ W0.heap.size := N3.symm
      first
        | (have hb3 := (Blk.new W0.drew [.int .u32 0, .int .i64 0] 46).kp hk3 (fun x => x)
           have z0 : w3.cell? ⟨W0.heap.size, 0, none⟩ = some (.int .u32 0) := hb3.cell 0 rfl
           have z1 : w3.cell? ⟨W0.heap.size, 1, none⟩ = some (.int .i64 0) := hb3.cell 1 rfl
           have y0 : w3.frozen? ⟨W0.heap.size, 0, none⟩ = false := hb3.fz 0
           have y1 : w3.frozen? ⟨W0.heap.size, 1, none⟩ = false := hb3.fz 1
           clear hb3)
        | skip
      have HK3 := Lib.hid hk3; have HK4 := Lib.hid hk4; clear hk3 hk4))
  · have hK1 : Kp none' W0 (w3.alloc (.cells #[.int .u32 (accP (S.best h.s none)).1, .int .i64 (accP (S.best h.s none)).2] 46)) := HK4.out.alloc _
    obtain ⟨W1, hW1⟩ : ∃ W, w3.alloc (.cells #[.int .u32 (accP (S.best h.s none)).1, .int .i64 (accP (S.best h.s none)).2] 46) = W := ⟨_, rfl⟩
    rw [hW1] at hK1 ⊢
    clear hW1 b0 h3' t0 N1 N2 N3
    have HI1 := Lib.hid (HI0.out.old hK1); have HD1 := Lib.hid (HDt.out.old hK1); have HK1 := Lib.hid (HK0.out.trans hK1)
    have HF2 := Lib.hid (fun W (k : Kp none' W1 W) => tFind W db D dn (HD1.out.old k).blk (HD1.out.old k).mem HD1.out.wf h.d hh.d)
    simp only [HX2.out] at HF2
    have b0 := HI1.out.box.cell 0 rfl
    have h4 := HI1.out.hd.cell 4 rfl
    have t1 := HI1.out.blk.cell 1 rfl
    have N1 := World.new_ne W1 ⟨w.heap.size, 0, none⟩ b0
    have N2 := World.new_ne W1 ⟨w.heap.size + 1, 4, none⟩ h4
    have N3 := World.new_ne W1 ⟨tb, 1, none⟩ t1
    clear hK1
    go_wp2_with fail
    go_region_held3 (fun w' => w'.cell? ⟨w.heap.size, 0, none⟩ = some (.pointer (some ⟨tb, 0, none⟩)) ∧ w'.cell? ⟨w.heap.size + 1, 4, none⟩ = some (.int .u32 h.d) ∧ w'.cell? ⟨tb, 1, none⟩ = some (.pointer (some ⟨db, 0, none⟩))) (first | exact ⟨keep2 e0 e3, keep2 e1 e4, keep2 e2 e5⟩ | go_keep)
      ((go_at_call 35; refine (HF2.out _ (by first | exact (Kp.refl none' W1).drew | exact ((Kp.refl none' W1).drew.alloc _) | exact ((Kp.refl none' W1).alloc _).drew)).mono ?_; rintro e w3 ⟨rfl, hk3⟩
        have hk4 : Kp none' W1 w3 := by first | exact (Kp.refl none' W1).drew.trans hk3 | exact ((Kp.refl none' W1).drew.alloc _).trans hk3 | exact ((Kp.refl none' W1).alloc _).drew.trans hk3
        have e0 := hk4.cell b0 (fun x => x); have e1 := hk4.cell h4 (fun x => x); have e2 := hk4.cell t1 (fun x => x)
        have e3 : (⟨w.heap.size, 0, none⟩ : Addr).block ≠ W1.heap.size := N1.symm
        have e4 : (⟨w.heap.size + 1, 4, none⟩ : Addr).block ≠ W1.heap.size := N2.symm
        have e5 : (⟨tb, 1, none⟩ : Addr).block ≠ W1.heap.size := N3.symm
        first
          | (have hb3 := (Blk.new W1.drew [.int .u32 0, .int .i64 0] 46).kp hk3 (fun x => x)
             have z0 : w3.cell? ⟨W1.heap.size, 0, none⟩ = some (.int .u32 0) := hb3.cell 0 rfl
             have z1 : w3.cell? ⟨W1.heap.size, 1, none⟩ = some (.int .i64 0) := hb3.cell 1 rfl
             have y0 : w3.frozen? ⟨W1.heap.size, 0, none⟩ = false := hb3.fz 0
             have y1 : w3.frozen? ⟨W1.heap.size, 1, none⟩ = false := hb3.fz 1
             clear hb3)
          | skip
        have HK3 := Lib.hid hk3; have HK4 := Lib.hid hk4; clear hk3 hk4))
    · have hK2 : Kp none' W1 (w3.alloc (.cells #[.int .u32 (accP (D.best h.d none)).1, .int .i64 (accP (D.best h.d none)).2] 46)) := HK4.out.alloc _
      obtain ⟨W2, hW2⟩ : ∃ W, w3.alloc (.cells #[.int .u32 (accP (D.best h.d none)).1, .int .i64 (accP (D.best h.d none)).2] 46) = W := ⟨_, rfl⟩
      rw [hW2] at hK2 ⊢
      clear hW2
      have HI2 := Lib.hid (HI1.out.old hK2); have HK2 := Lib.hid (HK1.out.trans hK2)
      have b0 := HI2.out.box.cell 0 rfl
      have t2 := HI2.out.blk.cell 2 rfl
      have HSE := Lib.hid (tSearch W2 tb w.heap.size (w.heap.size + 1) (.pointer (some ⟨sb, 0, none⟩)) (.pointer (some ⟨db, 0, none⟩)) fv (.slice po zs.length pcap) l zs h HI2.out HUP.out hzl)
      rw [HCN.out] at HSE
      clear hK2 h4 t1
      go_wp2_with fail
      refine HSE.out.mono ?_
      rintro e w5 ⟨rfl, hk5⟩
      have HI5 := Lib.hid (HI2.out.old hk5); have HK5 := Lib.hid (HK2.out.trans hk5)
      have b0 := HI5.out.box.cell 0 rfl
      have t2 := HI5.out.blk.cell 2 rfl
      obtain ⟨hi', he⟩ := runs_at (l := l) hcl
      obtain ⟨g, off, cap', e1, hc⟩ := HI5.out.ports.at enRun_len (by decide) c hi'
      injection e1 with e1 _ e3
      subst e1 e3
      rw [he, HX3.out] at hc
      have p1 : w5.cell? ⟨g, off + c * 2 + 1, none⟩ = some (.int .u64 x3) := hc 1 _ rfl
      have hw : IntKind.i64.wrap (c : Int) = (c : Int) := by rw [IntKind.wrap_i64]; omega
      have hci : (c : Int) < zs.length := by omega
      clear hk5 hc he hi' HSE
      go_wp2_with fail
      go_ret
      exact ⟨rfl, HK5.out⟩
    · have hK2 : Kp none' W1 ((w3.setCell ⟨W1.heap.size, 0, none⟩ (.int .u32 (accP (D.best h.d none)).1)).setCell ⟨W1.heap.size, 1, none⟩ (.int .i64 (accP (D.best h.d none)).2)) := (HK4.out.set (p := ⟨W1.heap.size, 0, none⟩) (.inr (Nat.le_refl _)) _).set (p := ⟨W1.heap.size, 1, none⟩) (.inr (Nat.le_refl _)) _
      obtain ⟨W2, hW2⟩ : ∃ W, (w3.setCell ⟨W1.heap.size, 0, none⟩ (.int .u32 (accP (D.best h.d none)).1)).setCell ⟨W1.heap.size, 1, none⟩ (.int .i64 (accP (D.best h.d none)).2) = W := ⟨_, rfl⟩
      rw [hW2] at hK2 ⊢
      clear hW2
      have HI2 := Lib.hid (HI1.out.old hK2); have HK2 := Lib.hid (HK1.out.trans hK2)
      have b0 := HI2.out.box.cell 0 rfl
      have t2 := HI2.out.blk.cell 2 rfl
      have HSE := Lib.hid (tSearch W2 tb w.heap.size (w.heap.size + 1) (.pointer (some ⟨sb, 0, none⟩)) (.pointer (some ⟨db, 0, none⟩)) fv (.slice po zs.length pcap) l zs h HI2.out HUP.out hzl)
      rw [HCN.out] at HSE
      clear hK2 h4 t1
      go_wp2_with fail
      refine HSE.out.mono ?_
      rintro e w5 ⟨rfl, hk5⟩
      have HI5 := Lib.hid (HI2.out.old hk5); have HK5 := Lib.hid (HK2.out.trans hk5)
      have b0 := HI5.out.box.cell 0 rfl
      have t2 := HI5.out.blk.cell 2 rfl
      obtain ⟨hi', he⟩ := runs_at (l := l) hcl
      obtain ⟨g, off, cap', e1, hc⟩ := HI5.out.ports.at enRun_len (by decide) c hi'
      injection e1 with e1 _ e3
      subst e1 e3
      rw [he, HX3.out] at hc
      have p1 : w5.cell? ⟨g, off + c * 2 + 1, none⟩ = some (.int .u64 x3) := hc 1 _ rfl
      have hw : IntKind.i64.wrap (c : Int) = (c : Int) := by rw [IntKind.wrap_i64]; omega
      have hci : (c : Int) < zs.length := by omega
      clear hk5 hc he hi' HSE
      go_wp2_with fail
      go_ret
      exact ⟨rfl, HK5.out⟩
  · have hK1 : Kp none' W0 ((w3.setCell ⟨W0.heap.size, 0, none⟩ (.int .u32 (accP (S.best h.s none)).1)).setCell ⟨W0.heap.size, 1, none⟩ (.int .i64 (accP (S.best h.s none)).2)) := (HK4.out.set (p := ⟨W0.heap.size, 0, none⟩) (.inr (Nat.le_refl _)) _).set (p := ⟨W0.heap.size, 1, none⟩) (.inr (Nat.le_refl _)) _
    obtain ⟨W1, hW1⟩ : ∃ W, (w3.setCell ⟨W0.heap.size, 0, none⟩ (.int .u32 (accP (S.best h.s none)).1)).setCell ⟨W0.heap.size, 1, none⟩ (.int .i64 (accP (S.best h.s none)).2) = W := ⟨_, rfl⟩
    rw [hW1] at hK1 ⊢
    clear hW1 b0 h3' t0 N1 N2 N3
    have HI1 := Lib.hid (HI0.out.old hK1); have HD1 := Lib.hid (HDt.out.old hK1); have HK1 := Lib.hid (HK0.out.trans hK1)
    have HF2 := Lib.hid (fun W (k : Kp none' W1 W) => tFind W db D dn (HD1.out.old k).blk (HD1.out.old k).mem HD1.out.wf h.d hh.d)
    simp only [HX2.out] at HF2
    have b0 := HI1.out.box.cell 0 rfl
    have h4 := HI1.out.hd.cell 4 rfl
    have t1 := HI1.out.blk.cell 1 rfl
    have N1 := World.new_ne W1 ⟨w.heap.size, 0, none⟩ b0
    have N2 := World.new_ne W1 ⟨w.heap.size + 1, 4, none⟩ h4
    have N3 := World.new_ne W1 ⟨tb, 1, none⟩ t1
    clear hK1
    go_wp2_with fail
    go_region_held3 (fun w' => w'.cell? ⟨w.heap.size, 0, none⟩ = some (.pointer (some ⟨tb, 0, none⟩)) ∧ w'.cell? ⟨w.heap.size + 1, 4, none⟩ = some (.int .u32 h.d) ∧ w'.cell? ⟨tb, 1, none⟩ = some (.pointer (some ⟨db, 0, none⟩))) (first | exact ⟨keep2 e0 e3, keep2 e1 e4, keep2 e2 e5⟩ | go_keep)
      ((go_at_call 35; refine (HF2.out _ (by first | exact (Kp.refl none' W1).drew | exact ((Kp.refl none' W1).drew.alloc _) | exact ((Kp.refl none' W1).alloc _).drew)).mono ?_; rintro e w3 ⟨rfl, hk3⟩
        have hk4 : Kp none' W1 w3 := by first | exact (Kp.refl none' W1).drew.trans hk3 | exact ((Kp.refl none' W1).drew.alloc _).trans hk3 | exact ((Kp.refl none' W1).alloc _).drew.trans hk3
        have e0 := hk4.cell b0 (fun x => x); have e1 := hk4.cell h4 (fun x => x); have e2 := hk4.cell t1 (fun x => x)
        have e3 : (⟨w.heap.size, 0, none⟩ : Addr).block ≠ W1.heap.size := N1.symm
        have e4 : (⟨w.heap.size + 1, 4, none⟩ : Addr).block ≠ W1.heap.size := N2.symm
        have e5 : (⟨tb, 1, none⟩ : Addr).block ≠ W1.heap.size := N3.symm
        first
          | (have hb3 := (Blk.new W1.drew [.int .u32 0, .int .i64 0] 46).kp hk3 (fun x => x)
             have z0 : w3.cell? ⟨W1.heap.size, 0, none⟩ = some (.int .u32 0) := hb3.cell 0 rfl
             have z1 : w3.cell? ⟨W1.heap.size, 1, none⟩ = some (.int .i64 0) := hb3.cell 1 rfl
             have y0 : w3.frozen? ⟨W1.heap.size, 0, none⟩ = false := hb3.fz 0
             have y1 : w3.frozen? ⟨W1.heap.size, 1, none⟩ = false := hb3.fz 1
             clear hb3)
          | skip
        have HK3 := Lib.hid hk3; have HK4 := Lib.hid hk4; clear hk3 hk4))
    · have hK2 : Kp none' W1 (w3.alloc (.cells #[.int .u32 (accP (D.best h.d none)).1, .int .i64 (accP (D.best h.d none)).2] 46)) := HK4.out.alloc _
      obtain ⟨W2, hW2⟩ : ∃ W, w3.alloc (.cells #[.int .u32 (accP (D.best h.d none)).1, .int .i64 (accP (D.best h.d none)).2] 46) = W := ⟨_, rfl⟩
      rw [hW2] at hK2 ⊢
      clear hW2
      have HI2 := Lib.hid (HI1.out.old hK2); have HK2 := Lib.hid (HK1.out.trans hK2)
      have b0 := HI2.out.box.cell 0 rfl
      have t2 := HI2.out.blk.cell 2 rfl
      have HSE := Lib.hid (tSearch W2 tb w.heap.size (w.heap.size + 1) (.pointer (some ⟨sb, 0, none⟩)) (.pointer (some ⟨db, 0, none⟩)) fv (.slice po zs.length pcap) l zs h HI2.out HUP.out hzl)
      rw [HCN.out] at HSE
      clear hK2 h4 t1
      go_wp2_with fail
      refine HSE.out.mono ?_
      rintro e w5 ⟨rfl, hk5⟩
      have HI5 := Lib.hid (HI2.out.old hk5); have HK5 := Lib.hid (HK2.out.trans hk5)
      have b0 := HI5.out.box.cell 0 rfl
      have t2 := HI5.out.blk.cell 2 rfl
      obtain ⟨hi', he⟩ := runs_at (l := l) hcl
      obtain ⟨g, off, cap', e1, hc⟩ := HI5.out.ports.at enRun_len (by decide) c hi'
      injection e1 with e1 _ e3
      subst e1 e3
      rw [he, HX3.out] at hc
      have p1 : w5.cell? ⟨g, off + c * 2 + 1, none⟩ = some (.int .u64 x3) := hc 1 _ rfl
      have hw : IntKind.i64.wrap (c : Int) = (c : Int) := by rw [IntKind.wrap_i64]; omega
      have hci : (c : Int) < zs.length := by omega
      clear hk5 hc he hi' HSE
      go_wp2_with fail
      go_ret
      exact ⟨rfl, HK5.out⟩
    · have hK2 : Kp none' W1 ((w3.setCell ⟨W1.heap.size, 0, none⟩ (.int .u32 (accP (D.best h.d none)).1)).setCell ⟨W1.heap.size, 1, none⟩ (.int .i64 (accP (D.best h.d none)).2)) := (HK4.out.set (p := ⟨W1.heap.size, 0, none⟩) (.inr (Nat.le_refl _)) _).set (p := ⟨W1.heap.size, 1, none⟩) (.inr (Nat.le_refl _)) _
      obtain ⟨W2, hW2⟩ : ∃ W, (w3.setCell ⟨W1.heap.size, 0, none⟩ (.int .u32 (accP (D.best h.d none)).1)).setCell ⟨W1.heap.size, 1, none⟩ (.int .i64 (accP (D.best h.d none)).2) = W := ⟨_, rfl⟩
      rw [hW2] at hK2 ⊢
      clear hW2
      have HI2 := Lib.hid (HI1.out.old hK2); have HK2 := Lib.hid (HK1.out.trans hK2)
      have b0 := HI2.out.box.cell 0 rfl
      have t2 := HI2.out.blk.cell 2 rfl
      have HSE := Lib.hid (tSearch W2 tb w.heap.size (w.heap.size + 1) (.pointer (some ⟨sb, 0, none⟩)) (.pointer (some ⟨db, 0, none⟩)) fv (.slice po zs.length pcap) l zs h HI2.out HUP.out hzl)
      rw [HCN.out] at HSE
      clear hK2 h4 t1
      go_wp2_with fail
      refine HSE.out.mono ?_
      rintro e w5 ⟨rfl, hk5⟩
      have HI5 := Lib.hid (HI2.out.old hk5); have HK5 := Lib.hid (HK2.out.trans hk5)
      have b0 := HI5.out.box.cell 0 rfl
      have t2 := HI5.out.blk.cell 2 rfl
      obtain ⟨hi', he⟩ := runs_at (l := l) hcl
      obtain ⟨g, off, cap', e1, hc⟩ := HI5.out.ports.at enRun_len (by decide) c hi'
      injection e1 with e1 _ e3
      subst e1 e3
      rw [he, HX3.out] at hc
      have p1 : w5.cell? ⟨g, off + c * 2 + 1, none⟩ = some (.int .u64 x3) := hc 1 _ rfl
      have hw : IntKind.i64.wrap (c : Int) = (c : Int) := by rw [IntKind.wrap_i64]; omega
      have hci : (c : Int) < zs.length := by omega
      clear hk5 hc he hi' HSE
      go_wp2_with fail
      go_ret
      exact ⟨rfl, HK5.out⟩
end Go.Proofs.YthnlggecjdifnaaDoor
