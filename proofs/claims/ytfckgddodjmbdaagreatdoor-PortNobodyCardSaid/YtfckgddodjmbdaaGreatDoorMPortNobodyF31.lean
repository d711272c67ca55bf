/- The rules that hold of a header. -/
import Derived.Test.YtfckgddodjmbdaaGreatDoorMPortNobodyF30
import Derived.Test.YtfckgddodjmbdaaGreatDoorMPortNobodyF0
import Derived.Test.YtfckgddodjmbdaaGreatDoorMPortNobodyF1
import Derived.Test.YtfckgddodjmbdaaGreatDoorMPortNobodyF20
namespace Go.Proofs.YtfckgddodjmbdaaGreatDoor
set_option linter.unusedVariables false
set_option linter.unusedSimpArgs false
open Go.RowKit

theorem accX_opt (o : Option (Px × Nat)) : accX o = optX o := by cases o <;> rfl
set_option maxRecDepth 100000 in
set_option maxHeartbeats 8000000 in
theorem tHold (w : World) (tb : Nat) (l : List RuN) (hok : ∀ r ∈ l, r.Ok) (hc : chkN l = 0) (H : RtM w tb l) (h : HdR) (hh : h.Ok) :
    Calls Tryz.prog 70 #[.pointer (some ⟨tb, 0, none⟩), .agg #[.int .u8 h.ds, .int .u16 h.id, .int .u8 h.ttl, .int .u32 h.s, .int .u32 h.d, .int .u16 h.sp, .int .u16 h.p]] w fun e w' => e = .returned (.int .u64 (bitsOf (holdsAt l h.n) l.length : Nat)) ∧ Kp none' w w' := by
  obtain ⟨base, base', sb, db, sn, dn, S, D, zs, pv, fv, h1, h2, h3, h4, h5, h6, hz9, h7, h8⟩ := H.is
  obtain ⟨po, pcap, rfl⟩ : ∃ po pcap, pv = .slice po zs.length pcap := by obtain ⟨po, pcap, rfl, _⟩ := h7.is; exact ⟨_, _, rfl⟩
  have hz := chk_zero.1 hc
  have hb64 : ∀ (f : Nat → Bool) (k : Nat), k ≤ 64 → bitsOf f k < 18446744073709551616 := fun f k hk => Nat.lt_of_lt_of_le (bitsOf_lt f k) (show 2 ^ k ≤ 2 ^ 64 from Nat.pow_le_pow_right (by decide) hk)
  have hx1 : accX (S.best h.s none) < 18446744073709551616 := by rw [accX_opt, tree_found h4]; exact hb64 _ _ (by rw [List.length_map]; exact hz.1)
  have hx2 : accX (D.best h.d none) < 18446744073709551616 := by rw [accX_opt, tree_found h5]; exact hb64 _ _ (by rw [List.length_map]; exact hz.1)
  have hval := hold_of hok hz.2 h4 h5 h6 h.n hh.p
  have hpos := (run_of h6 hok hh.p).1
  have hup := h6.up
  have hx3 : setR l (zs.getD (upTo zs h.p - 1) 0) < 18446744073709551616 := hb64 _ _ hz.1
  obtain ⟨c, hcn⟩ : ∃ c, upTo zs h.p = c + 1 := ⟨upTo zs h.p - 1, by omega⟩
  have hcl : c < zs.length := by have := upTo_le zs h.p; omega
  have hval' : accX (S.best h.s none) &&& accX (D.best h.d none) &&& setR l (zs.getD c 0) = bitsOf (holdsAt l h.n) l.length := by
    rw [accX_opt, accX_opt]
    have e : upTo zs h.n.p - 1 = c := by show upTo zs h.p - 1 = c; omega
    rw [e] at hval
    exact hval
  rw [hcn, Nat.add_sub_cancel] at hx3
  have a12 := bits_and_u64_nat _ _ hx1 hx2
  have a3 := bits_and_u64_nat (accX (S.best h.s none) &&& accX (D.best h.d none)) _ (Nat.lt_of_le_of_lt Nat.and_le_left hx1) hx3
  rw [hval'] at a3
  obtain ⟨x3, hx3e⟩ : ∃ x, setR l (zs.getD c 0) = x := ⟨_, rfl⟩
  rw [hx3e] at a3
  obtain ⟨R, hR⟩ : ∃ R, bitsOf (holdsAt l h.n) l.length = R := ⟨_, rfl⟩
  rw [hR] at a3 ⊢
  obtain ⟨x1, hx1e⟩ : ∃ x, accX (S.best h.s none) = x := ⟨_, rfl⟩
  obtain ⟨x2, hx2e⟩ : ∃ x, accX (D.best h.d none) = x := ⟨_, rfl⟩
  rw [hx1e, hx2e] at a12 a3
  obtain ⟨x12, hx12⟩ : ∃ x, x1 &&& x2 = x := ⟨_, rfl⟩
  rw [hx12] at a12 a3
  have HX1 := Lib.hid hx1e; have HX2 := Lib.hid hx2e; have HX3 := Lib.hid hx3e; have HCN := Lib.hid hcn
  clear hval hval' hx1 hx2 hx3 hR hx1e hx2e hx3e hcn hx12 hb64
  have hzl : zs.length ≤ 1000000 := by omega
  have k0 : Kp none' w ((w.alloc (.cells #[.pointer (some ⟨tb, 0, none⟩)] 48)).alloc (.cells #[.int .u8 h.ds, .int .u16 h.id, .int .u8 h.ttl, .int .u32 h.s, .int .u32 h.d, .int .u16 h.sp, .int .u16 h.p] 56)) := ((Kp.refl none' w).alloc _).alloc _
  have hI0 : HoI ((w.alloc (.cells #[.pointer (some ⟨tb, 0, none⟩)] 48)).alloc (.cells #[.int .u8 h.ds, .int .u16 h.id, .int .u8 h.ttl, .int .u32 h.s, .int .u32 h.d, .int .u16 h.sp, .int .u16 h.p] 56)) tb w.heap.size (w.heap.size + 1) (.pointer (some ⟨sb, 0, none⟩)) (.pointer (some ⟨db, 0, none⟩)) fv (.slice po zs.length pcap) l zs h := by
    refine ⟨(Blk.new w [.pointer (some ⟨tb, 0, none⟩)] _).alloc _, ?_, h1.kp k0 (fun x => x), h7.old k0⟩
    have := Blk.new (w.alloc (.cells #[.pointer (some ⟨tb, 0, none⟩)] 48)) (enHd h) 56
    rw [World.size_alloc] at this
    exact this
  have HI0 := Lib.hid hI0
  have HSt := Lib.hid (h2.old k0); have HDt := Lib.hid (h3.old k0); have HK0 := Lib.hid k0
  have HUP := Lib.hid hup
  have b0 := hI0.box.cell 0 rfl
  have h3' := hI0.hd.cell 3 rfl
  have t0 := hI0.blk.cell 0 rfl
  clear hI0 h1 h2 h3 h4 h5 h6 h7 h8 hpos hup hz hc hok k0 H
  go_enter Tryz.func70, Tryz.ntmps70
  go_wp2_with fail
  obtain ⟨W0, hW0⟩ : ∃ W, (w.alloc (.cells #[.pointer (some ⟨tb, 0, none⟩)] 48)).alloc (.cells #[.int .u8 h.ds, .int .u16 h.id, .int .u8 h.ttl, .int .u32 h.s, .int .u32 h.d, .int .u16 h.sp, .int .u16 h.p] 56) = W := ⟨_, rfl⟩
  rw [hW0] at b0 h3' t0 HI0 HSt HDt HK0 ⊢
  clear hW0
  have HF1 := Lib.hid (fun W (k : Kp none' W0 W) => tFind W sb S sn (HSt.out.old k).blk (HSt.out.old k).mem HSt.out.wf h.s hh.s)
  simp only [HX1.out] at HF1
  have N1 := World.new_ne W0 ⟨w.heap.size, 0, none⟩ b0
  have N2 := World.new_ne W0 ⟨w.heap.size + 1, 3, none⟩ h3'
  have N3 := World.new_ne W0 ⟨tb, 0, none⟩ t0
  go_region_held3 (fun w' => w'.cell? ⟨w.heap.size, 0, none⟩ = some (.pointer (some ⟨tb, 0, none⟩)) ∧ w'.cell? ⟨w.heap.size + 1, 3, none⟩ = some (.int .u32 h.s) ∧ w'.cell? ⟨tb, 0, none⟩ = some (.pointer (some ⟨sb, 0, none⟩))) (first | exact ⟨keep2 e0 e3, keep2 e1 e4, keep2 e2 e5⟩ | go_keep)
    ((go_at_call 97; refine (HF1.out _ (by first | exact (Kp.refl none' W0).drew | exact ((Kp.refl none' W0).drew.alloc _) | exact ((Kp.refl none' W0).alloc _).drew)).mono ?_; rintro e w3 ⟨rfl, hk3⟩
      have hk4 : Kp none' W0 w3 := by first | exact (Kp.refl none' W0).drew.trans hk3 | exact ((Kp.refl none' W0).drew.alloc _).trans hk3 | exact ((Kp.refl none' W0).alloc _).drew.trans hk3
      have e0 := hk4.cell b0 (fun x => x); have e1 := hk4.cell h3' (fun x => x); have e2 := hk4.cell t0 (fun x => x)
      have e3 : (⟨w.heap.size, 0, none⟩ : Addr).block ≠ W0.heap.size := N1.symm
      have e4 : (⟨w.heap.size + 1, 3, none⟩ : Addr).block ≠ W0.heap.size := N2.symm
      have e5 : (⟨tb, 0, none⟩ : Addr).block ≠ W0.heap.size := N3.symm
      first
        | (have hb3 := (Blk.new W0.drew [.int .u32 0, .int .i64 0] 88).kp hk3 (fun x => x)
           have z0 : w3.cell? ⟨W0.heap.size, 0, none⟩ = some (.int .u32 0) := hb3.cell 0 rfl
           have z1 : w3.cell? ⟨W0.heap.size, 1, none⟩ = some (.int .i64 0) := hb3.cell 1 rfl
           have y0 : w3.frozen? ⟨W0.heap.size, 0, none⟩ = false := hb3.fz 0
           have y1 : w3.frozen? ⟨W0.heap.size, 1, none⟩ = false := hb3.fz 1
           clear hb3)
        | skip
      have HK3 := Lib.hid hk3; have HK4 := Lib.hid hk4; clear hk3 hk4))
  · have hK1 : Kp none' W0 (w3.alloc (.cells #[.int .u32 (accP (S.best h.s none)).1, .int .i64 (accP (S.best h.s none)).2] 88)) := HK4.out.alloc _
    obtain ⟨W1, hW1⟩ : ∃ W, w3.alloc (.cells #[.int .u32 (accP (S.best h.s none)).1, .int .i64 (accP (S.best h.s none)).2] 88) = W := ⟨_, rfl⟩
    rw [hW1] at hK1 ⊢
    clear hW1 b0 h3' t0 N1 N2 N3
    have HI1 := Lib.hid (HI0.out.old hK1); have HD1 := Lib.hid (HDt.out.old hK1); have HK1 := Lib.hid (HK0.out.trans hK1)
    have HF2 := Lib.hid (fun W (k : Kp none' W1 W) => tFind W db D dn (HD1.out.old k).blk (HD1.out.old k).mem HD1.out.wf h.d hh.d)
    simp only [HX2.out] at HF2
    have b0 := HI1.out.box.cell 0 rfl
    have h4 := HI1.out.hd.cell 4 rfl
    have t1 := HI1.out.blk.cell 1 rfl
    have N1 := World.new_ne W1 ⟨w.heap.size, 0, none⟩ b0
    have N2 := World.new_ne W1 ⟨w.heap.size + 1, 4, none⟩ h4
    have N3 := World.new_ne W1 ⟨tb, 1, none⟩ t1
    clear hK1
    go_wp2_with fail
    go_region_held3 (fun w' => w'.cell? ⟨w.heap.size, 0, none⟩ = some (.pointer (some ⟨tb, 0, none⟩)) ∧ w'.cell? ⟨w.heap.size + 1, 4, none⟩ = some (.int .u32 h.d) ∧ w'.cell? ⟨tb, 1, none⟩ = some (.pointer (some ⟨db, 0, none⟩))) (first | exact ⟨keep2 e0 e3, keep2 e1 e4, keep2 e2 e5⟩ | go_keep)
      ((go_at_call 97; refine (HF2.out _ (by first | exact (Kp.refl none' W1).drew | exact ((Kp.refl none' W1).drew.alloc _) | exact ((Kp.refl none' W1).alloc _).drew)).mono ?_; rintro e w3 ⟨rfl, hk3⟩
        have hk4 : Kp none' W1 w3 := by first | exact (Kp.refl none' W1).drew.trans hk3 | exact ((Kp.refl none' W1).drew.alloc _).trans hk3 | exact ((Kp.refl none' W1).alloc _).drew.trans hk3
        have e0 := hk4.cell b0 (fun x => x); have e1 := hk4.cell h4 (fun x => x); have e2 := hk4.cell t1 (fun x => x)
        have e3 : (⟨w.heap.size, 0, none⟩ : Addr).block ≠ W1.heap.size := N1.symm
        have e4 : (⟨w.heap.size + 1, 4, none⟩ : Addr).block ≠ W1.heap.size := N2.symm
        have e5 : (⟨tb, 1, none⟩ : Addr).block ≠ W1.heap.size := N3.symm
        first
          | (have hb3 := (Blk.new W1.drew [.int .u32 0, .int .i64 0] 88).kp hk3 (fun x => x)
             have z0 : w3.cell? ⟨W1.heap.size, 0, none⟩ = some (.int .u32 0) := hb3.cell 0 rfl
             have z1 : w3.cell? ⟨W1.heap.size, 1, none⟩ = some (.int .i64 0) := hb3.cell 1 rfl
             have y0 : w3.frozen? ⟨W1.heap.size, 0, none⟩ = false := hb3.fz 0
             have y1 : w3.frozen? ⟨W1.heap.size, 1, none⟩ = false := hb3.fz 1
             clear hb3)
          | skip
        have HK3 := Lib.hid hk3; have HK4 := Lib.hid hk4; clear hk3 hk4))
    · have hK2 : Kp none' W1 (w3.alloc (.cells #[.int .u32 (accP (D.best h.d none)).1, .int .i64 (accP (D.best h.d none)).2] 88)) := HK4.out.alloc _
      obtain ⟨W2, hW2⟩ : ∃ W, w3.alloc (.cells #[.int .u32 (accP (D.best h.d none)).1, .int .i64 (accP (D.best h.d none)).2] 88) = W := ⟨_, rfl⟩
      rw [hW2] at hK2 ⊢
      clear hW2
      have HI2 := Lib.hid (HI1.out.old hK2); have HK2 := Lib.hid (HK1.out.trans hK2)
      have b0 := HI2.out.box.cell 0 rfl
      have t2 := HI2.out.blk.cell 2 rfl
      have HSE := Lib.hid (tSearch W2 tb w.heap.size (w.heap.size + 1) (.pointer (some ⟨sb, 0, none⟩)) (.pointer (some ⟨db, 0, none⟩)) fv (.slice po zs.length pcap) l zs h HI2.out HUP.out hzl)
      rw [HCN.out] at HSE
      clear hK2 h4 t1
      go_wp2_with fail
      refine HSE.out.mono ?_
      rintro e w5 ⟨rfl, hk5⟩
      have HI5 := Lib.hid (HI2.out.old hk5); have HK5 := Lib.hid (HK2.out.trans hk5)
      have b0 := HI5.out.box.cell 0 rfl
      have t2 := HI5.out.blk.cell 2 rfl
      obtain ⟨hi', he⟩ := runs_at (l := l) hcl
      obtain ⟨g, off, cap', e1, hc⟩ := HI5.out.ports.at enRun_len (by decide) c hi'
      injection e1 with e1 _ e3
      subst e1 e3
      rw [he, HX3.out] at hc
      have p1 : w5.cell? ⟨g, off + c * 2 + 1, none⟩ = some (.int .u64 x3) := hc 1 _ rfl
      have hw : IntKind.i64.wrap (c : Int) = (c : Int) := by rw [IntKind.wrap_i64]; omega
      have hci : (c : Int) < zs.length := by omega
      clear hk5 hc he hi' HSE
      go_wp2_with fail
      go_ret
      exact ⟨rfl, HK5.out⟩
    · have hK2 : Kp none' W1 ((w3.setCell ⟨W1.heap.size, 0, none⟩ (.int .u32 (accP (D.best h.d none)).1)).setCell ⟨W1.heap.size, 1, none⟩ (.int .i64 (accP (D.best h.d none)).2)) := (HK4.out.set (p := ⟨W1.heap.size, 0, none⟩) (.inr (Nat.le_refl _)) _).set (p := ⟨W1.heap.size, 1, none⟩) (.inr (Nat.le_refl _)) _
      obtain ⟨W2, hW2⟩ : ∃ W, (w3.setCell ⟨W1.heap.size, 0, none⟩ (.int .u32 (accP (D.best h.d none)).1)).setCell ⟨W1.heap.size, 1, none⟩ (.int .i64 (accP (D.best h.d none)).2) = W := ⟨_, rfl⟩
      rw [hW2] at hK2 ⊢
      clear hW2
      have HI2 := Lib.hid (HI1.out.old hK2); have HK2 := Lib.hid (HK1.out.trans hK2)
      have b0 := HI2.out.box.cell 0 rfl
      have t2 := HI2.out.blk.cell 2 rfl
      have HSE := Lib.hid (tSearch W2 tb w.heap.size (w.heap.size + 1) (.pointer (some ⟨sb, 0, none⟩)) (.pointer (some ⟨db, 0, none⟩)) fv (.slice po zs.length pcap) l zs h HI2.out HUP.out hzl)
      rw [HCN.out] at HSE
      clear hK2 h4 t1
      go_wp2_with fail
      refine HSE.out.mono ?_
      rintro e w5 ⟨rfl, hk5⟩
      have HI5 := Lib.hid (HI2.out.old hk5); have HK5 := Lib.hid (HK2.out.trans hk5)
      have b0 := HI5.out.box.cell 0 rfl
      have t2 := HI5.out.blk.cell 2 rfl
      obtain ⟨hi', he⟩ := runs_at (l := l) hcl
      obtain ⟨g, off, cap', e1, hc⟩ := HI5.out.ports.at enRun_len (by decide) c hi'
      injection e1 with e1 _ e3
      subst e1 e3
      rw [he, HX3.out] at hc
      have p1 : w5.cell? ⟨g, off + c * 2 + 1, none⟩ = some (.int .u64 x3) := hc 1 _ rfl
      have hw : IntKind.i64.wrap (c : Int) = (c : Int) := by rw [IntKind.wrap_i64]; omega
      have hci : (c : Int) < zs.length := by omega
      clear hk5 hc he hi' HSE
      go_wp2_with fail
      go_ret
      exact ⟨rfl, HK5.out⟩
  · have hK1 : Kp none' W0 ((w3.setCell ⟨W0.heap.size, 0, none⟩ (.int .u32 (accP (S.best h.s none)).1)).setCell ⟨W0.heap.size, 1, none⟩ (.int .i64 (accP (S.best h.s none)).2)) := (HK4.out.set (p := ⟨W0.heap.size, 0, none⟩) (.inr (Nat.le_refl _)) _).set (p := ⟨W0.heap.size, 1, none⟩) (.inr (Nat.le_refl _)) _
    obtain ⟨W1, hW1⟩ : ∃ W, (w3.setCell ⟨W0.heap.size, 0, none⟩ (.int .u32 (accP (S.best h.s none)).1)).setCell ⟨W0.heap.size, 1, none⟩ (.int .i64 (accP (S.best h.s none)).2) = W := ⟨_, rfl⟩
    rw [hW1] at hK1 ⊢
    clear hW1 b0 h3' t0 N1 N2 N3
    have HI1 := Lib.hid (HI0.out.old hK1); have HD1 := Lib.hid (HDt.out.old hK1); have HK1 := Lib.hid (HK0.out.trans hK1)
    have HF2 := Lib.hid (fun W (k : Kp none' W1 W) => tFind W db D dn (HD1.out.old k).blk (HD1.out.old k).mem HD1.out.wf h.d hh.d)
    simp only [HX2.out] at HF2
    have b0 := HI1.out.box.cell 0 rfl
    have h4 := HI1.out.hd.cell 4 rfl
    have t1 := HI1.out.blk.cell 1 rfl
    have N1 := World.new_ne W1 ⟨w.heap.size, 0, none⟩ b0
    have N2 := World.new_ne W1 ⟨w.heap.size + 1, 4, none⟩ h4
    have N3 := World.new_ne W1 ⟨tb, 1, none⟩ t1
    clear hK1
    go_wp2_with fail
    go_region_held3 (fun w' => w'.cell? ⟨w.heap.size, 0, none⟩ = some (.pointer (some ⟨tb, 0, none⟩)) ∧ w'.cell? ⟨w.heap.size + 1, 4, none⟩ = some (.int .u32 h.d) ∧ w'.cell? ⟨tb, 1, none⟩ = some (.pointer (some ⟨db, 0, none⟩))) (first | exact ⟨keep2 e0 e3, keep2 e1 e4, keep2 e2 e5⟩ | go_keep)
      ((go_at_call 97; refine (HF2.out _ (by first | exact (Kp.refl none' W1).drew | exact ((Kp.refl none' W1).drew.alloc _) | exact ((Kp.refl none' W1).alloc _).drew)).mono ?_; rintro e w3 ⟨rfl, hk3⟩
        have hk4 : Kp none' W1 w3 := by first | exact (Kp.refl none' W1).drew.trans hk3 | exact ((Kp.refl none' W1).drew.alloc _).trans hk3 | exact ((Kp.refl none' W1).alloc _).drew.trans hk3
        have e0 := hk4.cell b0 (fun x => x); have e1 := hk4.cell h4 (fun x => x); have e2 := hk4.cell t1 (fun x => x)
        have e3 : (⟨w.heap.size, 0, none⟩ : Addr).block ≠ W1.heap.size := N1.symm
        have e4 : (⟨w.heap.size + 1, 4, none⟩ : Addr).block ≠ W1.heap.size := N2.symm
        have e5 : (⟨tb, 1, none⟩ : Addr).block ≠ W1.heap.size := N3.symm
        first
          | (have hb3 := (Blk.new W1.drew [.int .u32 0, .int .i64 0] 88).kp hk3 (fun x => x)
             have z0 : w3.cell? ⟨W1.heap.size, 0, none⟩ = some (.int .u32 0) := hb3.cell 0 rfl
             have z1 : w3.cell? ⟨W1.heap.size, 1, none⟩ = some (.int .i64 0) := hb3.cell 1 rfl
             have y0 : w3.frozen? ⟨W1.heap.size, 0, none⟩ = false := hb3.fz 0
             have y1 : w3.frozen? ⟨W1.heap.size, 1, none⟩ = false := hb3.fz 1
             clear hb3)
          | skip
        have HK3 := Lib.hid hk3; have HK4 := Lib.hid hk4; clear hk3 hk4))
    · have hK2 : Kp none' W1 (w3.alloc (.cells #[.int .u32 (accP (D.best h.d none)).1, .int .i64 (accP (D.best h.d none)).2] 88)) := HK4.out.alloc _
      obtain ⟨W2, hW2⟩ : ∃ W, w3.alloc (.cells #[.int .u32 (accP (D.best h.d none)).1, .int .i64 (accP (D.best h.d none)).2] 88) = W := ⟨_, rfl⟩
      rw [hW2] at hK2 ⊢
      clear hW2
      have HI2 := Lib.hid (HI1.out.old hK2); have HK2 := Lib.hid (HK1.out.trans hK2)
      have b0 := HI2.out.box.cell 0 rfl
      have t2 := HI2.out.blk.cell 2 rfl
      have HSE := Lib.hid (tSearch W2 tb w.heap.size (w.heap.size + 1) (.pointer (some ⟨sb, 0, none⟩)) (.pointer (some ⟨db, 0, none⟩)) fv (.slice po zs.length pcap) l zs h HI2.out HUP.out hzl)
      rw [HCN.out] at HSE
      clear hK2 h4 t1
      go_wp2_with fail
      refine HSE.out.mono ?_
      rintro e w5 ⟨rfl, hk5⟩
      have HI5 := Lib.hid (HI2.out.old hk5); have HK5 := Lib.hid (HK2.out.trans hk5)
      have b0 := HI5.out.box.cell 0 rfl
      have t2 := HI5.out.blk.cell 2 rfl
      obtain ⟨hi', he⟩ := runs_at (l := l) hcl
      obtain ⟨g, off, cap', e1, hc⟩ := HI5.out.ports.at enRun_len (by decide) c hi'
      injection e1 with e1 _ e3
      subst e1 e3
      rw [he, HX3.out] at hc
      have p1 : w5.cell? ⟨g, off + c * 2 + 1, none⟩ = some (.int .u64 x3) := hc 1 _ rfl
      have hw : IntKind.i64.wrap (c : Int) = (c : Int) := by rw [IntKind.wrap_i64]; omega
      have hci : (c : Int) < zs.length := by omega
      clear hk5 hc he hi' HSE
      go_wp2_with fail
      go_ret
      exact ⟨rfl, HK5.out⟩
    · have hK2 : Kp none' W1 ((w3.setCell ⟨W1.heap.size, 0, none⟩ (.int .u32 (accP (D.best h.d none)).1)).setCell ⟨W1.heap.size, 1, none⟩ (.int .i64 (accP (D.best h.d none)).2)) := (HK4.out.set (p := ⟨W1.heap.size, 0, none⟩) (.inr (Nat.le_refl _)) _).set (p := ⟨W1.heap.size, 1, none⟩) (.inr (Nat.le_refl _)) _
      obtain ⟨W2, hW2⟩ : ∃ W, (w3.setCell ⟨W1.heap.size, 0, none⟩ (.int .u32 (accP (D.best h.d none)).1)).setCell ⟨W1.heap.size, 1, none⟩ (.int .i64 (accP (D.best h.d none)).2) = W := ⟨_, rfl⟩
      rw [hW2] at hK2 ⊢
      clear hW2
      have HI2 := Lib.hid (HI1.out.old hK2); have HK2 := Lib.hid (HK1.out.trans hK2)
      have b0 := HI2.out.box.cell 0 rfl
      have t2 := HI2.out.blk.cell 2 rfl
      have HSE := Lib.hid (tSearch W2 tb w.heap.size (w.heap.size + 1) (.pointer (some ⟨sb, 0, none⟩)) (.pointer (some ⟨db, 0, none⟩)) fv (.slice po zs.length pcap) l zs h HI2.out HUP.out hzl)
      rw [HCN.out] at HSE
      clear hK2 h4 t1
      go_wp2_with fail
      refine HSE.out.mono ?_
      rintro e w5 ⟨rfl, hk5⟩
      have HI5 := Lib.hid (HI2.out.old hk5); have HK5 := Lib.hid (HK2.out.trans hk5)
      have b0 := HI5.out.box.cell 0 rfl
      have t2 := HI5.out.blk.cell 2 rfl
      obtain ⟨hi', he⟩ := runs_at (l := l) hcl
      obtain ⟨g, off, cap', e1, hc⟩ := HI5.out.ports.at enRun_len (by decide) c hi'
      injection e1 with e1 _ e3
      subst e1 e3
      rw [he, HX3.out] at hc
      have p1 : w5.cell? ⟨g, off + c * 2 + 1, none⟩ = some (.int .u64 x3) := hc 1 _ rfl
      have hw : IntKind.i64.wrap (c : Int) = (c : Int) := by rw [IntKind.wrap_i64]; omega
      have hci : (c : Int) < zs.length := by omega
      clear hk5 hc he hi' HSE
      go_wp2_with fail
      go_ret
      exact ⟨rfl, HK5.out⟩
end Go.Proofs.YtfckgddodjmbdaaGreatDoor

namespace Go.Proofs.YtfckgddodjmbdaaGreatDoor
set_option linter.unusedVariables false
set_option linter.unusedSimpArgs false
open Go.RowKit

theorem tLen (w : World) (tb : Nat) (l : List RuN) (H : RtM w tb l) : Calls Tryz.prog 69 #[.pointer (some ⟨tb, 0, none⟩)] w fun e w' => e = .returned (.int .i64 l.length) ∧ w = w' := by
  obtain ⟨base, base', sb, db, sn, dn, S, D, zs, pv, fv, h1, h2, h3, h4, h5, h6, hz9, h7, h8⟩ := H.is
  obtain ⟨ao, cap, rfl, _⟩ := h8.is
  have c3 := h1.cell 3 rfl
  clear h1 h2 h3 h4 h5 h6 h7 h8 H
  go_enter Tryz.func69, Tryz.ntmps69
  go_wp2
  go_ret
  exact ⟨rfl, rfl⟩
def atN (o : Option Nat) : Nat := match o with | none => 0 | some i => i
def isN (o : Option Nat) : Bool := match o with | none => false | some _ => true
set_option maxRecDepth 100000 in
set_option maxHeartbeats 8000000 in
theorem tFindR (w : World) (tb : Nat) (l : List RuN) (hok : ∀ r ∈ l, r.Ok) (hc : chkN l = 0) (H : RtM w tb l) (hT : Tab w) (h : HdR) (hh : h.Ok) :
    Calls Tryz.prog 41 #[.pointer (some ⟨tb, 0, none⟩), .agg #[.int .u8 h.ds, .int .u16 h.id, .int .u8 h.ttl, .int .u32 h.s, .int .u32 h.d, .int .u16 h.sp, .int .u16 h.p]] w fun e w' => e = .returned (.tuple #[.int .i64 (atN (findN l h.n) : Nat), .bool (isN (findN l h.n))]) ∧ Kp none' w w' := by
  have k0 := (Kp.refl none' w).alloc (.cells #[.int .u8 h.ds, .int .u16 h.id, .int .u8 h.ttl, .int .u32 h.s, .int .u32 h.d, .int .u16 h.sp, .int .u16 h.p] 56)
  have HL := Lib.hid (tLen _ tb l (H.old k0))
  have HH := Lib.hid (tHold _ tb l hok hc (H.old k0) h hh)
  have HT := Lib.hid hT
  have HK0 := Lib.hid k0
  have hz := (chk_zero.1 hc).1
  obtain ⟨R, hR⟩ : ∃ R, bitsOf (holdsAt l h.n) l.length = R := ⟨_, rfl⟩
  have hRl : R < 18446744073709551616 := by rw [← hR]; exact Nat.lt_of_lt_of_le (bitsOf_lt _ _) (show 2 ^ l.length ≤ 2 ^ 64 from Nat.pow_le_pow_right (by decide) hz)
  rw [hR] at HH
  by_cases hl0 : l.length = 0
  · have hf : findN l h.n = none := findN_none.2 (fun j hj => by omega)
    rw [hf]
    rw [hl0] at HL
    clear H hT k0 hR
    go_enter Tryz.func41, Tryz.ntmps41
    go_wp2_with (go_at_call 69; refine HL.out.mono ?_; rintro e w1 ⟨rfl, rfl⟩)
    go_ret2
    exact ⟨rfl, HK0.out⟩
  · by_cases hR0 : R = 0
    · have hf : findN l h.n = none := first_zero (by rw [hR, hR0])
      rw [hf]
      rw [hR0] at HH
      have hl1 : ¬ (l.length : Int) = 0 := by omega
      clear H hT k0 hR hRl hR0 hl0
      go_enter Tryz.func41, Tryz.ntmps41
      go_wp2_with (first
        | (go_at_call 69; refine HL.out.mono ?_; rintro e w1 ⟨rfl, rfl⟩)
        | (go_at_call 70; refine HH.out.mono ?_; rintro e w2 ⟨rfl, hk2⟩; have HK2 := Lib.hid hk2; clear hk2))
      go_ret2
      exact ⟨rfl, HK0.out.trans HK2.out⟩
    · have hf : findN l h.n = some (Lib.ctz 64 R) := by rw [← hR]; exact first_ctz hz (by rw [hR]; exact hR0)
      rw [hf]
      have hTZ := Lib.hid (fun W (k : Kp none' w W) => tz R hRl W (HT.out.kp k (fun x => x)))
      have hl1 : ¬ (l.length : Int) = 0 := by omega
      have hR1 : ¬ (R : Int) = 0 := by omega
      obtain ⟨c, hcz⟩ : ∃ c, Lib.ctz 64 R = c := ⟨_, rfl⟩
      rw [hcz] at hTZ ⊢
      clear H hT k0 hR hRl hR0 hl0 hcz
      go_enter Tryz.func41, Tryz.ntmps41
      go_wp2_with (first
        | (go_at_call 69; refine HL.out.mono ?_; rintro e w1 ⟨rfl, rfl⟩)
        | (go_at_call 70; refine HH.out.mono ?_; rintro e w2 ⟨rfl, hk2⟩; have HK2 := Lib.hid (HK0.out.trans hk2); clear hk2)
        | (go_at_call 71; refine (hTZ.out _ HK2.out).mono ?_; rintro e w3 ⟨rfl, rfl⟩))
      go_ret2
      exact ⟨rfl, HK2.out⟩
set_option maxRecDepth 100000 in
set_option maxHeartbeats 8000000 in
theorem tFlow (w : World) (tb : Nat) (l : List RuN) (hok : ∀ r ∈ l, r.Ok) (hc : chkN l = 0) (H : RtM w tb l) (hT : Tab w) (h : HdR) (hh : h.Ok) :
    Calls Tryz.prog 19 #[.pointer (some ⟨tb, 0, none⟩), .agg #[.int .u8 h.ds, .int .u16 h.id, .int .u8 h.ttl, .int .u32 h.s, .int .u32 h.d, .int .u16 h.sp, .int .u16 h.p]] w fun e w' => e = .returned (.tuple #[.int .u32 (atN (flowN l h.n) : Nat), .bool (isN (flowN l h.n))]) ∧ Kp none' w w' := by
  have k0 := (Kp.refl none' w).alloc (.cells #[.int .u8 h.ds, .int .u16 h.id, .int .u8 h.ttl, .int .u32 h.s, .int .u32 h.d, .int .u16 h.sp, .int .u16 h.p] 56)
  have HF := Lib.hid (tFindR _ tb l hok hc (H.old k0) (hT.kp k0 (fun x => x)) h hh)
  have HH := Lib.hid (H.old k0)
  have HK0 := Lib.hid k0
  rw [flow_find]
  cases hf : findN l h.n with
  | none =>
    rw [hf] at HF
    simp only [atN, isN] at HF
    clear H hT k0 hf
    go_enter Tryz.func19, Tryz.ntmps19
    go_wp2_with (go_at_call 41; refine HF.out.mono ?_; rintro e w1 ⟨rfl, hk1⟩; have HK1 := Lib.hid (HK0.out.trans hk1); clear hk1)
    go_ret2
    exact ⟨rfl, HK1.out⟩
  | some i =>
    rw [hf] at HF
    simp only [atN, isN] at HF
    obtain ⟨hi, _, _⟩ := findN_some.1 hf
    have hii : (i : Int) < l.length := by omega
    simp only [Option.map_some]
    have hle : l.getD i default = l[i] := getD_at _ hi
    obtain ⟨x, hx⟩ : ∃ x, (l.getD i default).fl = x := ⟨_, rfl⟩
    rw [hx]
    have HX : Hid (l[i].fl = x) := by show _ = _; rw [← hle]; exact hx
    clear H hT k0 hf hle hx
    go_enter Tryz.func19, Tryz.ntmps19
    go_wp2_with (go_at_call 41; refine HF.out.mono ?_; rintro e w1 ⟨rfl, hk1⟩; have HK1 := Lib.hid (HK0.out.trans hk1); have HH1 := Lib.hid (HH.out.old hk1); clear hk1
                 obtain ⟨base, base', sb, db, sn, dn, S, D, zs, pv, fv, h1, h2, h3, h4, h5, h6, hz9, h7, h8⟩ := HH1.out.is
                 obtain ⟨g, off, cap, rfl, hcl⟩ := h8.at (enc := fun r => [flVr r]) (fun _ => rfl) (by decide) i hi
                 have c3 := h1.cell 3 rfl
                 have c4 : w1.cell? ⟨g, off + i * 1, none⟩ = some (.int .u32 l[i].fl) := hcl 0 _ rfl
                 rw [Nat.mul_one, HX.out] at c4
                 clear h1 h2 h3 h4 h5 h6 h7 h8 hcl hz9)
    go_ret2
    exact ⟨rfl, HK1.out⟩
end Go.Proofs.YtfckgddodjmbdaaGreatDoor

namespace Go.Proofs.YtfckgddodjmbdaaGreatDoor
set_option linter.unusedVariables false
set_option linter.unusedSimpArgs false

/-- A number in w bytes, the highest first. -/
def be : Nat → Nat → List UInt8
  | 0, _ => []
  | w + 1, n => be w (n / 256) ++ [UInt8.ofNat (n % 256)]
theorem be_len (w : Nat) : ∀ n, (be w n).length = w := by
  induction w with
  | zero => intro n; rfl
  | succ w ih => intro n; simp [be, ih]
end Go.Proofs.YtfckgddodjmbdaaGreatDoor

namespace Go.Proofs.YtfckgddodjmbdaaGreatDoor
set_option linter.unusedVariables false
set_option linter.unusedSimpArgs false

def ringN (a b : Nat) : Nat := (a + b) / 65536 + (a + b) % 65536
def inetF : Nat → List UInt8 → Nat
  | n, [] => n
  | n, [a] => ringN n (a.toNat * 256)
  | n, a :: b :: r => inetF (ringN n (a.toNat * 256 + b.toNat)) r
def inetL (l : List UInt8) : Nat := 65535 - inetF 0 l % 65536
theorem ring_le {a b : Nat} (ha : a ≤ 131071) (hb : b ≤ 131071) : ringN a b ≤ 131071 := by unfold ringN; omega
theorem inetF_le : ∀ (l : List UInt8) (n : Nat), n ≤ 131071 → inetF n l ≤ 131071
  | [], n, h => h
  | [a], n, h => by unfold inetF; have := UInt8.toNat_lt a; exact ring_le h (by omega)
  | a :: b :: r, n, h => by unfold inetF; have := UInt8.toNat_lt a; have := UInt8.toNat_lt b; exact inetF_le r _ (ring_le h (by omega))
theorem inetL_lt (l : List UInt8) : inetL l < 65536 := by unfold inetL; omega
/-- Two words at a place, as two rounds. -/
def inetI (l : List UInt8) (k : Nat) : Nat := inetF 0 (l.take (2 * k))
theorem inetF_app : ∀ (l r : List UInt8) (n : Nat), l.length % 2 = 0 → inetF n (l ++ r) = inetF (inetF n l) r
  | [], _, _, _ => rfl
  | [a], _, _, h => by simp at h
  | a :: b :: l, r, n, h => by
    show inetF _ (l ++ r) = inetF (inetF _ l) r
    exact inetF_app l r _ (by simp at h ⊢; omega)
theorem inetI_step {l : List UInt8} {k : Nat} (h : 2 * k + 1 < l.length) : inetI l (k + 1) = ringN (inetI l k) ((l[2 * k]'(by omega)).toNat * 256 + (l[2 * k + 1]).toNat) := by
  unfold inetI
  have e : l.take (2 * (k + 1)) = l.take (2 * k) ++ [l[2 * k]'(by omega), l[2 * k + 1]] := by
    have h1 := List.take_succ_eq_append_getElem (i := 2 * k + 1) h
    have h2 := List.take_succ_eq_append_getElem (i := 2 * k) (show 2 * k < l.length by omega)
    rw [show 2 * (k + 1) = 2 * k + 1 + 1 by omega, h1, h2, List.append_assoc]
    rfl
  rw [e, inetF_app _ _ _ (by rw [List.length_take]; omega)]
  rfl
theorem inetI_last {l : List UInt8} {k : Nat} (h : l.length = 2 * k + 1) : inetF 0 l = ringN (inetI l k) ((l[2 * k]'(by omega)).toNat * 256) := by
  unfold inetI
  have e : l = l.take (2 * k) ++ [l[2 * k]'(by omega)] := by
    conv => lhs; rw [← List.take_append_drop (2 * k) l]
    congr 1
    rw [List.drop_eq_getElem_cons (by omega : 2 * k < l.length), List.drop_eq_nil_of_le (by omega)]
  conv => lhs; rw [e]
  rw [inetF_app _ _ _ (by rw [List.length_take]; omega)]
  rfl
theorem inetI_all {l : List UInt8} {k : Nat} (h : l.length ≤ 2 * k) : inetF 0 l = inetI l k := by
  unfold inetI
  rw [List.take_of_length_le h]
/-- The number of two bytes, of four bytes, at a place. -/
def hf (l : List UInt8) (k : Nat) : Nat := (l.getD k 0).toNat * 256 + (l.getD (k + 1) 0).toNat
def wd (l : List UInt8) (k : Nat) : Nat := hf l k * 65536 + hf l (k + 2)
theorem hf_lt (l : List UInt8) (k : Nat) : hf l k < 65536 := by
  unfold hf
  have := UInt8.toNat_lt (l.getD k 0)
  have := UInt8.toNat_lt (l.getD (k + 1) 0)
  omega
theorem wd_lt (l : List UInt8) (k : Nat) : wd l k < 4294967296 := by
  unfold wd
  have := hf_lt l k
  have := hf_lt l (k + 2)
  omega
def frontL (h : HdR) (n : Nat) : List UInt8 := be 2 (17664 + h.ds * 4) ++ (be 2 (n + 28) ++ (be 2 h.id ++ (be 2 0 ++ be 2 (h.ttl * 256 + 17))))
def backL (h : HdR) : List UInt8 := be 2 (h.s / 65536) ++ (be 2 (h.s % 65536) ++ (be 2 (h.d / 65536) ++ be 2 (h.d % 65536)))
def putL (h : HdR) (body : List UInt8) : List UInt8 :=
  frontL h body.length ++ (be 2 (inetL (frontL h body.length ++ ([0, 0] ++ backL h))) ++ (backL h ++ (be 2 h.sp ++ (be 2 h.p ++ (be 2 (body.length + 8) ++ (be 2 0 ++ body))))))
def formB (l : List UInt8) : Bool := decide ((l.getD 0 0).toNat = 69) && (decide ((l.getD 1 0).toNat % 4 = 0) && (decide (hf l 2 = l.length) && (decide (hf l 6 = 0) && (decide ((l.getD 9 0).toNat = 17) && (decide (hf l 24 + 20 = l.length) && decide (hf l 26 = 0))))))
def topL (l : List UInt8) : List UInt8 := l.take 10 ++ ([0, 0] ++ (l.drop 12).take 8)
def takeE (l : List UInt8) : Int := if l.length < 28 then 2 else if formB l = false then 3 else if hf l 10 = inetL (topL l) then 0 else 11
def takeH (l : List UInt8) : HdR := ⟨(l.getD 1 0).toNat / 4, hf l 4, (l.getD 8 0).toNat, wd l 12, wd l 16, hf l 20, hf l 22⟩
def updN (sum was is : Nat) : Nat := 65535 - ringN (ringN (65535 - sum) (65535 - was)) is % 65536
def cutAt (l : List UInt8) (k : Nat) (x : Nat) : List UInt8 := l.take k ++ (be 2 x ++ l.drop (k + 2))
def withL (l : List UInt8) (k : Nat) (x : Nat) : List UInt8 := cutAt (cutAt l k x) 10 (updN (hf l 10) (hf l k) x)
def hopE (l : List UInt8) : Int := if takeE l ≠ 0 then takeE l else if (l.getD 8 0).toNat < 2 then 21 else 0
def hopL (l : List UInt8) : List UInt8 := withL l 8 (hf l 8 - 256)
theorem cutAt_len {l : List UInt8} {k : Nat} (h : k + 2 ≤ l.length) (x : Nat) : (cutAt l k x).length = l.length := by
  unfold cutAt
  simp only [List.length_append, List.length_take, List.length_drop, be_len]
  omega
end Go.Proofs.YtfckgddodjmbdaaGreatDoor

namespace Go.Proofs.YtfckgddodjmbdaaGreatDoor
set_option linter.unusedVariables false
set_option linter.unusedSimpArgs false

/-- A meter: its rate, its near and its far cup, what is in them. -/
structure Mt where
  rate : Nat
  near : Nat
  far : Nat
  a : Nat
  b : Nat
def Mt.zero : Mt := ⟨0, 0, 0, 0, 0⟩
structure Mt.Lt (m : Mt) : Prop where
  rate : m.rate < 18446744073709551616
  near : m.near < 18446744073709551616
  far : m.far < 18446744073709551616
  a : m.a < 18446744073709551616
  b : m.b < 18446744073709551616
def mtChk (m : Mt) : Nat := if m.rate = 0 then 27 else if (m.near = 0 ∧ m.far = 0) ∨ m.near < m.a ∨ m.far < m.b then 28 else 0
def colMt (m : Mt) (n : Nat) : Mt × Nat := if n ≤ m.a then ({ m with a := m.a - n }, 1) else if n ≤ m.b then ({ m with b := m.b - n }, 2) else (m, 3)
/-- A port's meter: of no rate there is none. -/
structure Mt.Ok (m : Mt) : Prop where
  lt : m.Lt
  chk : 0 < m.rate → mtChk m = 0
theorem mtChk_zero {m : Mt} : mtChk m = 0 ↔ 0 < m.rate ∧ (0 < m.near ∨ 0 < m.far) ∧ m.a ≤ m.near ∧ m.b ≤ m.far := by
  unfold mtChk
  split
  · constructor <;> omega
  · split
    · constructor <;> omega
    · constructor <;> omega
theorem colMt_ok {m : Mt} (h : m.Lt) (hc : mtChk m = 0) (n : Nat) : (colMt m n).1.Lt ∧ mtChk (colMt m n).1 = 0 := by
  have h1 := mtChk_zero.1 hc
  unfold colMt
  split
  · exact ⟨⟨h.rate, h.near, h.far, by show m.a - n < _; have := h.a; omega, h.b⟩, mtChk_zero.2 ⟨h1.1, h1.2.1, by show m.a - n ≤ m.near; omega, h1.2.2.2⟩⟩
  · split
    · exact ⟨⟨h.rate, h.near, h.far, h.a, by show m.b - n < _; have := h.b; omega⟩, mtChk_zero.2 ⟨h1.1, h1.2.1, h1.2.2.1, by show m.b - n ≤ m.far; omega⟩⟩
    · exact ⟨h, hc⟩
end Go.Proofs.YtfckgddodjmbdaaGreatDoor

namespace Go.Proofs.YtfckgddodjmbdaaGreatDoor
set_option linter.unusedVariables false
set_option linter.unusedSimpArgs false

/-- A port. -/
structure Po where
  s : Sh
  rl : List RuN
  m : Mt
  y : Nat
  wt : Nat → List UInt8
  num : Nat
/-- What waits under a number is another text. -/
def Po.lay (p : Po) (id : Nat) (x : List UInt8) : Po := { p with wt := fun k => if k = id then x else p.wt k }
/-- The meter behind a datagram, and its colour. -/
def colP (m : Mt) (n : Nat) : Mt × Nat := if m.rate = 0 then (m, 1) else colMt m n
end Go.Proofs.YtfckgddodjmbdaaGreatDoor
