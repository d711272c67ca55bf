/- A shaper's enqueue: a packet comes in (layer 26). Printed by wip/shg.py. -/
import Derived.Test.YtfckgddodjmbdaaGreatDoorMPortNobodyF20
import Derived.Deep.RegionWith
import Derived.Deep.RegionHeld3
namespace Go.Proofs.YtfckgddodjmbdaaGreatDoor
set_option linter.unusedVariables false
set_option linter.unusedSimpArgs false
open Go Go.RowKit Go.Shelf

/-- What is known behind an operation. -/
abbrev ShTo (w : World) (f : ShF) (s' : Sh) (w' : World) : Prop := ∃ f', ShM w' f' s' ∧ Kp f.all w w' ∧ Nw w f.all f'.all ∧ f'.sb = f.sb
set_option maxRecDepth 100000 in
set_option maxHeartbeats 8000000 in
theorem enqYes {w : World} {f : ShF} {s : Sh} (kind : Int) (fl id ln tk : Nat) (h : ShM w f s) (hm : mayG s.g fl ln = 0) (hid : fl < 4294967296) (hidd : id < 4294967296) (hln : ln < 18446744073709551616) (hn : bkN s.bk < 9223372036854775807) :
    Calls Tryz.prog 45 #[.pointer (some ⟨f.sb, 0, none⟩), .agg #[.int .i64 kind, .int .u32 fl, .int .u32 id, .int .u64 ln, .int .u64 tk]] w fun e w' => e = .returned (.agg (enqS s fl id ln).1.toArray) ∧ ShTo w f (enqS s fl id ln).2 w' := by
  have HOK2 := Lib.hid (enq_ok h.ok h.gate.ok h.ranks.ok hid hidd hln)
  have hq : enqS s fl id ln = (rpC 1 0 fl id ln (nextR s.r s.now fl ln).1 zSt, { s with g := inG s.g fl ln, r := (nextR s.r s.now fl ln).2, bk := bkPush s.bk (nextR s.r s.now fl ln).1 ⟨fl, id, ln⟩ }) := by unfold enqS; rw [if_pos hm]
  rw [hq] at HOK2 ⊢
  clear hq
  have HOK := Lib.hid h.ok
  have hnow := h.ok.now
  obtain ⟨t5, x5, gu, ge, gp, hv, hbc⟩ := h.back.c
  have HBC := Lib.hid hbc
  have hhp := h.back
  rw [hv] at hhp
  have HG := Lib.hid h.gate
  have HR := Lib.hid h.ranks
  have HBKH := Lib.hid hhp
  have HB0 := Lib.hid h.top
  have hsl := h.top.lt
  have c0 := h.top.cell 0 rfl
  have c1 := h.top.cell 1 rfl
  have c5 := h.top.cell 5 rfl
  have c6 := h.top.cell 6 rfl
  have HSG := Lib.hid h.sg; have HSR := Lib.hid h.sr; have HSK := Lib.hid h.sk
  have HGR := Lib.hid h.gr; have HGK := Lib.hid h.gk; have HRK := Lib.hid h.rk
  have HGL := Lib.hid (fun b hb => h.gate.lt (b := b) hb); have HRL := Lib.hid (fun b hb => h.ranks.lt (b := b) hb); have HBL := Lib.hid (fun b hb => h.back.lt (b := b) hb)
  have hfl := h.ok.fl
  have hroom : (bkItems s.bk).length < s.g.c.packets.toNat := by have h1 := h.ok.tot; have h2 := may_room hm; omega
  have hat : 0 ≤ findF s.r.fl fl := by rw [hfl]; exact (lay_ok h.gate.ok (may_fit hm)).1
  have HIN := Lib.hid (fun W (k : GMem W f.Fg f.gb s.g) => by have := gIn k fl ln hid; rw [hm] at this; exact this)
  have HNX := Lib.hid (fun W (k : RMem W f.Fr f.rb s.r) => kNext k s.now fl ln hnow hln hat)
  have HPU := Lib.hid (fun W (F : Nat → Prop) (r : Nat) (hr : r < 18446744073709551616) (k : BkM W F (.iface t5 x5) s.g.c.packets.toNat s.bk) => HBC.out.push W F _ _ r fl id ln k hroom hn hr)
  have HTOP := Lib.hid h.top
  have hwp := c_in s.g fl ln
  have HWP := Lib.hid hwp
  rw [hv] at c5
  have HV := Lib.hid hv
  refine calls_post ?_
  intro PP HP
  clear h hbc hm hfl hid hidd hln hroom hn hnow hhp hat hwp hv
  obtain ⟨sb, gb, rb, v, Fg, Fr, Fb⟩ := f
  simp only at *
  obtain ⟨now, hnw⟩ : ∃ now, s.now = now := ⟨_, rfl⟩
  have HNW := Lib.hid hnw
  simp only [hnw] at HNX c6
  clear hnw
  have hz0 := Blk.new (w.alloc (.cells #[.int .i64 kind, .int .u32 fl, .int .u32 id, .int .u64 ln, .int .u64 tk] 70)) [.int .i64 0, .int .i64 0, .int .u32 0, .int .u32 0, .int .u64 0, .int .u64 0, .int .u64 0, .int .u64 0, .int .i64 0, .int .u64 0, .int .u64 0, .int .u64 0, .int .u64 0, .int .u64 0, .int .u64 0, .int .u64 0, .int .u64 0, .int .u64 0, .int .u64 0, .int .u64 0, .int .u64 0, .int .u64 0, .int .u64 0, .int .u64 0, .int .u64 0, .int .u64 0, .int .u64 0, .int .u64 0, .int .u64 0, .int .u64 0, .int .u64 0, .int .u64 0, .int .u64 0, .int .u64 0, .int .u64 0, .int .u64 0, .int .u64 0, .int .u64 0, .int .u64 0, .int .u64 0, .int .u64 0, .int .u64 0] 67
  have e1 : (w.alloc (.cells #[.int .i64 kind, .int .u32 fl, .int .u32 id, .int .u64 ln, .int .u64 tk] 70)).heap.size = w.heap.size + 1 := by simp
  rw [e1] at hz0
  have HZ0 := Lib.hid hz0
  have hz1 := Blk.new ((w.alloc (.cells #[.int .i64 kind, .int .u32 fl, .int .u32 id, .int .u64 ln, .int .u64 tk] 70)).alloc (.cells #[.int .i64 0, .int .i64 0, .int .u32 0, .int .u32 0, .int .u64 0, .int .u64 0, .int .u64 0, .int .u64 0, .int .i64 0, .int .u64 0, .int .u64 0, .int .u64 0, .int .u64 0, .int .u64 0, .int .u64 0, .int .u64 0, .int .u64 0, .int .u64 0, .int .u64 0, .int .u64 0, .int .u64 0, .int .u64 0, .int .u64 0, .int .u64 0, .int .u64 0, .int .u64 0, .int .u64 0, .int .u64 0, .int .u64 0, .int .u64 0, .int .u64 0, .int .u64 0, .int .u64 0, .int .u64 0, .int .u64 0, .int .u64 0, .int .u64 0, .int .u64 0, .int .u64 0, .int .u64 0, .int .u64 0, .int .u64 0] 67)) [.int .u32 fl, .int .u32 id, .int .u64 ln] 65
  have hz2 := Blk.new (((w.alloc (.cells #[.int .i64 kind, .int .u32 fl, .int .u32 id, .int .u64 ln, .int .u64 tk] 70)).alloc (.cells #[.int .i64 0, .int .i64 0, .int .u32 0, .int .u32 0, .int .u64 0, .int .u64 0, .int .u64 0, .int .u64 0, .int .i64 0, .int .u64 0, .int .u64 0, .int .u64 0, .int .u64 0, .int .u64 0, .int .u64 0, .int .u64 0, .int .u64 0, .int .u64 0, .int .u64 0, .int .u64 0, .int .u64 0, .int .u64 0, .int .u64 0, .int .u64 0, .int .u64 0, .int .u64 0, .int .u64 0, .int .u64 0, .int .u64 0, .int .u64 0, .int .u64 0, .int .u64 0, .int .u64 0, .int .u64 0, .int .u64 0, .int .u64 0, .int .u64 0, .int .u64 0, .int .u64 0, .int .u64 0, .int .u64 0, .int .u64 0] 67)).alloc (.cells #[.int .u32 fl, .int .u32 id, .int .u64 ln] 65)) [.int .i64 0, .int .i64 0, .int .u32 0, .int .u32 0, .int .u64 0, .int .u64 0, .int .u64 0, .int .u64 0, .int .i64 0, .int .u64 0, .int .u64 0, .int .u64 0, .int .u64 0, .int .u64 0, .int .u64 0, .int .u64 0, .int .u64 0, .int .u64 0, .int .u64 0, .int .u64 0, .int .u64 0, .int .u64 0, .int .u64 0, .int .u64 0, .int .u64 0, .int .u64 0, .int .u64 0, .int .u64 0, .int .u64 0, .int .u64 0, .int .u64 0, .int .u64 0, .int .u64 0, .int .u64 0, .int .u64 0, .int .u64 0, .int .u64 0, .int .u64 0, .int .u64 0, .int .u64 0, .int .u64 0, .int .u64 0] 67
  have hk0 := ((((Kp.refl none' w).alloc (.cells #[.int .i64 kind, .int .u32 fl, .int .u32 id, .int .u64 ln, .int .u64 tk] 70)).alloc (.cells #[.int .i64 0, .int .i64 0, .int .u32 0, .int .u32 0, .int .u64 0, .int .u64 0, .int .u64 0, .int .u64 0, .int .i64 0, .int .u64 0, .int .u64 0, .int .u64 0, .int .u64 0, .int .u64 0, .int .u64 0, .int .u64 0, .int .u64 0, .int .u64 0, .int .u64 0, .int .u64 0, .int .u64 0, .int .u64 0, .int .u64 0, .int .u64 0, .int .u64 0, .int .u64 0, .int .u64 0, .int .u64 0, .int .u64 0, .int .u64 0, .int .u64 0, .int .u64 0, .int .u64 0, .int .u64 0, .int .u64 0, .int .u64 0, .int .u64 0, .int .u64 0, .int .u64 0, .int .u64 0, .int .u64 0, .int .u64 0] 67)).alloc (.cells #[.int .u32 fl, .int .u32 id, .int .u64 ln] 65)).alloc (.cells #[.int .i64 0, .int .i64 0, .int .u32 0, .int .u32 0, .int .u64 0, .int .u64 0, .int .u64 0, .int .u64 0, .int .i64 0, .int .u64 0, .int .u64 0, .int .u64 0, .int .u64 0, .int .u64 0, .int .u64 0, .int .u64 0, .int .u64 0, .int .u64 0, .int .u64 0, .int .u64 0, .int .u64 0, .int .u64 0, .int .u64 0, .int .u64 0, .int .u64 0, .int .u64 0, .int .u64 0, .int .u64 0, .int .u64 0, .int .u64 0, .int .u64 0, .int .u64 0, .int .u64 0, .int .u64 0, .int .u64 0, .int .u64 0, .int .u64 0, .int .u64 0, .int .u64 0, .int .u64 0, .int .u64 0, .int .u64 0] 67)
  have e2 : ((w.alloc (.cells #[.int .i64 kind, .int .u32 fl, .int .u32 id, .int .u64 ln, .int .u64 tk] 70)).alloc (.cells #[.int .i64 0, .int .i64 0, .int .u32 0, .int .u32 0, .int .u64 0, .int .u64 0, .int .u64 0, .int .u64 0, .int .i64 0, .int .u64 0, .int .u64 0, .int .u64 0, .int .u64 0, .int .u64 0, .int .u64 0, .int .u64 0, .int .u64 0, .int .u64 0, .int .u64 0, .int .u64 0, .int .u64 0, .int .u64 0, .int .u64 0, .int .u64 0, .int .u64 0, .int .u64 0, .int .u64 0, .int .u64 0, .int .u64 0, .int .u64 0, .int .u64 0, .int .u64 0, .int .u64 0, .int .u64 0, .int .u64 0, .int .u64 0, .int .u64 0, .int .u64 0, .int .u64 0, .int .u64 0, .int .u64 0, .int .u64 0] 67)).heap.size = w.heap.size + 2 := by simp
  have e3 : (((w.alloc (.cells #[.int .i64 kind, .int .u32 fl, .int .u32 id, .int .u64 ln, .int .u64 tk] 70)).alloc (.cells #[.int .i64 0, .int .i64 0, .int .u32 0, .int .u32 0, .int .u64 0, .int .u64 0, .int .u64 0, .int .u64 0, .int .i64 0, .int .u64 0, .int .u64 0, .int .u64 0, .int .u64 0, .int .u64 0, .int .u64 0, .int .u64 0, .int .u64 0, .int .u64 0, .int .u64 0, .int .u64 0, .int .u64 0, .int .u64 0, .int .u64 0, .int .u64 0, .int .u64 0, .int .u64 0, .int .u64 0, .int .u64 0, .int .u64 0, .int .u64 0, .int .u64 0, .int .u64 0, .int .u64 0, .int .u64 0, .int .u64 0, .int .u64 0, .int .u64 0, .int .u64 0, .int .u64 0, .int .u64 0, .int .u64 0, .int .u64 0] 67)).alloc (.cells #[.int .u32 fl, .int .u32 id, .int .u64 ln] 65)).heap.size = w.heap.size + 3 := by simp
  rw [e2] at hz1
  rw [e3] at hz2
  have HZ1 := Lib.hid hz1
  have HZ2 := Lib.hid hz2
  have HK0 := Lib.hid hk0
  clear hz0 hz1 hz2 hk0 e1 e2 e3
  go_enter Tryz.func45, Tryz.ntmps45
  go_wp2_with (first
    | (refine wp_store_blk rfl 67 (.tmp 6) (.tmp 16) rfl HZ2.out [.int .i64 1, .int .i64 0, .int .u32 fl, .int .u32 id, .int .u64 ln, .int .u64 0, .int .u64 0, .int .u64 0, .int .i64 0, .int .u64 0, .int .u64 0, .int .u64 0, .int .u64 0, .int .u64 0, .int .u64 0, .int .u64 0, .int .u64 0, .int .u64 0, .int .u64 0, .int .u64 0, .int .u64 0, .int .u64 0, .int .u64 0, .int .u64 0, .int .u64 0, .int .u64 0, .int .u64 0, .int .u64 0, .int .u64 0, .int .u64 0, .int .u64 0, .int .u64 0, .int .u64 0, .int .u64 0, .int .u64 0, .int .u64 0, .int .u64 0, .int .u64 0, .int .u64 0, .int .u64 0, .int .u64 0, .int .u64 0] rfl rfl rfl infoRp rfl ?_
       intro W4 hb4 hk4
       have HB4 := Lib.hid hb4
       have HK4 := Lib.hid hk4
       clear hb4 hk4))
  have k04 : Kp none' w W4 := HK0.out.then HK4.out (fun b hb e => by omega)
  have HP4 := Lib.hid ((HZ1.out.alloc (.cells #[.int .i64 0, .int .i64 0, .int .u32 0, .int .u32 0, .int .u64 0, .int .u64 0, .int .u64 0, .int .u64 0, .int .i64 0, .int .u64 0, .int .u64 0, .int .u64 0, .int .u64 0, .int .u64 0, .int .u64 0, .int .u64 0, .int .u64 0, .int .u64 0, .int .u64 0, .int .u64 0, .int .u64 0, .int .u64 0, .int .u64 0, .int .u64 0, .int .u64 0, .int .u64 0, .int .u64 0, .int .u64 0, .int .u64 0, .int .u64 0, .int .u64 0, .int .u64 0, .int .u64 0, .int .u64 0, .int .u64 0, .int .u64 0, .int .u64 0, .int .u64 0, .int .u64 0, .int .u64 0, .int .u64 0, .int .u64 0] 67)).kp HK4.out (fun e => by omega))
  have HZ4 := Lib.hid (((HZ0.out.alloc (.cells #[.int .u32 fl, .int .u32 id, .int .u64 ln] 65)).alloc (.cells #[.int .i64 0, .int .i64 0, .int .u32 0, .int .u32 0, .int .u64 0, .int .u64 0, .int .u64 0, .int .u64 0, .int .i64 0, .int .u64 0, .int .u64 0, .int .u64 0, .int .u64 0, .int .u64 0, .int .u64 0, .int .u64 0, .int .u64 0, .int .u64 0, .int .u64 0, .int .u64 0, .int .u64 0, .int .u64 0, .int .u64 0, .int .u64 0, .int .u64 0, .int .u64 0, .int .u64 0, .int .u64 0, .int .u64 0, .int .u64 0, .int .u64 0, .int .u64 0, .int .u64 0, .int .u64 0, .int .u64 0, .int .u64 0, .int .u64 0, .int .u64 0, .int .u64 0, .int .u64 0, .int .u64 0, .int .u64 0] 67)).kp HK4.out (fun e => by omega))
  have K04 := Lib.hid k04
  have d0 := k04.cell c0 (fun x => x)
  have p0 := HP4.out.cell 0 rfl
  have p2 := HP4.out.cell 2 rfl
  clear HZ0 HZ1 HZ2 HK0 HK4 k04
  go_wp2_with fail
  refine wp_region_kept2 [] [0, 1, 2, 3, 4, 5, 6, 7] 8 (by kernel_rfl) (by kernel_rfl) (fun c a d u w h => by cases d <;> exact h) ?_
  simp only [pick, List.getElem?_cons_succ, List.getElem?_cons_zero, List.drop_succ_cons, List.drop_zero]
  show wpKL _ _ _ _ _ _
  repeat (first
    | (refine wpKL_op (by exact rfl) (by as_aux_lemma => intro W hK; have e0 := hK.cell d0 (fun x => x); have e1 := hK.cell p0 (fun x => x); have e2 := hK.cell p2 (fun x => x); go_simp; exact rfl) ?_; simp only [Act.put, List.setIfInBounds_toArray, List.set_cons_succ, List.set_cons_zero])
    | (refine wpKL_off (by exact rfl) ?_; simp only [Act.put, List.setIfInBounds_toArray, List.set_cons_succ, List.set_cons_zero]))
  show ∀ W, _ → wpList _ _ _ _ _ _
  intro W5 hK5
  have K05 := Lib.hid (K04.out.trans hK5)
  have HP5 := Lib.hid (HP4.out.kp hK5 (fun x => x))
  have HB5 := Lib.hid (HB4.out.kp hK5 (fun x => x))
  have HG5 := Lib.hid (HG.out.old K05.out)
  have HZ5 := Lib.hid (HZ4.out.kp hK5 (fun x => x))
  clear hK5 d0 p0 p2 HP4 HB4 K04
  go_wp2_with fail
  refine (HIN.out W5 HG5.out).mono ?_
  rintro e W6 ⟨rfl, hg6, hk6⟩
  have k06 : Kp Fg w W6 := (K05.out.mono (fun _ _ x => x.elim)).trans hk6
  have K06 := Lib.hid k06
  have hgl := HGL.out
  have HG6 := Lib.hid hg6
  have HP6 := Lib.hid (HP5.out.kp hk6 (fun hb => by have := hgl _ hb; omega))
  have HB6 := Lib.hid (HB5.out.kp hk6 (fun hb => by have := hgl _ hb; omega))
  have HZ6 := Lib.hid (HZ5.out.kp hk6 (fun hb => by have := hgl _ hb; omega))
  have HR6 := Lib.hid (HR.out.kp k06 (fun b hb hg => HGR.out b hg hb))
  have HH6 := Lib.hid (HBKH.out.kp k06 (fun b hb hg => HGK.out b hg hb))
  have d1 := k06.cell c1 HSG.out
  have d6 := k06.cell c6 HSG.out
  have p0 := HP6.out.cell 0 rfl
  have p2 := HP6.out.cell 2 rfl
  clear hg6 hk6 k06 hgl HIN HG HR HBKH HB5 HP5 K05 HG5
  have HNX6 := Lib.hid (fun W (k : Kp none' W6 W) => HNX.out W (HR6.out.old k))
  have hrl := HRL.out
  have HPL : Hid (¬ Fr (w.heap.size + 2)) := Lib.hid (fun hb => by have := hrl _ hb; omega)
  have HBL3 : Hid (¬ Fr (w.heap.size + 3)) := Lib.hid (fun hb => by have := hrl _ hb; omega)
  clear hrl HNX HR6
  generalize hRK : (nextR s.r now fl ln) = RK at *
  go_wp2_with fail
  have HD1 := Lib.hid d1
  have HD6 := Lib.hid d6
  have HSR2 := HSR
  go_region_held3 (fun w' => w'.cell? ⟨sb, 1, none⟩ = some (.pointer (some ⟨rb, 0, none⟩)) ∧ w'.cell? ⟨sb, 6, none⟩ = some (.int .u64 now) ∧ w'.cell? ⟨w.heap.size + 2, 0, none⟩ = some (.int .u32 fl) ∧ w'.cell? ⟨w.heap.size + 2, 2, none⟩ = some (.int .u64 ln)) (first | go_keep | exact ⟨m1, m6, m0, m2⟩)
    (first
      | (go_at_call 74; refine (HNX6.out _ (Kp.refl none' W6).drew).mono ?_; rintro e W8 ⟨rfl, hr8, hrk, hk8⟩; have K8 := Lib.hid (((Kp.refl none' W6).drew.mono (fun _ _ x => x.elim)).trans hk8); have HR8 := Lib.hid hr8; have HB8 := Lib.hid (HB6.out.kp K8.out HBL3.out); have b5 := HB8.out.cell 5 rfl; have bz := HB8.out.fz 5; have g1 := K8.out.cell d1 HSR.out; have g6 := K8.out.cell d6 HSR.out; have q0 := K8.out.cell p0 HPL.out; have q2 := K8.out.cell p2 HPL.out; have ks : Kp (fun z => z = w.heap.size + 3) W8 (W8.setCell ⟨w.heap.size + 3, 5, none⟩ (.int .u64 RK.1)) := (Kp.refl (fun z => z = w.heap.size + 3) W8).set (p := ⟨w.heap.size + 3, 5, none⟩) (.inl rfl) _; have m1 := ks.cell g1 (fun e => by simp only at e; omega); have m6 := ks.cell g6 (fun e => by simp only at e; omega); have m0 := ks.cell q0 (fun e => by simp only at e; omega); have m2 := ks.cell q2 (fun e => by simp only at e; omega); have KS := Lib.hid ks; clear hr8 hk8 ks))
  have hrl := HRL.out
  have hgl := HGL.out
  have hbl := HBL.out
  have HG8 := Lib.hid (HG6.out.kp K8.out (fun b hg hr => HGR.out b hg hr))
  have HH8 := Lib.hid (HH6.out.kp K8.out (fun b hb hr => HRK.out b hr hb))
  have HP8 := Lib.hid (HP6.out.kp K8.out HPL.out)
  have K08 : Hid (Kp (fun z => Fg z ∨ Fr z) w W8) := Lib.hid ((K06.out.mono (fun b _ h => .inl h)).trans (K8.out.mono (fun b _ h => .inr h)))
  have HZ9 := Lib.hid ((HZ6.out.kp K8.out (fun hb => by have := hrl _ hb; omega)).kp KS.out (fun e => by omega))
  have HB9 := Lib.hid (HB8.out.set 5 (.int .u64 RK.1))
  have HG9 := Lib.hid (HG8.out.kp KS.out (fun b hb e => by have := hgl b hb; omega))
  have HR9 := Lib.hid (HR8.out.kp KS.out (fun b hb e => by have := hrl b hb; omega))
  have HH9 := Lib.hid (HH8.out.kp KS.out (fun b hb e => by have := hbl b hb; omega))
  have HP9 := Lib.hid (HP8.out.kp KS.out (fun e => by omega))
  have K09 : Hid (Kp (fun z => Fg z ∨ Fr z) w (W8.setCell ⟨w.heap.size + 3, 5, none⟩ (.int .u64 RK.1))) := Lib.hid (K08.out.then KS.out (fun b hb e => by omega))
  have d5 := K09.out.cell c5 (fun h => h.elim HSG.out HSR.out)
  have HRK9 := Lib.hid hrk
  obtain ⟨W9, hW9⟩ : ∃ W9, W8.setCell ⟨w.heap.size + 3, 5, none⟩ (.int .u64 RK.1) = W9 := ⟨_, rfl⟩
  rw [hW9] at HB9 HZ9 HG9 HR9 HH9 HP9 K09 d5
  rw [show W8.setCell ⟨w.heap.size + 1 + 1 + 1, 5, none⟩ (.int .u64 RK.1) = W9 from hW9]
  have p5 := HB9.out.cell 5 rfl
  have HLD := Lib.hid (pk_load HP9.out)
  clear hW9 hrl hgl hbl K8 HR8 HB8 KS g1 g6 q0 q2 m1 m6 m0 m2 b5 bz hrk HNX6 HG6 HH6 HP6 HB6 d1 d6 p0 p2 HD1 HD6
  go_wp2_with fail
  refine wp_region_kept2 [] [0, 1, 2, 3, 4, 5, 6] 7 (by kernel_rfl) (by kernel_rfl) (fun c a d u w h => by cases d <;> exact h) ?_
  simp only [pick, List.getElem?_cons_succ, List.getElem?_cons_zero, List.drop_succ_cons, List.drop_zero]
  show wpKL _ _ _ _ _ _
  repeat (first
    | (refine wpKL_op (by exact rfl) (load_at rfl rfl HLD.out) ?_; simp only [Act.put, List.setIfInBounds_toArray, List.set_cons_succ, List.set_cons_zero])
    | (refine wpKL_op (by exact rfl) (by as_aux_lemma => intro W hK; have e0 := hK.cell d5 (fun x => x); have e1 := hK.cell p5 (fun x => x); go_simp; exact rfl) ?_; simp only [Act.put, List.setIfInBounds_toArray, List.set_cons_succ, List.set_cons_zero])
    | (refine wpKL_off (by exact rfl) ?_; simp only [Act.put, List.setIfInBounds_toArray, List.set_cons_succ, List.set_cons_zero]))
  show ∀ W, _ → wpList _ _ _ _ _ _
  intro W10 hK10
  have hmth := HBC.out.mu W10
  have hcf := HBC.out.cu
  have HZ10 := Lib.hid (HZ9.out.kp hK10 (fun x => x))
  have HB10 := Lib.hid (HB9.out.kp hK10 (fun x => x))
  have HG10 := Lib.hid (HG9.out.old hK10)
  have HR10 := Lib.hid (HR9.out.old hK10)
  have HH10 := Lib.hid (HH9.out.old hK10)
  have K10 := Lib.hid (K09.out.trans (hK10.mono (fun _ _ x => x.elim)))
  clear hK10 d5 p5 HLD HP9 HB9 HG9 HR9 HH9 K09
  go_wp2_with fail
  refine (HPU.out W10 Fb RK.1 HRK9.out HH10.out).mono ?_
  rintro e W11 ⟨rfl, F', hp11, hk11, hn11⟩
  have hbl := HBL.out
  have HB11 := Lib.hid (HB10.out.kp hk11 (fun hb => by have := hbl _ hb; omega))
  have HZ11 := Lib.hid (HZ10.out.kp hk11 (fun hb => by have := hbl _ hb; omega))
  have K11 : Hid (Kp (fun z => Fg z ∨ Fr z ∨ Fb z) w W11) := Lib.hid ((K10.out.mono (fun z _ h => by rcases h with h | h; exact .inl h; exact .inr (.inl h))).trans (hk11.mono (fun z _ h => .inr (.inr h))))
  have HG11 := Lib.hid (HG10.out.kp hk11 (fun z h1 h2 => HGK.out z h1 h2))
  have HR11 := Lib.hid (HR10.out.kp hk11 (fun z h1 h2 => HRK.out z h1 h2))
  have HH11 := Lib.hid hp11
  have HN11 := Lib.hid hn11
  have HS10 := Lib.hid HB10.out.lt
  clear hp11 hk11 hn11 hmth hcf HB10 HZ10 K10 HG10 HR10 HH10 hbl c0 c1 c5 c6
  go_wp2_with (first
    | (refine wpList_load_mid rfl 67 (.tmp 6) rfl (w.heap.size + 3) 0 rfl ([.int .i64 1, .int .i64 0, .int .u32 fl, .int .u32 id, .int .u64 ln, .int .u64 0, .int .u64 0, .int .u64 0, .int .i64 0, .int .u64 0, .int .u64 0, .int .u64 0, .int .u64 0, .int .u64 0, .int .u64 0, .int .u64 0, .int .u64 0, .int .u64 0, .int .u64 0, .int .u64 0, .int .u64 0, .int .u64 0, .int .u64 0, .int .u64 0, .int .u64 0, .int .u64 0, .int .u64 0, .int .u64 0, .int .u64 0, .int .u64 0, .int .u64 0, .int .u64 0, .int .u64 0, .int .u64 0, .int .u64 0, .int .u64 0, .int .u64 0, .int .u64 0, .int .u64 0, .int .u64 0, .int .u64 0, .int .u64 0].set 5 (.int .u64 RK.1)) _ (fun j v hv => by rw [Nat.zero_add]; exact HB11.out.cell j hv) Tryz.underlying67 rfl infoRp ?_)
    | (refine wp_store_blk rfl 67 (.tmp 4) (.tmp 58) rfl HZ11.out ([.int .i64 1, .int .i64 0, .int .u32 fl, .int .u32 id, .int .u64 ln, .int .u64 0, .int .u64 0, .int .u64 0, .int .i64 0, .int .u64 0, .int .u64 0, .int .u64 0, .int .u64 0, .int .u64 0, .int .u64 0, .int .u64 0, .int .u64 0, .int .u64 0, .int .u64 0, .int .u64 0, .int .u64 0, .int .u64 0, .int .u64 0, .int .u64 0, .int .u64 0, .int .u64 0, .int .u64 0, .int .u64 0, .int .u64 0, .int .u64 0, .int .u64 0, .int .u64 0, .int .u64 0, .int .u64 0, .int .u64 0, .int .u64 0, .int .u64 0, .int .u64 0, .int .u64 0, .int .u64 0, .int .u64 0, .int .u64 0].set 5 (.int .u64 RK.1)) rfl rfl rfl infoRp rfl ?_
       intro W12 hb12 hk12
       have HB12 := Lib.hid hb12
       have HK12 := Lib.hid hk12
       clear hb12 hk12))
  have hgl := HGL.out
  have hrl := HRL.out
  have hbl := HBL.out
  have hs10 := HS10.out
  have K12 : Kp (fun z => Fg z ∨ Fr z ∨ Fb z) w W12 := K11.out.then HK12.out (fun z hz e => by omega)
  have hF : ∀ z, F' z → Fb z ∨ w.heap.size + 3 < z := fun z hz => (HN11.out z hz).imp_right (fun h => by omega)
  have e0 : nextR s.r s.now fl ln = RK := by rw [HNW.out]; exact hRK
  rw [e0] at HP
  refine ret_blk (by exact rfl) HB12.out _ Tryz.underlying67 rfl infoRp (by exact rfl) (HP.out _ _ ⟨rfl, ⟨sb, gb, rb, v, Fg, Fr, F'⟩, ?_, ?_, ?_, rfl⟩)
  · exact { top := HTOP.out.kp K12 (fun h => by rcases h with h | h | h; exact HSG.out h; exact HSR.out h; exact HSK.out h)
            gate := HG11.out.kp HK12.out (fun z hz e => by have := hgl z hz; omega)
            ranks := HR11.out.kp HK12.out (fun z hz e => by have := hrl z hz; omega)
            back := by
              show BkM W12 F' v (inG s.g fl ln).c.packets.toNat _
              rw [HWP.out, HV.out]
              exact HH11.out.kp HK12.out (fun z hz e => by rcases hF z hz with h | h; (have := hbl z h; omega); omega)
            sg := HSG.out
            sr := HSR.out
            sk := fun h => by rcases hF _ h with h | h; exact HSK.out h; (simp only at h; omega)
            gr := HGR.out
            gk := fun z h1 h2 => by rcases hF z h2 with h | h; exact HGK.out z h1 h; (have := hgl z h1; omega)
            rk := fun z h1 h2 => by rcases hF z h2 with h | h; exact HRK.out z h1 h; (have := hrl z h1; omega)
            ok := by have := HOK2.out; rw [e0] at this; exact this }
  · exact K12.mono (fun z _ h => .inr h)
  · intro z hz
    rcases hz with h | h | h | h
    · exact .inl (.inl h)
    · exact .inl (.inr (.inl h))
    · exact .inl (.inr (.inr (.inl h)))
    · rcases hF z h with h | h
      · exact .inl (.inr (.inr (.inr h)))
      · exact .inr (by omega)
end Go.Proofs.YtfckgddodjmbdaaGreatDoor
