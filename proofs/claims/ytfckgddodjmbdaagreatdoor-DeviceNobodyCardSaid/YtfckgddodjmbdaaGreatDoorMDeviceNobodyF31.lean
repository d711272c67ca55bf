/- A shaper's dequeue (layer 26). Printed by wip/shd.py. -/
import Derived.Test.YtfckgddodjmbdaaGreatDoorMDeviceNobodyF30
import Derived.Deep.RegionWith
import Derived.Deep.RegionHeld3
namespace Go.Proofs.YtfckgddodjmbdaaGreatDoor
set_option linter.unusedVariables false
set_option linter.unusedSimpArgs false
open Go Go.RowKit Go.Shelf
set_option maxRecDepth 100000 in
set_option maxHeartbeats 8000000 in
theorem deqYes {w : World} {f : ShF} {s : Sh} {r fl id ln : Nat} (h : ShM w f s) (hp : bkPeek s.bk = (⟨r, ⟨fl, id, ln⟩⟩, true)) (hge : ¬ s.tok < ln) :
    Calls Tryz.prog 46 #[.pointer (some ⟨f.sb, 0, none⟩)] w fun e w' => e = .returned (.agg (deqS s).1.toArray) ∧ ShTo w f (deqS s).2 w' := by
  have hq : deqS s = (rpC 2 0 fl id ln r zSt, { s with tok := s.tok - ln, bk := bkPop s.bk, g := outG s.g fl ln, r := sentR s.r r }) := by unfold deqS; rw [hp, if_neg (fun e => Bool.noConfusion e), if_neg hge]
  obtain ⟨hrr, hff, hii, hll⟩ : r < 18446744073709551616 ∧ fl < 4294967296 ∧ id < 4294967296 ∧ ln < 18446744073709551616 := by
    have h1 := h.ok.its
    have h2 : bkItems s.bk ≠ [] := fun e => by unfold bkPeek at hp; rw [e] at hp; cases hp
    obtain ⟨i0, l0, hl0⟩ := List.exists_cons_of_ne_nil h2
    have h3 := h1 i0 (by rw [hl0]; exact List.mem_cons_self)
    unfold bkPeek at hp
    rw [hl0] at hp
    injection hp with hp _
    rw [hp] at h3
    exact h3
  have HOK2 := Lib.hid (deq_ok h.ok h.gate.ok)
  rw [hq] at HOK2 ⊢
  clear hq
  have HOK := Lib.hid h.ok
  obtain ⟨t5, x5, gu, ge, gp, hv, hbc⟩ := h.back.c
  have HBC := Lib.hid hbc
  have hhp := h.back
  rw [hv] at hhp
  have HG := Lib.hid h.gate
  have HR := Lib.hid h.ranks
  have HBKH := Lib.hid hhp
  have hsl := h.top.lt
  have c0 := h.top.cell 0 rfl
  have c1 := h.top.cell 1 rfl
  have c2 := h.top.cell 2 rfl
  have c3 := h.top.cell 3 rfl
  have c4 := h.top.cell 4 rfl
  have c5 := h.top.cell 5 rfl
  have HTOP := Lib.hid h.top
  have HSG := Lib.hid h.sg; have HSR := Lib.hid h.sr; have HSK := Lib.hid h.sk
  have HGR := Lib.hid h.gr; have HGK := Lib.hid h.gk; have HRK := Lib.hid h.rk
  have HGL := Lib.hid (fun b hb => h.gate.lt (b := b) hb); have HRL := Lib.hid (fun b hb => h.ranks.lt (b := b) hb); have HBL := Lib.hid (fun b hb => h.back.lt (b := b) hb)
  have HPK := Lib.hid (fun W (F : Nat → Prop) (k : BkM W F (.iface t5 x5) s.g.c.packets.toNat s.bk) => by have := HBC.out.peek W F _ _ k; rw [hp] at this; exact this)
  rw [hv] at c5
  have HV := Lib.hid hv
  obtain ⟨rate, hrt⟩ : ∃ x, s.rate = x := ⟨_, rfl⟩
  obtain ⟨burst, hbu⟩ : ∃ x, s.burst = x := ⟨_, rfl⟩
  obtain ⟨tok, htk⟩ : ∃ x, s.tok = x := ⟨_, rfl⟩
  obtain ⟨tk2, htk2⟩ : ∃ x, s.tok - ln = x := ⟨_, rfl⟩
  have HTK : Hid (∀ W, Calls Tryz.prog 75 #[.agg #[.int .u64 rate, .int .u64 burst, .int .u64 tok], .int .u64 ln] W fun e w' => e = .returned (.tuple #[.agg #[.int .u64 rate, .int .u64 burst, .int .u64 tk2], .bool true]) ∧ Kp none' W w') := Lib.hid (fun W => by
    have := bTakeOk rate burst tok ln (by rw [← hrt]; exact h.ok.rate.1) (by rw [← hbu]; exact h.ok.burst.1) (by rw [← htk, ← hbu]; exact h.ok.tok) (by rw [← htk]; omega) (by rw [← htk]; have := h.ok.tok; have := h.ok.burst.2; omega) W
    rw [← htk, htk2] at this
    rw [← htk]; exact this)
  have HPO := Lib.hid (fun W (F : Nat → Prop) (k : BkM W F (.iface t5 x5) s.g.c.packets.toNat s.bk) => HBC.out.pop W F _ _ k (by rw [hp]))
  have HOU := Lib.hid (fun W (k : GMem W f.Fg f.gb s.g) => gOut k fl ln hff)
  have HSE := Lib.hid (fun W (k : RMem W f.Fr f.rb s.r) => kSent k r hrr)
  have HWP := Lib.hid (c_out s.g fl ln)
  unfold shC at HTOP
  rw [hrt, hbu, htk] at HTOP
  refine calls_post ?_
  intro PP HP
  have HSH : Hid (∀ (f : ShF) (s2 : Sh), s2.rate = s.rate → s2.burst = s.burst → s2.tok = tk2 → s2.now = s.now → s2.ref = s.ref → shC s2 f = [.pointer (some ⟨f.gb, 0, none⟩), .pointer (some ⟨f.rb, 0, none⟩), .int .u64 rate, .int .u64 burst, .int .u64 tk2, f.v, .int .u64 s.now] ++ s.ref.map eN8) := Lib.hid (fun f s2 h1 h2 h3 h4 h5 => by unfold shC; rw [h1, h2, h3, h4, h5, hrt, hbu])
  clear h hbc hp hhp hv hrt hbu htk hge hrr hff hii hll
  obtain ⟨sb, gb, rb, v, Fg, Fr, Fb⟩ := f
  simp only at *
  rw [htk2] at HOK2 HP
  have hz0 := Blk.new w [.int .i64 0, .int .i64 0, .int .u32 0, .int .u32 0, .int .u64 0, .int .u64 0, .int .u64 0, .int .u64 0, .int .i64 0, .int .u64 0, .int .u64 0, .int .u64 0, .int .u64 0, .int .u64 0, .int .u64 0, .int .u64 0, .int .u64 0, .int .u64 0, .int .u64 0, .int .u64 0, .int .u64 0, .int .u64 0, .int .u64 0, .int .u64 0, .int .u64 0, .int .u64 0, .int .u64 0, .int .u64 0, .int .u64 0, .int .u64 0, .int .u64 0, .int .u64 0, .int .u64 0, .int .u64 0, .int .u64 0, .int .u64 0, .int .u64 0, .int .u64 0, .int .u64 0, .int .u64 0, .int .u64 0, .int .u64 0] 67
  have HZ0 := Lib.hid hz0
  have hz1 := Blk.new (w.alloc (.cells #[.int .i64 0, .int .i64 0, .int .u32 0, .int .u32 0, .int .u64 0, .int .u64 0, .int .u64 0, .int .u64 0, .int .i64 0, .int .u64 0, .int .u64 0, .int .u64 0, .int .u64 0, .int .u64 0, .int .u64 0, .int .u64 0, .int .u64 0, .int .u64 0, .int .u64 0, .int .u64 0, .int .u64 0, .int .u64 0, .int .u64 0, .int .u64 0, .int .u64 0, .int .u64 0, .int .u64 0, .int .u64 0, .int .u64 0, .int .u64 0, .int .u64 0, .int .u64 0, .int .u64 0, .int .u64 0, .int .u64 0, .int .u64 0, .int .u64 0, .int .u64 0, .int .u64 0, .int .u64 0, .int .u64 0, .int .u64 0] 67)) [.int .i64 0, .int .i64 0, .int .u32 0, .int .u32 0, .int .u64 0, .int .u64 0, .int .u64 0, .int .u64 0, .int .i64 0, .int .u64 0, .int .u64 0, .int .u64 0, .int .u64 0, .int .u64 0, .int .u64 0, .int .u64 0, .int .u64 0, .int .u64 0, .int .u64 0, .int .u64 0, .int .u64 0, .int .u64 0, .int .u64 0, .int .u64 0, .int .u64 0, .int .u64 0, .int .u64 0, .int .u64 0, .int .u64 0, .int .u64 0, .int .u64 0, .int .u64 0, .int .u64 0, .int .u64 0, .int .u64 0, .int .u64 0, .int .u64 0, .int .u64 0, .int .u64 0, .int .u64 0, .int .u64 0, .int .u64 0] 67
  have e1 : (w.alloc (.cells #[.int .i64 0, .int .i64 0, .int .u32 0, .int .u32 0, .int .u64 0, .int .u64 0, .int .u64 0, .int .u64 0, .int .i64 0, .int .u64 0, .int .u64 0, .int .u64 0, .int .u64 0, .int .u64 0, .int .u64 0, .int .u64 0, .int .u64 0, .int .u64 0, .int .u64 0, .int .u64 0, .int .u64 0, .int .u64 0, .int .u64 0, .int .u64 0, .int .u64 0, .int .u64 0, .int .u64 0, .int .u64 0, .int .u64 0, .int .u64 0, .int .u64 0, .int .u64 0, .int .u64 0, .int .u64 0, .int .u64 0, .int .u64 0, .int .u64 0, .int .u64 0, .int .u64 0, .int .u64 0, .int .u64 0, .int .u64 0] 67)).heap.size = w.heap.size + 1 := by simp
  rw [e1] at hz1
  have HZ1 := Lib.hid hz1
  have HK0 := Lib.hid (((Kp.refl none' w).alloc (.cells #[.int .i64 0, .int .i64 0, .int .u32 0, .int .u32 0, .int .u64 0, .int .u64 0, .int .u64 0, .int .u64 0, .int .i64 0, .int .u64 0, .int .u64 0, .int .u64 0, .int .u64 0, .int .u64 0, .int .u64 0, .int .u64 0, .int .u64 0, .int .u64 0, .int .u64 0, .int .u64 0, .int .u64 0, .int .u64 0, .int .u64 0, .int .u64 0, .int .u64 0, .int .u64 0, .int .u64 0, .int .u64 0, .int .u64 0, .int .u64 0, .int .u64 0, .int .u64 0, .int .u64 0, .int .u64 0, .int .u64 0, .int .u64 0, .int .u64 0, .int .u64 0, .int .u64 0, .int .u64 0, .int .u64 0, .int .u64 0] 67)).alloc (.cells #[.int .i64 0, .int .i64 0, .int .u32 0, .int .u32 0, .int .u64 0, .int .u64 0, .int .u64 0, .int .u64 0, .int .i64 0, .int .u64 0, .int .u64 0, .int .u64 0, .int .u64 0, .int .u64 0, .int .u64 0, .int .u64 0, .int .u64 0, .int .u64 0, .int .u64 0, .int .u64 0, .int .u64 0, .int .u64 0, .int .u64 0, .int .u64 0, .int .u64 0, .int .u64 0, .int .u64 0, .int .u64 0, .int .u64 0, .int .u64 0, .int .u64 0, .int .u64 0, .int .u64 0, .int .u64 0, .int .u64 0, .int .u64 0, .int .u64 0, .int .u64 0, .int .u64 0, .int .u64 0, .int .u64 0, .int .u64 0] 67))
  clear hz0 hz1 e1
  go_enter Tryz.func46, Tryz.ntmps46
  go_wp2_with (first
    | (refine wp_store_blk rfl 67 (.tmp 3) (.tmp 8) rfl HZ1.out [.int .i64 2, .int .i64 0, .int .u32 0, .int .u32 0, .int .u64 0, .int .u64 0, .int .u64 0, .int .u64 0, .int .i64 0, .int .u64 0, .int .u64 0, .int .u64 0, .int .u64 0, .int .u64 0, .int .u64 0, .int .u64 0, .int .u64 0, .int .u64 0, .int .u64 0, .int .u64 0, .int .u64 0, .int .u64 0, .int .u64 0, .int .u64 0, .int .u64 0, .int .u64 0, .int .u64 0, .int .u64 0, .int .u64 0, .int .u64 0, .int .u64 0, .int .u64 0, .int .u64 0, .int .u64 0, .int .u64 0, .int .u64 0, .int .u64 0, .int .u64 0, .int .u64 0, .int .u64 0, .int .u64 0, .int .u64 0] rfl rfl rfl infoRp rfl ?_
       intro W2 hb2 hk2
       have HB2 := Lib.hid hb2
       have HK2 := Lib.hid hk2
       clear hb2 hk2
       have k02 : Kp none' w W2 := HK0.out.then HK2.out (fun b hb e => by omega)
       have HZ2 := Lib.hid ((HZ0.out.alloc (.cells #[.int .i64 0, .int .i64 0, .int .u32 0, .int .u32 0, .int .u64 0, .int .u64 0, .int .u64 0, .int .u64 0, .int .i64 0, .int .u64 0, .int .u64 0, .int .u64 0, .int .u64 0, .int .u64 0, .int .u64 0, .int .u64 0, .int .u64 0, .int .u64 0, .int .u64 0, .int .u64 0, .int .u64 0, .int .u64 0, .int .u64 0, .int .u64 0, .int .u64 0, .int .u64 0, .int .u64 0, .int .u64 0, .int .u64 0, .int .u64 0, .int .u64 0, .int .u64 0, .int .u64 0, .int .u64 0, .int .u64 0, .int .u64 0, .int .u64 0, .int .u64 0, .int .u64 0, .int .u64 0, .int .u64 0, .int .u64 0] 67)).kp HK2.out (fun e => by omega))
       have K02 := Lib.hid k02
       have d5 := k02.cell c5 (fun x => x)
       have hmth := HBC.out.me W2
       have hcf := HBC.out.ce
       have HH2 := Lib.hid (HBKH.out.old k02)
       have hs2 := HB2.out.lt
       clear HZ0 HZ1 HK0 HK2 k02))
  refine (HPK.out W2 Fb HH2.out).mono ?_
  rintro e W3 ⟨rfl, F3, hp3, hk3, hn3⟩
  have HF3 : Hid (∀ z, F3 z → Fb z ∨ w.heap.size + 1 < z) := Lib.hid (fun z hz => (hn3 z hz).imp_right (fun h => by omega))
  have hbl := HBL.out
  have HB3 := Lib.hid (HB2.out.kp hk3 (fun hb => by have := hbl _ hb; omega))
  have HZ3 := Lib.hid (HZ2.out.kp hk3 (fun hb => by have := hbl _ hb; omega))
  have k03 : Kp Fb w W3 := (K02.out.mono (fun _ _ x => x.elim)).trans hk3
  have HT3 := Lib.hid (HTOP.out.kp k03 HSK.out)
  have HG3 := Lib.hid (HG.out.kp k03 (fun z h1 h2 => HGK.out z h1 h2))
  have HR3 := Lib.hid (HR.out.kp k03 (fun z h1 h2 => HRK.out z h1 h2))
  have HH3 := Lib.hid hp3
  have K03 := Lib.hid k03
  have hs3 := HB3.out.lt
  have hs03 := hk3.size
  clear hp3 hk3 hn3 hmth hcf d5 hbl HB2 HZ2 K02 HH2 HG HR HBKH HTOP hs2 c0 c1 c2 c3 c4 c5 k03
  go_upto_region 3 with fail
  have ka : Kp none' W3 (W3.alloc (.cells #[.int .u32 fl, .int .u32 id, .int .u64 ln] 65)) := (Kp.refl none' W3).alloc _
  have hpk : Blk (W3.alloc (.cells #[.int .u32 fl, .int .u32 id, .int .u64 ln] 65)) W3.heap.size [.int .u32 fl, .int .u32 id, .int .u64 ln] 65 := Blk.new W3 _ _
  obtain ⟨W4, hW4⟩ : ∃ W4, W3.alloc (.cells #[.int .u32 fl, .int .u32 id, .int .u64 ln] 65) = W4 := ⟨_, rfl⟩
  rw [hW4] at ka hpk ⊢
  have HPK4 := Lib.hid hpk
  have HB4 := Lib.hid (HB3.out.kp ka (fun x => x))
  have HZ4 := Lib.hid (HZ3.out.kp ka (fun x => x))
  have HT4 := Lib.hid (HT3.out.kp ka (fun x => x))
  have HG4 := Lib.hid (HG3.out.old ka)
  have HR4 := Lib.hid (HR3.out.old ka)
  have HH4 := Lib.hid (HH3.out.old ka)
  have K04 := Lib.hid (K03.out.trans (ka.mono (fun _ _ x => x.elim)))
  have hs4 := HPK4.out.lt
  have HF3L : Hid (∀ z, F3 z → z < W3.heap.size) := Lib.hid (fun z hz => HH3.out.lt hz)
  obtain ⟨pb, hpb⟩ : ∃ pb, W3.heap.size = pb := ⟨_, rfl⟩
  rw [hpb] at HPK4 HF3L hs3 hs03 hs4 ⊢
  clear hW4 ka hpk HB3 HZ3 HT3 HG3 HR3 HH3 K03 hpb
  have d2 := HT4.out.cell 2 rfl
  have d3 := HT4.out.cell 3 rfl
  have d4 := HT4.out.cell 4 rfl
  have p2 := HPK4.out.cell 2 rfl
  have HD2 := Lib.hid d2; have HD3 := Lib.hid d3; have HD4 := Lib.hid d4; have HP2 := Lib.hid p2
  go_wp2_with fail
  have hsb4 := HT4.out.lt
  go_cut [6, 7] from 22 (fun s6 s7 wc => ∃ qb, Hid (W4.heap.size ≤ qb) ∧ s6 = .bool true ∧ s7 = .pointer (some ⟨qb, 0, none⟩) ∧ Hid (Blk wc qb [.int .u64 rate, .int .u64 burst, .int .u64 tk2] 136) ∧ Hid (Kp none' W4 wc))
  case first =>
    go_region_law (first
      | (refine step_call (w := (W4.drew.alloc (.cells #[.int .u64 0, .int .u64 0, .int .u64 0] 136))) rfl (by go_simp) (HTK.out _) ?_; intro w6 hk6; have hB : Blk w6 W4.heap.size [.int .u64 0, .int .u64 0, .int .u64 0] 136 := (Blk.new W4.drew [.int .u64 0, .int .u64 0, .int .u64 0] 136).kp hk6 (fun x => x); have n0 := hB.cell 0 rfl; have n1 := hB.cell 1 rfl; have n2 := hB.cell 2 rfl; have nz := fun j => hB.fz j)
      | (refine step_call (w := W4.drew) rfl (by go_simp) (HTK.out _) ?_; intro w6 hk6))
    all_goals
      go_wp2_with fail
      go_meet
      case rel =>
        first
          | exact ⟨w6.heap.size, Lib.hid hk6.size, rfl, rfl, Lib.hid (Blk.new w6 _ _), Lib.hid (((Kp.refl none' W4).drew.trans hk6).alloc _)⟩
          | exact ⟨W4.heap.size, Lib.hid (Nat.le_refl _), rfl, rfl, Lib.hid (((hB.set 0 _).set 1 _).set 2 _), Lib.hid (((((((Kp.refl none' W4).drew.alloc _).trans hk6)).set (.inr (Nat.le_refl _)) _).set (.inr (Nat.le_refl _)) _).set (.inr (Nat.le_refl _)) _)⟩
  case rest =>
  obtain ⟨qb, hqb, rfl, rfl, hb7, hk47⟩ := hcut
  have k47 := hk47.out
  have hz7 := hqb.out
  obtain ⟨W7, hW7⟩ : ∃ W7, wc = W7 := ⟨_, rfl⟩
  rw [hW7] at hb7 k47 ⊢
  have HQB := hb7
  have HPK7 := Lib.hid (HPK4.out.kp k47 (fun x => x))
  have HB7 := Lib.hid (HB4.out.kp k47 (fun x => x))
  have HZ7 := Lib.hid (HZ4.out.kp k47 (fun x => x))
  have HT7 := Lib.hid (HT4.out.kp k47 (fun x => x))
  have HG7 := Lib.hid (HG4.out.old k47)
  have HR7 := Lib.hid (HR4.out.old k47)
  have HH7 := Lib.hid (HH4.out.old k47)
  have K07 := Lib.hid (K04.out.trans (k47.mono (fun _ _ x => x.elim)))
  clear hW7 hk47 hqb hb7 k47 d2 d3 d4 p2 HD2 HD3 HD4 HP2 HPK4 HB4 HZ4 HT4 HG4 HR4 HH4 K04 HTK
  have q0 := HQB.out.cell 0 rfl
  have q1 := HQB.out.cell 1 rfl
  have q2 := HQB.out.cell 2 rfl
  have d2 := HT7.out.cell 2 rfl
  have d3 := HT7.out.cell 3 rfl
  have d4 := HT7.out.cell 4 rfl
  have dz := fun j => HT7.out.fz j
  have hsq : sb < qb := by omega
  have hs7 := HQB.out.lt
  have hqs : qb ≠ sb := by omega
  go_upto_region 11 with fail
  have ht8 : Blk (((W7.setCell ⟨sb, 2, none⟩ (.int .u64 rate)).setCell ⟨sb, 3, none⟩ (.int .u64 burst)).setCell ⟨sb, 4, none⟩ (.int .u64 tk2)) sb ([.pointer (some ⟨gb, 0, none⟩), .pointer (some ⟨rb, 0, none⟩), .int .u64 rate, .int .u64 burst, .int .u64 tk2, v, .int .u64 s.now] ++ s.ref.map eN8) 140 := ((HT7.out.set 2 (.int .u64 rate)).set 3 (.int .u64 burst)).set 4 (.int .u64 tk2)
  have k78 : Kp (fun z => z = sb) W7 (((W7.setCell ⟨sb, 2, none⟩ (.int .u64 rate)).setCell ⟨sb, 3, none⟩ (.int .u64 burst)).setCell ⟨sb, 4, none⟩ (.int .u64 tk2)) := (((Kp.refl (fun z => z = sb) W7).set (p := ⟨sb, 2, none⟩) (.inl rfl) _).set (p := ⟨sb, 3, none⟩) (.inl rfl) _).set (p := ⟨sb, 4, none⟩) (.inl rfl) _
  obtain ⟨W8, hW8⟩ : ∃ W8, ((W7.setCell ⟨sb, 2, none⟩ (.int .u64 rate)).setCell ⟨sb, 3, none⟩ (.int .u64 burst)).setCell ⟨sb, 4, none⟩ (.int .u64 tk2) = W8 := ⟨_, rfl⟩
  rw [hW8] at ht8 k78 ⊢
  have hgl := HGL.out; have hrl := HRL.out; have hbl := HBL.out; have hf3 := HF3.out; have hf3l := HF3L.out
  have hs3b : ¬ F3 sb := fun h => by rcases hf3 _ h with h | h; exact HSK.out h; omega
  have hg3 : ∀ z, Fg z → ¬ F3 z := fun z h1 h2 => by rcases hf3 _ h2 with h | h; exact HGK.out z h1 h; (have := hgl z h1; omega)
  have hr3 : ∀ z, Fr z → ¬ F3 z := fun z h1 h2 => by rcases hf3 _ h2 with h | h; exact HRK.out z h1 h; (have := hrl z h1; omega)
  have HT8 := Lib.hid ht8
  have HPK8 := Lib.hid (HPK7.out.kp k78 (fun e => by omega))
  have HB8 := Lib.hid (HB7.out.kp k78 (fun e => by omega))
  have HZ8 := Lib.hid (HZ7.out.kp k78 (fun e => by omega))
  have HG8 := Lib.hid (HG7.out.kp k78 (fun z hz e => HSG.out (e ▸ hz)))
  have HR8 := Lib.hid (HR7.out.kp k78 (fun z hz e => HSR.out (e ▸ hz)))
  have HH8 := Lib.hid (HH7.out.kp k78 (fun z hz e => hs3b (e ▸ hz)))
  have K08 : Hid (Kp (fun z => z = sb ∨ Fb z) w W8) := Lib.hid ((K07.out.mono (fun z _ h => .inr h)).trans (k78.mono (fun z _ h => .inl h)))
  have HG3 := Lib.hid hg3; have HR3 := Lib.hid hr3; have HS3 := Lib.hid hs3b
  have d5 := HT8.out.cell 5 rfl
  have hs8 := k78.size
  rw [HV.out] at d5
  have hmth := HBC.out.mp W8
  have hcf := HBC.out.cp
  clear hW8 ht8 k78 q0 q1 q2 d2 d3 d4 dz HQB HT7 HPK7 HB7 HZ7 HG7 HR7 HH7 K07 hgl hrl hbl hf3 hf3l hs3b hg3 hr3
  go_wp2_with fail
  refine (HPO.out W8 F3 HH8.out).mono ?_
  rintro e W9 ⟨rfl, F9, hp9, hk9, hn9⟩
  have hgl := HGL.out; have hrl := HRL.out; have hbl := HBL.out; have hf3 := HF3.out; have hf3l := HF3L.out
  have HF9 : Hid (∀ z, F9 z → Fb z ∨ w.heap.size + 1 < z) := Lib.hid (fun z hz => by rcases hn9 z hz with h | h; exact hf3 z h; exact .inr (by omega))
  have HT9 := Lib.hid (HT8.out.kp hk9 HS3.out)
  have HPK9 := Lib.hid (HPK8.out.kp hk9 (fun h => by have := hf3l _ h; omega))
  have HB9 := Lib.hid (HB8.out.kp hk9 (fun h => by rcases hf3 _ h with h | h; (have := hbl _ h; omega); omega))
  have HZ9 := Lib.hid (HZ8.out.kp hk9 (fun h => by rcases hf3 _ h with h | h; (have := hbl _ h; omega); omega))
  have HG9 := Lib.hid (HG8.out.kp hk9 HG3.out)
  have HR9 := Lib.hid (HR8.out.kp hk9 HR3.out)
  have HH9 := Lib.hid hp9
  have K09 : Hid (Kp (fun z => z = sb ∨ Fb z) w W9) := Lib.hid (K08.out.then hk9 (fun i hi h => by rcases hf3 _ h with h | h; exact .inr h; omega))
  have d0 := HT9.out.cell 0 rfl
  have p0 := HPK9.out.cell 0 rfl
  have p2 := HPK9.out.cell 2 rfl
  clear hp9 hk9 hn9 hmth hcf d5 HT8 HPK8 HB8 HZ8 HG8 HR8 HH8 K08 hgl hrl hbl hf3 hf3l HPO
  go_wp2_with fail
  refine wp_region_kept2 [] [0, 1, 2, 3, 4, 5, 6, 7] 8 (by kernel_rfl) (by kernel_rfl) (fun c a d u w h => by cases d <;> exact h) ?_
  simp only [pick, List.getElem?_cons_succ, List.getElem?_cons_zero, List.drop_succ_cons, List.drop_zero]
  show wpKL _ _ _ _ _ _
  repeat (first
    | (refine wpKL_op (by exact rfl) (by as_aux_lemma => intro W hK; have e0 := hK.cell d0 (fun x => x); have e1 := hK.cell p0 (fun x => x); have e2 := hK.cell p2 (fun x => x); go_simp; exact rfl) ?_; simp only [Act.put, List.setIfInBounds_toArray, List.set_cons_succ, List.set_cons_zero])
    | (refine wpKL_off (by exact rfl) ?_; simp only [Act.put, List.setIfInBounds_toArray, List.set_cons_succ, List.set_cons_zero]))
  show ∀ W, _ → wpList _ _ _ _ _ _
  intro W10 hK10
  have HG10 := Lib.hid (HG9.out.old hK10)
  have HK10 := Lib.hid hK10
  clear hK10 d0 p0 p2
  go_wp2_with fail
  refine (HOU.out W10 HG10.out).mono ?_
  rintro e W11 ⟨rfl, hg11, hk11⟩
  have k911 : Kp Fg W9 W11 := (HK10.out.mono (fun _ _ x => x.elim)).trans hk11
  have HT11 := Lib.hid (HT9.out.kp k911 HSG.out)
  have HR11 := Lib.hid (HR9.out.kp k911 (fun z h1 h2 => HGR.out z h2 h1))
  have HG11 := Lib.hid hg11
  have K911 := Lib.hid k911
  have d1 := HT11.out.cell 1 rfl
  clear hg11 hk11 k911 HG10 HK10 HG9 HR9
  go_wp2_with fail
  refine (HSE.out W11 HR11.out).mono ?_
  rintro e W12 ⟨rfl, hr12, hk12⟩
  have hgl := HGL.out; have hrl := HRL.out
  have kD : Kp (fun z => Fg z ∨ Fr z) W9 W12 := (K911.out.mono (fun z _ h => .inl h)).trans (hk12.mono (fun z _ h => .inr h))
  have HD := Lib.hid kD
  have HPK12 := Lib.hid (HPK9.out.kp kD (fun h => by rcases h with h | h; (have := hgl _ h; omega); (have := hrl _ h; omega)))
  have HB12 := Lib.hid (HB9.out.kp kD (fun h => by rcases h with h | h; (have := hgl _ h; omega); (have := hrl _ h; omega)))
  have HZ12 := Lib.hid (HZ9.out.kp kD (fun h => by rcases h with h | h; (have := hgl _ h; omega); (have := hrl _ h; omega)))
  have HG12 := Lib.hid (HG11.out.kp hk12 (fun z h1 h2 => HGR.out z h1 h2))
  have HT12 := Lib.hid (HT11.out.kp hk12 HSR.out)
  have HR12 := Lib.hid hr12
  have p0 := HPK12.out.cell 0 rfl
  have p1 := HPK12.out.cell 1 rfl
  have p2 := HPK12.out.cell 2 rfl
  have b2 := HB12.out.cell 2 rfl
  have b3 := HB12.out.cell 3 rfl
  have b4 := HB12.out.cell 4 rfl
  have b5 := HB12.out.cell 5 rfl
  have bz := fun j => HB12.out.fz j
  have hpb1 : w.heap.size + 1 ≠ pb := by omega
  have hpb2 : pb ≠ w.heap.size + 1 := by omega
  have HB13 := Lib.hid ((((HB12.out.set 2 (.int .u32 fl)).set 3 (.int .u32 id)).set 4 (.int .u64 ln)).set 5 (.int .u64 r))
  have ks : Kp (fun z => z = w.heap.size + 1) W12 ((((W12.setCell ⟨w.heap.size + 1, 2, none⟩ (.int .u32 fl)).setCell ⟨w.heap.size + 1, 3, none⟩ (.int .u32 id)).setCell ⟨w.heap.size + 1, 4, none⟩ (.int .u64 ln)).setCell ⟨w.heap.size + 1, 5, none⟩ (.int .u64 r)) := ((((Kp.refl (fun z => z = w.heap.size + 1) W12).set (p := ⟨w.heap.size + 1, 2, none⟩) (.inl rfl) _).set (p := ⟨w.heap.size + 1, 3, none⟩) (.inl rfl) _).set (p := ⟨w.heap.size + 1, 4, none⟩) (.inl rfl) _).set (p := ⟨w.heap.size + 1, 5, none⟩) (.inl rfl) _
  have HZ13 := Lib.hid (HZ12.out.kp ks (fun e => by omega))
  have KS := Lib.hid ks
  clear hr12 hk12 kD ks hgl hrl d1 HT9 HPK9 HB9 HZ9 HT11 HR11 HG11 K911
  go_wp2_with (first
    | (refine wpList_load_mid rfl 67 (.tmp 3) rfl (w.heap.size + 1) 0 rfl (((([.int .i64 2, .int .i64 0, .int .u32 0, .int .u32 0, .int .u64 0, .int .u64 0, .int .u64 0, .int .u64 0, .int .i64 0, .int .u64 0, .int .u64 0, .int .u64 0, .int .u64 0, .int .u64 0, .int .u64 0, .int .u64 0, .int .u64 0, .int .u64 0, .int .u64 0, .int .u64 0, .int .u64 0, .int .u64 0, .int .u64 0, .int .u64 0, .int .u64 0, .int .u64 0, .int .u64 0, .int .u64 0, .int .u64 0, .int .u64 0, .int .u64 0, .int .u64 0, .int .u64 0, .int .u64 0, .int .u64 0, .int .u64 0, .int .u64 0, .int .u64 0, .int .u64 0, .int .u64 0, .int .u64 0, .int .u64 0].set 2 (.int .u32 fl)).set 3 (.int .u32 id)).set 4 (.int .u64 ln)).set 5 (.int .u64 r)) _ (fun j v hv => by rw [Nat.zero_add]; exact HB13.out.cell j hv) Tryz.underlying67 rfl infoRp ?_)
    | (refine wp_store_blk rfl 67 (.tmp 2) (.tmp 64) rfl HZ13.out (((([.int .i64 2, .int .i64 0, .int .u32 0, .int .u32 0, .int .u64 0, .int .u64 0, .int .u64 0, .int .u64 0, .int .i64 0, .int .u64 0, .int .u64 0, .int .u64 0, .int .u64 0, .int .u64 0, .int .u64 0, .int .u64 0, .int .u64 0, .int .u64 0, .int .u64 0, .int .u64 0, .int .u64 0, .int .u64 0, .int .u64 0, .int .u64 0, .int .u64 0, .int .u64 0, .int .u64 0, .int .u64 0, .int .u64 0, .int .u64 0, .int .u64 0, .int .u64 0, .int .u64 0, .int .u64 0, .int .u64 0, .int .u64 0, .int .u64 0, .int .u64 0, .int .u64 0, .int .u64 0, .int .u64 0, .int .u64 0].set 2 (.int .u32 fl)).set 3 (.int .u32 id)).set 4 (.int .u64 ln)).set 5 (.int .u64 r)) rfl rfl rfl infoRp rfl ?_
       intro W14 hb14 hk14
       have HB14 := Lib.hid hb14
       have HK14 := Lib.hid hk14
       clear hb14 hk14))
  have hgl := HGL.out
  have hrl := HRL.out
  have hbl := HBL.out
  have hf9 := HF9.out
  have kt : Kp (fun z => w.heap.size ≤ z ∧ z ≤ w.heap.size + 1) W12 W14 := (KS.out.mono (fun z _ e => by omega)).trans (HK14.out.mono (fun z _ e => by omega))
  have kb : Kp (fun z => Fg z ∨ Fr z ∨ (w.heap.size ≤ z ∧ z ≤ w.heap.size + 1)) W9 W14 := (HD.out.mono (fun z _ h => by rcases h with h | h; exact .inl h; exact .inr (.inl h))).trans (kt.mono (fun z _ h => .inr (.inr h)))
  have hff : ∀ z, F9 z → Fb z ∨ w.heap.size ≤ z := fun z hz => (hf9 z hz).imp_right (fun h => by omega)
  refine ret_blk (by exact rfl) HB14.out _ Tryz.underlying67 rfl infoRp (by exact rfl) (HP.out _ _ ⟨rfl, ⟨sb, gb, rb, v, Fg, Fr, F9⟩, ?_, ?_, ?_, rfl⟩)
  · exact { top := by rw [HSH.out]; exact HT12.out.kp kt (fun h => by omega); all_goals rfl
            gate := HG12.out.kp kt (fun z hz h => by have := hgl z hz; omega)
            ranks := HR12.out.kp kt (fun z hz h => by have := hrl z hz; omega)
            back := by
              show BkM W14 F9 v (outG s.g fl ln).c.packets.toNat _
              rw [HWP.out, HV.out]
              exact HH9.out.kp kb (fun z hz h => by
                rcases hf9 z hz with h' | h'
                · rcases h with h | h | h
                  · exact HGK.out z h h'
                  · exact HRK.out z h h'
                  · have := hbl z h'; omega
                · rcases h with h | h | h
                  · have := hgl z h; omega
                  · have := hrl z h; omega
                  · omega)
            sg := HSG.out
            sr := HSR.out
            sk := fun h => by rcases hff _ h with h | h; exact HSK.out h; (simp only at h; omega)
            gr := HGR.out
            gk := fun z h1 h2 => by rcases hff z h2 with h | h; exact HGK.out z h1 h; (have := hgl z h1; omega)
            rk := fun z h1 h2 => by rcases hff z h2 with h | h; exact HRK.out z h1 h; (have := hrl z h1; omega)
            ok := HOK2.out }
  · exact ((K09.out.mono (fun z _ h => by rcases h with h | h; exact .inl h; exact .inr (.inl h)) : Kp (fun z => z = sb ∨ Fb z ∨ Fg z ∨ Fr z) w W9).then kb (fun z hz h => by
      rcases h with h | h | h
      · exact .inr (.inr (.inl h))
      · exact .inr (.inr (.inr h))
      · omega)).mono (fun z _ h => by
        rcases h with h | h | h | h
        · exact .inl h
        · exact .inr (.inr (.inr h))
        · exact .inr (.inl h)
        · exact .inr (.inr (.inl h)))
  · intro z hz
    rcases hz with h | h | h | h
    · exact .inl (.inl h)
    · exact .inl (.inr (.inl h))
    · exact .inl (.inr (.inr (.inl h)))
    · rcases hff z h with h | h
      · exact .inl (.inr (.inr (.inr h)))
      · exact .inr (by omega)
end Go.Proofs.YtfckgddodjmbdaaGreatDoor
