/- A port made (layer 36). -/
import Derived.Test.YtfckgddodjmbdaaGreatDoorMPortNobodyF40
import Derived.Test.YtfckgddodjmbdaaGreatDoorMPortNobodyF41
import Derived.Test.YtfckgddodjmbdaaGreatDoorMPortNobodyF30
import Derived.Test.YtfckgddodjmbdaaGreatDoorMPortNobodyF0
namespace Go.Proofs.YtfckgddodjmbdaaGreatDoor
set_option linter.unusedVariables false
set_option linter.unusedSimpArgs false
open Go Go.RowKit Go.Shelf Go.Maps

def mtNew (pc : PcR) : Mt := if pc.rate = 0 then Mt.zero else ⟨pc.rate, pc.near, pc.far, pc.near, pc.far⟩
def poNew (pc : PcR) (st : BkS) : Po := ⟨shNewS pc.c st, pc.rl, mtNew pc, pc.y, fun _ => [], 0⟩
theorem wt_new (w : World) : WtM (w.alloc (.map #[] 0)) w.heap.size 0 (fun _ => []) := ⟨0, .map [], World.ownsMap_made w _ _ _, Nat.le_refl _, fun _ _ => rfl⟩
set_option maxRecDepth 100000 in
set_option maxHeartbeats 2000000 in
theorem pNew0 (pc : PcR) (hok : pc.Ok) (hg : pc.Good) (hr : pc.rate = 0) (v u : Value) (w : World) (hv : Sl w v pc.c.flows.length 5 (pc.c.flows.flatMap enFl)) (hu : Sl w u pc.rl.length 7 (pc.rl.flatMap enR7)) (st : BkS) (hst : bkItems st = []) (hwf : bkWf st)
    (hmade : ∀ W, Kp none' w W → Calls Tryz.prog 84 #[.agg (enC pc.c v).toArray] W fun e w' => ∃ v Fb, e = .returned v ∧ BkM w' Fb v pc.c.packets.toNat st ∧ (∀ b, Fb b → W.heap.size ≤ b) ∧ Kp none' W w') :
    Calls Tryz.prog 25 #[.agg (enPc pc v u).toArray] w fun e w' => ∃ f, e = .returned (.tuple #[.pointer (some ⟨f.pb, 0, none⟩), .int .i64 0]) ∧ PoM w' f (poNew pc st) ∧ (∀ b, f.all b → w.heap.size ≤ b) ∧ w.heap.size ≤ f.lo ∧ Kp none' w w' := by
  have hmm := @run_makeMap Tryz.prog
  have HC := Lib.hid (fun W (k : Kp none' w W) => pCheckOk pc hok hg v u W (hv.old k) (hu.old k))
  have HN := Lib.hid (fun W (k : Kp none' w W) => shNew pc.c hok.c hg.chk v W (hv.old k) st hst hwf (fun W' k' => hmade W' (k.trans k')))
  have HR := Lib.hid (fun W (k : Kp none' w W) => tNewB pc.rl hok.rl hg.rules u W (hu.old k))
  have HOK : Hid (poNew pc st).Ok := Lib.hid ⟨hok.rl, hg.rules, by
    show (mtNew pc).Ok
    unfold mtNew
    rw [if_pos hr]
    exact ⟨⟨by decide, by decide, by decide, by decide, by decide⟩, fun h => absurd h (by decide)⟩, hg.y, by show (0 : Nat) < _; decide, fun b => by show ([] : List UInt8).length ≤ _; decide⟩
  have HPN : Hid (poNew pc st = ⟨shNewS pc.c st, pc.rl, Mt.zero, pc.y, fun _ => [], 0⟩) := Lib.hid (by unfold poNew mtNew; rw [if_pos hr])
  have hy := hok.y
  obtain ⟨ao, cap, rfl⟩ : ∃ ao cap, v = .slice ao pc.c.flows.length cap := by obtain ⟨ao, cap, rfl, _⟩ := hv.is; exact ⟨_, _, rfl⟩
  obtain ⟨ao', cap', rfl⟩ : ∃ ao cap, u = .slice ao pc.rl.length cap := by obtain ⟨ao, cap, rfl, _⟩ := hu.is; exact ⟨_, _, rfl⟩
  have HB0 := Lib.hid (Blk.new w (enPc pc (.slice ao pc.c.flows.length cap) (.slice ao' pc.rl.length cap')) 79)
  have HK0 := Lib.hid ((Kp.refl none' w).alloc (.cells (enPc pc (.slice ao pc.c.flows.length cap) (.slice ao' pc.rl.length cap')).toArray 79))
  obtain ⟨po, hpo⟩ : ∃ po, poNew pc st = po := ⟨_, rfl⟩
  rw [hpo] at HOK HPN ⊢
  refine calls_post ?_
  intro PP HP
  clear hok hg hv hu hst hwf hmade hpo
  obtain ⟨c, rl, rate, near, far, y⟩ := pc
  simp only at hr hy
  subst hr
  obtain ⟨sc, hsc⟩ : ∃ sc, shNewS c st = sc := ⟨_, rfl⟩
  simp only [hsc] at *
  clear hsc
  obtain ⟨rk, bk, lv, qu, pk, bt, sh, mt, rt, bu, fl⟩ := c
  simp only [enPc, enC, List.cons_append, List.nil_append] at *
  go_enter Tryz.func25, Tryz.ntmps25
  go_wp2_with fail
  refine (HC.out _ HK0.out).mono ?_
  rintro e w1 ⟨rfl, hk1⟩
  have HK1 := Lib.hid (HK0.out.trans hk1)
  have HB1 := Lib.hid (HB0.out.kp hk1 (fun x => x))
  have HBX := HB1
  have y0 := HBX.out.cell 0 rfl
  have y1 := HBX.out.cell 1 rfl
  have y2 := HBX.out.cell 2 rfl
  have y3 := HBX.out.cell 3 rfl
  have y4 := HBX.out.cell 4 rfl
  have y5 := HBX.out.cell 5 rfl
  have y6 := HBX.out.cell 6 rfl
  have y7 := HBX.out.cell 7 rfl
  have y8 := HBX.out.cell 8 rfl
  have y9 := HBX.out.cell 9 rfl
  have y10 := HBX.out.cell 10 rfl
  have y11 := HBX.out.cell 11 rfl
  have y12 := HBX.out.cell 12 rfl
  have y13 := HBX.out.cell 13 rfl
  have y14 := HBX.out.cell 14 rfl
  have y15 := HBX.out.cell 15 rfl
  have hsz1 := HK1.out.size
  have hs0 := HB1.out.lt
  clear hk1 HB0 HK0 HBX
  go_upto_region 5 with fail
  have hk2 : Kp none' w1 ((w1.alloc (.map #[] 0)).alloc (.cells #[.pointer none, .pointer none, .int .u64 0, .int .u64 0, .int .u64 0, .int .u64 0, .int .u64 0, .int .u8 y, .map (some w1.heap.size), .int .u32 0] 53)) := ((Kp.refl none' w1).alloc _).alloc _
  have hp2 : Blk ((w1.alloc (.map #[] 0)).alloc (.cells #[.pointer none, .pointer none, .int .u64 0, .int .u64 0, .int .u64 0, .int .u64 0, .int .u64 0, .int .u8 y, .map (some w1.heap.size), .int .u32 0] 53)) (w1.heap.size + 1) [.pointer none, .pointer none, .int .u64 0, .int .u64 0, .int .u64 0, .int .u64 0, .int .u64 0, .int .u8 y, .map (some w1.heap.size), .int .u32 0] 53 := by
    have := Blk.new (w1.alloc (.map #[] 0)) [.pointer none, .pointer none, .int .u64 0, .int .u64 0, .int .u64 0, .int .u64 0, .int .u64 0, .int .u8 y, .map (some w1.heap.size), .int .u32 0] 53
    rw [World.size_alloc] at this
    exact this
  have hm2 : WtM ((w1.alloc (.map #[] 0)).alloc (.cells #[.pointer none, .pointer none, .int .u64 0, .int .u64 0, .int .u64 0, .int .u64 0, .int .u64 0, .int .u8 y, .map (some w1.heap.size), .int .u32 0] 53)) w1.heap.size 0 (fun _ => []) := (wt_new w1).kp ((Kp.refl none' _).alloc _) (fun x => x)
  obtain ⟨W2, hW2⟩ : ∃ W2, (w1.alloc (.map #[] 0)).alloc (.cells #[.pointer none, .pointer none, .int .u64 0, .int .u64 0, .int .u64 0, .int .u64 0, .int .u64 0, .int .u8 y, .map (some w1.heap.size), .int .u32 0] 53) = W2 := ⟨_, rfl⟩
  obtain ⟨mb, hmb⟩ : ∃ mb, w1.heap.size = mb := ⟨_, rfl⟩
  obtain ⟨pb, hpb⟩ : ∃ pb, w1.heap.size + 1 = pb := ⟨_, rfl⟩
  rw [hW2] at hk2 hp2 hm2
  rw [hpb] at hp2
  rw [hmb] at hp2 hm2 hsz1 hs0
  rw [hW2, hpb, hmb]
  rw [hmb] at hpb
  have HK2 := Lib.hid (HK1.out.trans hk2)
  have HB2 := Lib.hid (HB1.out.kp hk2 (fun x => x))
  have HP2 := Lib.hid hp2
  have HM2 := Lib.hid hm2
  have HPB := Lib.hid hpb
  have hbl := hp2.lt
  have HBX := HB2
  clear y0 y1 y2 y3 y4 y5 y6 y7 y8 y9 y10 y11 y12 y13 y14 y15 hk2 hp2 hm2 hW2 hmb hpb HB1
  have y0 := HBX.out.cell 0 rfl
  have y1 := HBX.out.cell 1 rfl
  have y2 := HBX.out.cell 2 rfl
  have y3 := HBX.out.cell 3 rfl
  have y4 := HBX.out.cell 4 rfl
  have y5 := HBX.out.cell 5 rfl
  have y6 := HBX.out.cell 6 rfl
  have y7 := HBX.out.cell 7 rfl
  have y8 := HBX.out.cell 8 rfl
  have y9 := HBX.out.cell 9 rfl
  have y10 := HBX.out.cell 10 rfl
  have y11 := HBX.out.cell 11 rfl
  have y12 := HBX.out.cell 12 rfl
  have y13 := HBX.out.cell 13 rfl
  have y14 := HBX.out.cell 14 rfl
  have y15 := HBX.out.cell 15 rfl
  clear HBX
  go_wp2_with fail
  refine (HN.out _ HK2.out).mono ?_
  rintro e w3 ⟨f, rfl, hsh, hfa, hk3⟩
  have HSH3 := Lib.hid hsh
  have HFA := Lib.hid hfa
  have HK3 := Lib.hid (HK2.out.trans hk3)
  have HB3 := Lib.hid (HB2.out.kp hk3 (fun x => x))
  have HP3 := Lib.hid (HP2.out.kp hk3 (fun x => x))
  have HM3 := Lib.hid (HM2.out.kp hk3 (fun x => x))
  have HK23 := Lib.hid hk3
  have p0 := HP3.out.cell 0 rfl
  have z0 := HP3.out.fz 0
  clear y0 y1 y2 y3 y4 y5 y6 y7 y8 y9 y10 y11 y12 y13 y14 y15 hsh hfa hk3 HB2
  go_upto_region 6 with fail
  have hfal : ∀ b, f.all b → pb < b := fun b hb => by have := HFA.out b hb; omega
  have hpm : pb = mb + 1 := HPB.out.symm
  have ks : Kp (fun b => b = pb) w3 (w3.setCell ⟨pb, 0, none⟩ (.pointer (some ⟨f.sb, 0, none⟩))) := kp_at _ _ _ _
  have hp4 : Blk (w3.setCell ⟨pb, 0, none⟩ (.pointer (some ⟨f.sb, 0, none⟩))) pb [.pointer (some ⟨f.sb, 0, none⟩), .pointer none, .int .u64 0, .int .u64 0, .int .u64 0, .int .u64 0, .int .u64 0, .int .u8 y, .map (some mb), .int .u32 0] 53 := HP3.out.set 0 (.pointer (some ⟨f.sb, 0, none⟩))
  have hb4 := HB3.out.kp ks (by omega)
  have hm4 := HM3.out.kp ks (by omega)
  have hsh4 := HSH3.out.kp ks (fun b hb => by have := hfal b hb; omega)
  have hk4 : Kp none' w (w3.setCell ⟨pb, 0, none⟩ (.pointer (some ⟨f.sb, 0, none⟩))) := HK3.out.set (.inr (by show w.heap.size ≤ pb; omega)) _
  have hk24 : Kp none' W2 w3 := HK23.out
  obtain ⟨W4, hW4⟩ : ∃ W4, w3.setCell ⟨pb, 0, none⟩ (.pointer (some ⟨f.sb, 0, none⟩)) = W4 := ⟨_, rfl⟩
  have hs34 : w3.heap.size = W4.heap.size := by rw [← hW4]; simp [World.setCell]
  rw [hW4] at hp4 hb4 hm4 hsh4 hk4 ⊢
  have HP4 := Lib.hid hp4
  have HB4 := Lib.hid hb4
  have HM4 := Lib.hid hm4
  have HSH4 := Lib.hid hsh4
  have HK4 := Lib.hid hk4
  have HFL := Lib.hid hfal
  have hfu : ∀ b, f.all b → b < W4.heap.size := fun b hb => hsh4.lt hb
  have HFU := Lib.hid hfu
  have hpl4 := hp4.lt
  have HBX := HB4
  clear hpm p0 z0 hp4 hb4 hm4 hsh4 hk4 ks hW4 HP3 HM3 HSH3 HK3 HB3 hfal hfu
  have y0 := HBX.out.cell 0 rfl
  have y1 := HBX.out.cell 1 rfl
  have y2 := HBX.out.cell 2 rfl
  have y3 := HBX.out.cell 3 rfl
  have y4 := HBX.out.cell 4 rfl
  have y5 := HBX.out.cell 5 rfl
  have y6 := HBX.out.cell 6 rfl
  have y7 := HBX.out.cell 7 rfl
  have y8 := HBX.out.cell 8 rfl
  have y9 := HBX.out.cell 9 rfl
  have y10 := HBX.out.cell 10 rfl
  have y11 := HBX.out.cell 11 rfl
  have y12 := HBX.out.cell 12 rfl
  have y13 := HBX.out.cell 13 rfl
  have y14 := HBX.out.cell 14 rfl
  have y15 := HBX.out.cell 15 rfl
  clear HBX y0 y1 y2 y3 y4 y5 y6 y7 y8 y9
  go_wp2_with fail
  refine (HR.out _ HK4.out).mono ?_
  rintro e w5 ⟨tb, rfl, hru, hk5⟩
  have HP5 := Lib.hid (HP4.out.kp hk5 (fun x => x))
  have HB5 := Lib.hid (HB4.out.kp hk5 (fun x => x))
  have HM5 := Lib.hid (HM4.out.kp hk5 (fun x => x))
  have HSH5 := Lib.hid (HSH4.out.old hk5)
  have HRU5 := Lib.hid hru
  have HK5 := Lib.hid (HK4.out.trans hk5)
  have hs5 := hk5.size
  have p1 := HP5.out.cell 1 rfl
  have z1 := HP5.out.fz 1
  clear y10 y11 y12 y13 y14 y15 hru hk5 HP4 HB4 HM4 HSH4
  go_upto_region 7 with fail
  have hpm : pb = mb + 1 := HPB.out.symm
  have ks : Kp (fun b => b = pb) w5 (w5.setCell ⟨pb, 1, none⟩ (.pointer (some ⟨tb, 0, none⟩))) := kp_at _ _ _ _
  have hp6 := HP5.out.set 1 (.pointer (some ⟨tb, 0, none⟩))
  have hb6 := HB5.out.kp ks (by omega)
  have hm6 := HM5.out.kp ks (by omega)
  have hsh6 := HSH5.out.kp ks (fun b hb => by have := HFL.out b hb; omega)
  have hru6 := HRU5.out.kp ks (fun b h1 h2 => by omega)
  have hk6 : Kp none' w (w5.setCell ⟨pb, 1, none⟩ (.pointer (some ⟨tb, 0, none⟩))) := HK5.out.set (.inr (by show w.heap.size ≤ pb; omega)) _
  have hs6 : (w5.setCell ⟨pb, 1, none⟩ (.pointer (some ⟨tb, 0, none⟩))).heap.size = w5.heap.size := by simp [World.setCell]
  obtain ⟨W6, hW6⟩ : ∃ W6, w5.setCell ⟨pb, 1, none⟩ (.pointer (some ⟨tb, 0, none⟩)) = W6 := ⟨_, rfl⟩
  rw [hW6] at hp6 hb6 hm6 hsh6 hru6 hk6 hs6 ⊢
  have HFIN : Hid (PP (.returned (.tuple #[.pointer (some ⟨pb, 0, none⟩), .int .i64 0])) W6) := Lib.hid (HP.out _ _ ⟨⟨pb, mb, tb, W4.heap.size, w5.heap.size, f⟩, rfl, by
    refine ⟨?_, ?_, ?_, ?_, ?_, ?_, ?_, ?_, ?_, ?_, ?_, HOK.out⟩
    · rw [HPN.out]; exact hp6
    · rw [HPN.out]; exact hsh6
    · rw [HPN.out]; exact hru6
    · rw [HPN.out]; exact hm6
    · show pb ≠ mb; omega
    · intro h; have := HFL.out _ h; exact absurd this (Nat.lt_irrefl _)
    · intro h; have h2 : pb < mb := HFL.out _ h; omega
    · rintro ⟨h1, h2⟩; have h3 : W4.heap.size ≤ pb := h1; omega
    · rintro ⟨h1, h2⟩; have h3 : W4.heap.size ≤ mb := h1; omega
    · intro b hb; rintro ⟨h1, h2⟩; have h3 : W4.heap.size ≤ b := h1; have := HFU.out b hb; omega
    · show w5.heap.size ≤ _; omega,
    fun b hb => by
      rcases hb with hb | hb | hb
      · have h3 : b = pb := hb; omega
      · have h3 : b = mb := hb; omega
      · have := HFL.out b hb; omega, by show _ ≤ W4.heap.size; omega, hk6⟩)
  have HBX := Lib.hid hb6
  clear hpm p1 z1 hp6 hb6 hm6 hsh6 hru6 hk6 ks hW6 HP HOK HPN HP5 HB5 HM5 HSH5 HRU5 HFL HFU
  have y0 := HBX.out.cell 0 rfl
  have y1 := HBX.out.cell 1 rfl
  have y2 := HBX.out.cell 2 rfl
  have y3 := HBX.out.cell 3 rfl
  have y4 := HBX.out.cell 4 rfl
  have y5 := HBX.out.cell 5 rfl
  have y6 := HBX.out.cell 6 rfl
  have y7 := HBX.out.cell 7 rfl
  have y8 := HBX.out.cell 8 rfl
  have y9 := HBX.out.cell 9 rfl
  have y10 := HBX.out.cell 10 rfl
  have y11 := HBX.out.cell 11 rfl
  have y12 := HBX.out.cell 12 rfl
  have y13 := HBX.out.cell 13 rfl
  have y14 := HBX.out.cell 14 rfl
  have y15 := HBX.out.cell 15 rfl
  clear HBX y0 y1 y2 y3 y4 y5 y6 y7 y8 y9 y10 y11
  go_wp2_with fail
  exact HFIN.out
end Go.Proofs.YtfckgddodjmbdaaGreatDoor

namespace Go.Proofs.YtfckgddodjmbdaaGreatDoor
set_option linter.unusedVariables false
set_option linter.unusedSimpArgs false
open Go Go.RowKit Go.Shelf

theorem cat_size (a b : ByteArray) : (a ++ b).size = a.size + b.size := by rw [← bl_len, bl_app, List.length_append, bl_len, bl_len]
theorem hv_size (l : List Nat) : (tx (hvL l)).size = 2 * l.length := by rw [tx_size, hv_len]
def pA (h : HdR) (n : Nat) : List Nat := [17664 + h.ds * 4, n + 28, h.id, 0, h.ttl * 256 + 17]
def pB (h : HdR) : List Nat := [h.s / 65536, h.s % 65536, h.d / 65536, h.d % 65536]
def pD (h : HdR) (n : Nat) : List Nat := [h.sp, h.p, n + 8, 0]
theorem top_put (h : HdR) (n : Nat) : bl (tx (hvL (pA h n)) ++ ⟨#[0, 0]⟩ ++ tx (hvL (pB h))) = frontL h n ++ ([0, 0] ++ backL h) := by
  rw [bl_app, bl_app, bl_tx, bl_tx]
  have e : bl ⟨#[0, 0]⟩ = [0, 0] := rfl
  rw [e]
  simp only [hvL, pA, pB, frontL, backL, List.flatMap_cons, List.flatMap_nil, List.append_nil, List.append_assoc]
theorem put_str (h : HdR) (b : ByteArray) : tx (hvL (pA h b.size)) ++ tx (hvL [inetL (frontL h b.size ++ ([0, 0] ++ backL h))]) ++ tx (hvL (pB h)) ++ tx (hvL (pD h b.size)) ++ b = tx (putL h (bl b)) := by
  apply str_ext
  rw [bl_app, bl_app, bl_app, bl_app, bl_tx, bl_tx, bl_tx, bl_tx, bl_tx]
  unfold putL
  rw [bl_len]
  simp only [hvL, pA, pB, pD, frontL, backL, List.flatMap_cons, List.flatMap_nil, List.append_nil, List.append_assoc]
theorem halves_new (l : List Nat) (hl : ∀ x ∈ l, x < 65536) (h0 : 0 < l.length) (hn : l.length ≤ 1000) (W : World) : Calls Tryz.prog 59 #[.slice (some ⟨W.heap.size, 0, none⟩) l.length l.length] (W.alloc (.cells (u16c l).toArray 54)) fun e w' => e = .returned (.string (tx (hvL l))) ∧ Kp none' W w' := by
  refine (hHalves l hl h0 hn _ _ ⟨by simp [u16c], by omega, _, _, rfl, fun i u hu => ⟨_, 0, rfl, by rw [Nat.zero_add]; exact (Blk.new W (u16c l) 54).cell i hu⟩⟩).mono ?_
  rintro e w' ⟨h1, h2⟩
  exact ⟨h1, ((Kp.refl none' W).alloc _).trans h2⟩
set_option maxRecDepth 100000 in
set_option maxHeartbeats 2000000 in
theorem hPutOk (h : HdR) (hh : h.Fit) (hd : h.ds ≤ 63) (b : ByteArray) (hb : b.size ≤ 65507) (w : World) :
    Calls Tryz.prog 27 #[.agg (enHd h).toArray, .string b] w fun e w' => e = .returned (.tuple #[.string (tx (putL h (bl b))), .int .i64 0]) ∧ Kp none' w w' := by
  have q1 := hh.ok.s
  have q2 := hh.ok.d
  have q3 := hh.ok.p
  have q4 := hh.id
  have q5 := hh.ttl
  have q6 := hh.sp
  have hA := halves_new (pA h b.size) (fun x hx => by simp only [pA, List.mem_cons, List.not_mem_nil, or_false] at hx; omega) (by show 0 < 5; decide) (by show 5 ≤ _; decide)
  have hB := halves_new (pB h) (fun x hx => by simp only [pB, List.mem_cons, List.not_mem_nil, or_false] at hx; omega) (by show 0 < 4; decide) (by show 4 ≤ _; decide)
  have hD := halves_new (pD h b.size) (fun x hx => by simp only [pD, List.mem_cons, List.not_mem_nil, or_false] at hx; omega) (by show 0 < 4; decide) (by show 4 ≤ _; decide)
  have hT := top_put h b.size
  have hP := put_str h b
  have sA := hv_size (pA h b.size)
  have sB := hv_size (pB h)
  have sD := hv_size (pD h b.size)
  obtain ⟨I, hI⟩ : ∃ I, inetL (frontL h b.size ++ ([0, 0] ++ backL h)) = I := ⟨_, rfl⟩
  have hIl : I < 65536 := by rw [← hI]; exact inetL_lt _
  have hC := halves_new [I] (fun x hx => by simp only [List.mem_cons, List.not_mem_nil, or_false] at hx; omega) (by show 0 < 1; decide) (by show 1 ≤ _; decide)
  have sC := hv_size [I]
  rw [hI] at hP
  obtain ⟨tA, eA⟩ : ∃ t, tx (hvL (pA h b.size)) = t := ⟨_, rfl⟩
  obtain ⟨tB, eB⟩ : ∃ t, tx (hvL (pB h)) = t := ⟨_, rfl⟩
  obtain ⟨tC, eC⟩ : ∃ t, tx (hvL [I]) = t := ⟨_, rfl⟩
  obtain ⟨tD, eD⟩ : ∃ t, tx (hvL (pD h b.size)) = t := ⟨_, rfl⟩
  rw [eA] at hA hT hP sA
  rw [eB] at hB hT hP sB
  rw [eC] at hC hP sC
  rw [eD] at hD hP sD
  have sA : tA.size = 10 := sA
  have sB : tB.size = 8 := sB
  have sC : tC.size = 2 := sC
  have sD : tD.size = 8 := sD
  have x1 := cat_run (P := Tryz.prog) tA ⟨#[0, 0]⟩ (by rw [sA]; show 10 + 2 ≤ _; decide)
  have s1 : (tA ++ ⟨#[0, 0]⟩ : ByteArray).size = 12 := by rw [cat_size, sA]; rfl
  have x2 := cat_run (P := Tryz.prog) (tA ++ ⟨#[0, 0]⟩) tB (by rw [s1, sB]; decide)
  have x3 := cat_run (P := Tryz.prog) tA tC (by omega)
  have s3 : (tA ++ tC).size = 12 := by rw [cat_size]; omega
  have x4 := cat_run (P := Tryz.prog) (tA ++ tC) tB (by omega)
  have s4 : (tA ++ tC ++ tB).size = 20 := by rw [cat_size]; omega
  have x5 := cat_run (P := Tryz.prog) (tA ++ tC ++ tB) tD (by omega)
  have s5 : (tA ++ tC ++ tB ++ tD).size = 28 := by rw [cat_size]; omega
  have x6 := cat_run (P := Tryz.prog) (tA ++ tC ++ tB ++ tD) b (by omega)
  obtain ⟨T, hTe⟩ : ∃ T, tA ++ ⟨#[0, 0]⟩ ++ tB = T := ⟨_, rfl⟩
  rw [hTe] at hT x2
  have hTs : T.size = 20 := by rw [← hTe, cat_size]; omega
  have hin := fun W => calls_same (hInet T (by omega) W)
  rw [hT, hI] at hin
  have HIN := Lib.hid hin
  rw [← hP]
  clear hP hT hI hTe hTs hin eA eB eC eD s1 s3 s4 s5 sA sB sC sD
  obtain ⟨ds, id, ttl, s, d, sp, p⟩ := h
  simp only [pA, pB, pD, u16c, List.map_cons, List.map_nil, List.length_cons, List.length_nil] at hA hB hC hD
  simp only at q1 q2 q3 q4 q5 q6 hd
  rw [show ((17664 + ds * 4 : Nat) : Int) = 17664 + (ds : Int) * 4 by omega, show ((b.size + 28 : Nat) : Int) = (b.size : Int) + 28 by omega, show ((ttl * 256 + 17 : Nat) : Int) = (ttl : Int) * 256 + 17 by omega] at hA
  have HA : Hid (∀ W, Calls Tryz.prog 59 #[.slice (some ⟨W.heap.size, 0, none⟩) 5 5] (W.alloc (.cells #[.int .u16 (17664 + (ds : Int) * 4), .int .u16 ((b.size : Int) + 28), .int .u16 id, .int .u16 0, .int .u16 ((ttl : Int) * 256 + 17)] 54)) fun e w' => e = .returned (.string tA) ∧ Kp none' W w') := Lib.hid hA
  rw [show ((s / 65536 : Nat) : Int) = (s : Int) / 65536 by omega, show ((s % 65536 : Nat) : Int) = (s : Int) % 65536 by omega, show ((d / 65536 : Nat) : Int) = (d : Int) / 65536 by omega, show ((d % 65536 : Nat) : Int) = (d : Int) % 65536 by omega] at hB
  have HB : Hid (∀ W, Calls Tryz.prog 59 #[.slice (some ⟨W.heap.size, 0, none⟩) 4 4] (W.alloc (.cells #[.int .u16 ((s : Int) / 65536), .int .u16 ((s : Int) % 65536), .int .u16 ((d : Int) / 65536), .int .u16 ((d : Int) % 65536)] 54)) fun e w' => e = .returned (.string tB) ∧ Kp none' W w') := Lib.hid hB
  have HC : Hid (∀ W, Calls Tryz.prog 59 #[.slice (some ⟨W.heap.size, 0, none⟩) 1 1] (W.alloc (.cells #[.int .u16 I] 54)) fun e w' => e = .returned (.string tC) ∧ Kp none' W w') := Lib.hid hC
  rw [show ((b.size + 8 : Nat) : Int) = (b.size : Int) + 28 - 20 by omega] at hD
  have HD : Hid (∀ W, Calls Tryz.prog 59 #[.slice (some ⟨W.heap.size, 0, none⟩) 4 4] (W.alloc (.cells #[.int .u16 sp, .int .u16 p, .int .u16 ((b.size : Int) + 28 - 20), .int .u16 0] 54)) fun e w' => e = .returned (.string tD) ∧ Kp none' W w') := Lib.hid hD
  clear hA hB hC hD
  have i1 : ¬ (63 : Int) < ds := by omega
  have i2 : ¬ (65507 : Int) < b.size := by omega
  have HH0 := Lib.hid (Blk.new w [.int .u8 ds, .int .u16 id, .int .u8 ttl, .int .u32 s, .int .u32 d, .int .u16 sp, .int .u16 p] 56)
  have HK0 := Lib.hid ((Kp.refl none' w).alloc (.cells #[.int .u8 ds, .int .u16 id, .int .u8 ttl, .int .u32 s, .int .u32 d, .int .u16 sp, .int .u16 p] 56))
  simp only [enHd]
  go_enter Tryz.func27, Tryz.ntmps27
  go_wp2_with fail
  have ha := HA.out (w.alloc (.cells #[.int .u8 ds, .int .u16 id, .int .u8 ttl, .int .u32 s, .int .u32 d, .int .u16 sp, .int .u16 p] 56))
  rw [World.size_alloc] at ha
  refine ha.mono ?_
  clear ha
  rintro e w1 ⟨rfl, hk1⟩
  have HK1 := Lib.hid (HK0.out.trans hk1)
  have HH1 := Lib.hid (HH0.out.kp hk1 (fun x => x))
  clear hk1 HH0 HK0 HA
  have c13 := HH1.out.cell 3 rfl
  have c14 := HH1.out.cell 4 rfl
  have c15 := HH1.out.cell 5 rfl
  have c16 := HH1.out.cell 6 rfl
  go_wp2_with fail
  refine (HB.out _).mono ?_
  rintro e w2 ⟨rfl, hk2⟩
  have HK2 := Lib.hid (HK1.out.trans hk2)
  have HH2 := Lib.hid (HH1.out.kp hk2 (fun x => x))
  clear c13 c14 c15 c16 hk2 HH1 HK1
  go_wp2_with fail
  refine (HIN.out _).mono ?_
  rintro e w3 ⟨rfl, hk3⟩
  have HK3 := Lib.hid (HK2.out.trans hk3)
  have HH3 := Lib.hid (HH2.out.kp hk3 (fun x => x))
  clear hk3 HH2 HK2
  go_wp2_with fail
  refine (HC.out _).mono ?_
  rintro e w4 ⟨rfl, hk4⟩
  have HK4 := Lib.hid (HK3.out.trans hk4)
  have HH4 := Lib.hid (HH3.out.kp hk4 (fun x => x))
  clear hk4 HH3 HK3
  have c43 := HH4.out.cell 3 rfl
  have c44 := HH4.out.cell 4 rfl
  have c45 := HH4.out.cell 5 rfl
  have c46 := HH4.out.cell 6 rfl
  go_wp2_with fail
  refine (HD.out _).mono ?_
  rintro e w5 ⟨rfl, hk5⟩
  have HK5 := Lib.hid (HK4.out.trans hk5)
  have HH5 := Lib.hid (HH4.out.kp hk5 (fun x => x))
  clear c43 c44 c45 c46 hk5 HH4 HK4
  go_wp2_with fail
  go_ret2
  exact ⟨rfl, HK5.out⟩
end Go.Proofs.YtfckgddodjmbdaaGreatDoor

namespace Go.Proofs.YtfckgddodjmbdaaGreatDoor
set_option linter.unusedVariables false
set_option linter.unusedSimpArgs false
open Go Go.RowKit Go.Shelf Go.Maps

def hd9 : HdR := ⟨0, 0, 9, 0, 0, 0, 0⟩
def body4 : ByteArray := ⟨#[98, 111, 100, 121]⟩
def datX : List UInt8 := putL hd9 (bl body4)
def datY : List UInt8 := hopL datX
theorem x_take : takeE datX = 0 := by decide +kernel
theorem x_flow : flowN rlS (takeH datX).n = some 1 := by decide +kernel
theorem x_hop : hopE datX = 0 := by decide +kernel
theorem x_len : datX.length = 32 := by decide +kernel
theorem y_take : takeE datY = 0 := by decide +kernel
theorem y_ttl : (takeH datY).ttl = 8 := by decide +kernel
theorem y_body : datY.drop 28 = [98, 111, 100, 121] := by decide +kernel
theorem y_len : datY.length = 32 := by decide +kernel
def poS : Po := poNew pcS (.hp 0 [])
theorem s_may : mayG poS.s.g 1 32 = 0 := by decide +kernel
theorem s_deq1 : (deqS (enqS poS.s 1 1 32).2).1[1]? = some (.int .i64 0) := by kernel_rfl
theorem s_deq3 : (deqS (enqS poS.s 1 1 32).2).1[3]? = some (.int .u32 1) := by kernel_rfl
theorem pcS_ok : pcS.Ok := by
  refine ⟨⟨by show _ ≤ (2 : Int) ∧ (2 : Int) ≤ _; omega, by show _ ≤ (1 : Int) ∧ (1 : Int) ≤ _; omega, by show _ ≤ (1 : Int) ∧ (1 : Int) ≤ _; omega, by show _ ≤ (2 : Int) ∧ (2 : Int) ≤ _; omega, by show _ ≤ (9 : Int) ∧ (9 : Int) ≤ _; omega, by show 5000 < M64; decide, by show _ ≤ (0 : Int) ∧ (0 : Int) ≤ _; omega, by show 1000 < M64; decide, by show 1000 < M64; decide, by show 1000 < M64; decide, fun f hf => ?_⟩, fun r hr => ?_, by decide, by decide, by decide, by decide⟩
  · have : f = ⟨1, 1, 10, 0, 5000⟩ ∨ f = ⟨2, 1, 20, 0, 50⟩ := by simpa [pcS, cS, flowsS] using hf
    rcases this with rfl | rfl
    · exact ⟨by decide, by decide, by decide, by decide, by decide⟩
    · exact ⟨by decide, by decide, by decide, by decide, by decide⟩
  · have : r = ⟨(0, 0), (0, 0), 0, 65535, 1⟩ := by simpa [pcS, rlS] using hr
    subst this
    exact ⟨⟨by decide, by decide, by decide⟩, ⟨by decide, by decide, by decide⟩, by decide, by decide, by decide⟩
theorem pcS_good : pcS.Good := ⟨by decide, by decide +kernel, .inl rfl, by decide⟩
end Go.Proofs.YtfckgddodjmbdaaGreatDoor

namespace Go.Proofs.YtfckgddodjmbdaaGreatDoor
set_option linter.unusedVariables false
set_option linter.unusedSimpArgs false
open Go Go.RowKit Go.Shelf Go.Maps

theorem blk_sl {w : World} {b : Nat} {cs : List Value} {t : TypeId} (h : Blk w b cs t) (n sz : Nat) (hl : cs.length = n * sz) (hn : n ≤ 1000000) : Sl w (.slice (some ⟨b, 0, none⟩) n n) n sz cs :=
  ⟨hl, by omega, _, _, rfl, fun i u hu => ⟨b, 0, rfl, by rw [Nat.zero_add]; exact h.cell i hu⟩⟩
theorem newS (w : World) (b b2 : Nat) (h : Blk w b (flowsS.flatMap enFl) 158) (h2 : Blk w b2 (rlS.flatMap enR7) 160) :
    Calls Tryz.prog 25 #[.agg (enPc pcS (.slice (some ⟨b, 0, none⟩) 2 2) (.slice (some ⟨b2, 0, none⟩) 1 1)).toArray] w fun e w' => ∃ f, e = .returned (.tuple #[.pointer (some ⟨f.pb, 0, none⟩), .int .i64 0]) ∧ PoM w' f poS ∧ (∀ b, f.all b → w.heap.size ≤ b) ∧ w.heap.size ≤ f.lo ∧ Kp none' w w' :=
  pNew0 pcS pcS_ok pcS_good rfl _ _ w (blk_sl h 2 5 rfl (by decide)) (blk_sl h2 1 7 rfl (by decide)) (.hp 0 []) rfl trivial
    (fun W _ => (madeH cS _ W rfl (by decide) (by decide)).mono fun e w' ⟨b, F, h1, h2, h3, h4⟩ => ⟨hpV b, F, h1, ⟨b, rfl, h2⟩, h3, h4⟩)
def poS1 : Po := { poS with m := (colP poS.m 32).1, s := (enqS poS.s 1 1 32).2, num := 1, wt := fun k => if k = 1 then datY else poS.wt k }
theorem x_size : (tx datX).size = 32 := by rw [tx_size, x_len]
theorem arrS {w : World} {f : PoF} (h : PoM w f poS) (hT : Tab w) :
    Calls Tryz.prog 5 #[.pointer (some ⟨f.pb, 0, none⟩), .string (tx datX)] w fun e w' => e = .returned (.tuple #[.int .u32 1, .int .i64 0]) ∧ PoTo w f poS1 w' := by
  have := pArrGYes h hT (tx datX) (by rw [x_size]; decide) (by rw [bl_tx]; exact x_take) 1 (by rw [bl_tx]; exact x_flow) (by rw [bl_tx]; exact x_hop) (pCol0 poS _ rfl) rfl (by show 0 < _; decide) (by show 0 + 1 < _; decide) (by rw [x_size]; exact s_may)
  rw [x_size, bl_tx] at this
  exact this
theorem leaS {w : World} {f : PoF} (h : PoM w f poS1) :
    Calls Tryz.prog 6 #[.pointer (some ⟨f.pb, 0, none⟩)] w fun e w' => e = .returned (.tuple #[.string (tx datY), .int .i64 0]) ∧ ∃ p2 : Po, p2.num = 1 ∧ PoTo w f p2 w' := by
  refine (pLeaYes h 1 (by decide) s_deq1 s_deq3 (by decide +kernel)).mono ?_
  rintro e w' ⟨rfl, h2⟩
  exact ⟨rfl, _, rfl, h2⟩
theorem y_str : (tx datY).extract 28 (tx datY).size = ⟨#[98, 111, 100, 121]⟩ := by
  apply str_ext
  rw [bl_cut, bl_tx, y_body, tx_size, y_len]
  rfl
set_option maxRecDepth 100000 in
set_option maxHeartbeats 2000000 in
theorem livesP (w : World) (hT : Tab w) : Calls Tryz.prog 10 #[] w fun e w' => e = .returned (.bool true) ∧ Kp none' w w' := by
  have HS := Lib.hid (fun W => someP W)
  have hpu := fun W => hPutOk hd9 ⟨⟨by decide, by decide, by decide⟩, by decide, by decide, by decide, by decide⟩ (by decide) body4 (by decide) W
  have HPU : Hid (∀ W, Calls Tryz.prog 27 #[.agg #[.int .u8 0, .int .u16 0, .int .u8 9, .int .u32 0, .int .u32 0, .int .u16 0, .int .u16 0], .string ⟨#[98, 111, 100, 121]⟩] W fun e w' => e = .returned (.tuple #[.string (tx datX), .int .i64 0]) ∧ Kp none' W w') := Lib.hid hpu
  have ht := fun W => hTakeOk (tx datY) (by rw [tx_size, y_len]; decide) (by rw [bl_tx]; exact y_take) W
  rw [y_str, bl_tx] at ht
  have HTK := Lib.hid ht
  obtain ⟨H, hH⟩ : ∃ H, takeH datY = H := ⟨_, rfl⟩
  have h8 := y_ttl
  rw [hH] at HTK h8
  obtain ⟨ds, id, ttl, sr, d, sp, dp⟩ := H
  simp only at h8
  subst h8
  simp only [enHd] at HTK
  have HT := Lib.hid hT
  clear hpu ht hH hT
  go_enter Tryz.func10, Tryz.ntmps10
  go_wp2_with fail
  refine (HS.out _).mono ?_
  rintro e w1 ⟨b, b2, rfl, hb, hb2, hl1, hl2, hk1⟩
  have HK1 := Lib.hid hk1
  have HN := Lib.hid (newS w1 b b2 hb hb2)
  clear hb hb2 hl1 hl2 hk1
  go_wp2_with fail
  refine (HN.out).mono ?_
  rintro e w2 ⟨f, rfl, hpo, hfa, hlo, hk2⟩
  have HPO2 := Lib.hid hpo
  have HFA := Lib.hid (fun b hb => Nat.le_trans HK1.out.size (hfa b hb))
  have HK2 := Lib.hid (HK1.out.trans hk2)
  obtain ⟨pb, hpb⟩ : ∃ pb, f.pb = pb := ⟨_, rfl⟩
  have HPB := Lib.hid hpb
  rw [hpb]
  clear hpo hfa hlo hk2 hpb HN
  go_wp2_with fail
  refine (HPU.out _).mono ?_
  rintro e w3 ⟨rfl, hk3⟩
  have HK3 := Lib.hid (HK2.out.trans hk3)
  have ha := arrS (HPO2.out.old hk3) (HT.out.kp HK3.out (fun x => x))
  rw [HPB.out] at ha
  have HA := Lib.hid ha
  clear hk3 ha HPO2 HK2
  go_wp2_with fail
  refine (HA.out).mono ?_
  rintro e w4 ⟨rfl, f4, hm4, hk4, hn4, hpb4, _, _⟩
  have HK4 : Hid (Kp none' w w4) := Lib.hid (HK3.out.then hk4 (fun i hi h => by have := HFA.out i h; omega))
  have hfa4 : ∀ b, f4.all b → w.heap.size ≤ b := fun b hb => by
    rcases hn4 b hb with e | e
    · exact HFA.out b e
    · have := HK3.out.size; omega
  have HFA4 := Lib.hid hfa4
  have hl := leaS hm4
  rw [hpb4, HPB.out] at hl
  have HL := Lib.hid hl
  have HPB4 : Hid (f4.pb = pb) := Lib.hid (by rw [hpb4, HPB.out])
  clear hm4 hk4 hn4 hpb4 hfa4 hl HA HK3
  go_wp2_with fail
  refine (HL.out).mono ?_
  rintro e w5 ⟨rfl, p2, hp2, f5, hm5, hk5, hn5, hpb5, _, _⟩
  have HK5 : Hid (Kp none' w w5) := Lib.hid (HK4.out.then hk5 (fun i hi h => by have := HFA4.out i h; omega))
  have HM5 := Lib.hid hm5
  have HPB5 : Hid (f5.pb = pb) := Lib.hid (by rw [hpb5, HPB4.out])
  have HP2 := Lib.hid hp2
  clear hm5 hk5 hn5 hpb5 hp2 HL HK4
  go_wp2_with fail
  refine (HTK.out _).mono ?_
  rintro e w6 ⟨rfl, hk6⟩
  have hk6' := hk6.alloc (.cells #[.int .u8 ds, .int .u16 id, .int .u8 8, .int .u32 sr, .int .u32 d, .int .u16 sp, .int .u16 dp] 56)
  have HK6 := Lib.hid (HK5.out.trans hk6')
  have hnm := pNum (HM5.out.old hk6')
  rw [HPB5.out, HP2.out] at hnm
  have HNM := Lib.hid hnm
  clear hk6 hk6' hnm HM5 HK5
  go_wp2_with fail
  refine (HNM.out).mono ?_
  rintro e w7 ⟨rfl, rfl⟩
  go_wp2_with fail
  go_ret
  exact ⟨rfl, HK6.out⟩
end Go.Proofs.YtfckgddodjmbdaaGreatDoor

namespace Go.Proofs.YtfckgddodjmbdaaGreatDoor
set_option linter.unusedVariables false
set_option linter.unusedSimpArgs false
open Go Go.RowKit Go.Shelf Go.Maps

set_option maxRecDepth 100000 in
set_option maxHeartbeats 2000000 in
theorem nobodyP (s : ByteArray) (ticks : Nat) (w : World) (hT : Tab w) : Calls Tryz.prog 3 #[.string s, .int .u64 ticks] w fun e w' => e = .returned (.bool true) ∧ Kp none' w w' := by
  have HA := Lib.hid (fun W => nArr s W)
  have HL := Lib.hid (fun W => nLea W)
  have HC := Lib.hid (fun W => nTick ticks W)
  have HS := Lib.hid (fun W => nStats W)
  have HN := Lib.hid (fun W => nNum W)
  have HV := Lib.hid (fun W (k : Kp none' w W) => livesP W (hT.kp k (fun x => x)))
  have heq : ∀ W, (binOp .eql 33 (.agg zSt.toArray) (.agg #[.int .u64 0, .int .u64 0, .int .i64 0, .int .u64 0, .int .u64 0, .int .u64 0, .int .u64 0, .int .u64 0, .int .u64 0, .int .u64 0, .int .u64 0, .int .u64 0, .int .u64 0, .int .u64 0, .int .u64 0, .int .u64 0, .int .u64 0, .int .u64 0, .int .u64 0, .int .u64 0, .int .u64 0, .int .u64 0, .int .u64 0, .int .u64 0, .int .u64 0, .int .u64 0, .int .u64 0, .int .u64 0, .int .u64 0, .int .u64 0, .int .u64 0, .int .u64 0, .int .u64 0, .int .u64 0, .int .u64 0, .int .u64 0])).run Tryz.prog W = .ok (.bool true) W := fun _ => by kernel_rfl
  clear hT
  go_enter Tryz.func3, Tryz.ntmps3
  go_wp2_with fail
  refine (HA.out _).mono ?_
  rintro e w1 ⟨rfl, rfl⟩
  go_wp2_with fail
  refine (HL.out _).mono ?_
  rintro e w2 ⟨rfl, rfl⟩
  go_wp2_with fail
  refine (HC.out _).mono ?_
  rintro e w3 ⟨rfl, rfl⟩
  go_wp2_with fail
  refine (HS.out _).mono ?_
  rintro e w4 ⟨rfl, hk4⟩
  have HK4 := Lib.hid hk4
  clear hk4
  go_wp2_with fail
  refine (HN.out _).mono ?_
  rintro e w5 ⟨rfl, rfl⟩
  go_wp2_with fail
  refine (HV.out _ HK4.out).mono ?_
  rintro e w6 ⟨rfl, hk6⟩
  have HK6 := Lib.hid (HK4.out.trans hk6)
  clear hk6
  go_wp2_with fail
  go_ret
  exact ⟨rfl, HK6.out⟩
end Go.Proofs.YtfckgddodjmbdaaGreatDoor
