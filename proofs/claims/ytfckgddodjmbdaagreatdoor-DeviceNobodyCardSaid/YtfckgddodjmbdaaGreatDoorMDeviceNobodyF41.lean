/- A port made (layer 36). -/
import Derived.Test.YtfckgddodjmbdaaGreatDoorMDeviceNobodyF36
import Derived.Test.YtfckgddodjmbdaaGreatDoorMDeviceNobodyF37
import Derived.Test.YtfckgddodjmbdaaGreatDoorMDeviceNobodyF27
import Derived.Test.YtfckgddodjmbdaaGreatDoorMDeviceNobodyF35
import Derived.Test.YtfckgddodjmbdaaGreatDoorMDeviceNobodyF6
import Derived.Conc.LoneSelect
import Derived.Laws.Rows
import Derived.Test.YtfckgddodjmbdaaGreatDoorMDeviceNobodyF8
import Derived.Test.YtfckgddodjmbdaaGreatDoorMDeviceNobodyF40
namespace Go.Proofs.YtfckgddodjmbdaaGreatDoor
set_option linter.unusedVariables false
set_option linter.unusedSimpArgs false
open Go Go.RowKit Go.Shelf Go.Maps
def mtNew (pc : PcR) : Mt := if pc.rate = 0 then Mt.zero else ⟨pc.rate, pc.near, pc.far, pc.near, pc.far⟩
def poNew (pc : PcR) (st : BkS) : Po := ⟨shNewS pc.c st, pc.rl, mtNew pc, pc.y, fun _ => [], 0⟩
theorem wt_new (w : World) : WtM (w.alloc (.map #[] 0)) w.heap.size 0 (fun _ => []) := ⟨0, .map [], World.ownsMap_made w _ _ _, Nat.le_refl _, fun _ _ => rfl⟩
set_option maxRecDepth 100000 in
set_option maxHeartbeats 2000000 in
theorem pNew0 (pc : PcR) (hok : pc.Ok) (hg : pc.Good) (hr : pc.rate = 0) (h5 : pc.rl.length ≤ 5) (v u : Value) (w : World) (hv : Sl w v pc.c.flows.length 5 (pc.c.flows.flatMap enFl)) (hu : Sl w u pc.rl.length 7 (pc.rl.flatMap enR7)) (st : BkS) (hst : bkItems st = []) (hwf : bkWf st)
    (hmade : ∀ W, Kp none' w W → Calls Tryz.prog 84 #[.agg (enC pc.c v).toArray] W fun e w' => ∃ v Fb, e = .returned v ∧ BkM w' Fb v pc.c.packets.toNat st ∧ (∀ b, Fb b → W.heap.size ≤ b) ∧ Kp none' W w') :
    Calls Tryz.prog 25 #[.agg (enPc pc v u).toArray] w fun e w' => ∃ f, e = .returned (.tuple #[.pointer (some ⟨f.pb, 0, none⟩), .int .i64 0]) ∧ PoM w' f (poNew pc st) ∧ (∀ b, f.all b → w.heap.size ≤ b) ∧ w.heap.size ≤ f.lo ∧ Kp none' w w' := by
  have hmm := @run_makeMap Tryz.prog
  have HC := Lib.hid (fun W (k : Kp none' w W) => pCheckOk pc hok hg v u W (hv.old k) (hu.old k))
  have HN := Lib.hid (fun W (k : Kp none' w W) => shNew pc.c hok.c hg.chk v W (hv.old k) st hst hwf (fun W' k' => hmade W' (k.trans k')))
  have HR := Lib.hid (fun W (k : Kp none' w W) => tNewB pc.rl hok.rl hg.rules h5 u W (hu.old k))
  clear h5
  have HOK : Hid (poNew pc st).Ok := Lib.hid ⟨hok.rl, hg.rules, by
    show (mtNew pc).Ok
    unfold mtNew
    rw [if_pos hr]
    exact ⟨⟨by decide, by decide, by decide, by decide, by decide⟩, fun h => absurd h (by decide)⟩, hg.y, by show (0 : Nat) < _; decide, fun b => by show ([] : List UInt8).length ≤ _; decide⟩
  have HPN : Hid (poNew pc st = ⟨shNewS pc.c st, pc.rl, Mt.zero, pc.y, fun _ => [], 0⟩) := Lib.hid (by unfold poNew mtNew; rw [if_pos hr])
  have hy := hok.y
  obtain ⟨ao, cap, rfl⟩ : ∃ ao cap, v = .slice ao pc.c.flows.length cap := by obtain ⟨ao, cap, rfl, _⟩ := hv.is; exact ⟨_, _, rfl⟩
  obtain ⟨ao', cap', rfl⟩ : ∃ ao cap, u = .slice ao pc.rl.length cap := by obtain ⟨ao, cap, rfl, _⟩ := hu.is; exact ⟨_, _, rfl⟩
  have HB0 := Lib.hid (Blk.new w (enPc pc (.slice ao pc.c.flows.length cap) (.slice ao' pc.rl.length cap')) 79)
  have HK0 := Lib.hid ((Kp.refl none' w).alloc (.cells (enPc pc (.slice ao pc.c.flows.length cap) (.slice ao' pc.rl.length cap')).toArray 79))
  obtain ⟨po, hpo⟩ : ∃ po, poNew pc st = po := ⟨_, rfl⟩
  rw [hpo] at HOK HPN ⊢
  refine calls_post ?_
  intro PP HP
  clear hok hg hv hu hst hwf hmade hpo
  obtain ⟨c, rl, rate, near, far, y⟩ := pc
  simp only at hr hy
  subst hr
  obtain ⟨sc, hsc⟩ : ∃ sc, shNewS c st = sc := ⟨_, rfl⟩
  simp only [hsc] at *
  clear hsc
  obtain ⟨rk, bk, lv, qu, pk, bt, sh, mt, rt, bu, fl⟩ := c
  simp only [enPc, enC, List.cons_append, List.nil_append] at *
  go_enter Tryz.func25, Tryz.ntmps25
  go_wp2_with fail
  refine (HC.out _ HK0.out).mono ?_
  rintro e w1 ⟨rfl, hk1⟩
  have HK1 := Lib.hid (HK0.out.trans hk1)
  have HB1 := Lib.hid (HB0.out.kp hk1 (fun x => x))
  have HBX := HB1
  have y0 := HBX.out.cell 0 rfl
  have y1 := HBX.out.cell 1 rfl
  have y2 := HBX.out.cell 2 rfl
  have y3 := HBX.out.cell 3 rfl
  have y4 := HBX.out.cell 4 rfl
  have y5 := HBX.out.cell 5 rfl
  have y6 := HBX.out.cell 6 rfl
  have y7 := HBX.out.cell 7 rfl
  have y8 := HBX.out.cell 8 rfl
  have y9 := HBX.out.cell 9 rfl
  have y10 := HBX.out.cell 10 rfl
  have y11 := HBX.out.cell 11 rfl
  have y12 := HBX.out.cell 12 rfl
  have y13 := HBX.out.cell 13 rfl
  have y14 := HBX.out.cell 14 rfl
  have y15 := HBX.out.cell 15 rfl
  have hsz1 := HK1.out.size
  have hs0 := HB1.out.lt
  clear hk1 HB0 HK0 HBX
  go_upto_region 5 with fail
  have hk2 : Kp none' w1 ((w1.alloc (.map #[] 0)).alloc (.cells #[.pointer none, .pointer none, .int .u64 0, .int .u64 0, .int .u64 0, .int .u64 0, .int .u64 0, .int .u8 y, .map (some w1.heap.size), .int .u32 0] 53)) := ((Kp.refl none' w1).alloc _).alloc _
  have hp2 : Blk ((w1.alloc (.map #[] 0)).alloc (.cells #[.pointer none, .pointer none, .int .u64 0, .int .u64 0, .int .u64 0, .int .u64 0, .int .u64 0, .int .u8 y, .map (some w1.heap.size), .int .u32 0] 53)) (w1.heap.size + 1) [.pointer none, .pointer none, .int .u64 0, .int .u64 0, .int .u64 0, .int .u64 0, .int .u64 0, .int .u8 y, .map (some w1.heap.size), .int .u32 0] 53 := by
    have := Blk.new (w1.alloc (.map #[] 0)) [.pointer none, .pointer none, .int .u64 0, .int .u64 0, .int .u64 0, .int .u64 0, .int .u64 0, .int .u8 y, .map (some w1.heap.size), .int .u32 0] 53
    rw [World.size_alloc] at this
    exact this
  have hm2 : WtM ((w1.alloc (.map #[] 0)).alloc (.cells #[.pointer none, .pointer none, .int .u64 0, .int .u64 0, .int .u64 0, .int .u64 0, .int .u64 0, .int .u8 y, .map (some w1.heap.size), .int .u32 0] 53)) w1.heap.size 0 (fun _ => []) := (wt_new w1).kp ((Kp.refl none' _).alloc _) (fun x => x)
  obtain ⟨W2, hW2⟩ : ∃ W2, (w1.alloc (.map #[] 0)).alloc (.cells #[.pointer none, .pointer none, .int .u64 0, .int .u64 0, .int .u64 0, .int .u64 0, .int .u64 0, .int .u8 y, .map (some w1.heap.size), .int .u32 0] 53) = W2 := ⟨_, rfl⟩
  obtain ⟨mb, hmb⟩ : ∃ mb, w1.heap.size = mb := ⟨_, rfl⟩
  obtain ⟨pb, hpb⟩ : ∃ pb, w1.heap.size + 1 = pb := ⟨_, rfl⟩
  rw [hW2] at hk2 hp2 hm2
  rw [hpb] at hp2
  rw [hmb] at hp2 hm2 hsz1 hs0
  rw [hW2, hpb, hmb]
  rw [hmb] at hpb
  have HK2 := Lib.hid (HK1.out.trans hk2)
  have HB2 := Lib.hid (HB1.out.kp hk2 (fun x => x))
  have HP2 := Lib.hid hp2
  have HM2 := Lib.hid hm2
  have HPB := Lib.hid hpb
  have hbl := hp2.lt
  have HBX := HB2
  clear y0 y1 y2 y3 y4 y5 y6 y7 y8 y9 y10 y11 y12 y13 y14 y15 hk2 hp2 hm2 hW2 hmb hpb HB1
  have y0 := HBX.out.cell 0 rfl
  have y1 := HBX.out.cell 1 rfl
  have y2 := HBX.out.cell 2 rfl
  have y3 := HBX.out.cell 3 rfl
  have y4 := HBX.out.cell 4 rfl
  have y5 := HBX.out.cell 5 rfl
  have y6 := HBX.out.cell 6 rfl
  have y7 := HBX.out.cell 7 rfl
  have y8 := HBX.out.cell 8 rfl
  have y9 := HBX.out.cell 9 rfl
  have y10 := HBX.out.cell 10 rfl
  have y11 := HBX.out.cell 11 rfl
  have y12 := HBX.out.cell 12 rfl
  have y13 := HBX.out.cell 13 rfl
  have y14 := HBX.out.cell 14 rfl
  have y15 := HBX.out.cell 15 rfl
  clear HBX
  go_wp2_with fail
  refine (HN.out _ HK2.out).mono ?_
  rintro e w3 ⟨f, rfl, hsh, hfa, hk3⟩
  have HSH3 := Lib.hid hsh
  have HFA := Lib.hid hfa
  have HK3 := Lib.hid (HK2.out.trans hk3)
  have HB3 := Lib.hid (HB2.out.kp hk3 (fun x => x))
  have HP3 := Lib.hid (HP2.out.kp hk3 (fun x => x))
  have HM3 := Lib.hid (HM2.out.kp hk3 (fun x => x))
  have HK23 := Lib.hid hk3
  have p0 := HP3.out.cell 0 rfl
  have z0 := HP3.out.fz 0
  clear y0 y1 y2 y3 y4 y5 y6 y7 y8 y9 y10 y11 y12 y13 y14 y15 hsh hfa hk3 HB2
  go_upto_region 6 with fail
  have hfal : ∀ b, f.all b → pb < b := fun b hb => by have := HFA.out b hb; omega
  have hpm : pb = mb + 1 := HPB.out.symm
  have ks : Kp (fun b => b = pb) w3 (w3.setCell ⟨pb, 0, none⟩ (.pointer (some ⟨f.sb, 0, none⟩))) := kp_at _ _ _ _
  have hp4 : Blk (w3.setCell ⟨pb, 0, none⟩ (.pointer (some ⟨f.sb, 0, none⟩))) pb [.pointer (some ⟨f.sb, 0, none⟩), .pointer none, .int .u64 0, .int .u64 0, .int .u64 0, .int .u64 0, .int .u64 0, .int .u8 y, .map (some mb), .int .u32 0] 53 := HP3.out.set 0 (.pointer (some ⟨f.sb, 0, none⟩))
  have hb4 := HB3.out.kp ks (by omega)
  have hm4 := HM3.out.kp ks (by omega)
  have hsh4 := HSH3.out.kp ks (fun b hb => by have := hfal b hb; omega)
  have hk4 : Kp none' w (w3.setCell ⟨pb, 0, none⟩ (.pointer (some ⟨f.sb, 0, none⟩))) := HK3.out.set (.inr (by show w.heap.size ≤ pb; omega)) _
  have hk24 : Kp none' W2 w3 := HK23.out
  obtain ⟨W4, hW4⟩ : ∃ W4, w3.setCell ⟨pb, 0, none⟩ (.pointer (some ⟨f.sb, 0, none⟩)) = W4 := ⟨_, rfl⟩
  have hs34 : w3.heap.size = W4.heap.size := by rw [← hW4]; simp [World.setCell]
  rw [hW4] at hp4 hb4 hm4 hsh4 hk4 ⊢
  have HP4 := Lib.hid hp4
  have HB4 := Lib.hid hb4
  have HM4 := Lib.hid hm4
  have HSH4 := Lib.hid hsh4
  have HK4 := Lib.hid hk4
  have HFL := Lib.hid hfal
  have hfu : ∀ b, f.all b → b < W4.heap.size := fun b hb => hsh4.lt hb
  have HFU := Lib.hid hfu
  have hpl4 := hp4.lt
  have HBX := HB4
  clear hpm p0 z0 hp4 hb4 hm4 hsh4 hk4 ks hW4 HP3 HM3 HSH3 HK3 HB3 hfal hfu
  have y0 := HBX.out.cell 0 rfl
  have y1 := HBX.out.cell 1 rfl
  have y2 := HBX.out.cell 2 rfl
  have y3 := HBX.out.cell 3 rfl
  have y4 := HBX.out.cell 4 rfl
  have y5 := HBX.out.cell 5 rfl
  have y6 := HBX.out.cell 6 rfl
  have y7 := HBX.out.cell 7 rfl
  have y8 := HBX.out.cell 8 rfl
  have y9 := HBX.out.cell 9 rfl
  have y10 := HBX.out.cell 10 rfl
  have y11 := HBX.out.cell 11 rfl
  have y12 := HBX.out.cell 12 rfl
  have y13 := HBX.out.cell 13 rfl
  have y14 := HBX.out.cell 14 rfl
  have y15 := HBX.out.cell 15 rfl
  clear HBX y0 y1 y2 y3 y4 y5 y6 y7 y8 y9
  go_wp2_with fail
  refine (HR.out _ HK4.out).mono ?_
  rintro e w5 ⟨tb, rfl, hru, hk5⟩
  have HP5 := Lib.hid (HP4.out.kp hk5 (fun x => x))
  have HB5 := Lib.hid (HB4.out.kp hk5 (fun x => x))
  have HM5 := Lib.hid (HM4.out.kp hk5 (fun x => x))
  have HSH5 := Lib.hid (HSH4.out.old hk5)
  have HRU5 := Lib.hid hru
  have HK5 := Lib.hid (HK4.out.trans hk5)
  have hs5 := hk5.size
  have p1 := HP5.out.cell 1 rfl
  have z1 := HP5.out.fz 1
  clear y10 y11 y12 y13 y14 y15 hru hk5 HP4 HB4 HM4 HSH4
  go_upto_region 7 with fail
  have hpm : pb = mb + 1 := HPB.out.symm
  have ks : Kp (fun b => b = pb) w5 (w5.setCell ⟨pb, 1, none⟩ (.pointer (some ⟨tb, 0, none⟩))) := kp_at _ _ _ _
  have hp6 := HP5.out.set 1 (.pointer (some ⟨tb, 0, none⟩))
  have hb6 := HB5.out.kp ks (by omega)
  have hm6 := HM5.out.kp ks (by omega)
  have hsh6 := HSH5.out.kp ks (fun b hb => by have := HFL.out b hb; omega)
  have hru6 := HRU5.out.kp ks (fun b h1 h2 => by omega)
  have hk6 : Kp none' w (w5.setCell ⟨pb, 1, none⟩ (.pointer (some ⟨tb, 0, none⟩))) := HK5.out.set (.inr (by show w.heap.size ≤ pb; omega)) _
  have hs6 : (w5.setCell ⟨pb, 1, none⟩ (.pointer (some ⟨tb, 0, none⟩))).heap.size = w5.heap.size := by simp [World.setCell]
  obtain ⟨W6, hW6⟩ : ∃ W6, w5.setCell ⟨pb, 1, none⟩ (.pointer (some ⟨tb, 0, none⟩)) = W6 := ⟨_, rfl⟩
  rw [hW6] at hp6 hb6 hm6 hsh6 hru6 hk6 hs6 ⊢
  have HFIN : Hid (PP (.returned (.tuple #[.pointer (some ⟨pb, 0, none⟩), .int .i64 0])) W6) := Lib.hid (HP.out _ _ ⟨⟨pb, mb, tb, W4.heap.size, w5.heap.size, f⟩, rfl, by
    refine ⟨?_, ?_, ?_, ?_, ?_, ?_, ?_, ?_, ?_, ?_, ?_, HOK.out⟩
    · rw [HPN.out]; exact hp6
    · rw [HPN.out]; exact hsh6
    · rw [HPN.out]; exact hru6
    · rw [HPN.out]; exact hm6
    · show pb ≠ mb; omega
    · intro h; have := HFL.out _ h; exact absurd this (Nat.lt_irrefl _)
    · intro h; have h2 : pb < mb := HFL.out _ h; omega
    · rintro ⟨h1, h2⟩; have h3 : W4.heap.size ≤ pb := h1; omega
    · rintro ⟨h1, h2⟩; have h3 : W4.heap.size ≤ mb := h1; omega
    · intro b hb; rintro ⟨h1, h2⟩; have h3 : W4.heap.size ≤ b := h1; have := HFU.out b hb; omega
    · show w5.heap.size ≤ _; omega,
    fun b hb => by
      rcases hb with hb | hb | hb
      · have h3 : b = pb := hb; omega
      · have h3 : b = mb := hb; omega
      · have := HFL.out b hb; omega, by show _ ≤ W4.heap.size; omega, hk6⟩)
  have HBX := Lib.hid hb6
  clear hpm p1 z1 hp6 hb6 hm6 hsh6 hru6 hk6 ks hW6 HP HOK HPN HP5 HB5 HM5 HSH5 HRU5 HFL HFU
  have y0 := HBX.out.cell 0 rfl
  have y1 := HBX.out.cell 1 rfl
  have y2 := HBX.out.cell 2 rfl
  have y3 := HBX.out.cell 3 rfl
  have y4 := HBX.out.cell 4 rfl
  have y5 := HBX.out.cell 5 rfl
  have y6 := HBX.out.cell 6 rfl
  have y7 := HBX.out.cell 7 rfl
  have y8 := HBX.out.cell 8 rfl
  have y9 := HBX.out.cell 9 rfl
  have y10 := HBX.out.cell 10 rfl
  have y11 := HBX.out.cell 11 rfl
  have y12 := HBX.out.cell 12 rfl
  have y13 := HBX.out.cell 13 rfl
  have y14 := HBX.out.cell 14 rfl
  have y15 := HBX.out.cell 15 rfl
  clear HBX y0 y1 y2 y3 y4 y5 y6 y7 y8 y9 y10 y11
  go_wp2_with fail
  exact HFIN.out
end Go.Proofs.YtfckgddodjmbdaaGreatDoor

namespace Go.Proofs.YtfckgddodjmbdaaGreatDoor
set_option linter.unusedVariables false
set_option linter.unusedSimpArgs false
open Go Go.RowKit Go.Conc
structure BxM (w : World) (bb cb cap : Nat) (l : List ByteArray) : Prop where
  top : Blk w bb [.chan (some cb), .bool false] 172
  ch : ∃ s r, w.heap[cb]? = some (.chan cap (strs l).toArray false s r false)
  ne : bb ≠ cb
theorem kp_chan (w : World) (c cap : Nat) (buf : Array Value) (cl : Bool) (s r : Nat) (tm : Bool) : Kp (fun b => b = c) w (w.setChan c cap buf cl s r tm) :=
  ⟨rfl, rfl, rfl, by simp [World.setChan], fun b _ hb => by simp [World.setChan, Array.getElem?_setIfInBounds_ne (fun e => hb e.symm)]⟩
theorem BxM.kp {T : Nat → Prop} {w w' : World} {bb cb cap : Nat} {l : List ByteArray} (h : BxM w bb cb cap l) (k : Kp T w w') (h1 : ¬ T bb) (h2 : ¬ T cb) : BxM w' bb cb cap l := by
  obtain ⟨s, r, hc⟩ := h.ch
  exact ⟨h.top.kp k h1, ⟨s, r, (k.block cb (Array.getElem?_eq_some_iff.1 hc).1 h2).trans hc⟩, h.ne⟩
theorem BxM.old {w w' : World} {bb cb cap : Nat} {l : List ByteArray} (h : BxM w bb cb cap l) (k : Kp none' w w') : BxM w' bb cb cap l := h.kp k (fun x => x) (fun x => x)
theorem chNe (c : Nat) (w : World) : (binOp .neq 170 (.chan (some c)) (.chan none)).run Tryz.prog w = .ok (.bool true) w := by kernel_rfl
set_option maxRecDepth 100000 in
set_option maxHeartbeats 2000000 in
theorem mSend {w : World} {bb cb cap : Nat} {l : List ByteArray} (h : BxM w bb cb cap l) (hroom : l.length < cap) (x : ByteArray) :
    Calls Tryz.prog 29 #[.pointer (some ⟨bb, 0, none⟩), .string x] w fun e w' => e = .returned (.bool true) ∧ BxM w' bb cb cap (l ++ [x]) ∧ Kp (fun b => b = cb) w w' := by
  obtain ⟨s, r, hc⟩ := h.ch
  have c0 := h.top.cell 0 rfl
  have c1 := h.top.cell 1 rfl
  have hne := chNe cb
  refine calls_of_loneTo fun cs => ?_
  have e : Frame.enter Tryz.prog 29 #[.pointer (some ⟨bb, 0, none⟩), .string x] .normal = (base 29).at ⟨#[.pointer (some ⟨bb, 0, none⟩), .string x, undef, undef, undef, undef, undef, undef, undef, undef, undef, undef, undef, undef, undef, undef], []⟩ [.code (Tryz.f29.body.getD .skip)] := by
    simp [Frame.enter, Frame.at, Tryz.func29, base, Tryz.f29]
    try rfl
  rw [e]
  refine LoneTo.goes (n := 60) ?_
  simp only [Tryz.f29, Option.getD_some]
  s_c stepG_seq
  s_reg
  s_op
  s_c stepG_region_end
  s_c stepG_seq
  s_c stepG_seq
  s_reg
  s_op
  s_call Tryz.func62 (by kernel_rfl) Tryz.f62
  s_c stepG_seq
  s_reg
  s_op
  s_c stepG_region_end
  s_c stepG_seq
  s_reg
  s_op
  s_op
  s_op
  s_op
  s_op
  s_op
  s_op
  s_op
  s_op
  s_op
  s_op
  s_op
  s_op
  s_op
  s_op
  s_op
  s_op
  s_c stepG_region_end
  s_c stepG_ret'
  s_leave1 Tryz.func62
  s_op
  s_c stepG_region_end
  s_cond false
  s_c stepG_skip
  s_c stepG_seq
  s_c stepG_seq
  s_reg
  s_op
  s_op
  s_op
  s_op
  s_c stepG_region_end
  s_reg
  s_op
  s_c stepG_region_end
  s_c stepG_seq
  s_reg
  s_stop
  refine LoneTo.step (step_lone_select_send_room (c := cb) (cap := cap) (buf := (strs l).toArray) (s := s) (r := r) (tm := false) (stepG_comm (cases := #[scase cb (.string x) (.string ⟨#[]⟩)]) (blocking := false) (shape := .select) (w' := w) rfl rfl (by decide) (by simp [go_sem, execOp, scase, rcase, Act.eval])) hc (by rw [List.size_toArray, strs_len]; exact hroom)) ?_
  rw [Frame.finish_at]
  walk_nrm
  refine LoneTo.goes (n := 20) ?_
  s_op
  s_op
  s_c stepG_region_end
  s_c stepG_block
  s_cond true
  s_c stepG_seq
  s_reg
  s_op
  s_c stepG_region_end
  s_c stepG_ret'
  s_stop
  refine LoneTo.done ⟨.returned (.bool true), _, rfl, ⟨rfl, ?_⟩, rfl, rfl, rfl, rfl, _, Tryz.func29, by simp [results, Tryz.f29, Frame.at]⟩
  have hl : cb < w.heap.size := (Array.getElem?_eq_some_iff.1 hc).1
  have hk := kp_chan w cb cap ((strs l ++ [Value.string x]).toArray) false (s + 1) r false
  exact ⟨⟨h.top.kp hk h.ne, ⟨s + 1, r, by rw [heap_setChan _ _ _ _ _ _ _ _ hl, strs_snoc]⟩, h.ne⟩, hk⟩
set_option maxRecDepth 100000 in
set_option maxHeartbeats 2000000 in
theorem mTake {w : World} {bb cb cap : Nat} {l : List ByteArray} (y : ByteArray) (h : BxM w bb cb cap (y :: l)) :
    Calls Tryz.prog 94 #[.pointer (some ⟨bb, 0, none⟩)] w fun e w' => e = .returned (.tuple #[.string y, .bool true]) ∧ BxM w' bb cb cap l ∧ Kp (fun b => b = cb) w w' := by
  obtain ⟨s, r, hc⟩ := h.ch
  have c0 := h.top.cell 0 rfl
  have hc : w.heap[cb]? = some (.chan cap (Value.string y :: strs l).toArray false s r false) := hc
  have hg : (Value.string y :: strs l).toArray.getD 0 undef = .string y := by simp
  have hx : (Value.string y :: strs l).toArray.extract 1 (Value.string y :: strs l).toArray.size = (strs l).toArray := by simp
  refine calls_of_loneTo fun cs => ?_
  have e : Frame.enter Tryz.prog 94 #[.pointer (some ⟨bb, 0, none⟩)] .normal = (base 94).at ⟨#[.pointer (some ⟨bb, 0, none⟩), undef, undef, undef, undef, undef, undef, undef, undef, undef, undef, undef, undef, undef, undef, undef, undef, undef, undef, undef, undef, undef], []⟩ [.code (Tryz.f94.body.getD .skip)] := by
    simp [Frame.enter, Frame.at, Tryz.func94, base, Tryz.f94]
    try rfl
  rw [e]
  refine LoneTo.goes (n := 60) ?_
  simp only [Tryz.f94, Option.getD_some]
  s_c stepG_seq
  s_reg
  s_op
  s_op
  s_c stepG_region_end
  s_c stepG_seq
  s_reg
  s_op
  s_c stepG_region_end
  s_c stepG_seq
  s_c stepG_seq
  s_reg
  s_op
  s_op
  s_c stepG_region_end
  s_cond false
  s_c stepG_skip
  s_c stepG_seq
  s_reg
  s_op
  s_op
  s_op
  s_op
  s_c stepG_region_end
  s_c stepG_seq
  s_reg
  s_stop
  refine LoneTo.step (step_lone_select_recv_buf (c := cb) (z := .string ⟨#[]⟩) (cap := cap) (buf := (Value.string y :: strs l).toArray) (closed := false) (s := s) (r := r) (tm := false) (stepG_comm (cases := #[rcase cb (.string ⟨#[]⟩)]) (blocking := false) (shape := .select) (w' := w) rfl rfl (by decide) (by simp [go_sem, execOp, scase, rcase, Act.eval])) hc (by simp)) ?_
  rw [Frame.finish_at]
  rw [hg, hx]
  walk_nrm
  refine LoneTo.goes (n := 30) ?_
  s_op
  s_op
  s_c stepG_region_end
  s_c stepG_block
  s_cond true
  s_c stepG_seq
  s_reg
  s_op
  s_op
  s_op
  s_op
  s_c stepG_region_end
  s_c stepG_seq
  s_reg
  s_op
  s_op
  s_op
  s_op
  s_c stepG_region_end
  s_c stepG_ret'
  s_stop
  refine LoneTo.done ⟨.returned (.tuple #[.string y, .bool true]), _, rfl, ⟨rfl, ?_⟩, rfl, rfl, rfl, rfl, _, Tryz.func94, by simp [results, Tryz.f94, Frame.at]⟩
  have hl : cb < w.heap.size := (Array.getElem?_eq_some_iff.1 hc).1
  have hk := kp_chan w cb cap (strs l).toArray false s (r + 1) false
  exact ⟨⟨h.top.kp hk h.ne, ⟨s, r + 1, heap_setChan _ _ _ _ _ _ _ _ hl⟩, h.ne⟩, hk⟩
set_option maxRecDepth 100000 in
set_option maxHeartbeats 2000000 in
theorem mTakeNone {w : World} {bb cb cap : Nat} {l : List ByteArray} (h : BxM w bb cb cap []) :
    Calls Tryz.prog 94 #[.pointer (some ⟨bb, 0, none⟩)] w fun e w' => e = .returned (.tuple #[.string ⟨#[]⟩, .bool false]) ∧ w = w' := by
  obtain ⟨s, r, hc⟩ := h.ch
  have c0 := h.top.cell 0 rfl
  refine calls_of_loneTo fun cs => ?_
  have e : Frame.enter Tryz.prog 94 #[.pointer (some ⟨bb, 0, none⟩)] .normal = (base 94).at ⟨#[.pointer (some ⟨bb, 0, none⟩), undef, undef, undef, undef, undef, undef, undef, undef, undef, undef, undef, undef, undef, undef, undef, undef, undef, undef, undef, undef, undef], []⟩ [.code (Tryz.f94.body.getD .skip)] := by
    simp [Frame.enter, Frame.at, Tryz.func94, base, Tryz.f94]
    try rfl
  rw [e]
  refine LoneTo.goes (n := 60) ?_
  simp only [Tryz.f94, Option.getD_some]
  s_c stepG_seq
  s_reg
  s_op
  s_op
  s_c stepG_region_end
  s_c stepG_seq
  s_reg
  s_op
  s_c stepG_region_end
  s_c stepG_seq
  s_c stepG_seq
  s_reg
  s_op
  s_op
  s_c stepG_region_end
  s_cond false
  s_c stepG_skip
  s_c stepG_seq
  s_reg
  s_op
  s_op
  s_op
  s_op
  s_c stepG_region_end
  s_c stepG_seq
  s_reg
  s_stop
  refine LoneTo.step (step_lone_select_default (c := cb) (z := .string ⟨#[]⟩) (cap := cap) (s := s) (r := r) (tm := false) (stepG_comm (cases := #[rcase cb (.string ⟨#[]⟩)]) (blocking := false) (shape := .select) (w' := w) rfl rfl (by decide) (by simp [go_sem, execOp, scase, rcase, Act.eval])) hc) ?_
  rw [Frame.finish_at]
  walk_nrm
  refine LoneTo.goes (n := 30) ?_
  s_op
  s_op
  s_c stepG_region_end
  s_c stepG_block
  s_cond false
  s_c stepG_seq
  s_reg
  s_op
  s_op
  s_op
  s_c stepG_region_end
  s_c stepG_ret'
  s_stop
  refine LoneTo.done ⟨.returned (.tuple #[.string ⟨#[]⟩, .bool false]), _, rfl, ⟨rfl, ?_⟩, rfl, rfl, rfl, rfl, _, Tryz.func94, by simp [results, Tryz.f94, Frame.at]⟩
  rfl

theorem bytesStr : ∃ i, Tryz.prog.info? 9 = some i ∧ i.bytes = 16 := by
  have h : (Tryz.prog.info? 9).map (·.bytes) = some 16 := by kernel_rfl
  obtain ⟨i, hi, hb⟩ := Option.map_eq_some_iff.1 h
  exact ⟨i, hi, hb⟩
theorem mkCh (n : Nat) (h1 : 1 ≤ n) (h2 : n ≤ 4096) (w : World) : (Instr.makeChan 170 (.int .i64 n)).run Tryz.prog w = .ok (.chan (some w.heap.size)) (w.alloc (.chan n #[] false 0 0 false)) := by
  obtain ⟨i, hi, hb⟩ := bytesStr
  simpa using run_makeChan (P := Tryz.prog) (w := w) Tryz.underlying170 hi .i64 n (by omega) (by rw [hb]; omega)
set_option maxRecDepth 100000 in
theorem mNew (n : Nat) (h1 : 1 ≤ n) (h2 : n ≤ 4096) (w : World) : Calls Tryz.prog 66 #[.int .i64 n] w fun e w' => e = .returned (.tuple #[.pointer (some ⟨w.heap.size + 1, 0, none⟩), .int .i64 0]) ∧ BxM w' (w.heap.size + 1) w.heap.size n [] ∧ Kp none' w w' := by
  have hmk := mkCh n h1 h2
  have i1 : ¬ (n : Int) < 1 := by omega
  have i2 : ¬ (4096 : Int) < n := by omega
  have HB : Hid (Blk ((w.alloc (.chan n #[] false 0 0 false)).alloc (.cells #[.chan (some w.heap.size), .bool false] 172)) (w.heap.size + 1) [.chan (some w.heap.size), .bool false] 172) := by
    have := Blk.new (w.alloc (.chan n #[] false 0 0 false)) [.chan (some w.heap.size), .bool false] 172
    rw [World.size_alloc] at this
    exact this
  have HK := Lib.hid (((Kp.refl none' w).alloc (.chan n #[] false 0 0 false)).alloc (.cells #[.chan (some w.heap.size), .bool false] 172))
  have HC : Hid (((w.alloc (.chan n #[] false 0 0 false)).alloc (.cells #[.chan (some w.heap.size), .bool false] 172)).heap[w.heap.size]? = some (.chan n #[] false 0 0 false)) := by
    show _ = _
    rw [Below.heap_alloc _ _ _ (by rw [World.size_alloc]; omega)]
    exact heap_new _ _
  go_enter Tryz.func66, Tryz.ntmps66
  go_wp2
  go_ret2
  exact ⟨rfl, ⟨HB.out, ⟨0, 0, HC.out⟩, by omega⟩, HK.out⟩
set_option maxRecDepth 100000 in
set_option maxHeartbeats 2000000 in
theorem mSome {w : World} {bb cb cap : Nat} {l : List ByteArray} (h : BxM w bb cb cap l) (n : Nat) (hn : n ≤ 1000) :
    Calls Tryz.prog 63 #[.pointer (some ⟨bb, 0, none⟩), .int .i64 n] w fun e w' => ∃ v, e = .returned v ∧ w'.ownsRow w.heap.size 9 1 v (min n l.length) (strs (l.take n)) ∧ BxM w' bb cb cap (l.drop n) ∧ Kp (fun b => b = cb) w w' := by
  have HB := Lib.hid h
  have HO0 : Hid (w.ownsRow w.heap.size 9 1 (.slice none 0 0) 0 (strs (l.take 0))) := Lib.hid ⟨by simp [strs], .inl ⟨rfl, rfl⟩⟩
  have hlc := h.top.lt
  have HNE := Lib.hid h.ne
  have hcl : cb < w.heap.size := by obtain ⟨s, r, hc⟩ := h.ch; exact (Array.getElem?_eq_some_iff.1 hc).1
  clear h
  refine calls_post ?_
  intro PP HP
  go_enter Tryz.func63, Tryz.ntmps63
  go_wp2_with fail
  go_loopw [5] (fun v0 wr => ∃ k : Nat, k ≤ n ∧ k ≤ l.length ∧ Hid (wr.ownsRow w.heap.size 9 1 v0 k (strs (l.take k))) ∧ Hid (BxM wr bb cb cap (l.drop k)) ∧ Hid (Kp (fun b => b = cb) w wr)) (fun v0 _ => n - (match v0 with | .slice _ m _ => m | _ => 0))
  case atStart => exact ⟨0, by omega, by omega, HO0, by rw [List.drop_zero]; exact HB, Lib.hid (Kp.refl _ _)⟩
  case round =>
    clear HO0 HB
    obtain ⟨k, hk, hkl, HO, HB, HK⟩ := hrel
    obtain ⟨xo, xc, rfl⟩ := own_shape HO.out
    by_cases hlt : k < n
    · have hki : (k : Int) < n := by omega
      by_cases hll : k < l.length
      · have hdr : l.drop k = l[k] :: l.drop (k + 1) := by rw [List.drop_eq_getElem_cons hll]
        have ht := mTake l[k] (by rw [← hdr]; exact HB.out)
        have HT := Lib.hid ht
        have HX : Hid (strs (l.take (k + 1)) = strs (l.take k) ++ [.string l[k]]) := by
          show _ = _
          rw [List.take_succ_eq_append_getElem hll, strs_snoc]
        have hsz := HK.out.size
        obtain ⟨y, hy⟩ : ∃ y, l[k] = y := ⟨_, rfl⟩
        rw [hy] at HT HX
        clear ht hdr hy HB
        go_wp2_with fail
        refine (HT.out).mono ?_
        rintro e w2 ⟨rfl, hb2, hk2⟩
        have HB2 := Lib.hid hb2
        have HK2 := Lib.hid (HK.out.trans hk2)
        have HO2 := Lib.hid (own_kp HO.out hk2 (fun b hb e => by have := (own_block HO.out hb).1; omega))
        have hsz2 := HK2.out.size
        clear hb2 hk2 HO HK HT
        go_wp2_with (at_builtin; refine wp_app1 tStr (.tmp 19) (.tmp 21) rfl rfl w.heap.size (HO2.out.alloc _) [.string y] rfl rfl rfl (heap_new _ _) rfl (by omega) (by omega) (by simp; omega) ?_)
        intro g cap2 w3 hown3 hgrow3
        have HO3 : Hid (w3.ownsRow w.heap.size 9 1 (.slice (some ⟨g, 0, none⟩) (k + 1) cap2) (k + 1) (strs (l.take (k + 1)))) := by rw [HX.out]; exact hown3
        have HK3 : Hid (Kp (fun b => b = cb) w w3) := Lib.hid ((HK2.out.alloc _).grown hgrow3 (fun b e => .inr (own_block HO2.out e).1))
        have hk23 : Kp (fun b => w.heap.size ≤ b) w2 w3 := ((Kp.refl _ _).alloc _).grown hgrow3 (fun b e => .inl (own_block HO2.out e).1)
        have HB3 := Lib.hid (HB2.out.kp hk23 (by omega) (by omega))
        clear hown3 hgrow3 hk23 HB2 HK2 HO2 HX
        go_wp2_with fail
        go_roundw
        case rel => exact ⟨k + 1, by omega, by omega, HO3, HB3, HK3⟩
        case measure => simp; omega
      · have hkl2 : k = l.length := by omega
        have hdr : l.drop k = [] := List.drop_eq_nil_of_le (by omega)
        have ht := mTakeNone (l := []) (by have := HB.out; rw [hdr] at this; exact this)
        have HT := Lib.hid ht
        have HFIN := Lib.hid (HP.out _ _ ⟨_, rfl, by
          have := HO.out
          rw [List.take_of_length_le (by omega)] at this
          rw [List.take_of_length_le (by omega), show min n l.length = k by omega]
          exact this, by have := HB.out; rw [hdr] at this; rw [List.drop_eq_nil_of_le (by omega)]; exact this, HK.out⟩)
        clear ht hdr HB HO HK HP hkl2
        go_wp2_with fail
        refine (HT.out).mono ?_
        rintro e w2 ⟨rfl, rfl⟩
        go_wp2_with fail
        exact HFIN.out
    · have hkn : k = n := by omega
      subst hkn
      have HFIN := Lib.hid (HP.out _ _ ⟨_, rfl, by
        have := HO.out
        rw [show min k l.length = k by omega]
        exact this, HB.out, HK.out⟩)
      clear HB HO HK HP
      go_wp2_with fail
      exact HFIN.out
end Go.Proofs.YtfckgddodjmbdaaGreatDoor

namespace Go.Proofs.YtfckgddodjmbdaaGreatDoor
set_option linter.unusedVariables false
set_option linter.unusedSimpArgs false
open Go Go.RowKit Go.Shelf
structure Ln where
  lb : Nat
  xb : Nat
  xc : Nat
  f : PoF
  p : Po
  q : List ByteArray
  rf : List Nat
def lnC (l : Ln) : List Value := .pointer (some ⟨l.f.pb, 0, none⟩) :: .pointer (some ⟨l.xb, 0, none⟩) :: l.rf.map fun (n : Nat) => Value.int .u64 n
def lnP (l : Ln) : List Value := [.pointer (some ⟨l.lb, 0, none⟩)]
theorem lnP_len (l : Ln) : (lnP l).length = 1 := rfl
def Ln.all (l : Ln) (x : Nat) : Prop := x = l.lb ∨ x = l.xb ∨ x = l.xc ∨ l.f.all x
def Ln.far (l : Ln) (x : Nat) : Prop := l.all x ∨ (l.f.lo ≤ x ∧ x < l.f.hi)
structure LnM (w : World) (room : Nat) (l : Ln) : Prop where
  top : Blk w l.lb (lnC l) 93
  po : PoM w l.f l.p
  bx : BxM w l.xb l.xc room l.q
  nrf : l.rf.length = 32
  d1 : l.lb ≠ l.xb
  d2 : l.lb ≠ l.xc
  d3 : ¬ l.f.all l.lb
  d4 : ¬ l.f.all l.xb
  d5 : ¬ l.f.all l.xc
  d6 : ∀ x, l.f.lo ≤ x → x < l.f.hi → x ≠ l.lb ∧ x ≠ l.xb ∧ x ≠ l.xc
theorem BxM.clt {w : World} {bb cb cap : Nat} {l : List ByteArray} (h : BxM w bb cb cap l) : cb < w.heap.size := by obtain ⟨s, r, hc⟩ := h.ch; exact (Array.getElem?_eq_some_iff.1 hc).1
theorem LnM.kp {T : Nat → Prop} {w w' : World} {room : Nat} {l : Ln} (h : LnM w room l) (k : Kp T w w') (hT : ∀ x, l.far x → ¬ T x) : LnM w' room l :=
  { h with top := h.top.kp k (hT _ (.inl (.inl rfl))), po := h.po.kp k (fun b hb => hT _ (.inl (.inr (.inr (.inr hb))))) (fun b h1 h2 => hT _ (.inr ⟨h1, h2⟩)),
           bx := h.bx.kp k (hT _ (.inl (.inr (.inl rfl)))) (hT _ (.inl (.inr (.inr (.inl rfl))))) }
theorem LnM.old {w w' : World} {room : Nat} {l : Ln} (h : LnM w room l) (k : Kp none' w w') : LnM w' room l := h.kp k (fun _ _ x => x)
theorem LnM.lt {w : World} {room : Nat} {l : Ln} (h : LnM w room l) {x : Nat} (hx : l.far x) : x < w.heap.size := by
  rcases hx with (rfl | rfl | rfl | hx) | ⟨_, hx⟩
  · exact h.top.lt
  · exact h.bx.top.lt
  · exact h.bx.clt
  · exact h.po.lt hx
  · exact Nat.lt_of_lt_of_le hx h.po.hi
theorem tabKp {T : Nat → Prop} {w w' : World} {base tb n : Nat} {t : Tr} (h : ti.TabM w base tb t n) (k : Kp T w w') (h1 : ¬ T tb) (h2 : ∀ b ∈ t.blks, ¬ T b) : ti.TabM w' base tb t n :=
  ⟨h.blk.kp k h1, h.mem.kp k h2, h.wf, h.nd, h.out, h.low, h.tlow, Nat.le_trans h.blow k.size, h.root⟩
structure DvR where
  db : Nat
  tb : Nat
  tlo : Nat
  thi : Nat
  n : Nat
  batch : Nat
  room : Nat
  v : Value
  T : Tr
  ls : List Ln
def dvC (d : DvR) : List Value := [d.v, .pointer (some ⟨d.tb, 0, none⟩), .int .i64 d.batch]
structure DvM (w : World) (d : DvR) : Prop where
  top : Blk w d.db (dvC d) 86
  row : w.ownsRow d.thi 94 1 d.v d.ls.length (d.ls.flatMap lnP)
  tab : ti.TabM w d.tlo d.tb d.T d.n
  lo : d.db < d.tlo
  hi : d.tb < d.thi
  his : ∀ b ∈ d.T.blks, b < d.thi
  hsz : d.thi ≤ w.heap.size
  ln : ∀ l ∈ d.ls, LnM w d.room l
  at_ : ∀ l ∈ d.ls, ∀ x, l.far x → d.thi ≤ x ∧ d.v.ownBlock ≠ some x
  sep : d.ls.Pairwise (fun a b => ∀ x, a.far x → ¬ b.far x)
theorem DvM.lh {w : World} {d : DvR} (h : DvM w d) : d.tlo < d.thi := Nat.lt_of_le_of_lt h.tab.tlow h.hi
theorem DvM.old {w w' : World} {d : DvR} (h : DvM w d) (k : Kp none' w w') : DvM w' d :=
  { h with top := h.top.kp k (fun x => x), row := own_kp h.row k (fun _ _ x => x), tab := h.tab.old k, hsz := Nat.le_trans h.hsz k.size, ln := fun l hl => (h.ln l hl).old k }
def zRf : List Nat := List.replicate 32 0
def stL (l : Ln) : Po × List ByteArray × List Nat := (l.p, l.q, l.rf)
theorem tLane : SlT Tryz.prog 83 94 (.pointer none) 1 8 := ⟨Tryz.underlying83, by kernel_rfl, rfl, by decide⟩
structure DwI (w wr : World) (cd : Nat) (cc : List Value) (db batch room : Nat) (rts : List Rt) (st : List (Po × List ByteArray × List Nat)) (d : DvR) : Prop where
  dv : DvM wr d
  kp : Kp none' w wr
  cf : Blk wr cd cc 113
  cl : cd < d.db
  db_ : d.db = db
  ba : d.batch = batch
  ro : d.room = room
  pu : PutsOf rts d.T
  st_ : d.ls.map stL = st
  wd : w.heap.size ≤ d.db

set_option maxRecDepth 100000 in
theorem nDIn (s : ByteArray) (w : World) : Calls Tryz.prog 11 #[.pointer none, .string s] w fun e w' => e = .returned (.tuple #[.int .i64 0, .int .i64 10]) ∧ w = w' := by
  go_enter Tryz.func11, Tryz.ntmps11
  go_wp2
  go_ret2
  exact ⟨rfl, rfl⟩
set_option maxRecDepth 100000 in
theorem nDTick (n : Int) (w : World) : Calls Tryz.prog 12 #[.pointer none, .int .u64 n] w fun e w' => e = .returned (.tuple #[]) ∧ w = w' := by
  go_enter Tryz.func12, Tryz.ntmps12
  go_wp2
  exact bodyPost_ret (results_none rfl _ _ _) rfl ⟨rfl, rfl⟩
set_option maxRecDepth 100000 in
theorem nDStep (w : World) : Calls Tryz.prog 13 #[.pointer none] w fun e w' => e = .returned (.slice none 0 0) ∧ w = w' := by
  go_enter Tryz.func13, Tryz.ntmps13
  go_wp2
  go_ret
  exact ⟨rfl, rfl⟩
set_option maxRecDepth 100000 in
theorem nLane (i : Int) (w : World) : Calls Tryz.prog 31 #[.pointer none, .int .i64 i] w fun e w' => e = .returned (.pointer none) ∧ w = w' := by
  go_enter Tryz.func31, Tryz.ntmps31
  go_wp2
  go_ret
  exact ⟨rfl, rfl⟩
set_option maxRecDepth 100000 in
theorem nBoxed (i : Int) (w : World) : Calls Tryz.prog 14 #[.pointer none, .int .i64 i] w fun e w' => e = .returned (.int .i64 0) ∧ w = w' := by
  have HL := Lib.hid (nLane i)
  go_enter Tryz.func14, Tryz.ntmps14
  go_wp2_with (go_at_call 31; refine (HL.out _).mono ?_; rintro e w1 ⟨rfl, rfl⟩)
  go_ret
  exact ⟨rfl, rfl⟩
set_option maxRecDepth 100000 in
theorem nRefused (i y : Int) (w : World) : Calls Tryz.prog 15 #[.pointer none, .int .i64 i, .int .i64 y] w fun e w' => e = .returned (.int .u64 0) ∧ w = w' := by
  have HL := Lib.hid (nLane i)
  go_enter Tryz.func15, Tryz.ntmps15
  go_wp2_with (go_at_call 31; refine (HL.out _).mono ?_; rintro e w1 ⟨rfl, rfl⟩)
  go_ret
  exact ⟨rfl, rfl⟩
set_option maxRecDepth 100000 in
set_option maxHeartbeats 1000000 in
theorem nDStats (i : Int) (w : World) : Calls Tryz.prog 16 #[.pointer none, .int .i64 i] w fun e w' => e = .returned (.agg zSt.toArray) ∧ Kp none' w w' := by
  have HL := Lib.hid (nLane i)
  have HB0 := Lib.hid (Blk.new w zSt 33)
  have HK0 := Lib.hid ((Kp.refl none' w).alloc (.cells zSt.toArray 33))
  go_enter Tryz.func16, Tryz.ntmps16
  go_wp2_with (first
    | (go_at_call 31; refine (HL.out _).mono ?_; rintro e w1 ⟨rfl, rfl⟩)
    | (refine wp_st_blk rfl 33 (.tmp 4) (.tmp 16) rfl HB0.out zSt rfl rfl rfl infoSt36 rfl ?_; intro W2 hb2 hk2; have HB2 := Lib.hid hb2; have HK2 : Hid (Kp none' w W2) := Lib.hid (HK0.out.then hk2 (fun i h1 h2 => by omega)); clear hb2 hk2))
  exact ret_blk (by exact rfl) HB2.out _ Tryz.underlying33 rfl infoSt36 (by exact rfl) ⟨rfl, HK2.out⟩
end Go.Proofs.YtfckgddodjmbdaaGreatDoor
