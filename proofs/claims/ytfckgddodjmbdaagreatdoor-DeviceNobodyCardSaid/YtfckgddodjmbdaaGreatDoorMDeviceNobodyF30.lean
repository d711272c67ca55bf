/- A shaper's dequeue (layer 26). Printed by wip/shd.py. -/
import Derived.Test.YtfckgddodjmbdaaGreatDoorMDeviceNobodyF28
import Derived.Deep.RegionWith
import Derived.Deep.RegionHeld3
namespace Go.Proofs.YtfckgddodjmbdaaGreatDoor
set_option linter.unusedVariables false
set_option linter.unusedSimpArgs false
open Go Go.RowKit Go.Shelf
theorem step_call {P : Program} {ops : Array Oper} {o : Oper} {a : Act} {w : World} {K : Act → World → Prop} {Q : Exit → Act → World → Prop} {E : Prop} {f : FuncId} {args : Array Value} {v : Value}
    (hgd : o.guard = none) (h1 : (execOp a.eval o).run P w = .ok (.enter f args) w) (hc : Calls P f args w fun e w' => e = .returned v ∧ Kp none' w w') (h : ∀ w', Kp none' w w' → K (a.put o.dst v) w') :
    if Region.wanted o (yielded ops a.tmps) = true then Oper.wp P o a w K Q else E := by
  have hw : Region.wanted o (yielded ops a.tmps) = true := by simp [Region.wanted, hgd]
  rw [if_pos hw]
  unfold Oper.wp
  rw [h1]
  exact hc.mono fun e w' ⟨h2, h3⟩ => by subst h2; exact h w' h3
set_option maxRecDepth 100000 in
set_option maxHeartbeats 8000000 in
theorem deqEmpty {w : World} {f : ShF} {s : Sh} {r fl id ln : Nat} (h : ShM w f s) (hp : bkPeek s.bk = (⟨r, ⟨fl, id, ln⟩⟩, false)) :
    Calls Tryz.prog 46 #[.pointer (some ⟨f.sb, 0, none⟩)] w fun e w' => e = .returned (.agg (deqS s).1.toArray) ∧ ShTo w f (deqS s).2 w' := by
  have hq : deqS s = (rpC 2 18 0 0 0 0 zSt, s) := by unfold deqS; rw [hp]; rfl
  have HOK2 := Lib.hid (deq_ok h.ok h.gate.ok)
  rw [hq] at HOK2 ⊢
  clear hq
  have HOK := Lib.hid h.ok
  obtain ⟨t5, x5, gu, ge, gp, hv, hbc⟩ := h.back.c
  have HBC := Lib.hid hbc
  have hhp := h.back
  rw [hv] at hhp
  have HG := Lib.hid h.gate
  have HR := Lib.hid h.ranks
  have HBKH := Lib.hid hhp
  have hsl := h.top.lt
  have c0 := h.top.cell 0 rfl
  have c1 := h.top.cell 1 rfl
  have c2 := h.top.cell 2 rfl
  have c3 := h.top.cell 3 rfl
  have c4 := h.top.cell 4 rfl
  have c5 := h.top.cell 5 rfl
  have HTOP := Lib.hid h.top
  have HSG := Lib.hid h.sg; have HSR := Lib.hid h.sr; have HSK := Lib.hid h.sk
  have HGR := Lib.hid h.gr; have HGK := Lib.hid h.gk; have HRK := Lib.hid h.rk
  have HGL := Lib.hid (fun b hb => h.gate.lt (b := b) hb); have HRL := Lib.hid (fun b hb => h.ranks.lt (b := b) hb); have HBL := Lib.hid (fun b hb => h.back.lt (b := b) hb)
  have HPK := Lib.hid (fun W (F : Nat → Prop) (k : BkM W F (.iface t5 x5) s.g.c.packets.toNat s.bk) => by have := HBC.out.peek W F _ _ k; rw [hp] at this; exact this)
  rw [hv] at c5
  have HV := Lib.hid hv
  refine calls_post ?_
  intro PP HP
  clear h hbc hp hhp hv
  obtain ⟨sb, gb, rb, v, Fg, Fr, Fb⟩ := f
  simp only at *
  have hz0 := Blk.new w [.int .i64 0, .int .i64 0, .int .u32 0, .int .u32 0, .int .u64 0, .int .u64 0, .int .u64 0, .int .u64 0, .int .i64 0, .int .u64 0, .int .u64 0, .int .u64 0, .int .u64 0, .int .u64 0, .int .u64 0, .int .u64 0, .int .u64 0, .int .u64 0, .int .u64 0, .int .u64 0, .int .u64 0, .int .u64 0, .int .u64 0, .int .u64 0, .int .u64 0, .int .u64 0, .int .u64 0, .int .u64 0, .int .u64 0, .int .u64 0, .int .u64 0, .int .u64 0, .int .u64 0, .int .u64 0, .int .u64 0, .int .u64 0, .int .u64 0, .int .u64 0, .int .u64 0, .int .u64 0, .int .u64 0, .int .u64 0] 67
  have HZ0 := Lib.hid hz0
  have hz1 := Blk.new (w.alloc (.cells #[.int .i64 0, .int .i64 0, .int .u32 0, .int .u32 0, .int .u64 0, .int .u64 0, .int .u64 0, .int .u64 0, .int .i64 0, .int .u64 0, .int .u64 0, .int .u64 0, .int .u64 0, .int .u64 0, .int .u64 0, .int .u64 0, .int .u64 0, .int .u64 0, .int .u64 0, .int .u64 0, .int .u64 0, .int .u64 0, .int .u64 0, .int .u64 0, .int .u64 0, .int .u64 0, .int .u64 0, .int .u64 0, .int .u64 0, .int .u64 0, .int .u64 0, .int .u64 0, .int .u64 0, .int .u64 0, .int .u64 0, .int .u64 0, .int .u64 0, .int .u64 0, .int .u64 0, .int .u64 0, .int .u64 0, .int .u64 0] 67)) [.int .i64 0, .int .i64 0, .int .u32 0, .int .u32 0, .int .u64 0, .int .u64 0, .int .u64 0, .int .u64 0, .int .i64 0, .int .u64 0, .int .u64 0, .int .u64 0, .int .u64 0, .int .u64 0, .int .u64 0, .int .u64 0, .int .u64 0, .int .u64 0, .int .u64 0, .int .u64 0, .int .u64 0, .int .u64 0, .int .u64 0, .int .u64 0, .int .u64 0, .int .u64 0, .int .u64 0, .int .u64 0, .int .u64 0, .int .u64 0, .int .u64 0, .int .u64 0, .int .u64 0, .int .u64 0, .int .u64 0, .int .u64 0, .int .u64 0, .int .u64 0, .int .u64 0, .int .u64 0, .int .u64 0, .int .u64 0] 67
  have e1 : (w.alloc (.cells #[.int .i64 0, .int .i64 0, .int .u32 0, .int .u32 0, .int .u64 0, .int .u64 0, .int .u64 0, .int .u64 0, .int .i64 0, .int .u64 0, .int .u64 0, .int .u64 0, .int .u64 0, .int .u64 0, .int .u64 0, .int .u64 0, .int .u64 0, .int .u64 0, .int .u64 0, .int .u64 0, .int .u64 0, .int .u64 0, .int .u64 0, .int .u64 0, .int .u64 0, .int .u64 0, .int .u64 0, .int .u64 0, .int .u64 0, .int .u64 0, .int .u64 0, .int .u64 0, .int .u64 0, .int .u64 0, .int .u64 0, .int .u64 0, .int .u64 0, .int .u64 0, .int .u64 0, .int .u64 0, .int .u64 0, .int .u64 0] 67)).heap.size = w.heap.size + 1 := by simp
  rw [e1] at hz1
  have HZ1 := Lib.hid hz1
  have HK0 := Lib.hid (((Kp.refl none' w).alloc (.cells #[.int .i64 0, .int .i64 0, .int .u32 0, .int .u32 0, .int .u64 0, .int .u64 0, .int .u64 0, .int .u64 0, .int .i64 0, .int .u64 0, .int .u64 0, .int .u64 0, .int .u64 0, .int .u64 0, .int .u64 0, .int .u64 0, .int .u64 0, .int .u64 0, .int .u64 0, .int .u64 0, .int .u64 0, .int .u64 0, .int .u64 0, .int .u64 0, .int .u64 0, .int .u64 0, .int .u64 0, .int .u64 0, .int .u64 0, .int .u64 0, .int .u64 0, .int .u64 0, .int .u64 0, .int .u64 0, .int .u64 0, .int .u64 0, .int .u64 0, .int .u64 0, .int .u64 0, .int .u64 0, .int .u64 0, .int .u64 0] 67)).alloc (.cells #[.int .i64 0, .int .i64 0, .int .u32 0, .int .u32 0, .int .u64 0, .int .u64 0, .int .u64 0, .int .u64 0, .int .i64 0, .int .u64 0, .int .u64 0, .int .u64 0, .int .u64 0, .int .u64 0, .int .u64 0, .int .u64 0, .int .u64 0, .int .u64 0, .int .u64 0, .int .u64 0, .int .u64 0, .int .u64 0, .int .u64 0, .int .u64 0, .int .u64 0, .int .u64 0, .int .u64 0, .int .u64 0, .int .u64 0, .int .u64 0, .int .u64 0, .int .u64 0, .int .u64 0, .int .u64 0, .int .u64 0, .int .u64 0, .int .u64 0, .int .u64 0, .int .u64 0, .int .u64 0, .int .u64 0, .int .u64 0] 67))
  clear hz0 hz1 e1
  go_enter Tryz.func46, Tryz.ntmps46
  go_wp2_with (first
    | (refine wp_store_blk rfl 67 (.tmp 3) (.tmp 8) rfl HZ1.out [.int .i64 2, .int .i64 0, .int .u32 0, .int .u32 0, .int .u64 0, .int .u64 0, .int .u64 0, .int .u64 0, .int .i64 0, .int .u64 0, .int .u64 0, .int .u64 0, .int .u64 0, .int .u64 0, .int .u64 0, .int .u64 0, .int .u64 0, .int .u64 0, .int .u64 0, .int .u64 0, .int .u64 0, .int .u64 0, .int .u64 0, .int .u64 0, .int .u64 0, .int .u64 0, .int .u64 0, .int .u64 0, .int .u64 0, .int .u64 0, .int .u64 0, .int .u64 0, .int .u64 0, .int .u64 0, .int .u64 0, .int .u64 0, .int .u64 0, .int .u64 0, .int .u64 0, .int .u64 0, .int .u64 0, .int .u64 0] rfl rfl rfl infoRp rfl ?_
       intro W2 hb2 hk2
       have HB2 := Lib.hid hb2
       have HK2 := Lib.hid hk2
       clear hb2 hk2
       have k02 : Kp none' w W2 := HK0.out.then HK2.out (fun b hb e => by omega)
       have HZ2 := Lib.hid ((HZ0.out.alloc (.cells #[.int .i64 0, .int .i64 0, .int .u32 0, .int .u32 0, .int .u64 0, .int .u64 0, .int .u64 0, .int .u64 0, .int .i64 0, .int .u64 0, .int .u64 0, .int .u64 0, .int .u64 0, .int .u64 0, .int .u64 0, .int .u64 0, .int .u64 0, .int .u64 0, .int .u64 0, .int .u64 0, .int .u64 0, .int .u64 0, .int .u64 0, .int .u64 0, .int .u64 0, .int .u64 0, .int .u64 0, .int .u64 0, .int .u64 0, .int .u64 0, .int .u64 0, .int .u64 0, .int .u64 0, .int .u64 0, .int .u64 0, .int .u64 0, .int .u64 0, .int .u64 0, .int .u64 0, .int .u64 0, .int .u64 0, .int .u64 0] 67)).kp HK2.out (fun e => by omega))
       have K02 := Lib.hid k02
       have d5 := k02.cell c5 (fun x => x)
       have hmth := HBC.out.me W2
       have hcf := HBC.out.ce
       have HH2 := Lib.hid (HBKH.out.old k02)
       have hs2 := HB2.out.lt
       clear HZ0 HZ1 HK0 HK2 k02))
  refine (HPK.out W2 Fb HH2.out).mono ?_
  rintro e W3 ⟨rfl, F3, hp3, hk3, hn3⟩
  have HF3 : Hid (∀ z, F3 z → Fb z ∨ w.heap.size + 1 < z) := Lib.hid (fun z hz => (hn3 z hz).imp_right (fun h => by omega))
  have hbl := HBL.out
  have HB3 := Lib.hid (HB2.out.kp hk3 (fun hb => by have := hbl _ hb; omega))
  have HZ3 := Lib.hid (HZ2.out.kp hk3 (fun hb => by have := hbl _ hb; omega))
  have k03 : Kp Fb w W3 := (K02.out.mono (fun _ _ x => x.elim)).trans hk3
  have HT3 := Lib.hid (HTOP.out.kp k03 HSK.out)
  have HG3 := Lib.hid (HG.out.kp k03 (fun z h1 h2 => HGK.out z h1 h2))
  have HR3 := Lib.hid (HR.out.kp k03 (fun z h1 h2 => HRK.out z h1 h2))
  have HH3 := Lib.hid hp3
  have K03 := Lib.hid k03
  have hs3 := HB3.out.lt
  have hs03 := hk3.size
  clear hp3 hk3 hn3 hmth hcf d5 hbl HB2 HZ2 K02 HH2 HG HR HBKH HTOP hs2 c0 c1 c2 c3 c4 c5 k03
  go_upto_region 3 with fail
  have ka : Kp none' W3 (W3.alloc (.cells #[.int .u32 fl, .int .u32 id, .int .u64 ln] 65)) := (Kp.refl none' W3).alloc _
  have hpk : Blk (W3.alloc (.cells #[.int .u32 fl, .int .u32 id, .int .u64 ln] 65)) W3.heap.size [.int .u32 fl, .int .u32 id, .int .u64 ln] 65 := Blk.new W3 _ _
  obtain ⟨W4, hW4⟩ : ∃ W4, W3.alloc (.cells #[.int .u32 fl, .int .u32 id, .int .u64 ln] 65) = W4 := ⟨_, rfl⟩
  rw [hW4] at ka hpk ⊢
  have HPK4 := Lib.hid hpk
  have HB4 := Lib.hid (HB3.out.kp ka (fun x => x))
  have HZ4 := Lib.hid (HZ3.out.kp ka (fun x => x))
  have HT4 := Lib.hid (HT3.out.kp ka (fun x => x))
  have HG4 := Lib.hid (HG3.out.old ka)
  have HR4 := Lib.hid (HR3.out.old ka)
  have HH4 := Lib.hid (HH3.out.old ka)
  have K04 := Lib.hid (K03.out.trans (ka.mono (fun _ _ x => x.elim)))
  have hs4 := HPK4.out.lt
  have HF3L : Hid (∀ z, F3 z → z < W3.heap.size) := Lib.hid (fun z hz => HH3.out.lt hz)
  obtain ⟨pb, hpb⟩ : ∃ pb, W3.heap.size = pb := ⟨_, rfl⟩
  rw [hpb] at HPK4 HF3L hs3 hs03 hs4 ⊢
  clear hW4 ka hpk HB3 HZ3 HT3 HG3 HR3 HH3 K03 hpb
  have b1 := HB4.out.cell 1 rfl
  have bz := HB4.out.fz 1
  have HB5 := Lib.hid (HB4.out.set 1 (.int .i64 18))
  have ks : Kp (fun z => z = w.heap.size + 1) W4 (W4.setCell ⟨w.heap.size + 1, 1, none⟩ (.int .i64 18)) := (Kp.refl (fun z => z = w.heap.size + 1) W4).set (p := ⟨w.heap.size + 1, 1, none⟩) (.inl rfl) _
  have HZ5 := Lib.hid (HZ4.out.kp ks (fun e => by omega))
  have KS := Lib.hid ks
  clear ks
  go_wp2_with (first
    | (refine wpList_load_mid rfl 67 (.tmp 3) rfl (w.heap.size + 1) 0 rfl ([.int .i64 2, .int .i64 0, .int .u32 0, .int .u32 0, .int .u64 0, .int .u64 0, .int .u64 0, .int .u64 0, .int .i64 0, .int .u64 0, .int .u64 0, .int .u64 0, .int .u64 0, .int .u64 0, .int .u64 0, .int .u64 0, .int .u64 0, .int .u64 0, .int .u64 0, .int .u64 0, .int .u64 0, .int .u64 0, .int .u64 0, .int .u64 0, .int .u64 0, .int .u64 0, .int .u64 0, .int .u64 0, .int .u64 0, .int .u64 0, .int .u64 0, .int .u64 0, .int .u64 0, .int .u64 0, .int .u64 0, .int .u64 0, .int .u64 0, .int .u64 0, .int .u64 0, .int .u64 0, .int .u64 0, .int .u64 0].set 1 (.int .i64 18)) _ (fun j v hv => by rw [Nat.zero_add]; exact HB5.out.cell j hv) Tryz.underlying67 rfl infoRp ?_)
    | (refine wp_store_blk rfl 67 (.tmp 2) (.tmp 21) rfl HZ5.out ([.int .i64 2, .int .i64 0, .int .u32 0, .int .u32 0, .int .u64 0, .int .u64 0, .int .u64 0, .int .u64 0, .int .i64 0, .int .u64 0, .int .u64 0, .int .u64 0, .int .u64 0, .int .u64 0, .int .u64 0, .int .u64 0, .int .u64 0, .int .u64 0, .int .u64 0, .int .u64 0, .int .u64 0, .int .u64 0, .int .u64 0, .int .u64 0, .int .u64 0, .int .u64 0, .int .u64 0, .int .u64 0, .int .u64 0, .int .u64 0, .int .u64 0, .int .u64 0, .int .u64 0, .int .u64 0, .int .u64 0, .int .u64 0, .int .u64 0, .int .u64 0, .int .u64 0, .int .u64 0, .int .u64 0, .int .u64 0].set 1 (.int .i64 18)) rfl rfl rfl infoRp rfl ?_
       intro W12 hb12 hk12
       have HB12 := Lib.hid hb12
       have HK12 := Lib.hid hk12
       clear hb12 hk12))
  have k312 : Kp (fun z => w.heap.size ≤ z ∧ z ≤ w.heap.size + 1) W4 W12 := (KS.out.mono (fun z _ e => by omega)).trans (HK12.out.mono (fun z _ e => by omega))
  have hff : ∀ z, F3 z → Fb z ∨ w.heap.size ≤ z := fun z hz => (HF3.out z hz).imp_right (fun h => by omega)
  have hgl := HGL.out
  have hrl := HRL.out
  have hbl := HBL.out
  have hf3 := HF3.out
  refine ret_blk (by exact rfl) HB12.out _ Tryz.underlying67 rfl infoRp (by exact rfl) (HP.out _ _ ⟨rfl, ⟨sb, gb, rb, v, Fg, Fr, F3⟩, ?_, ?_, ?_, rfl⟩)
  · exact { top := HT4.out.kp k312 (fun h => by omega)
            gate := HG4.out.kp k312 (fun z hz h => by have := hgl z hz; omega)
            ranks := HR4.out.kp k312 (fun z hz h => by have := hrl z hz; omega)
            back := by
              show BkM W12 F3 v s.g.c.packets.toNat _
              rw [HV.out]
              exact HH4.out.kp k312 (fun z hz h => by rcases hf3 z hz with h' | h'; (have := hbl z h'; omega); omega)
            sg := HSG.out
            sr := HSR.out
            sk := fun h => by rcases hff _ h with h | h; exact HSK.out h; (simp only at h; omega)
            gr := HGR.out
            gk := fun z h1 h2 => by rcases hff z h2 with h | h; exact HGK.out z h1 h; (have := hgl z h1; omega)
            rk := fun z h1 h2 => by rcases hff z h2 with h | h; exact HRK.out z h1 h; (have := hrl z h1; omega)
            ok := HOK2.out }
  · exact (K04.out.then k312 (fun z hz h => by omega)).mono (fun z _ h => .inr (.inr (.inr h)))
  · intro z hz
    rcases hz with h | h | h | h
    · exact .inl (.inl h)
    · exact .inl (.inr (.inl h))
    · exact .inl (.inr (.inr (.inl h)))
    · rcases hff z h with h | h
      · exact .inl (.inr (.inr (.inr h)))
      · exact .inr (by omega)
set_option maxRecDepth 100000 in
set_option maxHeartbeats 8000000 in
theorem deqEarly {w : World} {f : ShF} {s : Sh} {r fl id ln : Nat} (h : ShM w f s) (hp : bkPeek s.bk = (⟨r, ⟨fl, id, ln⟩⟩, true)) (hlt : s.tok < ln) :
    Calls Tryz.prog 46 #[.pointer (some ⟨f.sb, 0, none⟩)] w fun e w' => e = .returned (.agg (deqS s).1.toArray) ∧ ShTo w f (deqS s).2 w' := by
  have hq : deqS s = (rpC 2 19 0 0 0 0 zSt, s) := by unfold deqS; rw [hp, if_neg (fun e => Bool.noConfusion e), if_pos hlt]
  have HOK2 := Lib.hid (deq_ok h.ok h.gate.ok)
  rw [hq] at HOK2 ⊢
  clear hq
  have HOK := Lib.hid h.ok
  obtain ⟨t5, x5, gu, ge, gp, hv, hbc⟩ := h.back.c
  have HBC := Lib.hid hbc
  have hhp := h.back
  rw [hv] at hhp
  have HG := Lib.hid h.gate
  have HR := Lib.hid h.ranks
  have HBKH := Lib.hid hhp
  have hsl := h.top.lt
  have c0 := h.top.cell 0 rfl
  have c1 := h.top.cell 1 rfl
  have c2 := h.top.cell 2 rfl
  have c3 := h.top.cell 3 rfl
  have c4 := h.top.cell 4 rfl
  have c5 := h.top.cell 5 rfl
  have HTOP := Lib.hid h.top
  have HSG := Lib.hid h.sg; have HSR := Lib.hid h.sr; have HSK := Lib.hid h.sk
  have HGR := Lib.hid h.gr; have HGK := Lib.hid h.gk; have HRK := Lib.hid h.rk
  have HGL := Lib.hid (fun b hb => h.gate.lt (b := b) hb); have HRL := Lib.hid (fun b hb => h.ranks.lt (b := b) hb); have HBL := Lib.hid (fun b hb => h.back.lt (b := b) hb)
  have HPK := Lib.hid (fun W (F : Nat → Prop) (k : BkM W F (.iface t5 x5) s.g.c.packets.toNat s.bk) => by have := HBC.out.peek W F _ _ k; rw [hp] at this; exact this)
  rw [hv] at c5
  have HV := Lib.hid hv
  obtain ⟨rate, hrt⟩ : ∃ x, s.rate = x := ⟨_, rfl⟩
  obtain ⟨burst, hbu⟩ : ∃ x, s.burst = x := ⟨_, rfl⟩
  obtain ⟨tok, htk⟩ : ∃ x, s.tok = x := ⟨_, rfl⟩
  have HTK : Hid (∀ W, Calls Tryz.prog 75 #[.agg #[.int .u64 rate, .int .u64 burst, .int .u64 tok], .int .u64 ln] W fun e w' => e = .returned (.tuple #[.agg #[.int .u64 rate, .int .u64 burst, .int .u64 tok], .bool false]) ∧ Kp none' W w') := Lib.hid (fun W => bTakeNo rate burst tok ln (by rw [← hrt]; exact h.ok.rate.1) (by rw [← hbu]; exact h.ok.burst.1) (by rw [← htk, ← hbu]; exact h.ok.tok) (by rw [← htk]; exact hlt) W)
  unfold shC at HTOP
  rw [hrt, hbu, htk] at HTOP
  refine calls_post ?_
  intro PP HP
  have HSH : Hid (∀ f : ShF, shC s f = [.pointer (some ⟨f.gb, 0, none⟩), .pointer (some ⟨f.rb, 0, none⟩), .int .u64 rate, .int .u64 burst, .int .u64 tok, f.v, .int .u64 s.now] ++ s.ref.map eN8) := Lib.hid (fun f => by unfold shC; rw [hrt, hbu, htk])
  clear h hbc hp hhp hv hrt hbu htk hlt
  obtain ⟨sb, gb, rb, v, Fg, Fr, Fb⟩ := f
  simp only at *
  have hz0 := Blk.new w [.int .i64 0, .int .i64 0, .int .u32 0, .int .u32 0, .int .u64 0, .int .u64 0, .int .u64 0, .int .u64 0, .int .i64 0, .int .u64 0, .int .u64 0, .int .u64 0, .int .u64 0, .int .u64 0, .int .u64 0, .int .u64 0, .int .u64 0, .int .u64 0, .int .u64 0, .int .u64 0, .int .u64 0, .int .u64 0, .int .u64 0, .int .u64 0, .int .u64 0, .int .u64 0, .int .u64 0, .int .u64 0, .int .u64 0, .int .u64 0, .int .u64 0, .int .u64 0, .int .u64 0, .int .u64 0, .int .u64 0, .int .u64 0, .int .u64 0, .int .u64 0, .int .u64 0, .int .u64 0, .int .u64 0, .int .u64 0] 67
  have HZ0 := Lib.hid hz0
  have hz1 := Blk.new (w.alloc (.cells #[.int .i64 0, .int .i64 0, .int .u32 0, .int .u32 0, .int .u64 0, .int .u64 0, .int .u64 0, .int .u64 0, .int .i64 0, .int .u64 0, .int .u64 0, .int .u64 0, .int .u64 0, .int .u64 0, .int .u64 0, .int .u64 0, .int .u64 0, .int .u64 0, .int .u64 0, .int .u64 0, .int .u64 0, .int .u64 0, .int .u64 0, .int .u64 0, .int .u64 0, .int .u64 0, .int .u64 0, .int .u64 0, .int .u64 0, .int .u64 0, .int .u64 0, .int .u64 0, .int .u64 0, .int .u64 0, .int .u64 0, .int .u64 0, .int .u64 0, .int .u64 0, .int .u64 0, .int .u64 0, .int .u64 0, .int .u64 0] 67)) [.int .i64 0, .int .i64 0, .int .u32 0, .int .u32 0, .int .u64 0, .int .u64 0, .int .u64 0, .int .u64 0, .int .i64 0, .int .u64 0, .int .u64 0, .int .u64 0, .int .u64 0, .int .u64 0, .int .u64 0, .int .u64 0, .int .u64 0, .int .u64 0, .int .u64 0, .int .u64 0, .int .u64 0, .int .u64 0, .int .u64 0, .int .u64 0, .int .u64 0, .int .u64 0, .int .u64 0, .int .u64 0, .int .u64 0, .int .u64 0, .int .u64 0, .int .u64 0, .int .u64 0, .int .u64 0, .int .u64 0, .int .u64 0, .int .u64 0, .int .u64 0, .int .u64 0, .int .u64 0, .int .u64 0, .int .u64 0] 67
  have e1 : (w.alloc (.cells #[.int .i64 0, .int .i64 0, .int .u32 0, .int .u32 0, .int .u64 0, .int .u64 0, .int .u64 0, .int .u64 0, .int .i64 0, .int .u64 0, .int .u64 0, .int .u64 0, .int .u64 0, .int .u64 0, .int .u64 0, .int .u64 0, .int .u64 0, .int .u64 0, .int .u64 0, .int .u64 0, .int .u64 0, .int .u64 0, .int .u64 0, .int .u64 0, .int .u64 0, .int .u64 0, .int .u64 0, .int .u64 0, .int .u64 0, .int .u64 0, .int .u64 0, .int .u64 0, .int .u64 0, .int .u64 0, .int .u64 0, .int .u64 0, .int .u64 0, .int .u64 0, .int .u64 0, .int .u64 0, .int .u64 0, .int .u64 0] 67)).heap.size = w.heap.size + 1 := by simp
  rw [e1] at hz1
  have HZ1 := Lib.hid hz1
  have HK0 := Lib.hid (((Kp.refl none' w).alloc (.cells #[.int .i64 0, .int .i64 0, .int .u32 0, .int .u32 0, .int .u64 0, .int .u64 0, .int .u64 0, .int .u64 0, .int .i64 0, .int .u64 0, .int .u64 0, .int .u64 0, .int .u64 0, .int .u64 0, .int .u64 0, .int .u64 0, .int .u64 0, .int .u64 0, .int .u64 0, .int .u64 0, .int .u64 0, .int .u64 0, .int .u64 0, .int .u64 0, .int .u64 0, .int .u64 0, .int .u64 0, .int .u64 0, .int .u64 0, .int .u64 0, .int .u64 0, .int .u64 0, .int .u64 0, .int .u64 0, .int .u64 0, .int .u64 0, .int .u64 0, .int .u64 0, .int .u64 0, .int .u64 0, .int .u64 0, .int .u64 0] 67)).alloc (.cells #[.int .i64 0, .int .i64 0, .int .u32 0, .int .u32 0, .int .u64 0, .int .u64 0, .int .u64 0, .int .u64 0, .int .i64 0, .int .u64 0, .int .u64 0, .int .u64 0, .int .u64 0, .int .u64 0, .int .u64 0, .int .u64 0, .int .u64 0, .int .u64 0, .int .u64 0, .int .u64 0, .int .u64 0, .int .u64 0, .int .u64 0, .int .u64 0, .int .u64 0, .int .u64 0, .int .u64 0, .int .u64 0, .int .u64 0, .int .u64 0, .int .u64 0, .int .u64 0, .int .u64 0, .int .u64 0, .int .u64 0, .int .u64 0, .int .u64 0, .int .u64 0, .int .u64 0, .int .u64 0, .int .u64 0, .int .u64 0] 67))
  clear hz0 hz1 e1
  go_enter Tryz.func46, Tryz.ntmps46
  go_wp2_with (first
    | (refine wp_store_blk rfl 67 (.tmp 3) (.tmp 8) rfl HZ1.out [.int .i64 2, .int .i64 0, .int .u32 0, .int .u32 0, .int .u64 0, .int .u64 0, .int .u64 0, .int .u64 0, .int .i64 0, .int .u64 0, .int .u64 0, .int .u64 0, .int .u64 0, .int .u64 0, .int .u64 0, .int .u64 0, .int .u64 0, .int .u64 0, .int .u64 0, .int .u64 0, .int .u64 0, .int .u64 0, .int .u64 0, .int .u64 0, .int .u64 0, .int .u64 0, .int .u64 0, .int .u64 0, .int .u64 0, .int .u64 0, .int .u64 0, .int .u64 0, .int .u64 0, .int .u64 0, .int .u64 0, .int .u64 0, .int .u64 0, .int .u64 0, .int .u64 0, .int .u64 0, .int .u64 0, .int .u64 0] rfl rfl rfl infoRp rfl ?_
       intro W2 hb2 hk2
       have HB2 := Lib.hid hb2
       have HK2 := Lib.hid hk2
       clear hb2 hk2
       have k02 : Kp none' w W2 := HK0.out.then HK2.out (fun b hb e => by omega)
       have HZ2 := Lib.hid ((HZ0.out.alloc (.cells #[.int .i64 0, .int .i64 0, .int .u32 0, .int .u32 0, .int .u64 0, .int .u64 0, .int .u64 0, .int .u64 0, .int .i64 0, .int .u64 0, .int .u64 0, .int .u64 0, .int .u64 0, .int .u64 0, .int .u64 0, .int .u64 0, .int .u64 0, .int .u64 0, .int .u64 0, .int .u64 0, .int .u64 0, .int .u64 0, .int .u64 0, .int .u64 0, .int .u64 0, .int .u64 0, .int .u64 0, .int .u64 0, .int .u64 0, .int .u64 0, .int .u64 0, .int .u64 0, .int .u64 0, .int .u64 0, .int .u64 0, .int .u64 0, .int .u64 0, .int .u64 0, .int .u64 0, .int .u64 0, .int .u64 0, .int .u64 0] 67)).kp HK2.out (fun e => by omega))
       have K02 := Lib.hid k02
       have d5 := k02.cell c5 (fun x => x)
       have hmth := HBC.out.me W2
       have hcf := HBC.out.ce
       have HH2 := Lib.hid (HBKH.out.old k02)
       have hs2 := HB2.out.lt
       clear HZ0 HZ1 HK0 HK2 k02))
  refine (HPK.out W2 Fb HH2.out).mono ?_
  rintro e W3 ⟨rfl, F3, hp3, hk3, hn3⟩
  have HF3 : Hid (∀ z, F3 z → Fb z ∨ w.heap.size + 1 < z) := Lib.hid (fun z hz => (hn3 z hz).imp_right (fun h => by omega))
  have hbl := HBL.out
  have HB3 := Lib.hid (HB2.out.kp hk3 (fun hb => by have := hbl _ hb; omega))
  have HZ3 := Lib.hid (HZ2.out.kp hk3 (fun hb => by have := hbl _ hb; omega))
  have k03 : Kp Fb w W3 := (K02.out.mono (fun _ _ x => x.elim)).trans hk3
  have HT3 := Lib.hid (HTOP.out.kp k03 HSK.out)
  have HG3 := Lib.hid (HG.out.kp k03 (fun z h1 h2 => HGK.out z h1 h2))
  have HR3 := Lib.hid (HR.out.kp k03 (fun z h1 h2 => HRK.out z h1 h2))
  have HH3 := Lib.hid hp3
  have K03 := Lib.hid k03
  have hs3 := HB3.out.lt
  have hs03 := hk3.size
  clear hp3 hk3 hn3 hmth hcf d5 hbl HB2 HZ2 K02 HH2 HG HR HBKH HTOP hs2 c0 c1 c2 c3 c4 c5 k03
  go_upto_region 3 with fail
  have ka : Kp none' W3 (W3.alloc (.cells #[.int .u32 fl, .int .u32 id, .int .u64 ln] 65)) := (Kp.refl none' W3).alloc _
  have hpk : Blk (W3.alloc (.cells #[.int .u32 fl, .int .u32 id, .int .u64 ln] 65)) W3.heap.size [.int .u32 fl, .int .u32 id, .int .u64 ln] 65 := Blk.new W3 _ _
  obtain ⟨W4, hW4⟩ : ∃ W4, W3.alloc (.cells #[.int .u32 fl, .int .u32 id, .int .u64 ln] 65) = W4 := ⟨_, rfl⟩
  rw [hW4] at ka hpk ⊢
  have HPK4 := Lib.hid hpk
  have HB4 := Lib.hid (HB3.out.kp ka (fun x => x))
  have HZ4 := Lib.hid (HZ3.out.kp ka (fun x => x))
  have HT4 := Lib.hid (HT3.out.kp ka (fun x => x))
  have HG4 := Lib.hid (HG3.out.old ka)
  have HR4 := Lib.hid (HR3.out.old ka)
  have HH4 := Lib.hid (HH3.out.old ka)
  have K04 := Lib.hid (K03.out.trans (ka.mono (fun _ _ x => x.elim)))
  have hs4 := HPK4.out.lt
  have HF3L : Hid (∀ z, F3 z → z < W3.heap.size) := Lib.hid (fun z hz => HH3.out.lt hz)
  obtain ⟨pb, hpb⟩ : ∃ pb, W3.heap.size = pb := ⟨_, rfl⟩
  rw [hpb] at HPK4 HF3L hs3 hs03 hs4 ⊢
  clear hW4 ka hpk HB3 HZ3 HT3 HG3 HR3 HH3 K03 hpb
  have d2 := HT4.out.cell 2 rfl
  have d3 := HT4.out.cell 3 rfl
  have d4 := HT4.out.cell 4 rfl
  have p2 := HPK4.out.cell 2 rfl
  have HD2 := Lib.hid d2; have HD3 := Lib.hid d3; have HD4 := Lib.hid d4; have HP2 := Lib.hid p2
  go_wp2_with fail
  have hsb4 := HT4.out.lt
  go_cut [6, 7] from 22 (fun s6 s7 wc => ∃ qb, Hid (W4.heap.size ≤ qb) ∧ s6 = .bool false ∧ s7 = .pointer (some ⟨qb, 0, none⟩) ∧ Hid (Blk wc qb [.int .u64 rate, .int .u64 burst, .int .u64 tok] 136) ∧ Hid (Kp none' W4 wc))
  case first =>
    go_region_law (first
      | (refine step_call (w := (W4.drew.alloc (.cells #[.int .u64 0, .int .u64 0, .int .u64 0] 136))) rfl (by go_simp) (HTK.out _) ?_; intro w6 hk6; have hB : Blk w6 W4.heap.size [.int .u64 0, .int .u64 0, .int .u64 0] 136 := (Blk.new W4.drew [.int .u64 0, .int .u64 0, .int .u64 0] 136).kp hk6 (fun x => x); have n0 := hB.cell 0 rfl; have n1 := hB.cell 1 rfl; have n2 := hB.cell 2 rfl; have nz := fun j => hB.fz j)
      | (refine step_call (w := W4.drew) rfl (by go_simp) (HTK.out _) ?_; intro w6 hk6))
    all_goals
      go_wp2_with fail
      go_meet
      case rel =>
        first
          | exact ⟨w6.heap.size, Lib.hid hk6.size, rfl, rfl, Lib.hid (Blk.new w6 _ _), Lib.hid (((Kp.refl none' W4).drew.trans hk6).alloc _)⟩
          | exact ⟨W4.heap.size, Lib.hid (Nat.le_refl _), rfl, rfl, Lib.hid (((hB.set 0 _).set 1 _).set 2 _), Lib.hid (((((((Kp.refl none' W4).drew.alloc _).trans hk6)).set (.inr (Nat.le_refl _)) _).set (.inr (Nat.le_refl _)) _).set (.inr (Nat.le_refl _)) _)⟩
  case rest =>
  obtain ⟨qb, hqb, rfl, rfl, hb7, hk47⟩ := hcut
  have k47 := hk47.out
  have hz7 := hqb.out
  obtain ⟨W7, hW7⟩ : ∃ W7, wc = W7 := ⟨_, rfl⟩
  rw [hW7] at hb7 k47 ⊢
  have HQB := hb7
  have HPK7 := Lib.hid (HPK4.out.kp k47 (fun x => x))
  have HB7 := Lib.hid (HB4.out.kp k47 (fun x => x))
  have HZ7 := Lib.hid (HZ4.out.kp k47 (fun x => x))
  have HT7 := Lib.hid (HT4.out.kp k47 (fun x => x))
  have HG7 := Lib.hid (HG4.out.old k47)
  have HR7 := Lib.hid (HR4.out.old k47)
  have HH7 := Lib.hid (HH4.out.old k47)
  have K07 := Lib.hid (K04.out.trans (k47.mono (fun _ _ x => x.elim)))
  clear hW7 hk47 hqb hb7 k47 d2 d3 d4 p2 HD2 HD3 HD4 HP2 HPK4 HB4 HZ4 HT4 HG4 HR4 HH4 K04 HTK
  have b1 := HB7.out.cell 1 rfl
  have bz := HB7.out.fz 1
  have HB5 := Lib.hid (HB7.out.set 1 (.int .i64 19))
  have ks : Kp (fun z => z = w.heap.size + 1) W7 (W7.setCell ⟨w.heap.size + 1, 1, none⟩ (.int .i64 19)) := (Kp.refl (fun z => z = w.heap.size + 1) W7).set (p := ⟨w.heap.size + 1, 1, none⟩) (.inl rfl) _
  have HZ5 := Lib.hid (HZ7.out.kp ks (fun e => by omega))
  have KS := Lib.hid ks
  clear ks
  go_wp2_with (first
    | (refine wpList_load_mid rfl 67 (.tmp 3) rfl (w.heap.size + 1) 0 rfl ([.int .i64 2, .int .i64 0, .int .u32 0, .int .u32 0, .int .u64 0, .int .u64 0, .int .u64 0, .int .u64 0, .int .i64 0, .int .u64 0, .int .u64 0, .int .u64 0, .int .u64 0, .int .u64 0, .int .u64 0, .int .u64 0, .int .u64 0, .int .u64 0, .int .u64 0, .int .u64 0, .int .u64 0, .int .u64 0, .int .u64 0, .int .u64 0, .int .u64 0, .int .u64 0, .int .u64 0, .int .u64 0, .int .u64 0, .int .u64 0, .int .u64 0, .int .u64 0, .int .u64 0, .int .u64 0, .int .u64 0, .int .u64 0, .int .u64 0, .int .u64 0, .int .u64 0, .int .u64 0, .int .u64 0, .int .u64 0].set 1 (.int .i64 19)) _ (fun j v hv => by rw [Nat.zero_add]; exact HB5.out.cell j hv) Tryz.underlying67 rfl infoRp ?_)
    | (refine wp_store_blk rfl 67 (.tmp 2) (.tmp 35) rfl HZ5.out ([.int .i64 2, .int .i64 0, .int .u32 0, .int .u32 0, .int .u64 0, .int .u64 0, .int .u64 0, .int .u64 0, .int .i64 0, .int .u64 0, .int .u64 0, .int .u64 0, .int .u64 0, .int .u64 0, .int .u64 0, .int .u64 0, .int .u64 0, .int .u64 0, .int .u64 0, .int .u64 0, .int .u64 0, .int .u64 0, .int .u64 0, .int .u64 0, .int .u64 0, .int .u64 0, .int .u64 0, .int .u64 0, .int .u64 0, .int .u64 0, .int .u64 0, .int .u64 0, .int .u64 0, .int .u64 0, .int .u64 0, .int .u64 0, .int .u64 0, .int .u64 0, .int .u64 0, .int .u64 0, .int .u64 0, .int .u64 0].set 1 (.int .i64 19)) rfl rfl rfl infoRp rfl ?_
       intro W12 hb12 hk12
       have HB12 := Lib.hid hb12
       have HK12 := Lib.hid hk12
       clear hb12 hk12))
  have k312 : Kp (fun z => w.heap.size ≤ z ∧ z ≤ w.heap.size + 1) W7 W12 := (KS.out.mono (fun z _ e => by omega)).trans (HK12.out.mono (fun z _ e => by omega))
  have hff : ∀ z, F3 z → Fb z ∨ w.heap.size ≤ z := fun z hz => (HF3.out z hz).imp_right (fun h => by omega)
  have hgl := HGL.out
  have hrl := HRL.out
  have hbl := HBL.out
  have hf3 := HF3.out
  refine ret_blk (by exact rfl) HB12.out _ Tryz.underlying67 rfl infoRp (by exact rfl) (HP.out _ _ ⟨rfl, ⟨sb, gb, rb, v, Fg, Fr, F3⟩, ?_, ?_, ?_, rfl⟩)
  · exact { top := by rw [HSH.out]; exact HT7.out.kp k312 (fun h => by omega)
            gate := HG7.out.kp k312 (fun z hz h => by have := hgl z hz; omega)
            ranks := HR7.out.kp k312 (fun z hz h => by have := hrl z hz; omega)
            back := by
              show BkM W12 F3 v s.g.c.packets.toNat _
              rw [HV.out]
              exact HH7.out.kp k312 (fun z hz h => by rcases hf3 z hz with h' | h'; (have := hbl z h'; omega); omega)
            sg := HSG.out
            sr := HSR.out
            sk := fun h => by rcases hff _ h with h | h; exact HSK.out h; (simp only at h; omega)
            gr := HGR.out
            gk := fun z h1 h2 => by rcases hff z h2 with h | h; exact HGK.out z h1 h; (have := hgl z h1; omega)
            rk := fun z h1 h2 => by rcases hff z h2 with h | h; exact HRK.out z h1 h; (have := hrl z h1; omega)
            ok := HOK2.out }
  · exact (K07.out.then k312 (fun z hz h => by omega)).mono (fun z _ h => .inr (.inr (.inr h)))
  · intro z hz
    rcases hz with h | h | h | h
    · exact .inl (.inl h)
    · exact .inl (.inr (.inl h))
    · exact .inl (.inr (.inr (.inl h)))
    · rcases hff z h with h | h
      · exact .inl (.inr (.inr (.inr h)))
      · exact .inr (by omega)
end Go.Proofs.YtfckgddodjmbdaaGreatDoor
