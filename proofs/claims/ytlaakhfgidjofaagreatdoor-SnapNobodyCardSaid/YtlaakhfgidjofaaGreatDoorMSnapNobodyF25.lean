/- A shaper made (layer 26). -/
import Derived.Test.YtlaakhfgidjofaaGreatDoorMSnapNobodyF24
namespace Go.Proofs.YtlaakhfgidjofaaGreatDoor
set_option linter.unusedVariables false
set_option linter.unusedSimpArgs false
open Go Go.RowKit Go.Shelf
theorem chk_parts {c : CfR} (h : chk c = 0) : (1 ≤ c.rank ∧ c.rank ≤ 3) ∧ (1 ≤ c.queues ∧ c.queues ≤ 32) ∧ admE c = 0 ∧ 0 < c.rate ∧ c.mtu ≤ c.burst := by
  unfold chk at h
  split at h
  · cases h
  · split at h
    · cases h
    · split at h
      · cases h
      · split at h
        · rename_i h1; exact absurd h h1
        · rename_i h1
          split at h
          · cases h
          · split at h
            · cases h
            · exact ⟨by omega, by omega, by omega, by omega, by omega⟩
def shNewS (c : CfR) (st : BkS) : Sh := ⟨gaNew c, ⟨c.rank, c.flows, c.flows.map (tagF c.rank), 0⟩, c.rate, c.burst, c.burst, st, 0, List.replicate 32 0⟩
set_option maxRecDepth 100000 in
set_option maxHeartbeats 4000000 in
theorem shNew (c : CfR) (hc : c.ok) (hE : chk c = 0) (v : Value) (w : World) (h : Sl w v c.flows.length 5 (c.flows.flatMap enFl)) (st : BkS) (hst : bkItems st = []) (hwf : bkWf st)
    (hmade : ∀ W, Kp none' w W → Calls Tryz.prog 35 #[.agg (enC c v).toArray] W fun e w' => ∃ v Fb, e = .returned v ∧ BkM w' Fb v c.packets.toNat st ∧ (∀ b, Fb b → W.heap.size ≤ b) ∧ Kp none' W w') :
    Calls Tryz.prog 15 #[.agg (enC c v).toArray] w fun e w' => ∃ f, e = .returned (.tuple #[.pointer (some ⟨f.sb, 0, none⟩), .int .i64 0]) ∧ ShM w' f (shNewS c st) ∧ (∀ b, f.all b → w.heap.size ≤ b) ∧ Kp none' w w' := by
  obtain ⟨hk1, hk2, hk3, hk4, hk5⟩ := chk_parts hE
  have HCH := Lib.hid (fun W (k : Kp none' w W) => by have := gChk c hc v W (h.old k); rw [hE] at this; exact this)
  have HG := Lib.hid (fun W (k : Kp none' w W) => gNew c hc hk3 v W (h.old k))
  have hadm := gaNew_ok hc hk3
  have hlims := hadm.lims
  have HR := Lib.hid (fun W (k : Kp none' w W) => kNew c.rank hk1 c.flows v W (h.old k) hlims.2.2.2.2.2.2 hc.flows)
  have hmtu : 1 ≤ c.mtu := hlims.2.2.2.2.1
  have HT := Lib.hid (fun W => bNewOk c.rate c.burst hk4 (by omega) W)
  have HM := Lib.hid hmade
  have HOKS : Hid (shNewS c st).Ok := Lib.hid ⟨⟨hk4, by have := hc.rate; unfold M64 at this; exact this⟩, ⟨by show 0 < c.burst; omega, by have := hc.burst; unfold M64 at this; exact this⟩, Nat.le_refl _, by show 0 < _; decide, fun x hx => by rw [(List.mem_replicate.1 hx).2]; decide, by show (List.replicate 32 0).length = 32; rfl, hwf, rfl, (by show ∀ i ∈ bkItems st, _; rw [hst]; intro i hi; cases hi), by show ((bkItems st).length : Int) ≤ sumP (c.flows.map thF); rw [hst, sumP_new]; decide⟩
  obtain ⟨ao, cap, rfl⟩ : ∃ ao cap, v = .slice ao c.flows.length cap := by obtain ⟨ao, cap, rfl, _⟩ := h.is; exact ⟨_, _, rfl⟩
  have HB0 := Lib.hid (Blk.new w (enC c (.slice ao c.flows.length cap)) 25)
  have HK0 := Lib.hid ((Kp.refl none' w).alloc (.cells (enC c (.slice ao c.flows.length cap)).toArray 25))
  refine calls_post ?_
  intro PP HP
  clear h hmade hst hwf hE hk1 hk2 hk3 hk4 hk5 hadm hlims hmtu hc
  obtain ⟨rk, bk, lv, qu, pk, bt, sh, mt, rt, bu, fl⟩ := c
  simp only [enC] at *
  go_enter Tryz.func15, Tryz.ntmps15
  go_wp2_with fail
  refine (HCH.out _ HK0.out).mono ?_
  rintro e w1 ⟨rfl, hk1⟩
  have hb1 := HB0.out.kp hk1 (fun x => x)
  have HK1 := Lib.hid (HK0.out.trans hk1)
  have HB1 := Lib.hid hb1
  have HBX := HB1
  have y0 := HBX.out.cell 0 rfl
  have y1 := HBX.out.cell 1 rfl
  have y2 := HBX.out.cell 2 rfl
  have y3 := HBX.out.cell 3 rfl
  have y4 := HBX.out.cell 4 rfl
  have y5 := HBX.out.cell 5 rfl
  have y6 := HBX.out.cell 6 rfl
  have y7 := HBX.out.cell 7 rfl
  have y8 := HBX.out.cell 8 rfl
  have y9 := HBX.out.cell 9 rfl
  have y10 := HBX.out.cell 10 rfl
  clear hk1 hb1 HB0 HK0 HBX
  go_wp2_with fail
  refine (HM.out _ HK1.out).mono ?_
  rintro e w2 ⟨v2, Fb, rfl, hbk, hFb, hk2⟩
  obtain ⟨t2, b2, rfl⟩ := hbk.shape
  have HBK := Lib.hid hbk
  have HFB := Lib.hid hFb
  have HK2 := Lib.hid (HK1.out.trans hk2)
  have HB2 := Lib.hid (HB1.out.kp hk2 (fun x => x))
  clear hbk hFb hk2 y0 y1 y2 y3 y4 y5 y6 y7 y8 y9 y10
  have HBX := HB2
  have y0 := HBX.out.cell 0 rfl
  have y1 := HBX.out.cell 1 rfl
  have y2 := HBX.out.cell 2 rfl
  have y3 := HBX.out.cell 3 rfl
  have y4 := HBX.out.cell 4 rfl
  have y5 := HBX.out.cell 5 rfl
  have y6 := HBX.out.cell 6 rfl
  have y7 := HBX.out.cell 7 rfl
  have y8 := HBX.out.cell 8 rfl
  have y9 := HBX.out.cell 9 rfl
  have y10 := HBX.out.cell 10 rfl
  have hbl := HB2.out.lt
  have HSB := Lib.hid (Blk.new w2 [.pointer none, .pointer none, .int .u64 0, .int .u64 0, .int .u64 0, .iface t2 (.agg #[.pointer (some ⟨b2, 0, none⟩)]), .int .u64 0, .int .u64 0, .int .u64 0, .int .u64 0, .int .u64 0, .int .u64 0, .int .u64 0, .int .u64 0, .int .u64 0, .int .u64 0, .int .u64 0, .int .u64 0, .int .u64 0, .int .u64 0, .int .u64 0, .int .u64 0, .int .u64 0, .int .u64 0, .int .u64 0, .int .u64 0, .int .u64 0, .int .u64 0, .int .u64 0, .int .u64 0, .int .u64 0, .int .u64 0, .int .u64 0, .int .u64 0, .int .u64 0, .int .u64 0, .int .u64 0, .int .u64 0, .int .u64 0] 97)
  have HKA := Lib.hid ((Kp.refl none' w2).alloc (.cells #[.pointer none, .pointer none, .int .u64 0, .int .u64 0, .int .u64 0, .iface t2 (.agg #[.pointer (some ⟨b2, 0, none⟩)]), .int .u64 0, .int .u64 0, .int .u64 0, .int .u64 0, .int .u64 0, .int .u64 0, .int .u64 0, .int .u64 0, .int .u64 0, .int .u64 0, .int .u64 0, .int .u64 0, .int .u64 0, .int .u64 0, .int .u64 0, .int .u64 0, .int .u64 0, .int .u64 0, .int .u64 0, .int .u64 0, .int .u64 0, .int .u64 0, .int .u64 0, .int .u64 0, .int .u64 0, .int .u64 0, .int .u64 0, .int .u64 0, .int .u64 0, .int .u64 0, .int .u64 0, .int .u64 0, .int .u64 0] 97))
  have HBK2 := Lib.hid (HBK.out.old HKA.out)
  have HB3 := Lib.hid (HB2.out.kp HKA.out (fun x => x))
  have HK3 := Lib.hid (HK2.out.trans HKA.out)
  clear HBX
  go_wp2_with fail
  refine (HG.out _ HK3.out).mono ?_
  rintro e w4 ⟨gb, Fg, rfl, hg, hFg, hk4⟩
  have HB4 := Lib.hid (HB3.out.kp hk4 (fun x => x))
  have HS4 := Lib.hid (HSB.out.kp hk4 (fun x => x))
  have HK4 := Lib.hid (HK3.out.trans hk4)
  have HBK4 := Lib.hid (HBK2.out.old hk4)
  have HG4 := Lib.hid hg
  have HFG := Lib.hid hFg
  have hsl := HS4.out.lt
  have s0 := HS4.out.cell 0 rfl
  have sz := HS4.out.fz 0
  have hne1 : w.heap.size ≠ w2.heap.size := by omega
  have hne2 : w2.heap.size ≠ w.heap.size := by omega
  have hFgs : ∀ b, Fg b → w2.heap.size < b := fun b hb => by have := HFG.out b hb; simp at this; omega
  have hkq : Kp (fun b => b = w2.heap.size) w4 (w4.setCell ⟨w2.heap.size, 0, none⟩ (.pointer (some ⟨gb, 0, none⟩))) := (Kp.refl (fun b => b = w2.heap.size) w4).set (p := ⟨w2.heap.size, 0, none⟩) (.inl rfl) _
  have HB5 := Lib.hid (HB4.out.kp hkq (fun e => hne1 e))
  have HS5 := Lib.hid (HS4.out.set 0 (.pointer (some ⟨gb, 0, none⟩)))
  have HFBl : Hid (∀ b, Fb b → b < w2.heap.size) := Lib.hid (fun b hb => HBK.out.lt hb)
  have HBK5 := Lib.hid (HBK4.out.kp hkq (fun b hb e => by have := HFBl.out b hb; omega))
  have HG5 := Lib.hid (HG4.out.kp hkq (fun b hb e => by have := hFgs b hb; omega))
  have HFG5 := Lib.hid hFgs
  have hws : w.heap.size ≤ w2.heap.size := by omega
  have HK5 : Hid (Kp none' w (w4.setCell ⟨w2.heap.size, 0, none⟩ (.pointer (some ⟨gb, 0, none⟩)))) := Lib.hid (HK4.out.set (p := ⟨w2.heap.size, 0, none⟩) (.inr hws) _)
  have y0 := HB4.out.cell 0 rfl
  have y10 := HB4.out.cell 10 rfl
  clear hg hFg hk4 hFgs hkq y1 y2 y3 y4 y5 y6 y7 y8 y9 HG
  go_wp2_with fail
  refine (HR.out _ HK5.out).mono ?_
  rintro e w6 ⟨Fr, rb, rfl, hr, hFr, hk6⟩
  have hz5 : (w4.setCell ⟨w2.heap.size, 0, none⟩ (.pointer (some ⟨gb, 0, none⟩))).heap.size = w4.heap.size := by simp [World.setCell]
  have HB6 := Lib.hid (HB5.out.kp hk6 (fun x => x))
  have HS6 := Lib.hid (HS5.out.kp hk6 (fun x => x))
  have HK6 := Lib.hid (HK5.out.trans hk6)
  have HBK6 := Lib.hid (HBK5.out.old hk6)
  have HG6 := Lib.hid (HG5.out.old hk6)
  have HR6 := Lib.hid hr
  have hFrs : ∀ b, Fr b → w4.heap.size ≤ b := fun b hb => by have := hFr b hb; omega
  have HFR := Lib.hid hFrs
  have HFGl : Hid (∀ b, Fg b → b < w4.heap.size) := Lib.hid (fun b hb => HG4.out.lt hb)
  have s1 := HS6.out.cell 1 rfl
  have sz1 := HS6.out.fz 1
  have hkq : Kp (fun b => b = w2.heap.size) w6 (w6.setCell ⟨w2.heap.size, 1, none⟩ (.pointer (some ⟨rb, 0, none⟩))) := (Kp.refl (fun b => b = w2.heap.size) w6).set (p := ⟨w2.heap.size, 1, none⟩) (.inl rfl) _
  have hFGs := HFG5.out
  have HB7 := Lib.hid (HB6.out.kp hkq (fun e => hne1 e))
  have HS7 := Lib.hid (HS6.out.set 1 (.pointer (some ⟨rb, 0, none⟩)))
  have HBK7 := Lib.hid (HBK6.out.kp hkq (fun b hb e => by have := HFBl.out b hb; omega))
  have HG7 := Lib.hid (HG6.out.kp hkq (fun b hb e => by have := hFGs b hb; omega))
  have HR7 := Lib.hid (HR6.out.kp hkq (fun b hb e => by have := hFrs b hb; omega))
  have HK7 : Hid (Kp none' w (w6.setCell ⟨w2.heap.size, 1, none⟩ (.pointer (some ⟨rb, 0, none⟩)))) := Lib.hid (HK6.out.set (p := ⟨w2.heap.size, 1, none⟩) (.inr hws) _)
  have y8 := HB6.out.cell 8 rfl
  have y9 := HB6.out.cell 9 rfl
  clear hr hFr hk6 hkq hFrs hFGs y0 y10 s0 sz hz5 HR
  go_wp2_with fail
  refine (HT.out _).mono ?_
  rintro e w8 ⟨rfl, hk8⟩
  have HS8 := Lib.hid (HS7.out.kp hk8 (fun x => x))
  have HK8 := Lib.hid (HK7.out.trans hk8)
  have HBK8 := Lib.hid (HBK7.out.old hk8)
  have HG8 := Lib.hid (HG7.out.old hk8)
  have HR8 := Lib.hid (HR7.out.old hk8)
  have t2c := HS8.out.cell 2 rfl
  have t3c := HS8.out.cell 3 rfl
  have t4c := HS8.out.cell 4 rfl
  have tz := fun j => HS8.out.fz j
  clear hk8 y8 y9 s1 sz1 HT
  go_wp2_with fail
  have hFbl := HFBl.out
  have hFgs := HFG5.out
  have hFgl := HFGl.out
  have hFrs := HFR.out
  have hkq : Kp (fun b => b = w2.heap.size) w8 (((w8.setCell ⟨w2.heap.size, 2, none⟩ (.int .u64 rt)).setCell ⟨w2.heap.size, 3, none⟩ (.int .u64 bu)).setCell ⟨w2.heap.size, 4, none⟩ (.int .u64 bu)) :=
    (((Kp.refl (fun b => b = w2.heap.size) w8).set (p := ⟨w2.heap.size, 2, none⟩) (.inl rfl) _).set (p := ⟨w2.heap.size, 3, none⟩) (.inl rfl) _).set (p := ⟨w2.heap.size, 4, none⟩) (.inl rfl) _
  refine HP.out _ _ ⟨⟨w2.heap.size, gb, rb, .iface t2 (.agg #[.pointer (some ⟨b2, 0, none⟩)]), Fg, Fr, Fb⟩, rfl, ?_, ?_, HK8.out.then hkq (fun b hb e => by omega)⟩
  · exact { top := ((HS8.out.set 2 (.int .u64 rt)).set 3 (.int .u64 bu)).set 4 (.int .u64 bu)
            gate := HG8.out.kp hkq (fun b hb e => by have := hFgs b hb; omega)
            ranks := HR8.out.kp hkq (fun b hb e => by have := hFrs b hb; omega)
            back := HBK8.out.kp hkq (fun b hb e => by have := hFbl b hb; omega)
            sg := fun hb => by have := hFgs _ hb; simp only at this; omega
            sr := fun hb => by have := hFrs _ hb; simp only at this; omega
            sk := fun hb => by have := hFbl _ hb; simp only at this; omega
            gr := fun b h1 h2 => by have := hFgl b h1; have := hFrs b h2; omega
            gk := fun b h1 h2 => by have := hFgs b h1; have := hFbl b h2; omega
            rk := fun b h1 h2 => by have := hFrs b h1; have := hFbl b h2; omega
            ok := HOKS.out }
  · intro b hb
    rcases hb with rfl | hb | hb | hb
    · exact hws
    · have := hFgs b hb; omega
    · have := hFrs b hb; omega
    · have h1 := HFB.out b hb
      have h2 := HK1.out.size
      omega

theorem setFlat_all : ∀ (vs : List Value) (o : Nat) (xs : List Value), o + vs.length = xs.length → setFlat xs o vs = xs.take o ++ vs
  | [], o, xs, h => by simp only [setFlat, List.append_nil]; rw [List.take_of_length_le (by simp at h; omega)]
  | v :: r, o, xs, h => by
    have hl : o < xs.length := by simp at h; omega
    show setFlat (xs.set o v) (o + 1) r = _
    rw [setFlat_all r (o + 1) (xs.set o v) (by rw [List.length_set]; simp at h; omega)]
    have : (xs.set o v).take (o + 1) = xs.take o ++ [v] := by
      rw [List.take_succ_eq_append_getElem (by rw [List.length_set]; exact hl), List.getElem_set_self, List.take_set_of_le (Nat.le_refl _)]
    rw [this]; simp
theorem Blk.setCells {b : Nat} {t : TypeId} : ∀ (vs : List Value) (o : Nat) (w : World) (cs : List Value), Blk w b cs t → Blk (w.setCells b o vs) b (setFlat cs o vs) t
  | [], _, _, _, h => h
  | v :: r, o, _, _, h => Blk.setCells r (o + 1) _ _ (h.set o v)
theorem wp_store_blk {P : Program} {ops : Array Oper} {rest : List Oper} {op : Oper} {a : Act} {Q : Exit → Act → World → Prop} (hgd : op.guard = none) (ty : TypeId) (x y : Operand) (ho : op.op = .store ty x y) {w : World} {b : Nat} {cs : List Value} {t : TypeId} (hb : Blk w b cs t) (vs : List Value) (hl : vs.length = cs.length)
    (hx : a.eval x = .pointer (some ⟨b, 0, none⟩)) (hy : a.eval y = .agg vs.toArray) (hinf : (P.info? ty).map (·.size) = some vs.length) (h1 : vs.all (·.oneCell') = true)
    (h : ∀ W2, Blk W2 b vs t → Kp (fun z => z = b) w W2 → wpList P ops Q rest (a.put op.dst undef) W2) : wpList P ops Q (op :: rest) a w := by
  refine wpList_store_mid hgd ty x y ho b 0 vs.toArray hx hy ?_ (by rw [List.size_toArray]; exact hinf) (by simpa using h1) ?_
  · intro j hj
    rw [List.size_toArray, hl] at hj
    refine ⟨?_, hb.fz _⟩
    rw [Nat.zero_add, hb.cell j (List.getElem?_eq_getElem hj)]; rfl
  · refine h _ ?_ (kp_setCells (S := fun z => z = b) (.inl rfl) _ _ _ (Kp.refl _ _))
    have := hb.setCells vs 0
    rw [setFlat_all vs 0 cs (by omega), List.take_zero, List.nil_append] at this
    exact this
theorem ret_blk {P : Program} {f : Func} {s : Tmp} {ty : TypeId} (hf : f.results = #[.cell s ty]) {R : Ending → World → Prop} {W : World} {g : Nat} {cs : List Value} {t : TypeId} {T : Array Value} (hb : Blk W g cs t) (d : TypeDesc) (hu : P.underlying ty = some d) (hd : (match d with | .struct _ | .array _ _ => true | _ => false) = true)
    (hi : (P.info? ty).map (·.size) = some cs.length) (h2 : T.getD s undef = .pointer (some ⟨g, 0, none⟩)) (hR : R (.returned (.agg cs.toArray)) W) : bodyPost P f R Exit.ret { tmps := T, defers := [] } W := by
  refine bodyPost_ret (v := .agg cs.toArray) ?_ rfl hR
  have h2' : T[s]?.getD undef = .pointer (some ⟨g, 0, none⟩) := by simpa using h2
  simp [results, hf, h2', asAddr, run_loadVar_row W g t ty cs.toArray (0, 0) d hb.is hu hd (by rw [List.size_toArray]; exact hi)]
end Go.Proofs.YtlaakhfgidjofaaGreatDoor
