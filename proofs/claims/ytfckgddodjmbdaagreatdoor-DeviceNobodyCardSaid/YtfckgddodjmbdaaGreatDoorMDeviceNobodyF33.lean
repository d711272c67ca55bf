/- A shaper's Do: time goes by, how it stands, refusals (layer 26). Printed by wip/shdo.py 2. -/
import Derived.Test.YtfckgddodjmbdaaGreatDoorMDeviceNobodyF32
namespace Go.Proofs.YtfckgddodjmbdaaGreatDoor
set_option linter.unusedVariables false
set_option linter.unusedSimpArgs false
open Go Go.RowKit Go.Shelf
theorem shRefuse {w : World} {f : ShF} {s : Sh} (h : ShM w f s) (c : Nat) (hc : c < 32) :
    Calls Tryz.prog 50 #[.pointer (some ⟨f.sb, 0, none⟩), .int .i64 c] w fun e w' => e = .returned (.int .i64 c) ∧ ShM w' f (refS s c) ∧ Kp (fun b => b = f.sb) w w' := by
  have hx : c < s.ref.length := by rw [h.ok.len]; exact hc
  refine (sRefuseR h.top c (s.ref.getD c 0) hc (ref_at s f hx) (by rw [List.getD_eq_getElem?_getD, List.getElem?_eq_getElem hx]; exact h.ok.ref _ (List.getElem_mem hx))).mono ?_
  rintro e w' ⟨h1, h2, h3⟩
  rw [ref_shC] at h2
  exact ⟨h1, { h with top := h2, gate := h.gate.kp h3 (fun b hb e => h.sg (e ▸ hb)), ranks := h.ranks.kp h3 (fun b hb e => h.sr (e ▸ hb)), back := h.back.kp h3 (fun b hb e => h.sk (e ▸ hb)), ok := refS_ok h.ok c }, h3⟩
theorem wp_store_blk_at {P : Program} {ops : Array Oper} {rest : List Oper} {op : Oper} {a : Act} {Q : Exit → Act → World → Prop} (hgd : op.guard = none) (ty : TypeId) (x y : Operand) (ho : op.op = .store ty x y) {w : World} {b : Nat} {cs : List Value} {t : TypeId} (hb : Blk w b cs t) (o : Nat) (vs : List Value) (hl : o + vs.length = cs.length)
    (hx : a.eval x = .pointer (some ⟨b, o, none⟩)) (hy : a.eval y = .agg vs.toArray) (hinf : (P.info? ty).map (·.size) = some vs.length) (h1 : vs.all (·.oneCell') = true)
    (h : ∀ W2, Blk W2 b (cs.take o ++ vs) t → Kp (fun z => z = b) w W2 → wpList P ops Q rest (a.put op.dst undef) W2) : wpList P ops Q (op :: rest) a w := by
  refine wpList_store_mid hgd ty x y ho b o vs.toArray hx hy ?_ (by rw [List.size_toArray]; exact hinf) (by simpa using h1) ?_
  · intro j hj
    rw [List.size_toArray] at hj
    refine ⟨?_, hb.fz _⟩
    rw [hb.cell (o + j) (List.getElem?_eq_getElem (by omega))]; rfl
  · refine h _ ?_ (kp_setCells (S := fun z => z = b) (.inl rfl) _ _ _ (Kp.refl _ _))
    have := hb.setCells vs o
    rw [setFlat_all vs o cs hl] at this
    exact this
set_option maxRecDepth 100000 in
set_option maxHeartbeats 8000000 in
theorem doTorn {w : World} {f : ShF} {s : Sh} (kind : Int) (fl id ln tk : Nat) (h : ShM w f s) (hkd : knownK kind = 5) :
    Calls Tryz.prog 23 #[.pointer (some ⟨f.sb, 0, none⟩), .agg #[.int .i64 kind, .int .u32 fl, .int .u32 id, .int .u64 ln, .int .u64 tk]] w fun e w' => e = .returned (.agg ((rpC 5 2 0 0 0 0 zSt, refS s 2)).1.toArray) ∧ ShTo w f ((rpC 5 2 0 0 0 0 zSt, refS s 2)).2 w' := by
  have HKN : Hid (∀ W, Calls Tryz.prog 44 #[.int .i64 kind] W fun e w' => e = .returned (.int .i64 5) ∧ W = w') := Lib.hid (fun W => by have := sKnown kind W; rw [hkd] at this; exact this)
  have HM := Lib.hid h
  have HL : Hid (∀ z, f.all z → z < w.heap.size) := Lib.hid (fun z hz => h.lt hz)
  obtain ⟨t5, x5, gu, ge, gp, hv, hbc⟩ := h.back.c
  have HV := Lib.hid hv
  have hsl := h.top.lt
  have c5 := h.top.cell 5 rfl
  rw [hv] at c5
  refine calls_post ?_
  intro PP HP
  clear h hkd hv hbc
  obtain ⟨sb, hsb⟩ : ∃ sb, f.sb = sb := ⟨_, rfl⟩
  rw [hsb] at hsl c5 ⊢
  have HSB := Lib.hid hsb
  clear hsb
  have ho0 := Blk.new w [.int .i64 kind, .int .u32 fl, .int .u32 id, .int .u64 ln, .int .u64 tk] 70
  have HO0 := Lib.hid ho0
  have hz0 := Blk.new (w.alloc (.cells #[.int .i64 kind, .int .u32 fl, .int .u32 id, .int .u64 ln, .int .u64 tk] 70)) [.int .i64 0, .int .i64 0, .int .u32 0, .int .u32 0, .int .u64 0, .int .u64 0, .int .u64 0, .int .u64 0, .int .i64 0, .int .u64 0, .int .u64 0, .int .u64 0, .int .u64 0, .int .u64 0, .int .u64 0, .int .u64 0, .int .u64 0, .int .u64 0, .int .u64 0, .int .u64 0, .int .u64 0, .int .u64 0, .int .u64 0, .int .u64 0, .int .u64 0, .int .u64 0, .int .u64 0, .int .u64 0, .int .u64 0, .int .u64 0, .int .u64 0, .int .u64 0, .int .u64 0, .int .u64 0, .int .u64 0, .int .u64 0, .int .u64 0, .int .u64 0, .int .u64 0, .int .u64 0, .int .u64 0, .int .u64 0] 67
  have e1 : (w.alloc (.cells #[.int .i64 kind, .int .u32 fl, .int .u32 id, .int .u64 ln, .int .u64 tk] 70)).heap.size = w.heap.size + 1 := by simp
  rw [e1] at hz0
  have HZ0 := Lib.hid hz0
  have hz1 := Blk.new ((w.alloc (.cells #[.int .i64 kind, .int .u32 fl, .int .u32 id, .int .u64 ln, .int .u64 tk] 70)).alloc (.cells #[.int .i64 0, .int .i64 0, .int .u32 0, .int .u32 0, .int .u64 0, .int .u64 0, .int .u64 0, .int .u64 0, .int .i64 0, .int .u64 0, .int .u64 0, .int .u64 0, .int .u64 0, .int .u64 0, .int .u64 0, .int .u64 0, .int .u64 0, .int .u64 0, .int .u64 0, .int .u64 0, .int .u64 0, .int .u64 0, .int .u64 0, .int .u64 0, .int .u64 0, .int .u64 0, .int .u64 0, .int .u64 0, .int .u64 0, .int .u64 0, .int .u64 0, .int .u64 0, .int .u64 0, .int .u64 0, .int .u64 0, .int .u64 0, .int .u64 0, .int .u64 0, .int .u64 0, .int .u64 0, .int .u64 0, .int .u64 0] 67)) [.int .i64 0, .int .i64 0, .int .u32 0, .int .u32 0, .int .u64 0, .int .u64 0, .int .u64 0, .int .u64 0, .int .i64 0, .int .u64 0, .int .u64 0, .int .u64 0, .int .u64 0, .int .u64 0, .int .u64 0, .int .u64 0, .int .u64 0, .int .u64 0, .int .u64 0, .int .u64 0, .int .u64 0, .int .u64 0, .int .u64 0, .int .u64 0, .int .u64 0, .int .u64 0, .int .u64 0, .int .u64 0, .int .u64 0, .int .u64 0, .int .u64 0, .int .u64 0, .int .u64 0, .int .u64 0, .int .u64 0, .int .u64 0, .int .u64 0, .int .u64 0, .int .u64 0, .int .u64 0, .int .u64 0, .int .u64 0] 67
  have e2 : ((w.alloc (.cells #[.int .i64 kind, .int .u32 fl, .int .u32 id, .int .u64 ln, .int .u64 tk] 70)).alloc (.cells #[.int .i64 0, .int .i64 0, .int .u32 0, .int .u32 0, .int .u64 0, .int .u64 0, .int .u64 0, .int .u64 0, .int .i64 0, .int .u64 0, .int .u64 0, .int .u64 0, .int .u64 0, .int .u64 0, .int .u64 0, .int .u64 0, .int .u64 0, .int .u64 0, .int .u64 0, .int .u64 0, .int .u64 0, .int .u64 0, .int .u64 0, .int .u64 0, .int .u64 0, .int .u64 0, .int .u64 0, .int .u64 0, .int .u64 0, .int .u64 0, .int .u64 0, .int .u64 0, .int .u64 0, .int .u64 0, .int .u64 0, .int .u64 0, .int .u64 0, .int .u64 0, .int .u64 0, .int .u64 0, .int .u64 0, .int .u64 0] 67)).heap.size = w.heap.size + 2 := by simp
  rw [e2] at hz1
  have HZ1 := Lib.hid hz1
  have HK0 := Lib.hid ((((Kp.refl none' w).alloc (.cells #[.int .i64 kind, .int .u32 fl, .int .u32 id, .int .u64 ln, .int .u64 tk] 70)).alloc (.cells #[.int .i64 0, .int .i64 0, .int .u32 0, .int .u32 0, .int .u64 0, .int .u64 0, .int .u64 0, .int .u64 0, .int .i64 0, .int .u64 0, .int .u64 0, .int .u64 0, .int .u64 0, .int .u64 0, .int .u64 0, .int .u64 0, .int .u64 0, .int .u64 0, .int .u64 0, .int .u64 0, .int .u64 0, .int .u64 0, .int .u64 0, .int .u64 0, .int .u64 0, .int .u64 0, .int .u64 0, .int .u64 0, .int .u64 0, .int .u64 0, .int .u64 0, .int .u64 0, .int .u64 0, .int .u64 0, .int .u64 0, .int .u64 0, .int .u64 0, .int .u64 0, .int .u64 0, .int .u64 0, .int .u64 0, .int .u64 0] 67)).alloc (.cells #[.int .i64 0, .int .i64 0, .int .u32 0, .int .u32 0, .int .u64 0, .int .u64 0, .int .u64 0, .int .u64 0, .int .i64 0, .int .u64 0, .int .u64 0, .int .u64 0, .int .u64 0, .int .u64 0, .int .u64 0, .int .u64 0, .int .u64 0, .int .u64 0, .int .u64 0, .int .u64 0, .int .u64 0, .int .u64 0, .int .u64 0, .int .u64 0, .int .u64 0, .int .u64 0, .int .u64 0, .int .u64 0, .int .u64 0, .int .u64 0, .int .u64 0, .int .u64 0, .int .u64 0, .int .u64 0, .int .u64 0, .int .u64 0, .int .u64 0, .int .u64 0, .int .u64 0, .int .u64 0, .int .u64 0, .int .u64 0] 67))
  clear hz0 hz1 e1 e2 ho0
  go_enter Tryz.func23, Tryz.ntmps23
  go_wp2_with fail
  refine (HKN.out _).mono ?_
  rintro e w' ⟨rfl, rfl⟩
  go_wp2_with (first
    | (refine wp_store_blk rfl 67 (.tmp 5) (.tmp 9) rfl HZ1.out [.int .i64 5, .int .i64 0, .int .u32 0, .int .u32 0, .int .u64 0, .int .u64 0, .int .u64 0, .int .u64 0, .int .i64 0, .int .u64 0, .int .u64 0, .int .u64 0, .int .u64 0, .int .u64 0, .int .u64 0, .int .u64 0, .int .u64 0, .int .u64 0, .int .u64 0, .int .u64 0, .int .u64 0, .int .u64 0, .int .u64 0, .int .u64 0, .int .u64 0, .int .u64 0, .int .u64 0, .int .u64 0, .int .u64 0, .int .u64 0, .int .u64 0, .int .u64 0, .int .u64 0, .int .u64 0, .int .u64 0, .int .u64 0, .int .u64 0, .int .u64 0, .int .u64 0, .int .u64 0, .int .u64 0, .int .u64 0] rfl rfl rfl infoRp rfl ?_
       intro W2 hb2 hk2
       have HB2 := Lib.hid hb2
       have HK2 := Lib.hid hk2
       clear hb2 hk2
       have k02 : Kp none' w W2 := HK0.out.then HK2.out (fun b hb e => by omega)
       have HZ2 := Lib.hid ((HZ0.out.alloc (.cells #[.int .i64 0, .int .i64 0, .int .u32 0, .int .u32 0, .int .u64 0, .int .u64 0, .int .u64 0, .int .u64 0, .int .i64 0, .int .u64 0, .int .u64 0, .int .u64 0, .int .u64 0, .int .u64 0, .int .u64 0, .int .u64 0, .int .u64 0, .int .u64 0, .int .u64 0, .int .u64 0, .int .u64 0, .int .u64 0, .int .u64 0, .int .u64 0, .int .u64 0, .int .u64 0, .int .u64 0, .int .u64 0, .int .u64 0, .int .u64 0, .int .u64 0, .int .u64 0, .int .u64 0, .int .u64 0, .int .u64 0, .int .u64 0, .int .u64 0, .int .u64 0, .int .u64 0, .int .u64 0, .int .u64 0, .int .u64 0] 67)).kp HK2.out (fun e => by omega))
       have HO2 := Lib.hid (((HO0.out.alloc (.cells #[.int .i64 0, .int .i64 0, .int .u32 0, .int .u32 0, .int .u64 0, .int .u64 0, .int .u64 0, .int .u64 0, .int .i64 0, .int .u64 0, .int .u64 0, .int .u64 0, .int .u64 0, .int .u64 0, .int .u64 0, .int .u64 0, .int .u64 0, .int .u64 0, .int .u64 0, .int .u64 0, .int .u64 0, .int .u64 0, .int .u64 0, .int .u64 0, .int .u64 0, .int .u64 0, .int .u64 0, .int .u64 0, .int .u64 0, .int .u64 0, .int .u64 0, .int .u64 0, .int .u64 0, .int .u64 0, .int .u64 0, .int .u64 0, .int .u64 0, .int .u64 0, .int .u64 0, .int .u64 0, .int .u64 0, .int .u64 0] 67)).alloc (.cells #[.int .i64 0, .int .i64 0, .int .u32 0, .int .u32 0, .int .u64 0, .int .u64 0, .int .u64 0, .int .u64 0, .int .i64 0, .int .u64 0, .int .u64 0, .int .u64 0, .int .u64 0, .int .u64 0, .int .u64 0, .int .u64 0, .int .u64 0, .int .u64 0, .int .u64 0, .int .u64 0, .int .u64 0, .int .u64 0, .int .u64 0, .int .u64 0, .int .u64 0, .int .u64 0, .int .u64 0, .int .u64 0, .int .u64 0, .int .u64 0, .int .u64 0, .int .u64 0, .int .u64 0, .int .u64 0, .int .u64 0, .int .u64 0, .int .u64 0, .int .u64 0, .int .u64 0, .int .u64 0, .int .u64 0, .int .u64 0] 67)).kp HK2.out (fun e => by omega))
       have K02 := Lib.hid k02
       have d5 := k02.cell c5 (fun x => x)
       have HM2 := Lib.hid (HM.out.old k02)
       have hs2 := HB2.out.lt
       have b0 := HB2.out.cell 0 rfl
       skip
       clear HZ0 HZ1 HO0 HK0 HK2 HKN HM k02 c5))
  have hc2 : Calls Tryz.prog 50 #[.pointer (some ⟨f.sb, 0, none⟩), .int .i64 2] W2 fun e w' => e = .returned (.int .i64 2) ∧ ShM w' f (refS s 2) ∧ Kp (fun b => b = f.sb) W2 w' := shRefuse HM2.out 2 (by decide)
  rw [HSB.out] at hc2
  refine hc2.mono ?_
  rintro e W3 ⟨rfl, hm3, k3⟩
  have HB3 := Lib.hid (HB2.out.kp k3 (fun e => by omega))
  have HZ3 := Lib.hid (HZ2.out.kp k3 (fun e => by omega))
  have b1 := HB3.out.cell 1 rfl
  have bz := HB3.out.fz 1
  have HB4 := Lib.hid (HB3.out.set 1 (.int .i64 2))
  have ks : Kp (fun z => z = w.heap.size + 2) W3 (W3.setCell ⟨w.heap.size + 2, 1, none⟩ (.int .i64 2)) := (Kp.refl (fun z => z = w.heap.size + 2) W3).set (p := ⟨w.heap.size + 2, 1, none⟩) (.inl rfl) _
  have HZ4 := Lib.hid (HZ3.out.kp ks (fun e => by omega))
  have KS := Lib.hid ks
  have HTO : Hid (ShTo W2 f (refS s 2) W3) := Lib.hid ⟨f, hm3, (by rw [← HSB.out] at k3; exact k3.mono (fun z _ h => .inl h)), Nw.refl _ _, rfl⟩
  clear hc2 hm3 k3 ks b0
  go_wp2_with (first
    | (refine wpList_load_mid rfl 67 (.tmp 5) rfl (w.heap.size + 2) 0 rfl ([.int .i64 5, .int .i64 0, .int .u32 0, .int .u32 0, .int .u64 0, .int .u64 0, .int .u64 0, .int .u64 0, .int .i64 0, .int .u64 0, .int .u64 0, .int .u64 0, .int .u64 0, .int .u64 0, .int .u64 0, .int .u64 0, .int .u64 0, .int .u64 0, .int .u64 0, .int .u64 0, .int .u64 0, .int .u64 0, .int .u64 0, .int .u64 0, .int .u64 0, .int .u64 0, .int .u64 0, .int .u64 0, .int .u64 0, .int .u64 0, .int .u64 0, .int .u64 0, .int .u64 0, .int .u64 0, .int .u64 0, .int .u64 0, .int .u64 0, .int .u64 0, .int .u64 0, .int .u64 0, .int .u64 0, .int .u64 0].set 1 (.int .i64 2)) _ (fun j v hv => by rw [Nat.zero_add]; exact HB4.out.cell j hv) Tryz.underlying67 rfl infoRp ?_)
    | (refine wp_store_blk rfl 67 (.tmp 4) (.tmp 67) rfl HZ4.out ([.int .i64 5, .int .i64 0, .int .u32 0, .int .u32 0, .int .u64 0, .int .u64 0, .int .u64 0, .int .u64 0, .int .i64 0, .int .u64 0, .int .u64 0, .int .u64 0, .int .u64 0, .int .u64 0, .int .u64 0, .int .u64 0, .int .u64 0, .int .u64 0, .int .u64 0, .int .u64 0, .int .u64 0, .int .u64 0, .int .u64 0, .int .u64 0, .int .u64 0, .int .u64 0, .int .u64 0, .int .u64 0, .int .u64 0, .int .u64 0, .int .u64 0, .int .u64 0, .int .u64 0, .int .u64 0, .int .u64 0, .int .u64 0, .int .u64 0, .int .u64 0, .int .u64 0, .int .u64 0, .int .u64 0, .int .u64 0].set 1 (.int .i64 2)) rfl rfl rfl infoRp rfl ?_
       intro W12 hb12 hk12
       have HB12 := Lib.hid hb12
       have HK12 := Lib.hid hk12
       clear hb12 hk12))
  refine ret_blk (by exact rfl) HB12.out _ Tryz.underlying67 rfl infoRp (by exact rfl) (HP.out _ _ ⟨rfl, ShTo.wrap HL.out K02.out HTO.out ((KS.out.mono (fun z _ e => by omega)).trans (HK12.out.mono (fun z _ e => by omega)))⟩)
set_option maxRecDepth 100000 in
set_option maxHeartbeats 8000000 in
theorem doJunk {w : World} {f : ShF} {s : Sh} (kind : Int) (fl id ln tk : Nat) (h : ShM w f s) (hkd : knownK kind = 0) :
    Calls Tryz.prog 23 #[.pointer (some ⟨f.sb, 0, none⟩), .agg #[.int .i64 kind, .int .u32 fl, .int .u32 id, .int .u64 ln, .int .u64 tk]] w fun e w' => e = .returned (.agg ((rpC 0 1 0 0 0 0 zSt, refS s 1)).1.toArray) ∧ ShTo w f ((rpC 0 1 0 0 0 0 zSt, refS s 1)).2 w' := by
  have HKN : Hid (∀ W, Calls Tryz.prog 44 #[.int .i64 kind] W fun e w' => e = .returned (.int .i64 0) ∧ W = w') := Lib.hid (fun W => by have := sKnown kind W; rw [hkd] at this; exact this)
  have HM := Lib.hid h
  have HL : Hid (∀ z, f.all z → z < w.heap.size) := Lib.hid (fun z hz => h.lt hz)
  obtain ⟨t5, x5, gu, ge, gp, hv, hbc⟩ := h.back.c
  have HV := Lib.hid hv
  have hsl := h.top.lt
  have c5 := h.top.cell 5 rfl
  rw [hv] at c5
  refine calls_post ?_
  intro PP HP
  clear h hkd hv hbc
  obtain ⟨sb, hsb⟩ : ∃ sb, f.sb = sb := ⟨_, rfl⟩
  rw [hsb] at hsl c5 ⊢
  have HSB := Lib.hid hsb
  clear hsb
  have ho0 := Blk.new w [.int .i64 kind, .int .u32 fl, .int .u32 id, .int .u64 ln, .int .u64 tk] 70
  have HO0 := Lib.hid ho0
  have hz0 := Blk.new (w.alloc (.cells #[.int .i64 kind, .int .u32 fl, .int .u32 id, .int .u64 ln, .int .u64 tk] 70)) [.int .i64 0, .int .i64 0, .int .u32 0, .int .u32 0, .int .u64 0, .int .u64 0, .int .u64 0, .int .u64 0, .int .i64 0, .int .u64 0, .int .u64 0, .int .u64 0, .int .u64 0, .int .u64 0, .int .u64 0, .int .u64 0, .int .u64 0, .int .u64 0, .int .u64 0, .int .u64 0, .int .u64 0, .int .u64 0, .int .u64 0, .int .u64 0, .int .u64 0, .int .u64 0, .int .u64 0, .int .u64 0, .int .u64 0, .int .u64 0, .int .u64 0, .int .u64 0, .int .u64 0, .int .u64 0, .int .u64 0, .int .u64 0, .int .u64 0, .int .u64 0, .int .u64 0, .int .u64 0, .int .u64 0, .int .u64 0] 67
  have e1 : (w.alloc (.cells #[.int .i64 kind, .int .u32 fl, .int .u32 id, .int .u64 ln, .int .u64 tk] 70)).heap.size = w.heap.size + 1 := by simp
  rw [e1] at hz0
  have HZ0 := Lib.hid hz0
  have hz1 := Blk.new ((w.alloc (.cells #[.int .i64 kind, .int .u32 fl, .int .u32 id, .int .u64 ln, .int .u64 tk] 70)).alloc (.cells #[.int .i64 0, .int .i64 0, .int .u32 0, .int .u32 0, .int .u64 0, .int .u64 0, .int .u64 0, .int .u64 0, .int .i64 0, .int .u64 0, .int .u64 0, .int .u64 0, .int .u64 0, .int .u64 0, .int .u64 0, .int .u64 0, .int .u64 0, .int .u64 0, .int .u64 0, .int .u64 0, .int .u64 0, .int .u64 0, .int .u64 0, .int .u64 0, .int .u64 0, .int .u64 0, .int .u64 0, .int .u64 0, .int .u64 0, .int .u64 0, .int .u64 0, .int .u64 0, .int .u64 0, .int .u64 0, .int .u64 0, .int .u64 0, .int .u64 0, .int .u64 0, .int .u64 0, .int .u64 0, .int .u64 0, .int .u64 0] 67)) [.int .i64 0, .int .i64 0, .int .u32 0, .int .u32 0, .int .u64 0, .int .u64 0, .int .u64 0, .int .u64 0, .int .i64 0, .int .u64 0, .int .u64 0, .int .u64 0, .int .u64 0, .int .u64 0, .int .u64 0, .int .u64 0, .int .u64 0, .int .u64 0, .int .u64 0, .int .u64 0, .int .u64 0, .int .u64 0, .int .u64 0, .int .u64 0, .int .u64 0, .int .u64 0, .int .u64 0, .int .u64 0, .int .u64 0, .int .u64 0, .int .u64 0, .int .u64 0, .int .u64 0, .int .u64 0, .int .u64 0, .int .u64 0, .int .u64 0, .int .u64 0, .int .u64 0, .int .u64 0, .int .u64 0, .int .u64 0] 67
  have e2 : ((w.alloc (.cells #[.int .i64 kind, .int .u32 fl, .int .u32 id, .int .u64 ln, .int .u64 tk] 70)).alloc (.cells #[.int .i64 0, .int .i64 0, .int .u32 0, .int .u32 0, .int .u64 0, .int .u64 0, .int .u64 0, .int .u64 0, .int .i64 0, .int .u64 0, .int .u64 0, .int .u64 0, .int .u64 0, .int .u64 0, .int .u64 0, .int .u64 0, .int .u64 0, .int .u64 0, .int .u64 0, .int .u64 0, .int .u64 0, .int .u64 0, .int .u64 0, .int .u64 0, .int .u64 0, .int .u64 0, .int .u64 0, .int .u64 0, .int .u64 0, .int .u64 0, .int .u64 0, .int .u64 0, .int .u64 0, .int .u64 0, .int .u64 0, .int .u64 0, .int .u64 0, .int .u64 0, .int .u64 0, .int .u64 0, .int .u64 0, .int .u64 0] 67)).heap.size = w.heap.size + 2 := by simp
  rw [e2] at hz1
  have HZ1 := Lib.hid hz1
  have HK0 := Lib.hid ((((Kp.refl none' w).alloc (.cells #[.int .i64 kind, .int .u32 fl, .int .u32 id, .int .u64 ln, .int .u64 tk] 70)).alloc (.cells #[.int .i64 0, .int .i64 0, .int .u32 0, .int .u32 0, .int .u64 0, .int .u64 0, .int .u64 0, .int .u64 0, .int .i64 0, .int .u64 0, .int .u64 0, .int .u64 0, .int .u64 0, .int .u64 0, .int .u64 0, .int .u64 0, .int .u64 0, .int .u64 0, .int .u64 0, .int .u64 0, .int .u64 0, .int .u64 0, .int .u64 0, .int .u64 0, .int .u64 0, .int .u64 0, .int .u64 0, .int .u64 0, .int .u64 0, .int .u64 0, .int .u64 0, .int .u64 0, .int .u64 0, .int .u64 0, .int .u64 0, .int .u64 0, .int .u64 0, .int .u64 0, .int .u64 0, .int .u64 0, .int .u64 0, .int .u64 0] 67)).alloc (.cells #[.int .i64 0, .int .i64 0, .int .u32 0, .int .u32 0, .int .u64 0, .int .u64 0, .int .u64 0, .int .u64 0, .int .i64 0, .int .u64 0, .int .u64 0, .int .u64 0, .int .u64 0, .int .u64 0, .int .u64 0, .int .u64 0, .int .u64 0, .int .u64 0, .int .u64 0, .int .u64 0, .int .u64 0, .int .u64 0, .int .u64 0, .int .u64 0, .int .u64 0, .int .u64 0, .int .u64 0, .int .u64 0, .int .u64 0, .int .u64 0, .int .u64 0, .int .u64 0, .int .u64 0, .int .u64 0, .int .u64 0, .int .u64 0, .int .u64 0, .int .u64 0, .int .u64 0, .int .u64 0, .int .u64 0, .int .u64 0] 67))
  clear hz0 hz1 e1 e2 ho0
  go_enter Tryz.func23, Tryz.ntmps23
  go_wp2_with fail
  refine (HKN.out _).mono ?_
  rintro e w' ⟨rfl, rfl⟩
  go_wp2_with (first
    | (refine wp_store_blk rfl 67 (.tmp 5) (.tmp 9) rfl HZ1.out [.int .i64 0, .int .i64 0, .int .u32 0, .int .u32 0, .int .u64 0, .int .u64 0, .int .u64 0, .int .u64 0, .int .i64 0, .int .u64 0, .int .u64 0, .int .u64 0, .int .u64 0, .int .u64 0, .int .u64 0, .int .u64 0, .int .u64 0, .int .u64 0, .int .u64 0, .int .u64 0, .int .u64 0, .int .u64 0, .int .u64 0, .int .u64 0, .int .u64 0, .int .u64 0, .int .u64 0, .int .u64 0, .int .u64 0, .int .u64 0, .int .u64 0, .int .u64 0, .int .u64 0, .int .u64 0, .int .u64 0, .int .u64 0, .int .u64 0, .int .u64 0, .int .u64 0, .int .u64 0, .int .u64 0, .int .u64 0] rfl rfl rfl infoRp rfl ?_
       intro W2 hb2 hk2
       have HB2 := Lib.hid hb2
       have HK2 := Lib.hid hk2
       clear hb2 hk2
       have k02 : Kp none' w W2 := HK0.out.then HK2.out (fun b hb e => by omega)
       have HZ2 := Lib.hid ((HZ0.out.alloc (.cells #[.int .i64 0, .int .i64 0, .int .u32 0, .int .u32 0, .int .u64 0, .int .u64 0, .int .u64 0, .int .u64 0, .int .i64 0, .int .u64 0, .int .u64 0, .int .u64 0, .int .u64 0, .int .u64 0, .int .u64 0, .int .u64 0, .int .u64 0, .int .u64 0, .int .u64 0, .int .u64 0, .int .u64 0, .int .u64 0, .int .u64 0, .int .u64 0, .int .u64 0, .int .u64 0, .int .u64 0, .int .u64 0, .int .u64 0, .int .u64 0, .int .u64 0, .int .u64 0, .int .u64 0, .int .u64 0, .int .u64 0, .int .u64 0, .int .u64 0, .int .u64 0, .int .u64 0, .int .u64 0, .int .u64 0, .int .u64 0] 67)).kp HK2.out (fun e => by omega))
       have HO2 := Lib.hid (((HO0.out.alloc (.cells #[.int .i64 0, .int .i64 0, .int .u32 0, .int .u32 0, .int .u64 0, .int .u64 0, .int .u64 0, .int .u64 0, .int .i64 0, .int .u64 0, .int .u64 0, .int .u64 0, .int .u64 0, .int .u64 0, .int .u64 0, .int .u64 0, .int .u64 0, .int .u64 0, .int .u64 0, .int .u64 0, .int .u64 0, .int .u64 0, .int .u64 0, .int .u64 0, .int .u64 0, .int .u64 0, .int .u64 0, .int .u64 0, .int .u64 0, .int .u64 0, .int .u64 0, .int .u64 0, .int .u64 0, .int .u64 0, .int .u64 0, .int .u64 0, .int .u64 0, .int .u64 0, .int .u64 0, .int .u64 0, .int .u64 0, .int .u64 0] 67)).alloc (.cells #[.int .i64 0, .int .i64 0, .int .u32 0, .int .u32 0, .int .u64 0, .int .u64 0, .int .u64 0, .int .u64 0, .int .i64 0, .int .u64 0, .int .u64 0, .int .u64 0, .int .u64 0, .int .u64 0, .int .u64 0, .int .u64 0, .int .u64 0, .int .u64 0, .int .u64 0, .int .u64 0, .int .u64 0, .int .u64 0, .int .u64 0, .int .u64 0, .int .u64 0, .int .u64 0, .int .u64 0, .int .u64 0, .int .u64 0, .int .u64 0, .int .u64 0, .int .u64 0, .int .u64 0, .int .u64 0, .int .u64 0, .int .u64 0, .int .u64 0, .int .u64 0, .int .u64 0, .int .u64 0, .int .u64 0, .int .u64 0] 67)).kp HK2.out (fun e => by omega))
       have K02 := Lib.hid k02
       have d5 := k02.cell c5 (fun x => x)
       have HM2 := Lib.hid (HM.out.old k02)
       have hs2 := HB2.out.lt
       have b0 := HB2.out.cell 0 rfl
       skip
       clear HZ0 HZ1 HO0 HK0 HK2 HKN HM k02 c5))
  have hc2 : Calls Tryz.prog 50 #[.pointer (some ⟨f.sb, 0, none⟩), .int .i64 1] W2 fun e w' => e = .returned (.int .i64 1) ∧ ShM w' f (refS s 1) ∧ Kp (fun b => b = f.sb) W2 w' := shRefuse HM2.out 1 (by decide)
  rw [HSB.out] at hc2
  refine hc2.mono ?_
  rintro e W3 ⟨rfl, hm3, k3⟩
  have HB3 := Lib.hid (HB2.out.kp k3 (fun e => by omega))
  have HZ3 := Lib.hid (HZ2.out.kp k3 (fun e => by omega))
  have b1 := HB3.out.cell 1 rfl
  have bz := HB3.out.fz 1
  have HB4 := Lib.hid (HB3.out.set 1 (.int .i64 1))
  have ks : Kp (fun z => z = w.heap.size + 2) W3 (W3.setCell ⟨w.heap.size + 2, 1, none⟩ (.int .i64 1)) := (Kp.refl (fun z => z = w.heap.size + 2) W3).set (p := ⟨w.heap.size + 2, 1, none⟩) (.inl rfl) _
  have HZ4 := Lib.hid (HZ3.out.kp ks (fun e => by omega))
  have KS := Lib.hid ks
  have HTO : Hid (ShTo W2 f (refS s 1) W3) := Lib.hid ⟨f, hm3, (by rw [← HSB.out] at k3; exact k3.mono (fun z _ h => .inl h)), Nw.refl _ _, rfl⟩
  clear hc2 hm3 k3 ks b0
  go_wp2_with (first
    | (refine wpList_load_mid rfl 67 (.tmp 5) rfl (w.heap.size + 2) 0 rfl ([.int .i64 0, .int .i64 0, .int .u32 0, .int .u32 0, .int .u64 0, .int .u64 0, .int .u64 0, .int .u64 0, .int .i64 0, .int .u64 0, .int .u64 0, .int .u64 0, .int .u64 0, .int .u64 0, .int .u64 0, .int .u64 0, .int .u64 0, .int .u64 0, .int .u64 0, .int .u64 0, .int .u64 0, .int .u64 0, .int .u64 0, .int .u64 0, .int .u64 0, .int .u64 0, .int .u64 0, .int .u64 0, .int .u64 0, .int .u64 0, .int .u64 0, .int .u64 0, .int .u64 0, .int .u64 0, .int .u64 0, .int .u64 0, .int .u64 0, .int .u64 0, .int .u64 0, .int .u64 0, .int .u64 0, .int .u64 0].set 1 (.int .i64 1)) _ (fun j v hv => by rw [Nat.zero_add]; exact HB4.out.cell j hv) Tryz.underlying67 rfl infoRp ?_)
    | (refine wp_store_blk rfl 67 (.tmp 4) (.tmp 67) rfl HZ4.out ([.int .i64 0, .int .i64 0, .int .u32 0, .int .u32 0, .int .u64 0, .int .u64 0, .int .u64 0, .int .u64 0, .int .i64 0, .int .u64 0, .int .u64 0, .int .u64 0, .int .u64 0, .int .u64 0, .int .u64 0, .int .u64 0, .int .u64 0, .int .u64 0, .int .u64 0, .int .u64 0, .int .u64 0, .int .u64 0, .int .u64 0, .int .u64 0, .int .u64 0, .int .u64 0, .int .u64 0, .int .u64 0, .int .u64 0, .int .u64 0, .int .u64 0, .int .u64 0, .int .u64 0, .int .u64 0, .int .u64 0, .int .u64 0, .int .u64 0, .int .u64 0, .int .u64 0, .int .u64 0, .int .u64 0, .int .u64 0].set 1 (.int .i64 1)) rfl rfl rfl infoRp rfl ?_
       intro W12 hb12 hk12
       have HB12 := Lib.hid hb12
       have HK12 := Lib.hid hk12
       clear hb12 hk12))
  refine ret_blk (by exact rfl) HB12.out _ Tryz.underlying67 rfl infoRp (by exact rfl) (HP.out _ _ ⟨rfl, ShTo.wrap HL.out K02.out HTO.out ((KS.out.mono (fun z _ e => by omega)).trans (HK12.out.mono (fun z _ e => by omega)))⟩)
set_option maxRecDepth 100000 in
set_option maxHeartbeats 8000000 in
theorem doStats {w : World} {f : ShF} {s : Sh} (kind : Int) (fl id ln tk : Nat) (h : ShM w f s) (hkd : knownK kind = 4) :
    Calls Tryz.prog 23 #[.pointer (some ⟨f.sb, 0, none⟩), .agg #[.int .i64 kind, .int .u32 fl, .int .u32 id, .int .u64 ln, .int .u64 tk]] w fun e w' => e = .returned (.agg ((rpC 4 0 0 0 0 0 (statsC s), s)).1.toArray) ∧ ShTo w f ((rpC 4 0 0 0 0 0 (statsC s), s)).2 w' := by
  obtain ⟨h36, h361⟩ := stats36 h.ok.len
  have HST := Lib.hid (fun W (k : ShM W f s) => sStats k)
  obtain ⟨sc, hsc⟩ : ∃ sc, statsC s = sc := ⟨_, rfl⟩
  rw [hsc] at h36 h361 HST ⊢
  have HKN : Hid (∀ W, Calls Tryz.prog 44 #[.int .i64 kind] W fun e w' => e = .returned (.int .i64 4) ∧ W = w') := Lib.hid (fun W => by have := sKnown kind W; rw [hkd] at this; exact this)
  have HM := Lib.hid h
  have HL : Hid (∀ z, f.all z → z < w.heap.size) := Lib.hid (fun z hz => h.lt hz)
  obtain ⟨t5, x5, gu, ge, gp, hv, hbc⟩ := h.back.c
  have HV := Lib.hid hv
  have hsl := h.top.lt
  have c5 := h.top.cell 5 rfl
  rw [hv] at c5
  refine calls_post ?_
  intro PP HP
  clear h hkd hv hbc hsc
  obtain ⟨sb, hsb⟩ : ∃ sb, f.sb = sb := ⟨_, rfl⟩
  rw [hsb] at hsl c5 ⊢
  have HSB := Lib.hid hsb
  clear hsb
  have ho0 := Blk.new w [.int .i64 kind, .int .u32 fl, .int .u32 id, .int .u64 ln, .int .u64 tk] 70
  have HO0 := Lib.hid ho0
  have hz0 := Blk.new (w.alloc (.cells #[.int .i64 kind, .int .u32 fl, .int .u32 id, .int .u64 ln, .int .u64 tk] 70)) [.int .i64 0, .int .i64 0, .int .u32 0, .int .u32 0, .int .u64 0, .int .u64 0, .int .u64 0, .int .u64 0, .int .i64 0, .int .u64 0, .int .u64 0, .int .u64 0, .int .u64 0, .int .u64 0, .int .u64 0, .int .u64 0, .int .u64 0, .int .u64 0, .int .u64 0, .int .u64 0, .int .u64 0, .int .u64 0, .int .u64 0, .int .u64 0, .int .u64 0, .int .u64 0, .int .u64 0, .int .u64 0, .int .u64 0, .int .u64 0, .int .u64 0, .int .u64 0, .int .u64 0, .int .u64 0, .int .u64 0, .int .u64 0, .int .u64 0, .int .u64 0, .int .u64 0, .int .u64 0, .int .u64 0, .int .u64 0] 67
  have e1 : (w.alloc (.cells #[.int .i64 kind, .int .u32 fl, .int .u32 id, .int .u64 ln, .int .u64 tk] 70)).heap.size = w.heap.size + 1 := by simp
  rw [e1] at hz0
  have HZ0 := Lib.hid hz0
  have hz1 := Blk.new ((w.alloc (.cells #[.int .i64 kind, .int .u32 fl, .int .u32 id, .int .u64 ln, .int .u64 tk] 70)).alloc (.cells #[.int .i64 0, .int .i64 0, .int .u32 0, .int .u32 0, .int .u64 0, .int .u64 0, .int .u64 0, .int .u64 0, .int .i64 0, .int .u64 0, .int .u64 0, .int .u64 0, .int .u64 0, .int .u64 0, .int .u64 0, .int .u64 0, .int .u64 0, .int .u64 0, .int .u64 0, .int .u64 0, .int .u64 0, .int .u64 0, .int .u64 0, .int .u64 0, .int .u64 0, .int .u64 0, .int .u64 0, .int .u64 0, .int .u64 0, .int .u64 0, .int .u64 0, .int .u64 0, .int .u64 0, .int .u64 0, .int .u64 0, .int .u64 0, .int .u64 0, .int .u64 0, .int .u64 0, .int .u64 0, .int .u64 0, .int .u64 0] 67)) [.int .i64 0, .int .i64 0, .int .u32 0, .int .u32 0, .int .u64 0, .int .u64 0, .int .u64 0, .int .u64 0, .int .i64 0, .int .u64 0, .int .u64 0, .int .u64 0, .int .u64 0, .int .u64 0, .int .u64 0, .int .u64 0, .int .u64 0, .int .u64 0, .int .u64 0, .int .u64 0, .int .u64 0, .int .u64 0, .int .u64 0, .int .u64 0, .int .u64 0, .int .u64 0, .int .u64 0, .int .u64 0, .int .u64 0, .int .u64 0, .int .u64 0, .int .u64 0, .int .u64 0, .int .u64 0, .int .u64 0, .int .u64 0, .int .u64 0, .int .u64 0, .int .u64 0, .int .u64 0, .int .u64 0, .int .u64 0] 67
  have e2 : ((w.alloc (.cells #[.int .i64 kind, .int .u32 fl, .int .u32 id, .int .u64 ln, .int .u64 tk] 70)).alloc (.cells #[.int .i64 0, .int .i64 0, .int .u32 0, .int .u32 0, .int .u64 0, .int .u64 0, .int .u64 0, .int .u64 0, .int .i64 0, .int .u64 0, .int .u64 0, .int .u64 0, .int .u64 0, .int .u64 0, .int .u64 0, .int .u64 0, .int .u64 0, .int .u64 0, .int .u64 0, .int .u64 0, .int .u64 0, .int .u64 0, .int .u64 0, .int .u64 0, .int .u64 0, .int .u64 0, .int .u64 0, .int .u64 0, .int .u64 0, .int .u64 0, .int .u64 0, .int .u64 0, .int .u64 0, .int .u64 0, .int .u64 0, .int .u64 0, .int .u64 0, .int .u64 0, .int .u64 0, .int .u64 0, .int .u64 0, .int .u64 0] 67)).heap.size = w.heap.size + 2 := by simp
  rw [e2] at hz1
  have HZ1 := Lib.hid hz1
  have HK0 := Lib.hid ((((Kp.refl none' w).alloc (.cells #[.int .i64 kind, .int .u32 fl, .int .u32 id, .int .u64 ln, .int .u64 tk] 70)).alloc (.cells #[.int .i64 0, .int .i64 0, .int .u32 0, .int .u32 0, .int .u64 0, .int .u64 0, .int .u64 0, .int .u64 0, .int .i64 0, .int .u64 0, .int .u64 0, .int .u64 0, .int .u64 0, .int .u64 0, .int .u64 0, .int .u64 0, .int .u64 0, .int .u64 0, .int .u64 0, .int .u64 0, .int .u64 0, .int .u64 0, .int .u64 0, .int .u64 0, .int .u64 0, .int .u64 0, .int .u64 0, .int .u64 0, .int .u64 0, .int .u64 0, .int .u64 0, .int .u64 0, .int .u64 0, .int .u64 0, .int .u64 0, .int .u64 0, .int .u64 0, .int .u64 0, .int .u64 0, .int .u64 0, .int .u64 0, .int .u64 0] 67)).alloc (.cells #[.int .i64 0, .int .i64 0, .int .u32 0, .int .u32 0, .int .u64 0, .int .u64 0, .int .u64 0, .int .u64 0, .int .i64 0, .int .u64 0, .int .u64 0, .int .u64 0, .int .u64 0, .int .u64 0, .int .u64 0, .int .u64 0, .int .u64 0, .int .u64 0, .int .u64 0, .int .u64 0, .int .u64 0, .int .u64 0, .int .u64 0, .int .u64 0, .int .u64 0, .int .u64 0, .int .u64 0, .int .u64 0, .int .u64 0, .int .u64 0, .int .u64 0, .int .u64 0, .int .u64 0, .int .u64 0, .int .u64 0, .int .u64 0, .int .u64 0, .int .u64 0, .int .u64 0, .int .u64 0, .int .u64 0, .int .u64 0] 67))
  clear hz0 hz1 e1 e2 ho0
  go_enter Tryz.func23, Tryz.ntmps23
  go_wp2_with fail
  refine (HKN.out _).mono ?_
  rintro e w' ⟨rfl, rfl⟩
  go_wp2_with (first
    | (refine wp_store_blk rfl 67 (.tmp 5) (.tmp 9) rfl HZ1.out [.int .i64 4, .int .i64 0, .int .u32 0, .int .u32 0, .int .u64 0, .int .u64 0, .int .u64 0, .int .u64 0, .int .i64 0, .int .u64 0, .int .u64 0, .int .u64 0, .int .u64 0, .int .u64 0, .int .u64 0, .int .u64 0, .int .u64 0, .int .u64 0, .int .u64 0, .int .u64 0, .int .u64 0, .int .u64 0, .int .u64 0, .int .u64 0, .int .u64 0, .int .u64 0, .int .u64 0, .int .u64 0, .int .u64 0, .int .u64 0, .int .u64 0, .int .u64 0, .int .u64 0, .int .u64 0, .int .u64 0, .int .u64 0, .int .u64 0, .int .u64 0, .int .u64 0, .int .u64 0, .int .u64 0, .int .u64 0] rfl rfl rfl infoRp rfl ?_
       intro W2 hb2 hk2
       have HB2 := Lib.hid hb2
       have HK2 := Lib.hid hk2
       clear hb2 hk2
       have k02 : Kp none' w W2 := HK0.out.then HK2.out (fun b hb e => by omega)
       have HZ2 := Lib.hid ((HZ0.out.alloc (.cells #[.int .i64 0, .int .i64 0, .int .u32 0, .int .u32 0, .int .u64 0, .int .u64 0, .int .u64 0, .int .u64 0, .int .i64 0, .int .u64 0, .int .u64 0, .int .u64 0, .int .u64 0, .int .u64 0, .int .u64 0, .int .u64 0, .int .u64 0, .int .u64 0, .int .u64 0, .int .u64 0, .int .u64 0, .int .u64 0, .int .u64 0, .int .u64 0, .int .u64 0, .int .u64 0, .int .u64 0, .int .u64 0, .int .u64 0, .int .u64 0, .int .u64 0, .int .u64 0, .int .u64 0, .int .u64 0, .int .u64 0, .int .u64 0, .int .u64 0, .int .u64 0, .int .u64 0, .int .u64 0, .int .u64 0, .int .u64 0] 67)).kp HK2.out (fun e => by omega))
       have HO2 := Lib.hid (((HO0.out.alloc (.cells #[.int .i64 0, .int .i64 0, .int .u32 0, .int .u32 0, .int .u64 0, .int .u64 0, .int .u64 0, .int .u64 0, .int .i64 0, .int .u64 0, .int .u64 0, .int .u64 0, .int .u64 0, .int .u64 0, .int .u64 0, .int .u64 0, .int .u64 0, .int .u64 0, .int .u64 0, .int .u64 0, .int .u64 0, .int .u64 0, .int .u64 0, .int .u64 0, .int .u64 0, .int .u64 0, .int .u64 0, .int .u64 0, .int .u64 0, .int .u64 0, .int .u64 0, .int .u64 0, .int .u64 0, .int .u64 0, .int .u64 0, .int .u64 0, .int .u64 0, .int .u64 0, .int .u64 0, .int .u64 0, .int .u64 0, .int .u64 0] 67)).alloc (.cells #[.int .i64 0, .int .i64 0, .int .u32 0, .int .u32 0, .int .u64 0, .int .u64 0, .int .u64 0, .int .u64 0, .int .i64 0, .int .u64 0, .int .u64 0, .int .u64 0, .int .u64 0, .int .u64 0, .int .u64 0, .int .u64 0, .int .u64 0, .int .u64 0, .int .u64 0, .int .u64 0, .int .u64 0, .int .u64 0, .int .u64 0, .int .u64 0, .int .u64 0, .int .u64 0, .int .u64 0, .int .u64 0, .int .u64 0, .int .u64 0, .int .u64 0, .int .u64 0, .int .u64 0, .int .u64 0, .int .u64 0, .int .u64 0, .int .u64 0, .int .u64 0, .int .u64 0, .int .u64 0, .int .u64 0, .int .u64 0] 67)).kp HK2.out (fun e => by omega))
       have K02 := Lib.hid k02
       have d5 := k02.cell c5 (fun x => x)
       have HM2 := Lib.hid (HM.out.old k02)
       have hs2 := HB2.out.lt
       have b0 := HB2.out.cell 0 rfl
       skip
       clear HZ0 HZ1 HO0 HK0 HK2 HKN HM k02 c5))
  have hc2 := HST.out W2 HM2.out
  rw [HSB.out] at hc2
  refine hc2.mono ?_
  rintro e W3 ⟨rfl, k3⟩
  have HB3 := Lib.hid (HB2.out.kp k3 (fun x => x))
  have HZ3 := Lib.hid (HZ2.out.kp k3 (fun x => x))
  have HTO : Hid (ShTo W2 f s W3) := Lib.hid ⟨f, HM2.out.old k3, k3.mono (fun z _ h => h.elim), Nw.refl _ _, rfl⟩
  have hlen : (([.int .i64 4, .int .i64 0, .int .u32 0, .int .u32 0, .int .u64 0, .int .u64 0, .int .u64 0, .int .u64 0, .int .i64 0, .int .u64 0, .int .u64 0, .int .u64 0, .int .u64 0, .int .u64 0, .int .u64 0, .int .u64 0, .int .u64 0, .int .u64 0, .int .u64 0, .int .u64 0, .int .u64 0, .int .u64 0, .int .u64 0, .int .u64 0, .int .u64 0, .int .u64 0, .int .u64 0, .int .u64 0, .int .u64 0, .int .u64 0, .int .u64 0, .int .u64 0, .int .u64 0, .int .u64 0, .int .u64 0, .int .u64 0, .int .u64 0, .int .u64 0, .int .u64 0, .int .u64 0, .int .u64 0, .int .u64 0] : List Value).take 6 ++ sc).length = 42 := by rw [List.length_append, h36]; rfl
  have hone : (([.int .i64 4, .int .i64 0, .int .u32 0, .int .u32 0, .int .u64 0, .int .u64 0, .int .u64 0, .int .u64 0, .int .i64 0, .int .u64 0, .int .u64 0, .int .u64 0, .int .u64 0, .int .u64 0, .int .u64 0, .int .u64 0, .int .u64 0, .int .u64 0, .int .u64 0, .int .u64 0, .int .u64 0, .int .u64 0, .int .u64 0, .int .u64 0, .int .u64 0, .int .u64 0, .int .u64 0, .int .u64 0, .int .u64 0, .int .u64 0, .int .u64 0, .int .u64 0, .int .u64 0, .int .u64 0, .int .u64 0, .int .u64 0, .int .u64 0, .int .u64 0, .int .u64 0, .int .u64 0, .int .u64 0, .int .u64 0] : List Value).take 6 ++ sc).all (·.oneCell') = true := by rw [List.all_append, h361]; rfl
  clear hc2 k3 b0
  go_wp2_with (first
    | (refine wp_store_blk_at rfl 33 (.tmp 61) (.tmp 60) rfl HB3.out 6 sc (by rw [h36]; rfl) rfl rfl (by rw [h36]; exact infoSta) h361 ?_
       intro W4 hb4 hk4
       have HB4 := Lib.hid hb4
       have HZ4 := Lib.hid (HZ3.out.kp hk4 (fun e => by omega))
       have HK4 := Lib.hid hk4
       clear hb4 hk4)
    | (refine wpList_load_mid rfl 67 (.tmp 5) rfl (w.heap.size + 2) 0 rfl (([.int .i64 4, .int .i64 0, .int .u32 0, .int .u32 0, .int .u64 0, .int .u64 0, .int .u64 0, .int .u64 0, .int .i64 0, .int .u64 0, .int .u64 0, .int .u64 0, .int .u64 0, .int .u64 0, .int .u64 0, .int .u64 0, .int .u64 0, .int .u64 0, .int .u64 0, .int .u64 0, .int .u64 0, .int .u64 0, .int .u64 0, .int .u64 0, .int .u64 0, .int .u64 0, .int .u64 0, .int .u64 0, .int .u64 0, .int .u64 0, .int .u64 0, .int .u64 0, .int .u64 0, .int .u64 0, .int .u64 0, .int .u64 0, .int .u64 0, .int .u64 0, .int .u64 0, .int .u64 0, .int .u64 0, .int .u64 0] : List Value).take 6 ++ sc) _ (fun j v hv => by rw [Nat.zero_add]; exact HB4.out.cell j hv) Tryz.underlying67 rfl (by rw [hlen]; exact infoRp) ?_)
    | (refine wp_store_blk rfl 67 (.tmp 4) (.tmp 67) rfl HZ4.out (([.int .i64 4, .int .i64 0, .int .u32 0, .int .u32 0, .int .u64 0, .int .u64 0, .int .u64 0, .int .u64 0, .int .i64 0, .int .u64 0, .int .u64 0, .int .u64 0, .int .u64 0, .int .u64 0, .int .u64 0, .int .u64 0, .int .u64 0, .int .u64 0, .int .u64 0, .int .u64 0, .int .u64 0, .int .u64 0, .int .u64 0, .int .u64 0, .int .u64 0, .int .u64 0, .int .u64 0, .int .u64 0, .int .u64 0, .int .u64 0, .int .u64 0, .int .u64 0, .int .u64 0, .int .u64 0, .int .u64 0, .int .u64 0, .int .u64 0, .int .u64 0, .int .u64 0, .int .u64 0, .int .u64 0, .int .u64 0] : List Value).take 6 ++ sc) (by rw [hlen]; rfl) rfl rfl (by rw [hlen]; exact infoRp) hone ?_
       intro W12 hb12 hk12
       have HB12 := Lib.hid hb12
       have HK12 := Lib.hid hk12
       clear hb12 hk12))
  refine ret_blk (by exact rfl) HB12.out _ Tryz.underlying67 rfl (by rw [hlen]; exact infoRp) (by exact rfl) (HP.out _ _ ⟨rfl, ShTo.wrap HL.out K02.out HTO.out ((HK4.out.mono (fun z _ e => by omega)).trans (HK12.out.mono (fun z _ e => by omega)))⟩)
set_option maxRecDepth 100000 in
set_option maxHeartbeats 8000000 in
theorem doTick {w : World} {f : ShF} {s : Sh} (kind : Int) (fl id ln tk : Nat) (h : ShM w f s) (hkd : knownK kind = 3) (htk : tk < 18446744073709551616) :
    Calls Tryz.prog 23 #[.pointer (some ⟨f.sb, 0, none⟩), .agg #[.int .i64 kind, .int .u32 fl, .int .u32 id, .int .u64 ln, .int .u64 tk]] w fun e w' => e = .returned (.agg ((rpC 3 0 0 0 0 0 zSt, { s with now := satN s.now tk, tok := tickB s.rate s.burst s.tok tk })).1.toArray) ∧ ShTo w f ((rpC 3 0 0 0 0 0 zSt, { s with now := satN s.now tk, tok := tickB s.rate s.burst s.tok tk })).2 w' := by
  have HADD : Hid (∀ W, Calls Tryz.prog 47 #[.int .u64 s.now, .int .u64 tk] W fun e w' => e = .returned (.int .u64 (satN s.now tk)) ∧ Kp none' W w') := Lib.hid (fun W => (sAdd s.now tk h.ok.now htk W).mono fun e w' h => ⟨h.1, h.2 ▸ Kp.refl none' _⟩)
  have HTI := Lib.hid (fun W => bTick s.rate s.burst s.tok tk h.ok.rate.1 h.ok.burst.1 h.ok.tok h.ok.rate.2 h.ok.burst.2 htk W)
  have HOK2 : Hid ({ s with now := satN s.now tk, tok := tickB s.rate s.burst s.tok tk } : Sh).Ok := Lib.hid { h.ok with now := satN_lt _ _, tok := Nat.min_le_right _ _ }
  obtain ⟨now2, hnow2⟩ : ∃ x, satN s.now tk = x := ⟨_, rfl⟩
  obtain ⟨tok2, htok2⟩ : ∃ x, tickB s.rate s.burst s.tok tk = x := ⟨_, rfl⟩
  simp only [hnow2, htok2] at HADD HTI HOK2 ⊢
  have htop := h.top
  unfold shC at htop
  obtain ⟨rate, hrate⟩ : ∃ x, s.rate = x := ⟨_, rfl⟩
  obtain ⟨burst, hburst⟩ : ∃ x, s.burst = x := ⟨_, rfl⟩
  obtain ⟨tok, htok⟩ : ∃ x, s.tok = x := ⟨_, rfl⟩
  obtain ⟨now, hnow⟩ : ∃ x, s.now = x := ⟨_, rfl⟩
  rw [hrate, hburst, htok, hnow] at htop
  rw [hrate, hburst, htok] at HTI
  rw [hnow] at HADD
  have HSH : Hid (shC ({ s with now := now2, tok := tok2 } : Sh) f = [.pointer (some ⟨f.gb, 0, none⟩), .pointer (some ⟨f.rb, 0, none⟩), .int .u64 rate, .int .u64 burst, .int .u64 tok2, f.v, .int .u64 now2] ++ s.ref.map eN8) := Lib.hid (by rw [← hrate, ← hburst]; rfl)
  have HTOP := Lib.hid htop
  have HKN : Hid (∀ W, Calls Tryz.prog 44 #[.int .i64 kind] W fun e w' => e = .returned (.int .i64 3) ∧ W = w') := Lib.hid (fun W => by have := sKnown kind W; rw [hkd] at this; exact this)
  have HM := Lib.hid h
  have HL : Hid (∀ z, f.all z → z < w.heap.size) := Lib.hid (fun z hz => h.lt hz)
  obtain ⟨t5, x5, gu, ge, gp, hv, hbc⟩ := h.back.c
  have HV := Lib.hid hv
  have hsl := h.top.lt
  have c5 := h.top.cell 5 rfl
  rw [hv] at c5
  refine calls_post ?_
  intro PP HP
  clear h hkd hv hbc hrate hburst htok hnow hnow2 htok2 htop htk
  obtain ⟨sb, hsb⟩ : ∃ sb, f.sb = sb := ⟨_, rfl⟩
  rw [hsb] at hsl c5 ⊢
  have HSB := Lib.hid hsb
  clear hsb
  have ho0 := Blk.new w [.int .i64 kind, .int .u32 fl, .int .u32 id, .int .u64 ln, .int .u64 tk] 70
  have HO0 := Lib.hid ho0
  have hz0 := Blk.new (w.alloc (.cells #[.int .i64 kind, .int .u32 fl, .int .u32 id, .int .u64 ln, .int .u64 tk] 70)) [.int .i64 0, .int .i64 0, .int .u32 0, .int .u32 0, .int .u64 0, .int .u64 0, .int .u64 0, .int .u64 0, .int .i64 0, .int .u64 0, .int .u64 0, .int .u64 0, .int .u64 0, .int .u64 0, .int .u64 0, .int .u64 0, .int .u64 0, .int .u64 0, .int .u64 0, .int .u64 0, .int .u64 0, .int .u64 0, .int .u64 0, .int .u64 0, .int .u64 0, .int .u64 0, .int .u64 0, .int .u64 0, .int .u64 0, .int .u64 0, .int .u64 0, .int .u64 0, .int .u64 0, .int .u64 0, .int .u64 0, .int .u64 0, .int .u64 0, .int .u64 0, .int .u64 0, .int .u64 0, .int .u64 0, .int .u64 0] 67
  have e1 : (w.alloc (.cells #[.int .i64 kind, .int .u32 fl, .int .u32 id, .int .u64 ln, .int .u64 tk] 70)).heap.size = w.heap.size + 1 := by simp
  rw [e1] at hz0
  have HZ0 := Lib.hid hz0
  have hz1 := Blk.new ((w.alloc (.cells #[.int .i64 kind, .int .u32 fl, .int .u32 id, .int .u64 ln, .int .u64 tk] 70)).alloc (.cells #[.int .i64 0, .int .i64 0, .int .u32 0, .int .u32 0, .int .u64 0, .int .u64 0, .int .u64 0, .int .u64 0, .int .i64 0, .int .u64 0, .int .u64 0, .int .u64 0, .int .u64 0, .int .u64 0, .int .u64 0, .int .u64 0, .int .u64 0, .int .u64 0, .int .u64 0, .int .u64 0, .int .u64 0, .int .u64 0, .int .u64 0, .int .u64 0, .int .u64 0, .int .u64 0, .int .u64 0, .int .u64 0, .int .u64 0, .int .u64 0, .int .u64 0, .int .u64 0, .int .u64 0, .int .u64 0, .int .u64 0, .int .u64 0, .int .u64 0, .int .u64 0, .int .u64 0, .int .u64 0, .int .u64 0, .int .u64 0] 67)) [.int .i64 0, .int .i64 0, .int .u32 0, .int .u32 0, .int .u64 0, .int .u64 0, .int .u64 0, .int .u64 0, .int .i64 0, .int .u64 0, .int .u64 0, .int .u64 0, .int .u64 0, .int .u64 0, .int .u64 0, .int .u64 0, .int .u64 0, .int .u64 0, .int .u64 0, .int .u64 0, .int .u64 0, .int .u64 0, .int .u64 0, .int .u64 0, .int .u64 0, .int .u64 0, .int .u64 0, .int .u64 0, .int .u64 0, .int .u64 0, .int .u64 0, .int .u64 0, .int .u64 0, .int .u64 0, .int .u64 0, .int .u64 0, .int .u64 0, .int .u64 0, .int .u64 0, .int .u64 0, .int .u64 0, .int .u64 0] 67
  have e2 : ((w.alloc (.cells #[.int .i64 kind, .int .u32 fl, .int .u32 id, .int .u64 ln, .int .u64 tk] 70)).alloc (.cells #[.int .i64 0, .int .i64 0, .int .u32 0, .int .u32 0, .int .u64 0, .int .u64 0, .int .u64 0, .int .u64 0, .int .i64 0, .int .u64 0, .int .u64 0, .int .u64 0, .int .u64 0, .int .u64 0, .int .u64 0, .int .u64 0, .int .u64 0, .int .u64 0, .int .u64 0, .int .u64 0, .int .u64 0, .int .u64 0, .int .u64 0, .int .u64 0, .int .u64 0, .int .u64 0, .int .u64 0, .int .u64 0, .int .u64 0, .int .u64 0, .int .u64 0, .int .u64 0, .int .u64 0, .int .u64 0, .int .u64 0, .int .u64 0, .int .u64 0, .int .u64 0, .int .u64 0, .int .u64 0, .int .u64 0, .int .u64 0] 67)).heap.size = w.heap.size + 2 := by simp
  rw [e2] at hz1
  have HZ1 := Lib.hid hz1
  have HK0 := Lib.hid ((((Kp.refl none' w).alloc (.cells #[.int .i64 kind, .int .u32 fl, .int .u32 id, .int .u64 ln, .int .u64 tk] 70)).alloc (.cells #[.int .i64 0, .int .i64 0, .int .u32 0, .int .u32 0, .int .u64 0, .int .u64 0, .int .u64 0, .int .u64 0, .int .i64 0, .int .u64 0, .int .u64 0, .int .u64 0, .int .u64 0, .int .u64 0, .int .u64 0, .int .u64 0, .int .u64 0, .int .u64 0, .int .u64 0, .int .u64 0, .int .u64 0, .int .u64 0, .int .u64 0, .int .u64 0, .int .u64 0, .int .u64 0, .int .u64 0, .int .u64 0, .int .u64 0, .int .u64 0, .int .u64 0, .int .u64 0, .int .u64 0, .int .u64 0, .int .u64 0, .int .u64 0, .int .u64 0, .int .u64 0, .int .u64 0, .int .u64 0, .int .u64 0, .int .u64 0] 67)).alloc (.cells #[.int .i64 0, .int .i64 0, .int .u32 0, .int .u32 0, .int .u64 0, .int .u64 0, .int .u64 0, .int .u64 0, .int .i64 0, .int .u64 0, .int .u64 0, .int .u64 0, .int .u64 0, .int .u64 0, .int .u64 0, .int .u64 0, .int .u64 0, .int .u64 0, .int .u64 0, .int .u64 0, .int .u64 0, .int .u64 0, .int .u64 0, .int .u64 0, .int .u64 0, .int .u64 0, .int .u64 0, .int .u64 0, .int .u64 0, .int .u64 0, .int .u64 0, .int .u64 0, .int .u64 0, .int .u64 0, .int .u64 0, .int .u64 0, .int .u64 0, .int .u64 0, .int .u64 0, .int .u64 0, .int .u64 0, .int .u64 0] 67))
  clear hz0 hz1 e1 e2 ho0
  go_enter Tryz.func23, Tryz.ntmps23
  go_wp2_with fail
  refine (HKN.out _).mono ?_
  rintro e w' ⟨rfl, rfl⟩
  go_wp2_with (first
    | (refine wp_store_blk rfl 67 (.tmp 5) (.tmp 9) rfl HZ1.out [.int .i64 3, .int .i64 0, .int .u32 0, .int .u32 0, .int .u64 0, .int .u64 0, .int .u64 0, .int .u64 0, .int .i64 0, .int .u64 0, .int .u64 0, .int .u64 0, .int .u64 0, .int .u64 0, .int .u64 0, .int .u64 0, .int .u64 0, .int .u64 0, .int .u64 0, .int .u64 0, .int .u64 0, .int .u64 0, .int .u64 0, .int .u64 0, .int .u64 0, .int .u64 0, .int .u64 0, .int .u64 0, .int .u64 0, .int .u64 0, .int .u64 0, .int .u64 0, .int .u64 0, .int .u64 0, .int .u64 0, .int .u64 0, .int .u64 0, .int .u64 0, .int .u64 0, .int .u64 0, .int .u64 0, .int .u64 0] rfl rfl rfl infoRp rfl ?_
       intro W2 hb2 hk2
       have HB2 := Lib.hid hb2
       have HK2 := Lib.hid hk2
       clear hb2 hk2
       have k02 : Kp none' w W2 := HK0.out.then HK2.out (fun b hb e => by omega)
       have HZ2 := Lib.hid ((HZ0.out.alloc (.cells #[.int .i64 0, .int .i64 0, .int .u32 0, .int .u32 0, .int .u64 0, .int .u64 0, .int .u64 0, .int .u64 0, .int .i64 0, .int .u64 0, .int .u64 0, .int .u64 0, .int .u64 0, .int .u64 0, .int .u64 0, .int .u64 0, .int .u64 0, .int .u64 0, .int .u64 0, .int .u64 0, .int .u64 0, .int .u64 0, .int .u64 0, .int .u64 0, .int .u64 0, .int .u64 0, .int .u64 0, .int .u64 0, .int .u64 0, .int .u64 0, .int .u64 0, .int .u64 0, .int .u64 0, .int .u64 0, .int .u64 0, .int .u64 0, .int .u64 0, .int .u64 0, .int .u64 0, .int .u64 0, .int .u64 0, .int .u64 0] 67)).kp HK2.out (fun e => by omega))
       have HO2 := Lib.hid (((HO0.out.alloc (.cells #[.int .i64 0, .int .i64 0, .int .u32 0, .int .u32 0, .int .u64 0, .int .u64 0, .int .u64 0, .int .u64 0, .int .i64 0, .int .u64 0, .int .u64 0, .int .u64 0, .int .u64 0, .int .u64 0, .int .u64 0, .int .u64 0, .int .u64 0, .int .u64 0, .int .u64 0, .int .u64 0, .int .u64 0, .int .u64 0, .int .u64 0, .int .u64 0, .int .u64 0, .int .u64 0, .int .u64 0, .int .u64 0, .int .u64 0, .int .u64 0, .int .u64 0, .int .u64 0, .int .u64 0, .int .u64 0, .int .u64 0, .int .u64 0, .int .u64 0, .int .u64 0, .int .u64 0, .int .u64 0, .int .u64 0, .int .u64 0] 67)).alloc (.cells #[.int .i64 0, .int .i64 0, .int .u32 0, .int .u32 0, .int .u64 0, .int .u64 0, .int .u64 0, .int .u64 0, .int .i64 0, .int .u64 0, .int .u64 0, .int .u64 0, .int .u64 0, .int .u64 0, .int .u64 0, .int .u64 0, .int .u64 0, .int .u64 0, .int .u64 0, .int .u64 0, .int .u64 0, .int .u64 0, .int .u64 0, .int .u64 0, .int .u64 0, .int .u64 0, .int .u64 0, .int .u64 0, .int .u64 0, .int .u64 0, .int .u64 0, .int .u64 0, .int .u64 0, .int .u64 0, .int .u64 0, .int .u64 0, .int .u64 0, .int .u64 0, .int .u64 0, .int .u64 0, .int .u64 0, .int .u64 0] 67)).kp HK2.out (fun e => by omega))
       have K02 := Lib.hid k02
       have d5 := k02.cell c5 (fun x => x)
       have HM2 := Lib.hid (HM.out.old k02)
       have hs2 := HB2.out.lt
       have b0 := HB2.out.cell 0 rfl
       have ht2 := HTOP.out.kp k02 (fun x => x)
       rw [HSB.out] at ht2
       have HT2 := Lib.hid ht2
       have d6 := HT2.out.cell 6 rfl
       have o4 := HO2.out.cell 4 rfl
       clear HZ0 HZ1 HO0 HK0 HK2 HKN HM k02 c5))
  refine wp_region_kept2 [] [0, 1, 2, 3, 4, 5, 6, 7, 8, 9] 10 (by kernel_rfl) (by kernel_rfl) (fun c a d u w h => by cases d <;> exact h) ?_
  simp only [pick, List.getElem?_cons_succ, List.getElem?_cons_zero, List.drop_succ_cons, List.drop_zero]
  show wpKL _ _ _ _ _ _
  repeat (first
    | (refine wpKL_op (by exact rfl) (by as_aux_lemma => intro W hK; have e0 := hK.cell d6 (fun x => x); have e1 := hK.cell o4 (fun x => x); go_simp; exact rfl) ?_; simp only [Act.put, List.setIfInBounds_toArray, List.set_cons_succ, List.set_cons_zero])
    | (refine wpKL_off (by exact rfl) ?_; simp only [Act.put, List.setIfInBounds_toArray, List.set_cons_succ, List.set_cons_zero])
    | (refine wpKL_call (by exact rfl) (by as_aux_lemma => intro W; go_simp; exact ⟨rfl, rfl⟩) (by intro W hK; with_reducible first | exact HADD.out W) ?_; simp only [Act.put, List.setIfInBounds_toArray, List.set_cons_succ, List.set_cons_zero]))
  show ∀ W, _ → wpList _ _ _ _ _ _
  intro W3 hK3
  have HT3 := Lib.hid (HT2.out.kp hK3 (fun x => x))
  have HO3 := Lib.hid (HO2.out.kp hK3 (fun x => x))
  have HB3 := Lib.hid (HB2.out.kp hK3 (fun x => x))
  have HZ3 := Lib.hid (HZ2.out.kp hK3 (fun x => x))
  have HK3 := Lib.hid hK3
  have d6 := HT3.out.cell 6 rfl
  have dz := HT3.out.fz 6
  clear hK3
  go_upto_region 13 with fail
  have ht4 := HT3.out.set 6 (.int .u64 now2)
  have k34 : Kp (fun z => z = sb) W3 (W3.setCell ⟨sb, 6, none⟩ (.int .u64 now2)) := (Kp.refl (fun z => z = sb) W3).set (p := ⟨sb, 6, none⟩) (.inl rfl) _
  obtain ⟨W4, hW4⟩ : ∃ W4, W3.setCell ⟨sb, 6, none⟩ (.int .u64 now2) = W4 := ⟨_, rfl⟩
  rw [hW4] at ht4 k34 ⊢
  have HT4 : Hid (Blk W4 sb ([.pointer (some ⟨f.gb, 0, none⟩), .pointer (some ⟨f.rb, 0, none⟩), .int .u64 rate, .int .u64 burst, .int .u64 tok, f.v, .int .u64 now2] ++ s.ref.map eN8) 140) := Lib.hid ht4
  have HO4 := Lib.hid (HO3.out.kp k34 (fun e => by omega))
  have HB4 := Lib.hid (HB3.out.kp k34 (fun e => by omega))
  have HZ4 := Lib.hid (HZ3.out.kp k34 (fun e => by omega))
  have K24 : Hid (Kp (fun z => z = sb) W2 W4) := Lib.hid ((HK3.out.mono (fun _ _ x => x.elim)).trans k34)
  have e2 := HT4.out.cell 2 rfl
  have e3 := HT4.out.cell 3 rfl
  have e4 := HT4.out.cell 4 rfl
  have o4 := HO4.out.cell 4 rfl
  clear hW4 ht4 k34 d6 dz HT3 HO3 HB3 HZ3 HK3 HT2 HO2 HB2 HZ2
  go_wp2_with fail
  refine wp_region_kept2 [] [0, 1, 2, 3, 4, 5, 6, 7, 8, 9] 10 (by kernel_rfl) (by kernel_rfl) (fun c a d u w h => by cases d <;> exact h) ?_
  simp only [pick, List.getElem?_cons_succ, List.getElem?_cons_zero, List.drop_succ_cons, List.drop_zero]
  show wpKL _ _ _ _ _ _
  repeat (first
    | (refine wpKL_op (by exact rfl) (by as_aux_lemma => intro W hK; have q2 := hK.cell e2 (fun x => x); have q3 := hK.cell e3 (fun x => x); have q4 := hK.cell e4 (fun x => x); have q5 := hK.cell o4 (fun x => x); go_simp; exact rfl) ?_; simp only [Act.put, List.setIfInBounds_toArray, List.set_cons_succ, List.set_cons_zero])
    | (refine wpKL_off (by exact rfl) ?_; simp only [Act.put, List.setIfInBounds_toArray, List.set_cons_succ, List.set_cons_zero])
    | (refine wpKL_call (by exact rfl) (by as_aux_lemma => intro W; go_simp; exact ⟨rfl, rfl⟩) (by intro W hK; with_reducible first | exact HTI.out W) ?_; simp only [Act.put, List.setIfInBounds_toArray, List.set_cons_succ, List.set_cons_zero]))
  show ∀ W, _ → wpList _ _ _ _ _ _
  intro W5 hK5
  have HT5 := Lib.hid (HT4.out.kp hK5 (fun x => x))
  have HB5 := Lib.hid (HB4.out.kp hK5 (fun x => x))
  have HZ5 := Lib.hid (HZ4.out.kp hK5 (fun x => x))
  have K25 : Hid (Kp (fun z => z = sb) W2 W5) := Lib.hid (K24.out.trans (hK5.mono (fun _ _ x => x.elim)))
  have e2 := HT5.out.cell 2 rfl
  have e3 := HT5.out.cell 3 rfl
  have e4 := HT5.out.cell 4 rfl
  have ez := fun j => HT5.out.fz j
  clear hK5 o4
  go_upto_region 18 with fail
  have ht6 := ((HT5.out.set 2 (.int .u64 rate)).set 3 (.int .u64 burst)).set 4 (.int .u64 tok2)
  have k56 : Kp (fun z => z = sb) W5 (((W5.setCell ⟨sb, 2, none⟩ (.int .u64 rate)).setCell ⟨sb, 3, none⟩ (.int .u64 burst)).setCell ⟨sb, 4, none⟩ (.int .u64 tok2)) := (((Kp.refl (fun z => z = sb) W5).set (p := ⟨sb, 2, none⟩) (.inl rfl) _).set (p := ⟨sb, 3, none⟩) (.inl rfl) _).set (p := ⟨sb, 4, none⟩) (.inl rfl) _
  obtain ⟨W6, hW6⟩ : ∃ W6, ((W5.setCell ⟨sb, 2, none⟩ (.int .u64 rate)).setCell ⟨sb, 3, none⟩ (.int .u64 burst)).setCell ⟨sb, 4, none⟩ (.int .u64 tok2) = W6 := ⟨_, rfl⟩
  rw [hW6] at ht6 k56 ⊢
  have HT6 : Hid (Blk W6 sb ([.pointer (some ⟨f.gb, 0, none⟩), .pointer (some ⟨f.rb, 0, none⟩), .int .u64 rate, .int .u64 burst, .int .u64 tok2, f.v, .int .u64 now2] ++ s.ref.map eN8) 140) := Lib.hid ht6
  have HB4 := Lib.hid (HB5.out.kp k56 (fun e => by omega))
  have HZ4 := Lib.hid (HZ5.out.kp k56 (fun e => by omega))
  have K26 : Hid (Kp (fun z => z = sb) W2 W6) := Lib.hid (K25.out.trans k56)
  have HTO : Hid (ShTo W2 f ({ s with now := now2, tok := tok2 } : Sh) W6) := by
    have hm := HM2.out
    have k := K26.out
    refine Lib.hid ⟨f, { hm with top := ?_, gate := hm.gate.kp k (fun b hb e => hm.sg (by rw [HSB.out, ← e]; exact hb)), ranks := hm.ranks.kp k (fun b hb e => hm.sr (by rw [HSB.out, ← e]; exact hb)), back := hm.back.kp k (fun b hb e => hm.sk (by rw [HSB.out, ← e]; exact hb)), ok := HOK2.out }, k.mono (fun z _ e => .inl (by rw [HSB.out]; exact e)), Nw.refl _ _, rfl⟩
    rw [HSH.out, HSB.out]
    exact HT6.out
  clear hW6 ht6 k56 e2 e3 e4 ez HT5 HB5 HZ5
  go_wp2_with (first
    | (refine wpList_load_mid rfl 67 (.tmp 5) rfl (w.heap.size + 2) 0 rfl [.int .i64 3, .int .i64 0, .int .u32 0, .int .u32 0, .int .u64 0, .int .u64 0, .int .u64 0, .int .u64 0, .int .i64 0, .int .u64 0, .int .u64 0, .int .u64 0, .int .u64 0, .int .u64 0, .int .u64 0, .int .u64 0, .int .u64 0, .int .u64 0, .int .u64 0, .int .u64 0, .int .u64 0, .int .u64 0, .int .u64 0, .int .u64 0, .int .u64 0, .int .u64 0, .int .u64 0, .int .u64 0, .int .u64 0, .int .u64 0, .int .u64 0, .int .u64 0, .int .u64 0, .int .u64 0, .int .u64 0, .int .u64 0, .int .u64 0, .int .u64 0, .int .u64 0, .int .u64 0, .int .u64 0, .int .u64 0] _ (fun j v hv => by rw [Nat.zero_add]; exact HB4.out.cell j hv) Tryz.underlying67 rfl infoRp ?_)
    | (refine wp_store_blk rfl 67 (.tmp 4) (.tmp 67) rfl HZ4.out [.int .i64 3, .int .i64 0, .int .u32 0, .int .u32 0, .int .u64 0, .int .u64 0, .int .u64 0, .int .u64 0, .int .i64 0, .int .u64 0, .int .u64 0, .int .u64 0, .int .u64 0, .int .u64 0, .int .u64 0, .int .u64 0, .int .u64 0, .int .u64 0, .int .u64 0, .int .u64 0, .int .u64 0, .int .u64 0, .int .u64 0, .int .u64 0, .int .u64 0, .int .u64 0, .int .u64 0, .int .u64 0, .int .u64 0, .int .u64 0, .int .u64 0, .int .u64 0, .int .u64 0, .int .u64 0, .int .u64 0, .int .u64 0, .int .u64 0, .int .u64 0, .int .u64 0, .int .u64 0, .int .u64 0, .int .u64 0] rfl rfl rfl infoRp rfl ?_
       intro W12 hb12 hk12
       have HB12 := Lib.hid hb12
       have HK12 := Lib.hid hk12
       clear hb12 hk12))
  refine ret_blk (by exact rfl) HB12.out _ Tryz.underlying67 rfl infoRp (by exact rfl) (HP.out _ _ ⟨rfl, ShTo.wrap HL.out K02.out HTO.out (HK12.out.mono (fun z _ e => by omega))⟩)
theorem shDo {w : World} {f : ShF} {s : Sh} (o : OpR) (h : ShM w f s) (ho : o.ok) (hn : bkN s.bk < 9223372036854775807) :
    Calls Tryz.prog 23 #[.pointer (some ⟨f.sb, 0, none⟩), .agg (enO o).toArray] w fun e w' => e = .returned (.agg (doS s o).1.toArray) ∧ ShTo w f (doS s o).2 w' := by
  obtain ⟨kind, fl, id, ln, tk⟩ := o
  show Calls Tryz.prog 23 #[.pointer (some ⟨f.sb, 0, none⟩), .agg #[.int .i64 kind, .int .u32 fl, .int .u32 id, .int .u64 ln, .int .u64 tk]] w _
  unfold doS
  split
  · rename_i e; simp only at e; subst e; exact doEnq 1 fl id ln tk h rfl ho.flow ho.id ho.len hn
  · split
    · rename_i e; simp only at e; subst e; exact doDeq 2 fl id ln tk h rfl
    · split
      · rename_i e; simp only at e; subst e; exact doTick 3 fl id ln tk h rfl ho.ticks
      · split
        · rename_i e; simp only at e; subst e; exact doStats 4 fl id ln tk h rfl
        · split
          · rename_i e; simp only at e; subst e; exact doTorn 5 fl id ln tk h rfl
          · rename_i h1 h2 h3 h4 h5
            simp only at h1 h2 h3 h4 h5
            exact doJunk kind fl id ln tk h (by unfold knownK; split; rfl; omega)
end Go.Proofs.YtfckgddodjmbdaaGreatDoor
