/- A shaper's Do (layer 26). Printed by wip/shdo.py. -/
import Derived.Test.YtfckgddodjmbdaaGreatDoorMDeviceNobodyF29
import Derived.Test.YtfckgddodjmbdaaGreatDoorMDeviceNobodyF31
import Derived.Deep.RegionWith
namespace Go.Proofs.YtfckgddodjmbdaaGreatDoor
set_option linter.unusedVariables false
set_option linter.unusedSimpArgs false
open Go Go.RowKit Go.Shelf
def Rp42 (vs : List Value) : Prop := vs.length = 42 ∧ vs.all (·.oneCell') = true
theorem rp_z (k c : Int) (fl id ln r : Nat) : Rp42 (rpC k c fl id ln r zSt) := ⟨rfl, rfl⟩
theorem enq42 (s : Sh) (fl id ln : Nat) : Rp42 (enqS s fl id ln).1 := by unfold enqS; split <;> exact rp_z _ _ _ _ _ _
theorem deq42 (s : Sh) : Rp42 (deqS s).1 := by unfold deqS; split; exact rp_z _ _ _ _ _ _; split <;> exact rp_z _ _ _ _ _ _
theorem stats36 {s : Sh} (h : s.ref.length = 32) : (statsC s).length = 36 ∧ (statsC s).all (·.oneCell') = true := by
  unfold statsC
  refine ⟨by simp [h], ?_⟩
  rw [List.all_append, Bool.and_eq_true]
  refine ⟨rfl, ?_⟩
  rw [List.all_eq_true]
  intro v hv
  obtain ⟨n, _, rfl⟩ := List.mem_map.1 hv
  rfl
theorem ShTo.wrap {w W2 W3 W4 : World} {f : ShF} {s' : Sh} (hl : ∀ z, f.all z → z < w.heap.size) (k02 : Kp none' w W2) (hto : ShTo W2 f s' W3) (k34 : Kp (fun z => w.heap.size ≤ z ∧ z < W2.heap.size) W3 W4) : ShTo w f s' W4 := by
  obtain ⟨f', hm, hk, hn, hs⟩ := hto
  have hz := k02.size
  refine ⟨f', hm.kp k34 (fun z hz' h => by rcases hn z hz' with h1 | h1; (have := hl z h1; omega); omega), ?_, fun z hz' => ?_, hs⟩
  · exact ((k02.mono (fun _ _ x => x.elim)).trans hk).then k34 (fun z hz' h => by omega)
  · rcases hn z hz' with h1 | h1
    · exact .inl h1
    · exact .inr (by omega)
theorem shEnq {w : World} {f : ShF} {s : Sh} (kind : Int) (fl id ln tk : Nat) (h : ShM w f s) (hid : fl < 4294967296) (hidd : id < 4294967296) (hln : ln < 18446744073709551616) (hn : bkN s.bk < 9223372036854775807) :
    Calls Tryz.prog 45 #[.pointer (some ⟨f.sb, 0, none⟩), .agg #[.int .i64 kind, .int .u32 fl, .int .u32 id, .int .u64 ln, .int .u64 tk]] w fun e w' => e = .returned (.agg (enqS s fl id ln).1.toArray) ∧ ShTo w f (enqS s fl id ln).2 w' := by
  by_cases hm : mayG s.g fl ln = 0
  · exact enqYes kind fl id ln tk h hm hid hidd hln hn
  · exact enqNo kind fl id ln tk h hm hid hidd hln
theorem shDeq {w : World} {f : ShF} {s : Sh} (h : ShM w f s) :
    Calls Tryz.prog 46 #[.pointer (some ⟨f.sb, 0, none⟩)] w fun e w' => e = .returned (.agg (deqS s).1.toArray) ∧ ShTo w f (deqS s).2 w' := by
  obtain ⟨⟨⟨r, ⟨fl, id, ln⟩⟩, is⟩, hp⟩ : ∃ x, bkPeek s.bk = x := ⟨_, rfl⟩
  cases is with
  | false => exact deqEmpty h hp
  | true =>
    by_cases hlt : s.tok < ln
    · exact deqEarly h hp hlt
    · exact deqYes h hp hlt
set_option maxRecDepth 100000 in
set_option maxHeartbeats 8000000 in
theorem doEnq {w : World} {f : ShF} {s : Sh} (kind : Int) (fl id ln tk : Nat) (h : ShM w f s) (hkd : knownK kind = 1) (hid : fl < 4294967296) (hidd : id < 4294967296) (hln : ln < 18446744073709551616) (hn : bkN s.bk < 9223372036854775807) :
    Calls Tryz.prog 23 #[.pointer (some ⟨f.sb, 0, none⟩), .agg #[.int .i64 kind, .int .u32 fl, .int .u32 id, .int .u64 ln, .int .u64 tk]] w fun e w' => e = .returned (.agg (enqS s fl id ln).1.toArray) ∧ ShTo w f (enqS s fl id ln).2 w' := by
  have HC := Lib.hid (fun W (k : ShM W f s) => shEnq kind fl id ln tk k hid hidd hln hn)
  obtain ⟨vs, hvs⟩ : ∃ vs, enqS s fl id ln = vs := ⟨_, rfl⟩
  obtain ⟨h42, h1c⟩ : Rp42 vs.1 := by rw [← hvs]; exact enq42 s fl id ln
  rw [hvs] at HC ⊢
  have HKN : Hid (∀ W, Calls Tryz.prog 44 #[.int .i64 kind] W fun e w' => e = .returned (.int .i64 1) ∧ W = w') := Lib.hid (fun W => by have := sKnown kind W; rw [hkd] at this; exact this)
  have HM := Lib.hid h
  have HL : Hid (∀ z, f.all z → z < w.heap.size) := Lib.hid (fun z hz => h.lt hz)
  obtain ⟨t5, x5, gu, ge, gp, hv, hbc⟩ := h.back.c
  have HV := Lib.hid hv
  have hsl := h.top.lt
  have c5 := h.top.cell 5 rfl
  rw [hv] at c5
  refine calls_post ?_
  intro PP HP
  clear h hkd hv hbc hid hidd hln hn hvs
  obtain ⟨sb, hsb⟩ : ∃ sb, f.sb = sb := ⟨_, rfl⟩
  rw [hsb] at hsl c5 ⊢
  have HSB := Lib.hid hsb
  clear hsb
  have ho0 := Blk.new w [.int .i64 kind, .int .u32 fl, .int .u32 id, .int .u64 ln, .int .u64 tk] 70
  have HO0 := Lib.hid ho0
  have hz0 := Blk.new (w.alloc (.cells #[.int .i64 kind, .int .u32 fl, .int .u32 id, .int .u64 ln, .int .u64 tk] 70)) [.int .i64 0, .int .i64 0, .int .u32 0, .int .u32 0, .int .u64 0, .int .u64 0, .int .u64 0, .int .u64 0, .int .i64 0, .int .u64 0, .int .u64 0, .int .u64 0, .int .u64 0, .int .u64 0, .int .u64 0, .int .u64 0, .int .u64 0, .int .u64 0, .int .u64 0, .int .u64 0, .int .u64 0, .int .u64 0, .int .u64 0, .int .u64 0, .int .u64 0, .int .u64 0, .int .u64 0, .int .u64 0, .int .u64 0, .int .u64 0, .int .u64 0, .int .u64 0, .int .u64 0, .int .u64 0, .int .u64 0, .int .u64 0, .int .u64 0, .int .u64 0, .int .u64 0, .int .u64 0, .int .u64 0, .int .u64 0] 67
  have e1 : (w.alloc (.cells #[.int .i64 kind, .int .u32 fl, .int .u32 id, .int .u64 ln, .int .u64 tk] 70)).heap.size = w.heap.size + 1 := by simp
  rw [e1] at hz0
  have HZ0 := Lib.hid hz0
  have hz1 := Blk.new ((w.alloc (.cells #[.int .i64 kind, .int .u32 fl, .int .u32 id, .int .u64 ln, .int .u64 tk] 70)).alloc (.cells #[.int .i64 0, .int .i64 0, .int .u32 0, .int .u32 0, .int .u64 0, .int .u64 0, .int .u64 0, .int .u64 0, .int .i64 0, .int .u64 0, .int .u64 0, .int .u64 0, .int .u64 0, .int .u64 0, .int .u64 0, .int .u64 0, .int .u64 0, .int .u64 0, .int .u64 0, .int .u64 0, .int .u64 0, .int .u64 0, .int .u64 0, .int .u64 0, .int .u64 0, .int .u64 0, .int .u64 0, .int .u64 0, .int .u64 0, .int .u64 0, .int .u64 0, .int .u64 0, .int .u64 0, .int .u64 0, .int .u64 0, .int .u64 0, .int .u64 0, .int .u64 0, .int .u64 0, .int .u64 0, .int .u64 0, .int .u64 0] 67)) [.int .i64 0, .int .i64 0, .int .u32 0, .int .u32 0, .int .u64 0, .int .u64 0, .int .u64 0, .int .u64 0, .int .i64 0, .int .u64 0, .int .u64 0, .int .u64 0, .int .u64 0, .int .u64 0, .int .u64 0, .int .u64 0, .int .u64 0, .int .u64 0, .int .u64 0, .int .u64 0, .int .u64 0, .int .u64 0, .int .u64 0, .int .u64 0, .int .u64 0, .int .u64 0, .int .u64 0, .int .u64 0, .int .u64 0, .int .u64 0, .int .u64 0, .int .u64 0, .int .u64 0, .int .u64 0, .int .u64 0, .int .u64 0, .int .u64 0, .int .u64 0, .int .u64 0, .int .u64 0, .int .u64 0, .int .u64 0] 67
  have e2 : ((w.alloc (.cells #[.int .i64 kind, .int .u32 fl, .int .u32 id, .int .u64 ln, .int .u64 tk] 70)).alloc (.cells #[.int .i64 0, .int .i64 0, .int .u32 0, .int .u32 0, .int .u64 0, .int .u64 0, .int .u64 0, .int .u64 0, .int .i64 0, .int .u64 0, .int .u64 0, .int .u64 0, .int .u64 0, .int .u64 0, .int .u64 0, .int .u64 0, .int .u64 0, .int .u64 0, .int .u64 0, .int .u64 0, .int .u64 0, .int .u64 0, .int .u64 0, .int .u64 0, .int .u64 0, .int .u64 0, .int .u64 0, .int .u64 0, .int .u64 0, .int .u64 0, .int .u64 0, .int .u64 0, .int .u64 0, .int .u64 0, .int .u64 0, .int .u64 0, .int .u64 0, .int .u64 0, .int .u64 0, .int .u64 0, .int .u64 0, .int .u64 0] 67)).heap.size = w.heap.size + 2 := by simp
  rw [e2] at hz1
  have HZ1 := Lib.hid hz1
  have HK0 := Lib.hid ((((Kp.refl none' w).alloc (.cells #[.int .i64 kind, .int .u32 fl, .int .u32 id, .int .u64 ln, .int .u64 tk] 70)).alloc (.cells #[.int .i64 0, .int .i64 0, .int .u32 0, .int .u32 0, .int .u64 0, .int .u64 0, .int .u64 0, .int .u64 0, .int .i64 0, .int .u64 0, .int .u64 0, .int .u64 0, .int .u64 0, .int .u64 0, .int .u64 0, .int .u64 0, .int .u64 0, .int .u64 0, .int .u64 0, .int .u64 0, .int .u64 0, .int .u64 0, .int .u64 0, .int .u64 0, .int .u64 0, .int .u64 0, .int .u64 0, .int .u64 0, .int .u64 0, .int .u64 0, .int .u64 0, .int .u64 0, .int .u64 0, .int .u64 0, .int .u64 0, .int .u64 0, .int .u64 0, .int .u64 0, .int .u64 0, .int .u64 0, .int .u64 0, .int .u64 0] 67)).alloc (.cells #[.int .i64 0, .int .i64 0, .int .u32 0, .int .u32 0, .int .u64 0, .int .u64 0, .int .u64 0, .int .u64 0, .int .i64 0, .int .u64 0, .int .u64 0, .int .u64 0, .int .u64 0, .int .u64 0, .int .u64 0, .int .u64 0, .int .u64 0, .int .u64 0, .int .u64 0, .int .u64 0, .int .u64 0, .int .u64 0, .int .u64 0, .int .u64 0, .int .u64 0, .int .u64 0, .int .u64 0, .int .u64 0, .int .u64 0, .int .u64 0, .int .u64 0, .int .u64 0, .int .u64 0, .int .u64 0, .int .u64 0, .int .u64 0, .int .u64 0, .int .u64 0, .int .u64 0, .int .u64 0, .int .u64 0, .int .u64 0] 67))
  clear hz0 hz1 e1 e2 ho0
  go_enter Tryz.func23, Tryz.ntmps23
  go_wp2_with fail
  refine (HKN.out _).mono ?_
  rintro e w' ⟨rfl, rfl⟩
  go_wp2_with (first
    | (refine wp_store_blk rfl 67 (.tmp 5) (.tmp 9) rfl HZ1.out [.int .i64 1, .int .i64 0, .int .u32 0, .int .u32 0, .int .u64 0, .int .u64 0, .int .u64 0, .int .u64 0, .int .i64 0, .int .u64 0, .int .u64 0, .int .u64 0, .int .u64 0, .int .u64 0, .int .u64 0, .int .u64 0, .int .u64 0, .int .u64 0, .int .u64 0, .int .u64 0, .int .u64 0, .int .u64 0, .int .u64 0, .int .u64 0, .int .u64 0, .int .u64 0, .int .u64 0, .int .u64 0, .int .u64 0, .int .u64 0, .int .u64 0, .int .u64 0, .int .u64 0, .int .u64 0, .int .u64 0, .int .u64 0, .int .u64 0, .int .u64 0, .int .u64 0, .int .u64 0, .int .u64 0, .int .u64 0] rfl rfl rfl infoRp rfl ?_
       intro W2 hb2 hk2
       have HB2 := Lib.hid hb2
       have HK2 := Lib.hid hk2
       clear hb2 hk2
       have k02 : Kp none' w W2 := HK0.out.then HK2.out (fun b hb e => by omega)
       have HZ2 := Lib.hid ((HZ0.out.alloc (.cells #[.int .i64 0, .int .i64 0, .int .u32 0, .int .u32 0, .int .u64 0, .int .u64 0, .int .u64 0, .int .u64 0, .int .i64 0, .int .u64 0, .int .u64 0, .int .u64 0, .int .u64 0, .int .u64 0, .int .u64 0, .int .u64 0, .int .u64 0, .int .u64 0, .int .u64 0, .int .u64 0, .int .u64 0, .int .u64 0, .int .u64 0, .int .u64 0, .int .u64 0, .int .u64 0, .int .u64 0, .int .u64 0, .int .u64 0, .int .u64 0, .int .u64 0, .int .u64 0, .int .u64 0, .int .u64 0, .int .u64 0, .int .u64 0, .int .u64 0, .int .u64 0, .int .u64 0, .int .u64 0, .int .u64 0, .int .u64 0] 67)).kp HK2.out (fun e => by omega))
       have HO2 := Lib.hid (((HO0.out.alloc (.cells #[.int .i64 0, .int .i64 0, .int .u32 0, .int .u32 0, .int .u64 0, .int .u64 0, .int .u64 0, .int .u64 0, .int .i64 0, .int .u64 0, .int .u64 0, .int .u64 0, .int .u64 0, .int .u64 0, .int .u64 0, .int .u64 0, .int .u64 0, .int .u64 0, .int .u64 0, .int .u64 0, .int .u64 0, .int .u64 0, .int .u64 0, .int .u64 0, .int .u64 0, .int .u64 0, .int .u64 0, .int .u64 0, .int .u64 0, .int .u64 0, .int .u64 0, .int .u64 0, .int .u64 0, .int .u64 0, .int .u64 0, .int .u64 0, .int .u64 0, .int .u64 0, .int .u64 0, .int .u64 0, .int .u64 0, .int .u64 0] 67)).alloc (.cells #[.int .i64 0, .int .i64 0, .int .u32 0, .int .u32 0, .int .u64 0, .int .u64 0, .int .u64 0, .int .u64 0, .int .i64 0, .int .u64 0, .int .u64 0, .int .u64 0, .int .u64 0, .int .u64 0, .int .u64 0, .int .u64 0, .int .u64 0, .int .u64 0, .int .u64 0, .int .u64 0, .int .u64 0, .int .u64 0, .int .u64 0, .int .u64 0, .int .u64 0, .int .u64 0, .int .u64 0, .int .u64 0, .int .u64 0, .int .u64 0, .int .u64 0, .int .u64 0, .int .u64 0, .int .u64 0, .int .u64 0, .int .u64 0, .int .u64 0, .int .u64 0, .int .u64 0, .int .u64 0, .int .u64 0, .int .u64 0] 67)).kp HK2.out (fun e => by omega))
       have K02 := Lib.hid k02
       have d5 := k02.cell c5 (fun x => x)
       have HM2 := Lib.hid (HM.out.old k02)
       have hs2 := HB2.out.lt
       have b0 := HB2.out.cell 0 rfl
       have o0 := HO2.out.cell 0 rfl
       have o1 := HO2.out.cell 1 rfl
       have o2 := HO2.out.cell 2 rfl
       have o3 := HO2.out.cell 3 rfl
       have o4 := HO2.out.cell 4 rfl
       clear HZ0 HZ1 HO0 HK0 HK2 HKN HM k02 c5))
  have hc2 := HC.out W2 HM2.out
  rw [HSB.out] at hc2
  refine hc2.mono ?_
  rintro e W3 ⟨rfl, hto⟩
  have HTO := Lib.hid hto
  have HZ3 : Hid (Blk W3 (w.heap.size + 1) [.int .i64 0, .int .i64 0, .int .u32 0, .int .u32 0, .int .u64 0, .int .u64 0, .int .u64 0, .int .u64 0, .int .i64 0, .int .u64 0, .int .u64 0, .int .u64 0, .int .u64 0, .int .u64 0, .int .u64 0, .int .u64 0, .int .u64 0, .int .u64 0, .int .u64 0, .int .u64 0, .int .u64 0, .int .u64 0, .int .u64 0, .int .u64 0, .int .u64 0, .int .u64 0, .int .u64 0, .int .u64 0, .int .u64 0, .int .u64 0, .int .u64 0, .int .u64 0, .int .u64 0, .int .u64 0, .int .u64 0, .int .u64 0, .int .u64 0, .int .u64 0, .int .u64 0, .int .u64 0, .int .u64 0, .int .u64 0] 67) := by
    obtain ⟨f', _, k3, _, _⟩ := hto
    exact Lib.hid (HZ2.out.kp k3 (fun e => by have := HL.out _ e; omega))
  clear hto hc2
  go_wp2_with (first
    | (refine wp_store_blk rfl 67 (.tmp 4) (.tmp 30) rfl HZ3.out vs.1 (by rw [h42]; rfl) rfl rfl (by rw [h42]; exact infoRp) h1c ?_
       intro W12 hb12 hk12
       have HB12 := Lib.hid hb12
       have HK12 := Lib.hid hk12
       clear hb12 hk12))
  refine ret_blk (by exact rfl) HB12.out _ Tryz.underlying67 rfl (by rw [h42]; exact infoRp) (by exact rfl) (HP.out _ _ ⟨rfl, ShTo.wrap HL.out K02.out HTO.out (HK12.out.mono (fun z _ e => by omega))⟩)
set_option maxRecDepth 100000 in
set_option maxHeartbeats 8000000 in
theorem doDeq {w : World} {f : ShF} {s : Sh} (kind : Int) (fl id ln tk : Nat) (h : ShM w f s) (hkd : knownK kind = 2) :
    Calls Tryz.prog 23 #[.pointer (some ⟨f.sb, 0, none⟩), .agg #[.int .i64 kind, .int .u32 fl, .int .u32 id, .int .u64 ln, .int .u64 tk]] w fun e w' => e = .returned (.agg (deqS s).1.toArray) ∧ ShTo w f (deqS s).2 w' := by
  have HC := Lib.hid (fun W (k : ShM W f s) => shDeq k)
  obtain ⟨vs, hvs⟩ : ∃ vs, deqS s = vs := ⟨_, rfl⟩
  obtain ⟨h42, h1c⟩ : Rp42 vs.1 := by rw [← hvs]; exact deq42 s
  rw [hvs] at HC ⊢
  have HKN : Hid (∀ W, Calls Tryz.prog 44 #[.int .i64 kind] W fun e w' => e = .returned (.int .i64 2) ∧ W = w') := Lib.hid (fun W => by have := sKnown kind W; rw [hkd] at this; exact this)
  have HM := Lib.hid h
  have HL : Hid (∀ z, f.all z → z < w.heap.size) := Lib.hid (fun z hz => h.lt hz)
  obtain ⟨t5, x5, gu, ge, gp, hv, hbc⟩ := h.back.c
  have HV := Lib.hid hv
  have hsl := h.top.lt
  have c5 := h.top.cell 5 rfl
  rw [hv] at c5
  refine calls_post ?_
  intro PP HP
  clear h hkd hv hbc hvs
  obtain ⟨sb, hsb⟩ : ∃ sb, f.sb = sb := ⟨_, rfl⟩
  rw [hsb] at hsl c5 ⊢
  have HSB := Lib.hid hsb
  clear hsb
  have ho0 := Blk.new w [.int .i64 kind, .int .u32 fl, .int .u32 id, .int .u64 ln, .int .u64 tk] 70
  have HO0 := Lib.hid ho0
  have hz0 := Blk.new (w.alloc (.cells #[.int .i64 kind, .int .u32 fl, .int .u32 id, .int .u64 ln, .int .u64 tk] 70)) [.int .i64 0, .int .i64 0, .int .u32 0, .int .u32 0, .int .u64 0, .int .u64 0, .int .u64 0, .int .u64 0, .int .i64 0, .int .u64 0, .int .u64 0, .int .u64 0, .int .u64 0, .int .u64 0, .int .u64 0, .int .u64 0, .int .u64 0, .int .u64 0, .int .u64 0, .int .u64 0, .int .u64 0, .int .u64 0, .int .u64 0, .int .u64 0, .int .u64 0, .int .u64 0, .int .u64 0, .int .u64 0, .int .u64 0, .int .u64 0, .int .u64 0, .int .u64 0, .int .u64 0, .int .u64 0, .int .u64 0, .int .u64 0, .int .u64 0, .int .u64 0, .int .u64 0, .int .u64 0, .int .u64 0, .int .u64 0] 67
  have e1 : (w.alloc (.cells #[.int .i64 kind, .int .u32 fl, .int .u32 id, .int .u64 ln, .int .u64 tk] 70)).heap.size = w.heap.size + 1 := by simp
  rw [e1] at hz0
  have HZ0 := Lib.hid hz0
  have hz1 := Blk.new ((w.alloc (.cells #[.int .i64 kind, .int .u32 fl, .int .u32 id, .int .u64 ln, .int .u64 tk] 70)).alloc (.cells #[.int .i64 0, .int .i64 0, .int .u32 0, .int .u32 0, .int .u64 0, .int .u64 0, .int .u64 0, .int .u64 0, .int .i64 0, .int .u64 0, .int .u64 0, .int .u64 0, .int .u64 0, .int .u64 0, .int .u64 0, .int .u64 0, .int .u64 0, .int .u64 0, .int .u64 0, .int .u64 0, .int .u64 0, .int .u64 0, .int .u64 0, .int .u64 0, .int .u64 0, .int .u64 0, .int .u64 0, .int .u64 0, .int .u64 0, .int .u64 0, .int .u64 0, .int .u64 0, .int .u64 0, .int .u64 0, .int .u64 0, .int .u64 0, .int .u64 0, .int .u64 0, .int .u64 0, .int .u64 0, .int .u64 0, .int .u64 0] 67)) [.int .i64 0, .int .i64 0, .int .u32 0, .int .u32 0, .int .u64 0, .int .u64 0, .int .u64 0, .int .u64 0, .int .i64 0, .int .u64 0, .int .u64 0, .int .u64 0, .int .u64 0, .int .u64 0, .int .u64 0, .int .u64 0, .int .u64 0, .int .u64 0, .int .u64 0, .int .u64 0, .int .u64 0, .int .u64 0, .int .u64 0, .int .u64 0, .int .u64 0, .int .u64 0, .int .u64 0, .int .u64 0, .int .u64 0, .int .u64 0, .int .u64 0, .int .u64 0, .int .u64 0, .int .u64 0, .int .u64 0, .int .u64 0, .int .u64 0, .int .u64 0, .int .u64 0, .int .u64 0, .int .u64 0, .int .u64 0] 67
  have e2 : ((w.alloc (.cells #[.int .i64 kind, .int .u32 fl, .int .u32 id, .int .u64 ln, .int .u64 tk] 70)).alloc (.cells #[.int .i64 0, .int .i64 0, .int .u32 0, .int .u32 0, .int .u64 0, .int .u64 0, .int .u64 0, .int .u64 0, .int .i64 0, .int .u64 0, .int .u64 0, .int .u64 0, .int .u64 0, .int .u64 0, .int .u64 0, .int .u64 0, .int .u64 0, .int .u64 0, .int .u64 0, .int .u64 0, .int .u64 0, .int .u64 0, .int .u64 0, .int .u64 0, .int .u64 0, .int .u64 0, .int .u64 0, .int .u64 0, .int .u64 0, .int .u64 0, .int .u64 0, .int .u64 0, .int .u64 0, .int .u64 0, .int .u64 0, .int .u64 0, .int .u64 0, .int .u64 0, .int .u64 0, .int .u64 0, .int .u64 0, .int .u64 0] 67)).heap.size = w.heap.size + 2 := by simp
  rw [e2] at hz1
  have HZ1 := Lib.hid hz1
  have HK0 := Lib.hid ((((Kp.refl none' w).alloc (.cells #[.int .i64 kind, .int .u32 fl, .int .u32 id, .int .u64 ln, .int .u64 tk] 70)).alloc (.cells #[.int .i64 0, .int .i64 0, .int .u32 0, .int .u32 0, .int .u64 0, .int .u64 0, .int .u64 0, .int .u64 0, .int .i64 0, .int .u64 0, .int .u64 0, .int .u64 0, .int .u64 0, .int .u64 0, .int .u64 0, .int .u64 0, .int .u64 0, .int .u64 0, .int .u64 0, .int .u64 0, .int .u64 0, .int .u64 0, .int .u64 0, .int .u64 0, .int .u64 0, .int .u64 0, .int .u64 0, .int .u64 0, .int .u64 0, .int .u64 0, .int .u64 0, .int .u64 0, .int .u64 0, .int .u64 0, .int .u64 0, .int .u64 0, .int .u64 0, .int .u64 0, .int .u64 0, .int .u64 0, .int .u64 0, .int .u64 0] 67)).alloc (.cells #[.int .i64 0, .int .i64 0, .int .u32 0, .int .u32 0, .int .u64 0, .int .u64 0, .int .u64 0, .int .u64 0, .int .i64 0, .int .u64 0, .int .u64 0, .int .u64 0, .int .u64 0, .int .u64 0, .int .u64 0, .int .u64 0, .int .u64 0, .int .u64 0, .int .u64 0, .int .u64 0, .int .u64 0, .int .u64 0, .int .u64 0, .int .u64 0, .int .u64 0, .int .u64 0, .int .u64 0, .int .u64 0, .int .u64 0, .int .u64 0, .int .u64 0, .int .u64 0, .int .u64 0, .int .u64 0, .int .u64 0, .int .u64 0, .int .u64 0, .int .u64 0, .int .u64 0, .int .u64 0, .int .u64 0, .int .u64 0] 67))
  clear hz0 hz1 e1 e2 ho0
  go_enter Tryz.func23, Tryz.ntmps23
  go_wp2_with fail
  refine (HKN.out _).mono ?_
  rintro e w' ⟨rfl, rfl⟩
  go_wp2_with (first
    | (refine wp_store_blk rfl 67 (.tmp 5) (.tmp 9) rfl HZ1.out [.int .i64 2, .int .i64 0, .int .u32 0, .int .u32 0, .int .u64 0, .int .u64 0, .int .u64 0, .int .u64 0, .int .i64 0, .int .u64 0, .int .u64 0, .int .u64 0, .int .u64 0, .int .u64 0, .int .u64 0, .int .u64 0, .int .u64 0, .int .u64 0, .int .u64 0, .int .u64 0, .int .u64 0, .int .u64 0, .int .u64 0, .int .u64 0, .int .u64 0, .int .u64 0, .int .u64 0, .int .u64 0, .int .u64 0, .int .u64 0, .int .u64 0, .int .u64 0, .int .u64 0, .int .u64 0, .int .u64 0, .int .u64 0, .int .u64 0, .int .u64 0, .int .u64 0, .int .u64 0, .int .u64 0, .int .u64 0] rfl rfl rfl infoRp rfl ?_
       intro W2 hb2 hk2
       have HB2 := Lib.hid hb2
       have HK2 := Lib.hid hk2
       clear hb2 hk2
       have k02 : Kp none' w W2 := HK0.out.then HK2.out (fun b hb e => by omega)
       have HZ2 := Lib.hid ((HZ0.out.alloc (.cells #[.int .i64 0, .int .i64 0, .int .u32 0, .int .u32 0, .int .u64 0, .int .u64 0, .int .u64 0, .int .u64 0, .int .i64 0, .int .u64 0, .int .u64 0, .int .u64 0, .int .u64 0, .int .u64 0, .int .u64 0, .int .u64 0, .int .u64 0, .int .u64 0, .int .u64 0, .int .u64 0, .int .u64 0, .int .u64 0, .int .u64 0, .int .u64 0, .int .u64 0, .int .u64 0, .int .u64 0, .int .u64 0, .int .u64 0, .int .u64 0, .int .u64 0, .int .u64 0, .int .u64 0, .int .u64 0, .int .u64 0, .int .u64 0, .int .u64 0, .int .u64 0, .int .u64 0, .int .u64 0, .int .u64 0, .int .u64 0] 67)).kp HK2.out (fun e => by omega))
       have HO2 := Lib.hid (((HO0.out.alloc (.cells #[.int .i64 0, .int .i64 0, .int .u32 0, .int .u32 0, .int .u64 0, .int .u64 0, .int .u64 0, .int .u64 0, .int .i64 0, .int .u64 0, .int .u64 0, .int .u64 0, .int .u64 0, .int .u64 0, .int .u64 0, .int .u64 0, .int .u64 0, .int .u64 0, .int .u64 0, .int .u64 0, .int .u64 0, .int .u64 0, .int .u64 0, .int .u64 0, .int .u64 0, .int .u64 0, .int .u64 0, .int .u64 0, .int .u64 0, .int .u64 0, .int .u64 0, .int .u64 0, .int .u64 0, .int .u64 0, .int .u64 0, .int .u64 0, .int .u64 0, .int .u64 0, .int .u64 0, .int .u64 0, .int .u64 0, .int .u64 0] 67)).alloc (.cells #[.int .i64 0, .int .i64 0, .int .u32 0, .int .u32 0, .int .u64 0, .int .u64 0, .int .u64 0, .int .u64 0, .int .i64 0, .int .u64 0, .int .u64 0, .int .u64 0, .int .u64 0, .int .u64 0, .int .u64 0, .int .u64 0, .int .u64 0, .int .u64 0, .int .u64 0, .int .u64 0, .int .u64 0, .int .u64 0, .int .u64 0, .int .u64 0, .int .u64 0, .int .u64 0, .int .u64 0, .int .u64 0, .int .u64 0, .int .u64 0, .int .u64 0, .int .u64 0, .int .u64 0, .int .u64 0, .int .u64 0, .int .u64 0, .int .u64 0, .int .u64 0, .int .u64 0, .int .u64 0, .int .u64 0, .int .u64 0] 67)).kp HK2.out (fun e => by omega))
       have K02 := Lib.hid k02
       have d5 := k02.cell c5 (fun x => x)
       have HM2 := Lib.hid (HM.out.old k02)
       have hs2 := HB2.out.lt
       have b0 := HB2.out.cell 0 rfl
       skip
       clear HZ0 HZ1 HO0 HK0 HK2 HKN HM k02 c5))
  have hc2 := HC.out W2 HM2.out
  rw [HSB.out] at hc2
  refine hc2.mono ?_
  rintro e W3 ⟨rfl, hto⟩
  have HTO := Lib.hid hto
  have HZ3 : Hid (Blk W3 (w.heap.size + 1) [.int .i64 0, .int .i64 0, .int .u32 0, .int .u32 0, .int .u64 0, .int .u64 0, .int .u64 0, .int .u64 0, .int .i64 0, .int .u64 0, .int .u64 0, .int .u64 0, .int .u64 0, .int .u64 0, .int .u64 0, .int .u64 0, .int .u64 0, .int .u64 0, .int .u64 0, .int .u64 0, .int .u64 0, .int .u64 0, .int .u64 0, .int .u64 0, .int .u64 0, .int .u64 0, .int .u64 0, .int .u64 0, .int .u64 0, .int .u64 0, .int .u64 0, .int .u64 0, .int .u64 0, .int .u64 0, .int .u64 0, .int .u64 0, .int .u64 0, .int .u64 0, .int .u64 0, .int .u64 0, .int .u64 0, .int .u64 0] 67) := by
    obtain ⟨f', _, k3, _, _⟩ := hto
    exact Lib.hid (HZ2.out.kp k3 (fun e => by have := HL.out _ e; omega))
  clear hto hc2
  go_wp2_with (first
    | (refine wp_store_blk rfl 67 (.tmp 4) (.tmp 34) rfl HZ3.out vs.1 (by rw [h42]; rfl) rfl rfl (by rw [h42]; exact infoRp) h1c ?_
       intro W12 hb12 hk12
       have HB12 := Lib.hid hb12
       have HK12 := Lib.hid hk12
       clear hb12 hk12))
  refine ret_blk (by exact rfl) HB12.out _ Tryz.underlying67 rfl (by rw [h42]; exact infoRp) (by exact rfl) (HP.out _ _ ⟨rfl, ShTo.wrap HL.out K02.out HTO.out (HK12.out.mono (fun z _ e => by omega))⟩)
end Go.Proofs.YtfckgddodjmbdaaGreatDoor
