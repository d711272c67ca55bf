/- Walk for layer 24: (*reader).line. -/
import Derived.Test.YtlaakhfgidjofaaGreatDoorMSnapNobodyF10
namespace Go.Proofs.YtlaakhfgidjofaaGreatDoor
set_option linter.unusedVariables false
set_option linter.unusedSimpArgs false
open Go Go.RowKit Go.Shelf
structure RdS (w : World) (B rb mb : Nat) (v : Value) (s : CS) : Prop where
  rd : RdC w B rb mb v s.c
  map : ∃ K, MapS w mb K ∧ ∀ i, i < 11 → getS K i = s.met.count i
  few : s.met.length ≤ 100000
  mlo : B ≤ mb
theorem MapS.lt {w : World} {mb : Nat} {K : List (Nat × Nat)} (h : MapS w mb K) : mb < w.heap.size := by
  obtain ⟨es, clock, hb, _⟩ := h
  exact (Array.getElem?_eq_some_iff.1 hb).1
theorem MapS.ne {w : World} {mb rb : Nat} {K : List (Nat × Nat)} (h : MapS w mb K) {cs : List Value} {t : TypeId} (hb : Blk w rb cs t) : rb ≠ mb := by
  obtain ⟨es, clock, h1, _⟩ := h
  intro e
  subst e
  have := hb.is.symm.trans h1
  simp at this
theorem MapS.neO {w : World} {mb : Nat} {K : List (Nat × Nat)} (h : MapS w mb K) {base : Nat} {e : TypeId} {size : Nat} {v : Value} {n : Nat} {xs : List Value} (ho : w.ownsRow base e size v n xs) : v.ownBlock ≠ some mb := by
  obtain ⟨es, clock, h1, _⟩ := h
  intro hb
  obtain ⟨cur, hc⟩ := own_type ho hb
  have := hc.symm.trans h1
  simp at this
def Sr (rb mb : Nat) (v : Value) (b : Nat) : Prop := b = rb ∨ b = mb ∨ v.ownBlock = some b
def LnP (B rb mb : Nat) (v : Value) (s : CS) (ws : List (List UInt8)) (w : World) (e : Ending) (w' : World) : Prop :=
  ((lineS s ws).2 = 0 ∧ e = .returned (.tuple #[]) ∧ (∃ v', RdS w' B rb mb v' (lineS s ws).1) ∧ Kp (Sr rb mb v) w w') ∨ ((lineS s ws).2 ≠ 0 ∧ e = .panicked (stopP (lineS s ws).2) ∧ Kp (Sr rb mb v) w w')
theorem setAt_ok {c : CfR} (h : c.ok) (i n : Nat) (hn : n ≤ 18446744073709551615) (hi : (i = 0 ∨ i = 1 ∨ i = 2 ∨ i = 3 ∨ i = 4 ∨ i = 6) → n ≤ 2147483647) : (setAt c i n).ok := by
  have hm : n < M64 := by unfold M64; omega
  obtain ⟨o0, o1, o2, o3, o4, o5, o6, o7, o8, o9, o10⟩ := h
  match i with
  | 0 => have := hi (by omega); exact ⟨by show _ ≤ (n : Int) ∧ (n : Int) ≤ _; omega, o1, o2, o3, o4, o5, o6, o7, o8, o9, o10⟩
  | 1 => have := hi (by omega); exact ⟨o0, by show _ ≤ (n : Int) ∧ (n : Int) ≤ _; omega, o2, o3, o4, o5, o6, o7, o8, o9, o10⟩
  | 2 => have := hi (by omega); exact ⟨o0, o1, by show _ ≤ (n : Int) ∧ (n : Int) ≤ _; omega, o3, o4, o5, o6, o7, o8, o9, o10⟩
  | 3 => have := hi (by omega); exact ⟨o0, o1, o2, by show _ ≤ (n : Int) ∧ (n : Int) ≤ _; omega, o4, o5, o6, o7, o8, o9, o10⟩
  | 4 => have := hi (by omega); exact ⟨o0, o1, o2, o3, by show _ ≤ (n : Int) ∧ (n : Int) ≤ _; omega, o5, o6, o7, o8, o9, o10⟩
  | 5 => exact ⟨o0, o1, o2, o3, o4, hm, o6, o7, o8, o9, o10⟩
  | 6 => have := hi (by omega); exact ⟨o0, o1, o2, o3, o4, o5, by show _ ≤ (n : Int) ∧ (n : Int) ≤ _; omega, o7, o8, o9, o10⟩
  | 7 => exact ⟨o0, o1, o2, o3, o4, o5, o6, hm, o8, o9, o10⟩
  | 8 => exact ⟨o0, o1, o2, o3, o4, o5, o6, o7, hm, o9, o10⟩
  | k + 9 => exact ⟨o0, o1, o2, o3, o4, o5, o6, o7, o8, hm, o10⟩
theorem setAt_flows (c : CfR) (i n : Nat) : (setAt c i n).flows = c.flows := by unfold setAt; split <;> rfl
theorem count_next {K' K : List (Nat × Nat)} {met : List Nat} {p k : Nat} (h : ∀ i, i < 11 → getS K i = met.count i) (hk : getS K p = k) (hp : p < 11) (h' : ∀ q, getS K' q = if q = p then k + 1 else getS K q) : ∀ i, i < 11 → getS K' i = (met ++ [p]).count i := by
  intro i hi
  rw [h', List.count_append]
  by_cases e : i = p
  · subst e
    rw [if_pos rfl, ← hk, h i hi]; simp
  · rw [if_neg e, h i hi]
    simp [List.count_cons, Ne.symm e]
theorem count_none {met : List Nat} {p : Nat} (h : p ∉ met) : met.count p = 0 := List.count_eq_zero.2 h
theorem RdS.step {w w1 w2 : World} {B rb mb : Nat} {v : Value} {s : CS} (h : RdS w B rb mb v s) (k1 : Kp (fun b => b = mb) w w1) (k2 : Kp none' w1 w2) : RdC w2 B rb mb v s.c := by
  obtain ⟨K, hm, _⟩ := h.map
  exact (h.rd.kp k1 (hm.ne h.rd.blk) (fun b hb e => hm.neO h.rd.own (by rw [hb, e]))).old k2
theorem RdS.put {w w1 w2 : World} {B rb mb : Nat} {v : Value} {s : CS} (h : RdS w B rb mb v s) (k1 : Kp (fun b => b = mb) w w1) (k2 : Kp none' w1 w2) (i n : Nat) (hi : i < 10) (hn : n ≤ 18446744073709551615) (hi2 : (i = 0 ∨ i = 1 ∨ i = 2 ∨ i = 3 ∨ i = 4 ∨ i = 6) → n ≤ 2147483647)
    {K' : List (Nat × Nat)} (hm1 : MapS w1 mb K') (hc : ∀ j, j < 11 → getS K' j = (s.met ++ [i]).count j) (hl : s.met.length < 100000) (u : Value) (he : (enC s.c v ++ [Value.map (some mb)]).set i u = enC (setAt s.c i n) v ++ [Value.map (some mb)]) :
    RdS (w2.setCell ⟨rb, i, none⟩ u) B rb mb v ⟨setAt s.c i n, s.met ++ [i]⟩ ∧ Kp (Sr rb mb v) w (w2.setCell ⟨rb, i, none⟩ u) := by
  have hr := h.step k1 k2
  have hm2 := hm1.kp k2 (fun x => x)
  refine ⟨⟨⟨by rw [← he]; exact hr.blk.set i u, ?_, setAt_ok hr.ok i n hn hi2, by rw [setAt_flows]; exact hr.few, hr.lo⟩, ⟨K', ?_, hc⟩, by simp; omega, h.mlo⟩, ?_⟩
  · rw [setAt_flows]
    exact own_setNe hr.own (fun b hb e => hr.ne (by rw [hb]; exact congrArg some e)) u
  · exact hm2.kp (kp_at w2 rb i u) (fun e => (hm2.ne hr.blk) e.symm)
  · exact (((k1.mono (fun b _ e => .inr (.inl e))).trans (k2.mono (fun _ _ x => x.elim)))).trans ((kp_at w2 rb i u).mono (fun b _ e => .inl e))
theorem RdS.cell {w w1 w2 : World} {B rb mb : Nat} {v : Value} {s : CS} (h : RdS w B rb mb v s) (k1 : Kp (fun b => b = mb) w w1) (k2 : Kp none' w1 w2) (i : Nat) {u : Value} (hu : (enC s.c v ++ [Value.map (some mb)])[i]? = some u) : w2.cell? ⟨rb, i, none⟩ = some u ∧ w2.frozen? ⟨rb, i, none⟩ = false :=
  ⟨(h.step k1 k2).blk.cell i hu, (h.step k1 k2).blk.fz i⟩
theorem line_one {s : CS} {l0 l1 : List UInt8} {p n : Nat} {E : Int} (hp : plc nms l0 = p) (h10 : p < 10) (hm : p ∉ s.met) (hs : sayE p l1 = (n, E)) : lineS s [l0, l1] = if E ≠ 0 then (s, E) else (⟨setAt s.c p n, s.met ++ [p]⟩, 0) := by
  have h := line_at (s := s) (ws := [l0, l1]) (p := p) hp
  have h1 : [l0, l1].getD 1 [] = l1 := rfl
  have h2 : [l0, l1].length = 2 := rfl
  rw [h1, hs, h2, if_neg, if_neg (by omega)] at h
  · exact h
  · rintro (h3 | h3 | h3)
    · omega
    · rw [if_neg (by omega)] at h3; exact h3 rfl
    · exact hm h3.2
theorem cell_mb {w w1 : World} {mb g i : Nat} {x : Value} {K : List (Nat × Nat)} (hm : MapS w mb K) (k1 : Kp (fun b => b = mb) w w1) (h : w.cell? ⟨g, i, none⟩ = some x) : w1.cell? ⟨g, i, none⟩ = some x := by
  refine k1.cell h (fun e => ?_)
  obtain ⟨es, clock, hb, _⟩ := hm
  have e2 : g = mb := e
  subst e2
  simp [World.cell?, hb] at h
set_option maxRecDepth 100000 in
set_option maxHeartbeats 8000000 in
theorem cLine0 (x0 x1 : ByteArray) (z1 : x1.size ≤ 1000000) (hp : plc nms (bl x0) = 0) (B rb mb : Nat) (v : Value) (s : CS) (w : World) (hr : RdS w B rb mb v s) (hme : 0 ∉ s.met) (hfew : s.met.length < 100000)
    (g cap : Nat) (d0 : w.cell? ⟨g, 0, none⟩ = some (.string x0)) (d1 : w.cell? ⟨g, 1, none⟩ = some (.string x1)) : Calls Tryz.prog 119 #[.pointer (some ⟨rb, 0, none⟩), .slice (some ⟨g, 0, none⟩) 2 cap] w fun e w' => LnP B rb mb v s [bl x0, bl x1] w e w' := by
  obtain ⟨n, q, mle⟩ : ∃ n : Nat, kindN krs (bl x1) = n ∧ n ≤ 4 := ⟨_, rfl, by
    have := plc_le (bl x1) krs
    have h3 : krs.length = 3 := rfl
    unfold kindN
    split
    · omega
    · omega⟩
  have qs : sayE 0 (bl x1) = (n, if n = 0 then (22 : Int) else 0) := by
    show ((kindN krs (bl x1)), if kindN krs (bl x1) = 0 then (22 : Int) else 0) = _
    rw [q]
  obtain ⟨K, hm, hc⟩ := hr.map
  have hk : getS K 0 = 0 := by rw [hc 0 (by decide), count_none hme]
  have HL : (Instr.lookup 157 (.map (some mb)) (.string x0) false).run Tryz.prog w = .ok (.int .i64 0) w := by have := run_lookS hm x0 hp; rw [hk] at this; exact this
  obtain ⟨w1, K', hu0, hm1, hK', k1⟩ := run_putS hm x0 hp (by decide) 1
  have HU : (Instr.mapUpdate 157 (.map (some mb)) (.string x0) (.int .i64 1)).run Tryz.prog w = .ok () w1 := hu0
  have HC := Lib.hid (count_next hc hk (by decide) hK')
  have HM1 := Lib.hid hm1
  have HK1 := Lib.hid k1
  have e1 := cell_mb hm k1 d1
  have HW := Lib.hid (fun W => cWords x0 0 hp W)
  have hwn : wordsN 0 = 1 := rfl
  rw [hwn] at HW
  obtain ⟨f0, f1, f2, f3, f4, f5, f6, f7, f8, f9, f10⟩ := nm_all x0 hp
  simp only [reduceCtorEq, Nat.reduceEqDiff, decide_true, decide_false] at f0 f1 f2 f3 f4 f5 f6 f7 f8 f9 f10
  have c11 : w.cell? ⟨rb, 11, none⟩ = some (.map (some mb)) := hr.rd.blk.cell 11 rfl
  have HR := Lib.hid hr
  have HLE : Hid (∀ (n : Nat) (E : Int), sayE 0 (bl x1) = (n, E) → lineS s [bl x0, bl x1] = if E ≠ 0 then (s, E) else (⟨setAt s.c 0 n, s.met ++ [0]⟩, 0)) := fun n E hs => line_one hp (by decide) hme hs
  have HFEW := Lib.hid hfew
  clear hm hc hk hu0 hm1 hK' k1 hme hp hwn hfew hr
  have hle := HLE.out n _ qs
  have HNM := Lib.hid (fun W => cNames W)
  have HKD := Lib.hid (fun W g0 hb => cKind x1 ⟨#[115, 116, 102, 113]⟩ ⟨#[101, 100, 102]⟩ ⟨#[115, 114, 115]⟩ n q W g0 hb)
  clear HLE qs q
  by_cases h0 : n = 0
  · subst h0
    rw [if_pos (show (0 : Nat) = 0 from rfl), if_pos (by decide)] at hle
    simp only [if_true] at HKD
    have HLN := Lib.hid hle
    clear hle
    go_enter Tryz.func119, Tryz.ntmps119
    go_wp2_with fail
    refine (HW.out _).mono ?_
    rintro e w0 ⟨rfl, rfl⟩
    go_wp2_with fail
    refine (HNM.out _).mono ?_
    rintro e w2 ⟨rfl, hb2, k2⟩
    have HB2 := Lib.hid hb2; have HK2 := Lib.hid k2
    clear hb2 k2
    go_wp2_with fail
    refine (HKD.out _ _ HB2.out).mono ?_
    rintro e w3 ⟨rfl, k3⟩
    exact ⟨rfl, .inr ⟨by rw [HLN.out]; simp, by rw [HLN.out], (HK1.out.mono (fun b _ e => .inr (.inl e))).trans ((HK2.out.trans k3).mono (fun _ _ x => x.elim))⟩⟩
  · rw [if_neg h0, if_neg (by decide)] at hle
    simp only [if_neg h0] at HKD
    have HLN := Lib.hid hle
    clear hle h0
    go_enter Tryz.func119, Tryz.ntmps119
    go_wp2_with fail
    refine (HW.out _).mono ?_
    rintro e w0 ⟨rfl, rfl⟩
    go_wp2_with fail
    refine (HNM.out _).mono ?_
    rintro e w2 ⟨rfl, hb2, k2⟩
    have HB2 := Lib.hid hb2; have HK2 := Lib.hid k2
    clear hb2 k2
    go_wp2_with fail
    refine (HKD.out _ _ HB2.out).mono ?_
    rintro e w3 ⟨rfl, k3⟩
    have k3 := HK2.out.trans k3
    obtain ⟨y0, y1⟩ := HR.out.cell HK1.out k3 0 rfl
    have HEND := Lib.hid (HR.out.put HK1.out k3 0 n (by decide) (by omega) (fun _ => by omega) HM1.out HC.out HFEW.out (.int .i64 n) rfl)
    clear k3 HK2 HB2
    go_wp2_with fail
    go_end0
    exact .inl ⟨by rw [HLN.out], rfl, ⟨v, by rw [HLN.out]; exact HEND.out.1⟩, HEND.out.2⟩
set_option maxRecDepth 100000 in
set_option maxHeartbeats 8000000 in
theorem cLine1 (x0 x1 : ByteArray) (z1 : x1.size ≤ 1000000) (hp : plc nms (bl x0) = 1) (B rb mb : Nat) (v : Value) (s : CS) (w : World) (hr : RdS w B rb mb v s) (hme : 1 ∉ s.met) (hfew : s.met.length < 100000)
    (g cap : Nat) (d0 : w.cell? ⟨g, 0, none⟩ = some (.string x0)) (d1 : w.cell? ⟨g, 1, none⟩ = some (.string x1)) : Calls Tryz.prog 119 #[.pointer (some ⟨rb, 0, none⟩), .slice (some ⟨g, 0, none⟩) 2 cap] w fun e w' => LnP B rb mb v s [bl x0, bl x1] w e w' := by
  obtain ⟨n, q, mle⟩ : ∃ n : Nat, kindN kbs (bl x1) = n ∧ n ≤ 4 := ⟨_, rfl, by
    have := plc_le (bl x1) kbs
    have h3 : kbs.length = 3 := rfl
    unfold kindN
    split
    · omega
    · omega⟩
  have qs : sayE 1 (bl x1) = (n, if n = 0 then (22 : Int) else 0) := by
    show ((kindN kbs (bl x1)), if kindN kbs (bl x1) = 0 then (22 : Int) else 0) = _
    rw [q]
  obtain ⟨K, hm, hc⟩ := hr.map
  have hk : getS K 1 = 0 := by rw [hc 1 (by decide), count_none hme]
  have HL : (Instr.lookup 157 (.map (some mb)) (.string x0) false).run Tryz.prog w = .ok (.int .i64 0) w := by have := run_lookS hm x0 hp; rw [hk] at this; exact this
  obtain ⟨w1, K', hu0, hm1, hK', k1⟩ := run_putS hm x0 hp (by decide) 1
  have HU : (Instr.mapUpdate 157 (.map (some mb)) (.string x0) (.int .i64 1)).run Tryz.prog w = .ok () w1 := hu0
  have HC := Lib.hid (count_next hc hk (by decide) hK')
  have HM1 := Lib.hid hm1
  have HK1 := Lib.hid k1
  have e1 := cell_mb hm k1 d1
  have HW := Lib.hid (fun W => cWords x0 1 hp W)
  have hwn : wordsN 1 = 1 := rfl
  rw [hwn] at HW
  obtain ⟨f0, f1, f2, f3, f4, f5, f6, f7, f8, f9, f10⟩ := nm_all x0 hp
  simp only [reduceCtorEq, Nat.reduceEqDiff, decide_true, decide_false] at f0 f1 f2 f3 f4 f5 f6 f7 f8 f9 f10
  have c11 : w.cell? ⟨rb, 11, none⟩ = some (.map (some mb)) := hr.rd.blk.cell 11 rfl
  have HR := Lib.hid hr
  have HLE : Hid (∀ (n : Nat) (E : Int), sayE 1 (bl x1) = (n, E) → lineS s [bl x0, bl x1] = if E ≠ 0 then (s, E) else (⟨setAt s.c 1 n, s.met ++ [1]⟩, 0)) := fun n E hs => line_one hp (by decide) hme hs
  have HFEW := Lib.hid hfew
  clear hm hc hk hu0 hm1 hK' k1 hme hp hwn hfew hr
  have hle := HLE.out n _ qs
  have HNM := Lib.hid (fun W => cBacks W)
  have HKD := Lib.hid (fun W g0 hb => cKind x1 ⟨#[104, 101, 97, 112]⟩ ⟨#[99, 97, 108, 101, 110, 100, 97, 114]⟩ ⟨#[113, 117, 101, 117, 101, 115]⟩ n q W g0 hb)
  clear HLE qs q
  by_cases h0 : n = 0
  · subst h0
    rw [if_pos (show (0 : Nat) = 0 from rfl), if_pos (by decide)] at hle
    simp only [if_true] at HKD
    have HLN := Lib.hid hle
    clear hle
    go_enter Tryz.func119, Tryz.ntmps119
    go_wp2_with fail
    refine (HW.out _).mono ?_
    rintro e w0 ⟨rfl, rfl⟩
    go_wp2_with fail
    refine (HNM.out _).mono ?_
    rintro e w2 ⟨rfl, hb2, k2⟩
    have HB2 := Lib.hid hb2; have HK2 := Lib.hid k2
    clear hb2 k2
    go_wp2_with fail
    refine (HKD.out _ _ HB2.out).mono ?_
    rintro e w3 ⟨rfl, k3⟩
    exact ⟨rfl, .inr ⟨by rw [HLN.out]; simp, by rw [HLN.out], (HK1.out.mono (fun b _ e => .inr (.inl e))).trans ((HK2.out.trans k3).mono (fun _ _ x => x.elim))⟩⟩
  · rw [if_neg h0, if_neg (by decide)] at hle
    simp only [if_neg h0] at HKD
    have HLN := Lib.hid hle
    clear hle h0
    go_enter Tryz.func119, Tryz.ntmps119
    go_wp2_with fail
    refine (HW.out _).mono ?_
    rintro e w0 ⟨rfl, rfl⟩
    go_wp2_with fail
    refine (HNM.out _).mono ?_
    rintro e w2 ⟨rfl, hb2, k2⟩
    have HB2 := Lib.hid hb2; have HK2 := Lib.hid k2
    clear hb2 k2
    go_wp2_with fail
    refine (HKD.out _ _ HB2.out).mono ?_
    rintro e w3 ⟨rfl, k3⟩
    have k3 := HK2.out.trans k3
    obtain ⟨y0, y1⟩ := HR.out.cell HK1.out k3 1 rfl
    have HEND := Lib.hid (HR.out.put HK1.out k3 1 n (by decide) (by omega) (fun _ => by omega) HM1.out HC.out HFEW.out (.int .i64 n) rfl)
    clear k3 HK2 HB2
    go_wp2_with fail
    go_end0
    exact .inl ⟨by rw [HLN.out], rfl, ⟨v, by rw [HLN.out]; exact HEND.out.1⟩, HEND.out.2⟩
set_option maxRecDepth 100000 in
set_option maxHeartbeats 8000000 in
theorem cLine2 (x0 x1 : ByteArray) (z1 : x1.size ≤ 1000000) (hp : plc nms (bl x0) = 2) (B rb mb : Nat) (v : Value) (s : CS) (w : World) (hr : RdS w B rb mb v s) (hme : 2 ∉ s.met) (hfew : s.met.length < 100000)
    (g cap : Nat) (d0 : w.cell? ⟨g, 0, none⟩ = some (.string x0)) (d1 : w.cell? ⟨g, 1, none⟩ = some (.string x1)) : Calls Tryz.prog 119 #[.pointer (some ⟨rb, 0, none⟩), .slice (some ⟨g, 0, none⟩) 2 cap] w fun e w' => LnP B rb mb v s [bl x0, bl x1] w e w' := by
  obtain ⟨n, E, q, mle⟩ : ∃ (n : Nat) (E : Int), numE 2147483647 (bl x1) = (n, E) ∧ n ≤ 2147483647 := by
    have := numE_le 2147483647 (bl x1)
    obtain ⟨r, hr⟩ : ∃ r, numE 2147483647 (bl x1) = r := ⟨_, rfl⟩
    rw [hr] at this
    exact ⟨r.1, r.2, hr, this⟩
  have qs : sayE 2 (bl x1) = (n, E) := q
  obtain ⟨K, hm, hc⟩ := hr.map
  have hk : getS K 2 = 0 := by rw [hc 2 (by decide), count_none hme]
  have HL : (Instr.lookup 157 (.map (some mb)) (.string x0) false).run Tryz.prog w = .ok (.int .i64 0) w := by have := run_lookS hm x0 hp; rw [hk] at this; exact this
  obtain ⟨w1, K', hu0, hm1, hK', k1⟩ := run_putS hm x0 hp (by decide) 1
  have HU : (Instr.mapUpdate 157 (.map (some mb)) (.string x0) (.int .i64 1)).run Tryz.prog w = .ok () w1 := hu0
  have HC := Lib.hid (count_next hc hk (by decide) hK')
  have HM1 := Lib.hid hm1
  have HK1 := Lib.hid k1
  have e1 := cell_mb hm k1 d1
  have HW := Lib.hid (fun W => cWords x0 2 hp W)
  have hwn : wordsN 2 = 1 := rfl
  rw [hwn] at HW
  obtain ⟨f0, f1, f2, f3, f4, f5, f6, f7, f8, f9, f10⟩ := nm_all x0 hp
  simp only [reduceCtorEq, Nat.reduceEqDiff, decide_true, decide_false] at f0 f1 f2 f3 f4 f5 f6 f7 f8 f9 f10
  have c11 : w.cell? ⟨rb, 11, none⟩ = some (.map (some mb)) := hr.rd.blk.cell 11 rfl
  have HR := Lib.hid hr
  have HLE : Hid (∀ (n : Nat) (E : Int), sayE 2 (bl x1) = (n, E) → lineS s [bl x0, bl x1] = if E ≠ 0 then (s, E) else (⟨setAt s.c 2 n, s.met ++ [2]⟩, 0)) := fun n E hs => line_one hp (by decide) hme hs
  have HFEW := Lib.hid hfew
  clear hm hc hk hu0 hm1 hK' k1 hme hp hwn hfew hr
  have hle := HLE.out n E qs
  clear HLE qs
  by_cases h0 : E = 0
  · have q0 : numE 2147483647 (bl x1) = (n, 0) := by rw [q, h0]
    rw [if_neg (by simp [h0])] at hle
    have HLN := Lib.hid hle
    have HQ := Lib.hid (fun W => (cCntOk x1 z1 n q0 W))
    clear hle q q0 h0
    go_enter Tryz.func119, Tryz.ntmps119
    go_wp2_with fail
    refine (HW.out _).mono ?_
    rintro e w0 ⟨rfl, rfl⟩
    go_wp2_with fail
    refine (HQ.out _).mono ?_
    rintro e w2 ⟨rfl, k2⟩
    obtain ⟨y0, y1⟩ := HR.out.cell HK1.out k2 2 rfl
    have HEND := Lib.hid (HR.out.put HK1.out k2 2 n (by decide) (by omega) (fun _ => by omega) HM1.out HC.out HFEW.out (.int .i64 n) rfl)
    clear k2
    go_wp2_with fail
    go_end0
    exact .inl ⟨by rw [HLN.out], rfl, ⟨v, by rw [HLN.out]; exact HEND.out.1⟩, HEND.out.2⟩
  · rw [if_pos h0] at hle
    have HLN := Lib.hid hle
    have HE0 := Lib.hid h0
    have HQ := Lib.hid (fun W => (cCntBad x1 z1 n E q h0 W))
    clear hle q h0
    go_enter Tryz.func119, Tryz.ntmps119
    go_wp2_with fail
    refine (HW.out _).mono ?_
    rintro e w0 ⟨rfl, rfl⟩
    go_wp2_with fail
    refine (HQ.out _).mono ?_
    rintro e w2 ⟨rfl, k2⟩
    exact ⟨rfl, .inr ⟨by rw [HLN.out]; exact HE0.out, by rw [HLN.out], (HK1.out.mono (fun b _ e => .inr (.inl e))).trans (k2.mono (fun _ _ x => x.elim))⟩⟩
set_option maxRecDepth 100000 in
set_option maxHeartbeats 8000000 in
theorem cLine3 (x0 x1 : ByteArray) (z1 : x1.size ≤ 1000000) (hp : plc nms (bl x0) = 3) (B rb mb : Nat) (v : Value) (s : CS) (w : World) (hr : RdS w B rb mb v s) (hme : 3 ∉ s.met) (hfew : s.met.length < 100000)
    (g cap : Nat) (d0 : w.cell? ⟨g, 0, none⟩ = some (.string x0)) (d1 : w.cell? ⟨g, 1, none⟩ = some (.string x1)) : Calls Tryz.prog 119 #[.pointer (some ⟨rb, 0, none⟩), .slice (some ⟨g, 0, none⟩) 2 cap] w fun e w' => LnP B rb mb v s [bl x0, bl x1] w e w' := by
  obtain ⟨n, E, q, mle⟩ : ∃ (n : Nat) (E : Int), numE 2147483647 (bl x1) = (n, E) ∧ n ≤ 2147483647 := by
    have := numE_le 2147483647 (bl x1)
    obtain ⟨r, hr⟩ : ∃ r, numE 2147483647 (bl x1) = r := ⟨_, rfl⟩
    rw [hr] at this
    exact ⟨r.1, r.2, hr, this⟩
  have qs : sayE 3 (bl x1) = (n, E) := q
  obtain ⟨K, hm, hc⟩ := hr.map
  have hk : getS K 3 = 0 := by rw [hc 3 (by decide), count_none hme]
  have HL : (Instr.lookup 157 (.map (some mb)) (.string x0) false).run Tryz.prog w = .ok (.int .i64 0) w := by have := run_lookS hm x0 hp; rw [hk] at this; exact this
  obtain ⟨w1, K', hu0, hm1, hK', k1⟩ := run_putS hm x0 hp (by decide) 1
  have HU : (Instr.mapUpdate 157 (.map (some mb)) (.string x0) (.int .i64 1)).run Tryz.prog w = .ok () w1 := hu0
  have HC := Lib.hid (count_next hc hk (by decide) hK')
  have HM1 := Lib.hid hm1
  have HK1 := Lib.hid k1
  have e1 := cell_mb hm k1 d1
  have HW := Lib.hid (fun W => cWords x0 3 hp W)
  have hwn : wordsN 3 = 1 := rfl
  rw [hwn] at HW
  obtain ⟨f0, f1, f2, f3, f4, f5, f6, f7, f8, f9, f10⟩ := nm_all x0 hp
  simp only [reduceCtorEq, Nat.reduceEqDiff, decide_true, decide_false] at f0 f1 f2 f3 f4 f5 f6 f7 f8 f9 f10
  have c11 : w.cell? ⟨rb, 11, none⟩ = some (.map (some mb)) := hr.rd.blk.cell 11 rfl
  have HR := Lib.hid hr
  have HLE : Hid (∀ (n : Nat) (E : Int), sayE 3 (bl x1) = (n, E) → lineS s [bl x0, bl x1] = if E ≠ 0 then (s, E) else (⟨setAt s.c 3 n, s.met ++ [3]⟩, 0)) := fun n E hs => line_one hp (by decide) hme hs
  have HFEW := Lib.hid hfew
  clear hm hc hk hu0 hm1 hK' k1 hme hp hwn hfew hr
  have hle := HLE.out n E qs
  clear HLE qs
  by_cases h0 : E = 0
  · have q0 : numE 2147483647 (bl x1) = (n, 0) := by rw [q, h0]
    rw [if_neg (by simp [h0])] at hle
    have HLN := Lib.hid hle
    have HQ := Lib.hid (fun W => (cCntOk x1 z1 n q0 W))
    clear hle q q0 h0
    go_enter Tryz.func119, Tryz.ntmps119
    go_wp2_with fail
    refine (HW.out _).mono ?_
    rintro e w0 ⟨rfl, rfl⟩
    go_wp2_with fail
    refine (HQ.out _).mono ?_
    rintro e w2 ⟨rfl, k2⟩
    obtain ⟨y0, y1⟩ := HR.out.cell HK1.out k2 3 rfl
    have HEND := Lib.hid (HR.out.put HK1.out k2 3 n (by decide) (by omega) (fun _ => by omega) HM1.out HC.out HFEW.out (.int .i64 n) rfl)
    clear k2
    go_wp2_with fail
    go_end0
    exact .inl ⟨by rw [HLN.out], rfl, ⟨v, by rw [HLN.out]; exact HEND.out.1⟩, HEND.out.2⟩
  · rw [if_pos h0] at hle
    have HLN := Lib.hid hle
    have HE0 := Lib.hid h0
    have HQ := Lib.hid (fun W => (cCntBad x1 z1 n E q h0 W))
    clear hle q h0
    go_enter Tryz.func119, Tryz.ntmps119
    go_wp2_with fail
    refine (HW.out _).mono ?_
    rintro e w0 ⟨rfl, rfl⟩
    go_wp2_with fail
    refine (HQ.out _).mono ?_
    rintro e w2 ⟨rfl, k2⟩
    exact ⟨rfl, .inr ⟨by rw [HLN.out]; exact HE0.out, by rw [HLN.out], (HK1.out.mono (fun b _ e => .inr (.inl e))).trans (k2.mono (fun _ _ x => x.elim))⟩⟩
set_option maxRecDepth 100000 in
set_option maxHeartbeats 8000000 in
theorem cLine4 (x0 x1 : ByteArray) (z1 : x1.size ≤ 1000000) (hp : plc nms (bl x0) = 4) (B rb mb : Nat) (v : Value) (s : CS) (w : World) (hr : RdS w B rb mb v s) (hme : 4 ∉ s.met) (hfew : s.met.length < 100000)
    (g cap : Nat) (d0 : w.cell? ⟨g, 0, none⟩ = some (.string x0)) (d1 : w.cell? ⟨g, 1, none⟩ = some (.string x1)) : Calls Tryz.prog 119 #[.pointer (some ⟨rb, 0, none⟩), .slice (some ⟨g, 0, none⟩) 2 cap] w fun e w' => LnP B rb mb v s [bl x0, bl x1] w e w' := by
  obtain ⟨n, E, q, mle⟩ : ∃ (n : Nat) (E : Int), numE 2147483647 (bl x1) = (n, E) ∧ n ≤ 2147483647 := by
    have := numE_le 2147483647 (bl x1)
    obtain ⟨r, hr⟩ : ∃ r, numE 2147483647 (bl x1) = r := ⟨_, rfl⟩
    rw [hr] at this
    exact ⟨r.1, r.2, hr, this⟩
  have qs : sayE 4 (bl x1) = (n, E) := q
  obtain ⟨K, hm, hc⟩ := hr.map
  have hk : getS K 4 = 0 := by rw [hc 4 (by decide), count_none hme]
  have HL : (Instr.lookup 157 (.map (some mb)) (.string x0) false).run Tryz.prog w = .ok (.int .i64 0) w := by have := run_lookS hm x0 hp; rw [hk] at this; exact this
  obtain ⟨w1, K', hu0, hm1, hK', k1⟩ := run_putS hm x0 hp (by decide) 1
  have HU : (Instr.mapUpdate 157 (.map (some mb)) (.string x0) (.int .i64 1)).run Tryz.prog w = .ok () w1 := hu0
  have HC := Lib.hid (count_next hc hk (by decide) hK')
  have HM1 := Lib.hid hm1
  have HK1 := Lib.hid k1
  have e1 := cell_mb hm k1 d1
  have HW := Lib.hid (fun W => cWords x0 4 hp W)
  have hwn : wordsN 4 = 1 := rfl
  rw [hwn] at HW
  obtain ⟨f0, f1, f2, f3, f4, f5, f6, f7, f8, f9, f10⟩ := nm_all x0 hp
  simp only [reduceCtorEq, Nat.reduceEqDiff, decide_true, decide_false] at f0 f1 f2 f3 f4 f5 f6 f7 f8 f9 f10
  have c11 : w.cell? ⟨rb, 11, none⟩ = some (.map (some mb)) := hr.rd.blk.cell 11 rfl
  have HR := Lib.hid hr
  have HLE : Hid (∀ (n : Nat) (E : Int), sayE 4 (bl x1) = (n, E) → lineS s [bl x0, bl x1] = if E ≠ 0 then (s, E) else (⟨setAt s.c 4 n, s.met ++ [4]⟩, 0)) := fun n E hs => line_one hp (by decide) hme hs
  have HFEW := Lib.hid hfew
  clear hm hc hk hu0 hm1 hK' k1 hme hp hwn hfew hr
  have hle := HLE.out n E qs
  clear HLE qs
  by_cases h0 : E = 0
  · have q0 : numE 2147483647 (bl x1) = (n, 0) := by rw [q, h0]
    rw [if_neg (by simp [h0])] at hle
    have HLN := Lib.hid hle
    have HQ := Lib.hid (fun W => (cCntOk x1 z1 n q0 W))
    clear hle q q0 h0
    go_enter Tryz.func119, Tryz.ntmps119
    go_wp2_with fail
    refine (HW.out _).mono ?_
    rintro e w0 ⟨rfl, rfl⟩
    go_wp2_with fail
    refine (HQ.out _).mono ?_
    rintro e w2 ⟨rfl, k2⟩
    obtain ⟨y0, y1⟩ := HR.out.cell HK1.out k2 4 rfl
    have HEND := Lib.hid (HR.out.put HK1.out k2 4 n (by decide) (by omega) (fun _ => by omega) HM1.out HC.out HFEW.out (.int .i64 n) rfl)
    clear k2
    go_wp2_with fail
    go_end0
    exact .inl ⟨by rw [HLN.out], rfl, ⟨v, by rw [HLN.out]; exact HEND.out.1⟩, HEND.out.2⟩
  · rw [if_pos h0] at hle
    have HLN := Lib.hid hle
    have HE0 := Lib.hid h0
    have HQ := Lib.hid (fun W => (cCntBad x1 z1 n E q h0 W))
    clear hle q h0
    go_enter Tryz.func119, Tryz.ntmps119
    go_wp2_with fail
    refine (HW.out _).mono ?_
    rintro e w0 ⟨rfl, rfl⟩
    go_wp2_with fail
    refine (HQ.out _).mono ?_
    rintro e w2 ⟨rfl, k2⟩
    exact ⟨rfl, .inr ⟨by rw [HLN.out]; exact HE0.out, by rw [HLN.out], (HK1.out.mono (fun b _ e => .inr (.inl e))).trans (k2.mono (fun _ _ x => x.elim))⟩⟩
set_option maxRecDepth 100000 in
set_option maxHeartbeats 8000000 in
theorem cLine5 (x0 x1 : ByteArray) (z1 : x1.size ≤ 1000000) (hp : plc nms (bl x0) = 5) (B rb mb : Nat) (v : Value) (s : CS) (w : World) (hr : RdS w B rb mb v s) (hme : 5 ∉ s.met) (hfew : s.met.length < 100000)
    (g cap : Nat) (d0 : w.cell? ⟨g, 0, none⟩ = some (.string x0)) (d1 : w.cell? ⟨g, 1, none⟩ = some (.string x1)) : Calls Tryz.prog 119 #[.pointer (some ⟨rb, 0, none⟩), .slice (some ⟨g, 0, none⟩) 2 cap] w fun e w' => LnP B rb mb v s [bl x0, bl x1] w e w' := by
  obtain ⟨n, E, q, mle⟩ : ∃ (n : Nat) (E : Int), numE 18446744073709551615 (bl x1) = (n, E) ∧ n ≤ 18446744073709551615 := by
    have := numE_le 18446744073709551615 (bl x1)
    obtain ⟨r, hr⟩ : ∃ r, numE 18446744073709551615 (bl x1) = r := ⟨_, rfl⟩
    rw [hr] at this
    exact ⟨r.1, r.2, hr, this⟩
  have qs : sayE 5 (bl x1) = (n, E) := q
  obtain ⟨K, hm, hc⟩ := hr.map
  have hk : getS K 5 = 0 := by rw [hc 5 (by decide), count_none hme]
  have HL : (Instr.lookup 157 (.map (some mb)) (.string x0) false).run Tryz.prog w = .ok (.int .i64 0) w := by have := run_lookS hm x0 hp; rw [hk] at this; exact this
  obtain ⟨w1, K', hu0, hm1, hK', k1⟩ := run_putS hm x0 hp (by decide) 1
  have HU : (Instr.mapUpdate 157 (.map (some mb)) (.string x0) (.int .i64 1)).run Tryz.prog w = .ok () w1 := hu0
  have HC := Lib.hid (count_next hc hk (by decide) hK')
  have HM1 := Lib.hid hm1
  have HK1 := Lib.hid k1
  have e1 := cell_mb hm k1 d1
  have HW := Lib.hid (fun W => cWords x0 5 hp W)
  have hwn : wordsN 5 = 1 := rfl
  rw [hwn] at HW
  obtain ⟨f0, f1, f2, f3, f4, f5, f6, f7, f8, f9, f10⟩ := nm_all x0 hp
  simp only [reduceCtorEq, Nat.reduceEqDiff, decide_true, decide_false] at f0 f1 f2 f3 f4 f5 f6 f7 f8 f9 f10
  have c11 : w.cell? ⟨rb, 11, none⟩ = some (.map (some mb)) := hr.rd.blk.cell 11 rfl
  have HR := Lib.hid hr
  have HLE : Hid (∀ (n : Nat) (E : Int), sayE 5 (bl x1) = (n, E) → lineS s [bl x0, bl x1] = if E ≠ 0 then (s, E) else (⟨setAt s.c 5 n, s.met ++ [5]⟩, 0)) := fun n E hs => line_one hp (by decide) hme hs
  have HFEW := Lib.hid hfew
  clear hm hc hk hu0 hm1 hK' k1 hme hp hwn hfew hr
  have hle := HLE.out n E qs
  clear HLE qs
  by_cases h0 : E = 0
  · have q0 : numE 18446744073709551615 (bl x1) = (n, 0) := by rw [q, h0]
    rw [if_neg (by simp [h0])] at hle
    have HLN := Lib.hid hle
    have HQ := Lib.hid (fun W => (cNumOk x1 z1 18446744073709551615 n q0 W))
    clear hle q q0 h0
    go_enter Tryz.func119, Tryz.ntmps119
    go_wp2_with fail
    refine (HW.out _).mono ?_
    rintro e w0 ⟨rfl, rfl⟩
    go_wp2_with fail
    refine (HQ.out _).mono ?_
    rintro e w2 ⟨rfl, k2⟩
    obtain ⟨y0, y1⟩ := HR.out.cell HK1.out k2 5 rfl
    have HEND := Lib.hid (HR.out.put HK1.out k2 5 n (by decide) (by omega) (fun h => by omega) HM1.out HC.out HFEW.out (.int .u64 n) rfl)
    clear k2
    go_wp2_with fail
    go_end0
    exact .inl ⟨by rw [HLN.out], rfl, ⟨v, by rw [HLN.out]; exact HEND.out.1⟩, HEND.out.2⟩
  · rw [if_pos h0] at hle
    have HLN := Lib.hid hle
    have HE0 := Lib.hid h0
    have HQ := Lib.hid (fun W => (cNumBad x1 z1 18446744073709551615 n E q h0 W))
    clear hle q h0
    go_enter Tryz.func119, Tryz.ntmps119
    go_wp2_with fail
    refine (HW.out _).mono ?_
    rintro e w0 ⟨rfl, rfl⟩
    go_wp2_with fail
    refine (HQ.out _).mono ?_
    rintro e w2 ⟨rfl, k2⟩
    exact ⟨rfl, .inr ⟨by rw [HLN.out]; exact HE0.out, by rw [HLN.out], (HK1.out.mono (fun b _ e => .inr (.inl e))).trans (k2.mono (fun _ _ x => x.elim))⟩⟩
set_option maxRecDepth 100000 in
set_option maxHeartbeats 8000000 in
theorem cLine6 (x0 x1 : ByteArray) (z1 : x1.size ≤ 1000000) (hp : plc nms (bl x0) = 6) (B rb mb : Nat) (v : Value) (s : CS) (w : World) (hr : RdS w B rb mb v s) (hme : 6 ∉ s.met) (hfew : s.met.length < 100000)
    (g cap : Nat) (d0 : w.cell? ⟨g, 0, none⟩ = some (.string x0)) (d1 : w.cell? ⟨g, 1, none⟩ = some (.string x1)) : Calls Tryz.prog 119 #[.pointer (some ⟨rb, 0, none⟩), .slice (some ⟨g, 0, none⟩) 2 cap] w fun e w' => LnP B rb mb v s [bl x0, bl x1] w e w' := by
  obtain ⟨n, E, q, mle⟩ : ∃ (n : Nat) (E : Int), numE 2147483647 (bl x1) = (n, E) ∧ n ≤ 2147483647 := by
    have := numE_le 2147483647 (bl x1)
    obtain ⟨r, hr⟩ : ∃ r, numE 2147483647 (bl x1) = r := ⟨_, rfl⟩
    rw [hr] at this
    exact ⟨r.1, r.2, hr, this⟩
  have qs : sayE 6 (bl x1) = (n, E) := q
  obtain ⟨K, hm, hc⟩ := hr.map
  have hk : getS K 6 = 0 := by rw [hc 6 (by decide), count_none hme]
  have HL : (Instr.lookup 157 (.map (some mb)) (.string x0) false).run Tryz.prog w = .ok (.int .i64 0) w := by have := run_lookS hm x0 hp; rw [hk] at this; exact this
  obtain ⟨w1, K', hu0, hm1, hK', k1⟩ := run_putS hm x0 hp (by decide) 1
  have HU : (Instr.mapUpdate 157 (.map (some mb)) (.string x0) (.int .i64 1)).run Tryz.prog w = .ok () w1 := hu0
  have HC := Lib.hid (count_next hc hk (by decide) hK')
  have HM1 := Lib.hid hm1
  have HK1 := Lib.hid k1
  have e1 := cell_mb hm k1 d1
  have HW := Lib.hid (fun W => cWords x0 6 hp W)
  have hwn : wordsN 6 = 1 := rfl
  rw [hwn] at HW
  obtain ⟨f0, f1, f2, f3, f4, f5, f6, f7, f8, f9, f10⟩ := nm_all x0 hp
  simp only [reduceCtorEq, Nat.reduceEqDiff, decide_true, decide_false] at f0 f1 f2 f3 f4 f5 f6 f7 f8 f9 f10
  have c11 : w.cell? ⟨rb, 11, none⟩ = some (.map (some mb)) := hr.rd.blk.cell 11 rfl
  have HR := Lib.hid hr
  have HLE : Hid (∀ (n : Nat) (E : Int), sayE 6 (bl x1) = (n, E) → lineS s [bl x0, bl x1] = if E ≠ 0 then (s, E) else (⟨setAt s.c 6 n, s.met ++ [6]⟩, 0)) := fun n E hs => line_one hp (by decide) hme hs
  have HFEW := Lib.hid hfew
  clear hm hc hk hu0 hm1 hK' k1 hme hp hwn hfew hr
  have hle := HLE.out n E qs
  clear HLE qs
  by_cases h0 : E = 0
  · have q0 : numE 2147483647 (bl x1) = (n, 0) := by rw [q, h0]
    rw [if_neg (by simp [h0])] at hle
    have HLN := Lib.hid hle
    have HQ := Lib.hid (fun W => (cCntOk x1 z1 n q0 W))
    clear hle q q0 h0
    go_enter Tryz.func119, Tryz.ntmps119
    go_wp2_with fail
    refine (HW.out _).mono ?_
    rintro e w0 ⟨rfl, rfl⟩
    go_wp2_with fail
    refine (HQ.out _).mono ?_
    rintro e w2 ⟨rfl, k2⟩
    obtain ⟨y0, y1⟩ := HR.out.cell HK1.out k2 6 rfl
    have HEND := Lib.hid (HR.out.put HK1.out k2 6 n (by decide) (by omega) (fun _ => by omega) HM1.out HC.out HFEW.out (.int .i64 n) rfl)
    clear k2
    go_wp2_with fail
    go_end0
    exact .inl ⟨by rw [HLN.out], rfl, ⟨v, by rw [HLN.out]; exact HEND.out.1⟩, HEND.out.2⟩
  · rw [if_pos h0] at hle
    have HLN := Lib.hid hle
    have HE0 := Lib.hid h0
    have HQ := Lib.hid (fun W => (cCntBad x1 z1 n E q h0 W))
    clear hle q h0
    go_enter Tryz.func119, Tryz.ntmps119
    go_wp2_with fail
    refine (HW.out _).mono ?_
    rintro e w0 ⟨rfl, rfl⟩
    go_wp2_with fail
    refine (HQ.out _).mono ?_
    rintro e w2 ⟨rfl, k2⟩
    exact ⟨rfl, .inr ⟨by rw [HLN.out]; exact HE0.out, by rw [HLN.out], (HK1.out.mono (fun b _ e => .inr (.inl e))).trans (k2.mono (fun _ _ x => x.elim))⟩⟩
set_option maxRecDepth 100000 in
set_option maxHeartbeats 8000000 in
theorem cLine7 (x0 x1 : ByteArray) (z1 : x1.size ≤ 1000000) (hp : plc nms (bl x0) = 7) (B rb mb : Nat) (v : Value) (s : CS) (w : World) (hr : RdS w B rb mb v s) (hme : 7 ∉ s.met) (hfew : s.met.length < 100000)
    (g cap : Nat) (d0 : w.cell? ⟨g, 0, none⟩ = some (.string x0)) (d1 : w.cell? ⟨g, 1, none⟩ = some (.string x1)) : Calls Tryz.prog 119 #[.pointer (some ⟨rb, 0, none⟩), .slice (some ⟨g, 0, none⟩) 2 cap] w fun e w' => LnP B rb mb v s [bl x0, bl x1] w e w' := by
  obtain ⟨n, E, q, mle⟩ : ∃ (n : Nat) (E : Int), numE 18446744073709551615 (bl x1) = (n, E) ∧ n ≤ 18446744073709551615 := by
    have := numE_le 18446744073709551615 (bl x1)
    obtain ⟨r, hr⟩ : ∃ r, numE 18446744073709551615 (bl x1) = r := ⟨_, rfl⟩
    rw [hr] at this
    exact ⟨r.1, r.2, hr, this⟩
  have qs : sayE 7 (bl x1) = (n, E) := q
  obtain ⟨K, hm, hc⟩ := hr.map
  have hk : getS K 7 = 0 := by rw [hc 7 (by decide), count_none hme]
  have HL : (Instr.lookup 157 (.map (some mb)) (.string x0) false).run Tryz.prog w = .ok (.int .i64 0) w := by have := run_lookS hm x0 hp; rw [hk] at this; exact this
  obtain ⟨w1, K', hu0, hm1, hK', k1⟩ := run_putS hm x0 hp (by decide) 1
  have HU : (Instr.mapUpdate 157 (.map (some mb)) (.string x0) (.int .i64 1)).run Tryz.prog w = .ok () w1 := hu0
  have HC := Lib.hid (count_next hc hk (by decide) hK')
  have HM1 := Lib.hid hm1
  have HK1 := Lib.hid k1
  have e1 := cell_mb hm k1 d1
  have HW := Lib.hid (fun W => cWords x0 7 hp W)
  have hwn : wordsN 7 = 1 := rfl
  rw [hwn] at HW
  obtain ⟨f0, f1, f2, f3, f4, f5, f6, f7, f8, f9, f10⟩ := nm_all x0 hp
  simp only [reduceCtorEq, Nat.reduceEqDiff, decide_true, decide_false] at f0 f1 f2 f3 f4 f5 f6 f7 f8 f9 f10
  have c11 : w.cell? ⟨rb, 11, none⟩ = some (.map (some mb)) := hr.rd.blk.cell 11 rfl
  have HR := Lib.hid hr
  have HLE : Hid (∀ (n : Nat) (E : Int), sayE 7 (bl x1) = (n, E) → lineS s [bl x0, bl x1] = if E ≠ 0 then (s, E) else (⟨setAt s.c 7 n, s.met ++ [7]⟩, 0)) := fun n E hs => line_one hp (by decide) hme hs
  have HFEW := Lib.hid hfew
  clear hm hc hk hu0 hm1 hK' k1 hme hp hwn hfew hr
  have hle := HLE.out n E qs
  clear HLE qs
  by_cases h0 : E = 0
  · have q0 : numE 18446744073709551615 (bl x1) = (n, 0) := by rw [q, h0]
    rw [if_neg (by simp [h0])] at hle
    have HLN := Lib.hid hle
    have HQ := Lib.hid (fun W => (cNumOk x1 z1 18446744073709551615 n q0 W))
    clear hle q q0 h0
    go_enter Tryz.func119, Tryz.ntmps119
    go_wp2_with fail
    refine (HW.out _).mono ?_
    rintro e w0 ⟨rfl, rfl⟩
    go_wp2_with fail
    refine (HQ.out _).mono ?_
    rintro e w2 ⟨rfl, k2⟩
    obtain ⟨y0, y1⟩ := HR.out.cell HK1.out k2 7 rfl
    have HEND := Lib.hid (HR.out.put HK1.out k2 7 n (by decide) (by omega) (fun h => by omega) HM1.out HC.out HFEW.out (.int .u64 n) rfl)
    clear k2
    go_wp2_with fail
    go_end0
    exact .inl ⟨by rw [HLN.out], rfl, ⟨v, by rw [HLN.out]; exact HEND.out.1⟩, HEND.out.2⟩
  · rw [if_pos h0] at hle
    have HLN := Lib.hid hle
    have HE0 := Lib.hid h0
    have HQ := Lib.hid (fun W => (cNumBad x1 z1 18446744073709551615 n E q h0 W))
    clear hle q h0
    go_enter Tryz.func119, Tryz.ntmps119
    go_wp2_with fail
    refine (HW.out _).mono ?_
    rintro e w0 ⟨rfl, rfl⟩
    go_wp2_with fail
    refine (HQ.out _).mono ?_
    rintro e w2 ⟨rfl, k2⟩
    exact ⟨rfl, .inr ⟨by rw [HLN.out]; exact HE0.out, by rw [HLN.out], (HK1.out.mono (fun b _ e => .inr (.inl e))).trans (k2.mono (fun _ _ x => x.elim))⟩⟩
set_option maxRecDepth 100000 in
set_option maxHeartbeats 8000000 in
theorem cLine8 (x0 x1 : ByteArray) (z1 : x1.size ≤ 1000000) (hp : plc nms (bl x0) = 8) (B rb mb : Nat) (v : Value) (s : CS) (w : World) (hr : RdS w B rb mb v s) (hme : 8 ∉ s.met) (hfew : s.met.length < 100000)
    (g cap : Nat) (d0 : w.cell? ⟨g, 0, none⟩ = some (.string x0)) (d1 : w.cell? ⟨g, 1, none⟩ = some (.string x1)) : Calls Tryz.prog 119 #[.pointer (some ⟨rb, 0, none⟩), .slice (some ⟨g, 0, none⟩) 2 cap] w fun e w' => LnP B rb mb v s [bl x0, bl x1] w e w' := by
  obtain ⟨n, E, q, mle⟩ : ∃ (n : Nat) (E : Int), numE 18446744073709551615 (bl x1) = (n, E) ∧ n ≤ 18446744073709551615 := by
    have := numE_le 18446744073709551615 (bl x1)
    obtain ⟨r, hr⟩ : ∃ r, numE 18446744073709551615 (bl x1) = r := ⟨_, rfl⟩
    rw [hr] at this
    exact ⟨r.1, r.2, hr, this⟩
  have qs : sayE 8 (bl x1) = (n, E) := q
  obtain ⟨K, hm, hc⟩ := hr.map
  have hk : getS K 8 = 0 := by rw [hc 8 (by decide), count_none hme]
  have HL : (Instr.lookup 157 (.map (some mb)) (.string x0) false).run Tryz.prog w = .ok (.int .i64 0) w := by have := run_lookS hm x0 hp; rw [hk] at this; exact this
  obtain ⟨w1, K', hu0, hm1, hK', k1⟩ := run_putS hm x0 hp (by decide) 1
  have HU : (Instr.mapUpdate 157 (.map (some mb)) (.string x0) (.int .i64 1)).run Tryz.prog w = .ok () w1 := hu0
  have HC := Lib.hid (count_next hc hk (by decide) hK')
  have HM1 := Lib.hid hm1
  have HK1 := Lib.hid k1
  have e1 := cell_mb hm k1 d1
  have HW := Lib.hid (fun W => cWords x0 8 hp W)
  have hwn : wordsN 8 = 1 := rfl
  rw [hwn] at HW
  obtain ⟨f0, f1, f2, f3, f4, f5, f6, f7, f8, f9, f10⟩ := nm_all x0 hp
  simp only [reduceCtorEq, Nat.reduceEqDiff, decide_true, decide_false] at f0 f1 f2 f3 f4 f5 f6 f7 f8 f9 f10
  have c11 : w.cell? ⟨rb, 11, none⟩ = some (.map (some mb)) := hr.rd.blk.cell 11 rfl
  have HR := Lib.hid hr
  have HLE : Hid (∀ (n : Nat) (E : Int), sayE 8 (bl x1) = (n, E) → lineS s [bl x0, bl x1] = if E ≠ 0 then (s, E) else (⟨setAt s.c 8 n, s.met ++ [8]⟩, 0)) := fun n E hs => line_one hp (by decide) hme hs
  have HFEW := Lib.hid hfew
  clear hm hc hk hu0 hm1 hK' k1 hme hp hwn hfew hr
  have hle := HLE.out n E qs
  clear HLE qs
  by_cases h0 : E = 0
  · have q0 : numE 18446744073709551615 (bl x1) = (n, 0) := by rw [q, h0]
    rw [if_neg (by simp [h0])] at hle
    have HLN := Lib.hid hle
    have HQ := Lib.hid (fun W => (cNumOk x1 z1 18446744073709551615 n q0 W))
    clear hle q q0 h0
    go_enter Tryz.func119, Tryz.ntmps119
    go_wp2_with fail
    refine (HW.out _).mono ?_
    rintro e w0 ⟨rfl, rfl⟩
    go_wp2_with fail
    refine (HQ.out _).mono ?_
    rintro e w2 ⟨rfl, k2⟩
    obtain ⟨y0, y1⟩ := HR.out.cell HK1.out k2 8 rfl
    have HEND := Lib.hid (HR.out.put HK1.out k2 8 n (by decide) (by omega) (fun h => by omega) HM1.out HC.out HFEW.out (.int .u64 n) rfl)
    clear k2
    go_wp2_with fail
    go_end0
    exact .inl ⟨by rw [HLN.out], rfl, ⟨v, by rw [HLN.out]; exact HEND.out.1⟩, HEND.out.2⟩
  · rw [if_pos h0] at hle
    have HLN := Lib.hid hle
    have HE0 := Lib.hid h0
    have HQ := Lib.hid (fun W => (cNumBad x1 z1 18446744073709551615 n E q h0 W))
    clear hle q h0
    go_enter Tryz.func119, Tryz.ntmps119
    go_wp2_with fail
    refine (HW.out _).mono ?_
    rintro e w0 ⟨rfl, rfl⟩
    go_wp2_with fail
    refine (HQ.out _).mono ?_
    rintro e w2 ⟨rfl, k2⟩
    exact ⟨rfl, .inr ⟨by rw [HLN.out]; exact HE0.out, by rw [HLN.out], (HK1.out.mono (fun b _ e => .inr (.inl e))).trans (k2.mono (fun _ _ x => x.elim))⟩⟩
set_option maxRecDepth 100000 in
set_option maxHeartbeats 8000000 in
theorem cLine9 (x0 x1 : ByteArray) (z1 : x1.size ≤ 1000000) (hp : plc nms (bl x0) = 9) (B rb mb : Nat) (v : Value) (s : CS) (w : World) (hr : RdS w B rb mb v s) (hme : 9 ∉ s.met) (hfew : s.met.length < 100000)
    (g cap : Nat) (d0 : w.cell? ⟨g, 0, none⟩ = some (.string x0)) (d1 : w.cell? ⟨g, 1, none⟩ = some (.string x1)) : Calls Tryz.prog 119 #[.pointer (some ⟨rb, 0, none⟩), .slice (some ⟨g, 0, none⟩) 2 cap] w fun e w' => LnP B rb mb v s [bl x0, bl x1] w e w' := by
  obtain ⟨n, E, q, mle⟩ : ∃ (n : Nat) (E : Int), numE 18446744073709551615 (bl x1) = (n, E) ∧ n ≤ 18446744073709551615 := by
    have := numE_le 18446744073709551615 (bl x1)
    obtain ⟨r, hr⟩ : ∃ r, numE 18446744073709551615 (bl x1) = r := ⟨_, rfl⟩
    rw [hr] at this
    exact ⟨r.1, r.2, hr, this⟩
  have qs : sayE 9 (bl x1) = (n, E) := q
  obtain ⟨K, hm, hc⟩ := hr.map
  have hk : getS K 9 = 0 := by rw [hc 9 (by decide), count_none hme]
  have HL : (Instr.lookup 157 (.map (some mb)) (.string x0) false).run Tryz.prog w = .ok (.int .i64 0) w := by have := run_lookS hm x0 hp; rw [hk] at this; exact this
  obtain ⟨w1, K', hu0, hm1, hK', k1⟩ := run_putS hm x0 hp (by decide) 1
  have HU : (Instr.mapUpdate 157 (.map (some mb)) (.string x0) (.int .i64 1)).run Tryz.prog w = .ok () w1 := hu0
  have HC := Lib.hid (count_next hc hk (by decide) hK')
  have HM1 := Lib.hid hm1
  have HK1 := Lib.hid k1
  have e1 := cell_mb hm k1 d1
  have HW := Lib.hid (fun W => cWords x0 9 hp W)
  have hwn : wordsN 9 = 1 := rfl
  rw [hwn] at HW
  obtain ⟨f0, f1, f2, f3, f4, f5, f6, f7, f8, f9, f10⟩ := nm_all x0 hp
  simp only [reduceCtorEq, Nat.reduceEqDiff, decide_true, decide_false] at f0 f1 f2 f3 f4 f5 f6 f7 f8 f9 f10
  have c11 : w.cell? ⟨rb, 11, none⟩ = some (.map (some mb)) := hr.rd.blk.cell 11 rfl
  have HR := Lib.hid hr
  have HLE : Hid (∀ (n : Nat) (E : Int), sayE 9 (bl x1) = (n, E) → lineS s [bl x0, bl x1] = if E ≠ 0 then (s, E) else (⟨setAt s.c 9 n, s.met ++ [9]⟩, 0)) := fun n E hs => line_one hp (by decide) hme hs
  have HFEW := Lib.hid hfew
  clear hm hc hk hu0 hm1 hK' k1 hme hp hwn hfew hr
  have hle := HLE.out n E qs
  clear HLE qs
  by_cases h0 : E = 0
  · have q0 : numE 18446744073709551615 (bl x1) = (n, 0) := by rw [q, h0]
    rw [if_neg (by simp [h0])] at hle
    have HLN := Lib.hid hle
    have HQ := Lib.hid (fun W => (cNumOk x1 z1 18446744073709551615 n q0 W))
    clear hle q q0 h0
    go_enter Tryz.func119, Tryz.ntmps119
    go_wp2_with fail
    refine (HW.out _).mono ?_
    rintro e w0 ⟨rfl, rfl⟩
    go_wp2_with fail
    refine (HQ.out _).mono ?_
    rintro e w2 ⟨rfl, k2⟩
    obtain ⟨y0, y1⟩ := HR.out.cell HK1.out k2 9 rfl
    have HEND := Lib.hid (HR.out.put HK1.out k2 9 n (by decide) (by omega) (fun h => by omega) HM1.out HC.out HFEW.out (.int .u64 n) rfl)
    clear k2
    go_wp2_with fail
    go_end0
    exact .inl ⟨by rw [HLN.out], rfl, ⟨v, by rw [HLN.out]; exact HEND.out.1⟩, HEND.out.2⟩
  · rw [if_pos h0] at hle
    have HLN := Lib.hid hle
    have HE0 := Lib.hid h0
    have HQ := Lib.hid (fun W => (cNumBad x1 z1 18446744073709551615 n E q h0 W))
    clear hle q h0
    go_enter Tryz.func119, Tryz.ntmps119
    go_wp2_with fail
    refine (HW.out _).mono ?_
    rintro e w0 ⟨rfl, rfl⟩
    go_wp2_with fail
    refine (HQ.out _).mono ?_
    rintro e w2 ⟨rfl, k2⟩
    exact ⟨rfl, .inr ⟨by rw [HLN.out]; exact HE0.out, by rw [HLN.out], (HK1.out.mono (fun b _ e => .inr (.inl e))).trans (k2.mono (fun _ _ x => x.elim))⟩⟩
theorem line_fl {s : CS} {l0 : List UInt8} {r : List (List UInt8)} (hp : plc nms l0 = 10) (hl : r.length = 5) : lineS s (l0 :: r) = if flE 0 r ≠ 0 then (s, flE 0 r) else (⟨{ s.c with flows := s.c.flows ++ [flV r] }, s.met ++ [10]⟩, 0) := by
  have h := line_at (s := s) (ws := l0 :: r) (p := 10) hp
  rw [if_neg, if_pos rfl] at h
  · exact h
  · rintro (h3 | h3 | h3)
    · omega
    · rw [if_pos rfl, List.length_cons] at h3; omega
    · omega
set_option maxRecDepth 100000 in
set_option maxHeartbeats 8000000 in
theorem cLine10 (x0 y0 y1 y2 y3 y4 : ByteArray) (z0 : y0.size ≤ 1000000) (z1 : y1.size ≤ 1000000) (z2 : y2.size ≤ 1000000) (z3 : y3.size ≤ 1000000) (z4 : y4.size ≤ 1000000) (hp : plc nms (bl x0) = 10) (B rb mb : Nat) (v : Value) (s : CS) (w : World) (hr : RdS w B rb mb v s) (hfew : s.met.length < 100000) (hfl : s.c.flows.length < 100000)
    (g cap : Nat) (hcap : 6 ≤ cap) (d0 : w.cell? ⟨g, 0, none⟩ = some (.string x0)) (d1 : w.cell? ⟨g, 1, none⟩ = some (.string y0)) (d2 : w.cell? ⟨g, 2, none⟩ = some (.string y1)) (d3 : w.cell? ⟨g, 3, none⟩ = some (.string y2)) (d4 : w.cell? ⟨g, 4, none⟩ = some (.string y3)) (d5 : w.cell? ⟨g, 5, none⟩ = some (.string y4)) :
    Calls Tryz.prog 119 #[.pointer (some ⟨rb, 0, none⟩), .slice (some ⟨g, 0, none⟩) 6 cap] w fun e w' => LnP B rb mb v s [bl x0, bl y0, bl y1, bl y2, bl y3, bl y4] w e w' := by
  obtain ⟨K, hm, hc⟩ := hr.map
  obtain ⟨k, hk⟩ : ∃ k, getS K 10 = k := ⟨_, rfl⟩
  have hkl : k ≤ 100000 := by
    have h1 := hc 10 (by decide)
    have h2 : s.met.count 10 ≤ s.met.length := List.count_le_length
    omega
  have hwk : IntKind.i64.wrap ((k : Int) + 1) = ((k + 1 : Nat) : Int) := by rw [IntWalk.i64_in _ (by omega)]; omega
  have HL : (Instr.lookup 157 (.map (some mb)) (.string x0) false).run Tryz.prog w = .ok (.int .i64 k) w := by have := run_lookS hm x0 hp; rw [hk] at this; exact this
  obtain ⟨w1, K', hu0, hm1, hK', k1⟩ := run_putS hm x0 hp (by decide) (k + 1)
  have HC := Lib.hid (count_next hc hk (by decide) hK')
  have HM1 := Lib.hid hm1
  have HK1 := Lib.hid k1
  have HU0 := Lib.hid hu0
  obtain ⟨kn, hkn⟩ : ∃ x : Int, ((k + 1 : Nat) : Int) = x := ⟨_, rfl⟩
  rw [hkn] at hwk
  have HU : (Instr.mapUpdate 157 (.map (some mb)) (.string x0) (.int .i64 kn)).run Tryz.prog w = .ok () w1 := by rw [← hkn]; exact hu0
  have e1 := cell_mb hm k1 d1; have e2 := cell_mb hm k1 d2; have e3 := cell_mb hm k1 d3; have e4 := cell_mb hm k1 d4; have e5 := cell_mb hm k1 d5
  have HR1 := Lib.hid (hr.step k1 (Kp.refl none' w1))
  have HW := Lib.hid (fun W => cWords x0 10 hp W)
  have hwn : wordsN 10 = 5 := rfl
  rw [hwn] at HW
  obtain ⟨f0, f1, f2, f3, f4, f5, f6, f7, f8, f9, f10⟩ := nm_all x0 hp
  simp only [reduceCtorEq, Nat.reduceEqDiff, decide_true, decide_false] at f0 f1 f2 f3 f4 f5 f6 f7 f8 f9 f10
  have c11 : w.cell? ⟨rb, 11, none⟩ = some (.map (some mb)) := hr.rd.blk.cell 11 rfl
  have HR := Lib.hid hr
  have HLE := Lib.hid (line_fl (s := s) (r := [bl y0, bl y1, bl y2, bl y3, bl y4]) hp rfl)
  have HFEW := Lib.hid hfew
  have HF := Lib.hid (cFlow y0 y1 y2 y3 y4 z0 z1 z2 z3 z4 B rb mb v s.c w1 HR1.out hfl g (cap - 1) e1 e2 e3 e4 e5)
  have hcp : (6 : Int) ≤ cap := by omega
  clear hm hc hk hu0 hm1 hK' k1 hp hwn hfew hr d1 d2 d3 d4 d5 e2 e3 e4 e5 hkn hkl
  go_enter Tryz.func119, Tryz.ntmps119
  go_wp2_with fail
  refine (HW.out _).mono ?_
  rintro e w0 ⟨rfl, rfl⟩
  go_wp2_with fail
  refine (HF.out).mono ?_
  rintro e w2 h2
  have H2 := Lib.hid h2
  clear h2
  rcases H2.out with ⟨hF, rfl, ⟨v', hv'⟩, k2⟩ | ⟨hF, rfl, k2⟩
  · have hle := HLE.out
    rw [if_neg (by simp [hF])] at hle
    have HLN := Lib.hid hle
    have hm2 := HM1.out.kp k2 (fun e => by
      rcases e with e | e
      · exact HM1.out.ne HR1.out.blk e.symm
      · exact HM1.out.neO HR1.out.own e)
    have HV := Lib.hid hv'; have HM2 := Lib.hid hm2; have HK2 := Lib.hid k2
    clear hle hm2 hv' k2 H2 hF
    go_wp2_with fail
    go_end0
    refine .inl ⟨by rw [HLN.out], rfl, ⟨v', ?_⟩, ?_⟩
    · rw [HLN.out]
      exact ⟨HV.out, ⟨K', HM2.out, HC.out⟩, by have := HFEW.out; simp; omega, HR.out.mlo⟩
    · exact (HK1.out.mono (fun b _ e => .inr (.inl e))).trans (HK2.out.mono (fun b _ e => e.elim .inl (fun h => .inr (.inr h))))
  · have hle := HLE.out
    rw [if_pos hF] at hle
    exact ⟨rfl, .inr ⟨by rw [hle]; exact hF, by rw [hle], (HK1.out.mono (fun b _ e => .inr (.inl e))).trans (k2.mono (fun _ _ x => x.elim))⟩⟩
theorem line_bad {s : CS} {ws : List (List UInt8)} {p : Nat} (hp : plc nms (ws.headD []) = p) (h : p = 11 ∨ ws.length ≠ (if p = 10 then 6 else 2) ∨ (p < 10 ∧ p ∈ s.met)) : lineS s ws = (s, 31) := by
  rw [line_at hp, if_pos h]
set_option maxRecDepth 100000 in
set_option maxHeartbeats 8000000 in
theorem cLineBad (x0 : ByteArray) (p n : Nat) (hp : plc nms (bl x0) = p) (B rb mb : Nat) (v : Value) (s : CS) (w : World) (hr : RdS w B rb mb v s) (hn : n ≤ 1000000) (h1 : 1 ≤ n) (h : p = 11 ∨ n ≠ (if p = 10 then 6 else 2) ∨ (p < 10 ∧ p ∈ s.met))
    (g cap : Nat) (d0 : w.cell? ⟨g, 0, none⟩ = some (.string x0)) :
    Calls Tryz.prog 119 #[.pointer (some ⟨rb, 0, none⟩), .slice (some ⟨g, 0, none⟩) n cap] w fun e w' => e = .panicked (stopP 31) ∧ Kp none' w w' := by
  have HW := Lib.hid (fun W => cWords x0 p hp W)
  have HWR := Lib.hid (fun W => cWrong 31 W)
  have hle := plc_le (bl x0) nms
  rw [hp] at hle
  have hl : nms.length = 11 := rfl
  rw [hl] at hle
  have hni : (0 : Int) < n := by omega
  by_cases hp11 : p = 11
  · subst hp11
    have hwn : wordsN 11 = 0 := rfl
    rw [hwn] at HW
    clear hle hp hl h hr
    go_enter Tryz.func119, Tryz.ntmps119
    go_wp2_with fail
    refine (HW.out _).mono ?_
    rintro e w0 ⟨rfl, rfl⟩
    go_wp2_with fail
    refine (HWR.out _).mono ?_
    rintro e w0 ⟨rfl, rfl⟩
    exact ⟨rfl, rfl, Kp.refl _ _⟩
  · by_cases hnn : n = (if p = 10 then 6 else 2)
    · have hpm : p < 10 ∧ p ∈ s.met := by
        rcases h with h | h | h
        · exact absurd h hp11
        · exact absurd hnn h
        · exact h
      obtain ⟨hp10, hpm⟩ := hpm
      rw [if_neg (by omega)] at hnn
      subst hnn
      obtain ⟨K, hm, hc⟩ := hr.map
      have hk := hc p (by omega)
      have hpos : 0 < s.met.count p := List.count_pos_iff.2 hpm
      obtain ⟨k, hkk⟩ : ∃ k, getS K p = k := ⟨_, rfl⟩
      have HL : (Instr.lookup 157 (.map (some mb)) (.string x0) false).run Tryz.prog w = .ok (.int .i64 k) w := by have := run_lookS hm x0 hp; rw [hkk] at this; exact this
      have hki : (0 : Int) < k := by omega
      have hwn : wordsN p = 1 := by unfold wordsN; rw [if_pos hp10]
      rw [hwn] at HW
      have c11 : w.cell? ⟨rb, 11, none⟩ = some (.map (some mb)) := hr.rd.blk.cell 11 rfl
      obtain ⟨f0, f1, f2, f3, f4, f5, f6, f7, f8, f9, f10⟩ := nm_all x0 hp
      rw [decide_eq_false (by omega)] at f10
      clear hle hp hl h hr hm hc hk hpos hkk f0 f1 f2 f3 f4 f5 f6 f7 f8 f9 hp10 hpm hwn hp11 hni
      go_enter Tryz.func119, Tryz.ntmps119
      go_wp2_with fail
      refine (HW.out _).mono ?_
      rintro e w0 ⟨rfl, rfl⟩
      go_wp2_with fail
      refine (HWR.out _).mono ?_
      rintro e w0 ⟨rfl, rfl⟩
      exact ⟨rfl, rfl, Kp.refl _ _⟩
    · by_cases hp10 : p = 10
      · subst hp10
        rw [if_pos rfl] at hnn
        have hwn : wordsN 10 = 5 := rfl
        rw [hwn] at HW
        have hb : ((n : Int) != 6) = true := by rw [bne_iff_ne]; omega
        clear hle hp hl h hr hnn hp11
        go_enter Tryz.func119, Tryz.ntmps119
        go_wp2_with fail
        refine (HW.out _).mono ?_
        rintro e w0 ⟨rfl, rfl⟩
        go_wp2_with fail
        refine (HWR.out _).mono ?_
        rintro e w0 ⟨rfl, rfl⟩
        exact ⟨rfl, rfl, Kp.refl _ _⟩
      · rw [if_neg hp10] at hnn
        have hwn : wordsN p = 1 := by unfold wordsN; rw [if_pos (by omega)]
        rw [hwn] at HW
        have hb : ((n : Int) != 2) = true := by rw [bne_iff_ne]; omega
        clear hle hp hl h hr hnn hp11 hp10 hwn
        go_enter Tryz.func119, Tryz.ntmps119
        go_wp2_with fail
        refine (HW.out _).mono ?_
        rintro e w0 ⟨rfl, rfl⟩
        go_wp2_with fail
        refine (HWR.out _).mono ?_
        rintro e w0 ⟨rfl, rfl⟩
        exact ⟨rfl, rfl, Kp.refl _ _⟩
end Go.Proofs.YtlaakhfgidjofaaGreatDoor
