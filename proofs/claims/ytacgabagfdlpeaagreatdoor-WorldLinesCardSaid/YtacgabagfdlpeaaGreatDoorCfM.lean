/- Walk for layer 24: (*reader).try: a line, and why it is wrong. -/
import Derived.Test.YtacgabagfdlpeaaGreatDoorCfL
import Derived.Recover
import Derived.Laws.Pointers
namespace Go.Proofs.YtacgabagfdlpeaaGreatDoor
set_option linter.unusedVariables false
set_option linter.unusedSimpArgs false
open Go Go.RowKit Go.Shelf

theorem tAs (E : Int) (w : World) : (Instr.typeAssert (.iface 128 (.agg #[.int .i64 E])) 20 128 true).run Tryz.prog w = .ok (.tuple #[.agg #[.int .i64 E], .bool true]) w := by
  unfold Instr.typeAssert
  simp [run_underlying Tryz.underlying128]
set_option maxRecDepth 100000 in
theorem tCatch (tb : Nat) (E x : Int) (older : List PanicEntry) (w : World) (hc : w.cell? ⟨tb, 0, none⟩ = some (.int .i64 x)) (hz : w.frozen? ⟨tb, 0, none⟩ = false) :
    CallsD Tryz.prog 49 #[.pointer (some ⟨tb, 0, none⟩)] (.panicking ({ v := .iface 128 (.agg #[.int .i64 E]), recovered := false } :: older)) w fun e u' w' =>
      e = .returned (.tuple #[]) ∧ u' = .panicking ({ v := .iface 128 (.agg #[.int .i64 E]), recovered := true } :: older) ∧ Kp (fun b => b = tb) w w' ∧ w'.cell? ⟨tb, 0, none⟩ = some (.int .i64 E) := by
  refine callsD_of_wpS Tryz.func49 rfl fun c₀ cs hu => ?_
  simp only [Tryz.ntmps49, List.size_toArray, List.length_cons, List.length_nil, Nat.reduceAdd, Nat.reduceSub, Array.replicate_succ, Array.replicate_zero, List.push_toArray, List.append_toArray, List.nil_append, List.cons_append]
  apply wpS_seq
  apply wpS_region
  simp [wpOpsS, go_sem, recoverD, hu, Exit.thenS]
  refine wpS_of_wp ?_
  have hlt : tb < w.heap.size := cell_lt hc
  have ca := ((Kp.refl none' w).alloc (.cells #[.int .i64 E] 128)).cell (a := ⟨tb, 0, none⟩) hc (fun x => x)
  have hne : w.heap.size ≠ tb := by omega
  have hta := tAs E
  go_wp2
  refine ⟨rfl, _, rfl, _, by simp [results, Tryz.results49], rfl, rfl, ?_, ?_⟩
  · exact (kp_at w tb 0 (.int .i64 E)).alloc _
  · exact ((Kp.refl none' _).alloc _).cell (a := ⟨tb, 0, none⟩) (World.cell?_setCell_same _ _ _ hc) (fun x => x)
theorem tIdle (tb : Nat) (w : World) :
    CallsD Tryz.prog 49 #[.pointer (some ⟨tb, 0, none⟩)] .returning w fun e u' w' => e = .returned (.tuple #[]) ∧ u' = .returning ∧ w' = w := by
  refine callsD_of_wpS Tryz.func49 rfl fun c₀ cs hu => ?_
  simp only [Tryz.ntmps49, List.size_toArray, List.length_cons, List.length_nil, Nat.reduceAdd, Nat.reduceSub, Array.replicate_succ, Array.replicate_zero, List.push_toArray, List.append_toArray, List.nil_append, List.cons_append]
  apply wpS_seq
  apply wpS_region
  simp [wpOpsS, go_sem, recoverD, hu, Exit.thenS]
  refine wpS_of_wp ?_
  go_wp2
  cases c₀
  simp_all [bodyPostS, results, Tryz.results49]
/-- A line of words. -/
theorem cLine (xs : List ByteArray) (hz : ∀ x ∈ xs, x.size ≤ 1000000) (hn : xs.length ≤ 1000000) (h1 : 1 ≤ xs.length) (B rb mb : Nat) (v : Value) (s : CS) (w : World) (hr : RdS w B rb mb v s) (hfew : s.met.length < 100000) (hfl : s.c.flows.length < 100000)
    (g cap : Nat) (hcap : xs.length ≤ cap) (hd : ∀ i x, xs[i]? = some x → w.cell? ⟨g, i, none⟩ = some (.string x)) :
    Calls Tryz.prog 50 #[.pointer (some ⟨rb, 0, none⟩), .slice (some ⟨g, 0, none⟩) xs.length cap] w fun e w' => LnP B rb mb v s (xs.map bl) w e w' := by
  match xs, h1, hz, hn, hcap, hd with
  | x0 :: r, h1, hz, hn, hcap, hd =>
  have d0 := hd 0 x0 rfl
  obtain ⟨p, hp⟩ : ∃ p, plc nms (bl x0) = p := ⟨_, rfl⟩
  have hle := plc_le (bl x0) nms
  rw [hp] at hle
  have hl : nms.length = 11 := rfl
  rw [hl] at hle
  by_cases hb : p = 11 ∨ (x0 :: r).length ≠ (if p = 10 then 6 else 2) ∨ (p < 10 ∧ p ∈ s.met)
  · refine (cLineBad x0 p (x0 :: r).length hp B rb mb v s w hr hn h1 hb g cap d0).mono ?_
    rintro e w' ⟨rfl, k⟩
    have hE : lineS s ((x0 :: r).map bl) = (s, 31) := line_bad (p := p) hp (by rw [List.length_map]; exact hb)
    exact .inr ⟨by rw [hE]; simp, by rw [hE], k.mono (fun _ _ x => x.elim)⟩
  · have hp11 : p ≠ 11 := fun h => hb (.inl h)
    have hpm : p < 10 → p ∉ s.met := fun h h2 => hb (.inr (.inr ⟨h, h2⟩))
    have hln : (x0 :: r).length = (if p = 10 then 6 else 2) := by
      by_cases h : (x0 :: r).length = (if p = 10 then 6 else 2)
      · exact h
      · exact absurd (.inr (.inl h)) hb
    clear hb
    by_cases hp10 : p = 10
    · subst hp10
      rw [if_pos rfl] at hln
      match r, hln, hz, hd, hcap, hn, h1 with
      | [y0, y1, y2, y3, y4], hln, hz, hd, hcap, hn, h1 =>
        exact cLine10 x0 y0 y1 y2 y3 y4 (hz _ (by simp)) (hz _ (by simp)) (hz _ (by simp)) (hz _ (by simp)) (hz _ (by simp)) hp B rb mb v s w hr hfew hfl g cap hcap d0 (hd 1 _ rfl) (hd 2 _ rfl) (hd 3 _ rfl) (hd 4 _ rfl) (hd 5 _ rfl)
    · rw [if_neg hp10] at hln
      match r, hln, hz, hd, hcap, hn, h1 with
      | [y0], hln, hz, hd, hcap, hn, h1 =>
        have hme := hpm (by omega)
        have hz0 := hz y0 (by simp)
        have d1 := hd 1 _ rfl
        have hc : p = 0 ∨ p = 1 ∨ p = 2 ∨ p = 3 ∨ p = 4 ∨ p = 5 ∨ p = 6 ∨ p = 7 ∨ p = 8 ∨ p = 9 := by omega
        rcases hc with rfl | rfl | rfl | rfl | rfl | rfl | rfl | rfl | rfl | rfl
        · exact cLine0 x0 y0 hz0 hp B rb mb v s w hr hme hfew g cap d0 d1
        · exact cLine1 x0 y0 hz0 hp B rb mb v s w hr hme hfew g cap d0 d1
        · exact cLine2 x0 y0 hz0 hp B rb mb v s w hr hme hfew g cap d0 d1
        · exact cLine3 x0 y0 hz0 hp B rb mb v s w hr hme hfew g cap d0 d1
        · exact cLine4 x0 y0 hz0 hp B rb mb v s w hr hme hfew g cap d0 d1
        · exact cLine5 x0 y0 hz0 hp B rb mb v s w hr hme hfew g cap d0 d1
        · exact cLine6 x0 y0 hz0 hp B rb mb v s w hr hme hfew g cap d0 d1
        · exact cLine7 x0 y0 hz0 hp B rb mb v s w hr hme hfew g cap d0 d1
        · exact cLine8 x0 y0 hz0 hp B rb mb v s w hr hme hfew g cap d0 d1
        · exact cLine9 x0 y0 hz0 hp B rb mb v s w hr hme hfew g cap d0 d1
theorem RdS.kp {S : Nat → Prop} {w w' : World} {B rb mb : Nat} {v : Value} {s : CS} (h : RdS w B rb mb v s) (k : Kp S w w') (h1 : ¬ S rb) (h2 : ¬ S mb) (h3 : ∀ b, v.ownBlock = some b → ¬ S b) : RdS w' B rb mb v s := by
  obtain ⟨K, hm, hc⟩ := h.map
  exact ⟨h.rd.kp k h1 h3, ⟨K, hm.kp k h2, hc⟩, h.few, h.mlo⟩
theorem RdS.old {w w' : World} {B rb mb : Nat} {v : Value} {s : CS} (h : RdS w B rb mb v s) (k : Kp none' w w') : RdS w' B rb mb v s := h.kp k (fun x => x) (fun x => x) (fun _ _ x => x)
/-- What try leaves. -/
def TrP (B rb mb : Nat) (v : Value) (s : CS) (ws : List (List UInt8)) (w w' : World) : Prop := ((lineS s ws).2 = 0 → ∃ v', RdS w' B rb mb v' (lineS s ws).1) ∧ Kp (Sr rb mb v) w w'
set_option maxRecDepth 100000 in
set_option maxHeartbeats 4000000 in
theorem cTry (xs : List ByteArray) (hz : ∀ x ∈ xs, x.size ≤ 1000000) (hn : xs.length ≤ 1000000) (h1 : 1 ≤ xs.length) (B rb mb : Nat) (v : Value) (s : CS) (w : World) (hr : RdS w B rb mb v s) (hfew : s.met.length < 100000) (hfl : s.c.flows.length < 100000)
    (g cap : Nat) (hcap : xs.length ≤ cap) (hd : ∀ i x, xs[i]? = some x → w.cell? ⟨g, i, none⟩ = some (.string x)) (E : Int) (hE : (lineS s (xs.map bl)).2 = E) :
    Calls Tryz.prog 29 #[.pointer (some ⟨rb, 0, none⟩), .slice (some ⟨g, 0, none⟩) xs.length cap] w fun e w' => e = .returned (.int .i64 E) ∧ TrP B rb mb v s (xs.map bl) w w' := by
  have hmf : ∀ (fn : Fn) (first cap : Array Value) (w : World), (Instr.makeFunc fn first cap).run Tryz.prog w = .ok (.func fn first cap) w := fun _ _ _ _ => rfl
  have k0 := (Kp.refl none' w).alloc (.cells #[.int .i64 0] 22)
  have hb0 := Blk.new w [.int .i64 0] 22
  have HL := Lib.hid (cLine xs hz hn h1 B rb mb v s _ (hr.old k0) hfew hfl g cap hcap (fun i x hx => k0.cell (hd i x hx) (fun x => x)))
  have HNT : Hid (¬ Sr rb mb v w.heap.size) := by
    rintro (e | e | e)
    · have := hr.rd.blk.lt; omega
    · obtain ⟨K, hm, _⟩ := hr.map
      have := hm.lt; omega
    · have := (own_block hr.rd.own e).2; omega
  have HK0 := Lib.hid k0; have HB0 := Lib.hid hb0
  clear hz hn h1 hr hcap hd k0 hb0
  go_enter_defers Tryz.func29, Tryz.ntmps29
  go_wp2_with fail
  refine (HL.out).mono ?_
  rintro e w1 h2
  have hb1 : ∀ {w1}, Kp (Sr rb mb v) _ w1 → Blk w1 w.heap.size [.int .i64 0] 22 := fun k => HB0.out.kp k HNT.out
  rcases h2 with ⟨hF, rfl, ⟨v', hv'⟩, k2⟩ | ⟨hF, rfl, k2⟩
  · have hb := hb1 k2
    have c0 := hb.cell 0 rfl
    have y0 := hb.fz 0
    have hE0 : E = 0 := by rw [← hE]; exact hF
    have c1 := (hb.set 0 (.int .i64 0)).cell 0 rfl
    have HV : Hid (RdS (w1.setCell ⟨w.heap.size, 0, none⟩ (.int .i64 0)) B rb mb v' (lineS s (xs.map bl)).1) := hv'.kp (kp_at w1 w.heap.size 0 (.int .i64 0)) (fun e => blk_ne hv'.rd.blk hb (by decide) e) (fun e => by obtain ⟨K, hm, _⟩ := hv'.map; exact hm.ne hb e.symm) (fun b hbb e => own_ne_blk hv'.rd.own hb (by decide) (by rw [hbb]; exact congrArg some e))
    have HKK : Hid (Kp (Sr rb mb v) w (w1.setCell ⟨w.heap.size, 0, none⟩ (.int .i64 0))) := ((HK0.out.mono (fun _ _ x => x.elim)).trans k2).set (.inr (Nat.le_refl _)) _
    subst hE0
    clear k2 hv' hb1 hb
    go_wp2
    refine leaves_cons (f := 49) (args := #[.pointer (some ⟨w.heap.size, 0, none⟩)]) (by simp) (by simp [go_sem]) ?_
    refine (tIdle _ _).mono ?_
    rintro e u' w2 ⟨rfl, rfl, rfl⟩
    simp [Leaves, settle, results, Tryz.results29, go_sem, c1]
    exact ⟨fun _ => ⟨v', HV.out⟩, HKK.out⟩
  · have hb := hb1 k2
    have c0 := hb.cell 0 rfl
    have y0 := hb.fz 0
    have hE0 : (lineS s (xs.map bl)).2 = E := hE
    have hF' : E ≠ 0 := by rw [← hE]; exact hF
    have HKK : Hid (Kp (Sr rb mb v) w w1) := (HK0.out.mono (fun _ _ x => x.elim)).trans k2
    unfold stopP
    rw [hE0]
    clear k2 hb1 hb
    refine leaves_cons (f := 49) (args := #[.pointer (some ⟨w.heap.size, 0, none⟩)]) (by simp) (by simp [go_sem]) ?_
    refine (tCatch w.heap.size E 0 [] _ c0 y0).mono ?_
    rintro e u' w2 ⟨rfl, rfl, k3, c3⟩
    have HK3 : Hid (Kp (Sr rb mb v) w w2) := HKK.out.then k3 (fun i hi e => by have e2 : i = w.heap.size := e; omega)
    simp [Leaves, settle, results, Tryz.results29, go_sem, c3]
    exact ⟨fun h => absurd (hE.symm.trans h) hF', HK3.out⟩
end Go.Proofs.YtacgabagfdlpeaaGreatDoor
