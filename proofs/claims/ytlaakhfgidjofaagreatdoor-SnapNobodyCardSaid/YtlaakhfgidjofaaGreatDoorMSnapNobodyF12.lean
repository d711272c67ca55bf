/- Walk for layer 24: (*reader).try: a line, and why it is wrong. -/
import Derived.Test.YtlaakhfgidjofaaGreatDoorMSnapNobodyF11
import Derived.Recover
import Derived.Laws.Pointers
import Derived.Test.YtlaakhfgidjofaaGreatDoorMSnapNobodyF5
import Derived.Deep.RegionHeld3
import Derived.Deep.AppendLies
import Derived.Test.YtlaakhfgidjofaaGreatDoorMSnapNobodyF1
import Derived.Lib.SplitLaws
import Derived.Lib.IndexBytes
namespace Go.Proofs.YtlaakhfgidjofaaGreatDoor
set_option linter.unusedVariables false
set_option linter.unusedSimpArgs false
open Go Go.RowKit Go.Shelf
theorem tAs (E : Int) (w : World) : (Instr.typeAssert (.iface 231 (.agg #[.int .i64 E])) 20 231 true).run Tryz.prog w = .ok (.tuple #[.agg #[.int .i64 E], .bool true]) w := by
  unfold Instr.typeAssert
  simp [run_underlying Tryz.underlying231]
set_option maxRecDepth 100000 in
theorem tCatch (tb : Nat) (E x : Int) (older : List PanicEntry) (w : World) (hc : w.cell? ⟨tb, 0, none⟩ = some (.int .i64 x)) (hz : w.frozen? ⟨tb, 0, none⟩ = false) :
    CallsD Tryz.prog 118 #[.pointer (some ⟨tb, 0, none⟩)] (.panicking ({ v := .iface 231 (.agg #[.int .i64 E]), recovered := false } :: older)) w fun e u' w' =>
      e = .returned (.tuple #[]) ∧ u' = .panicking ({ v := .iface 231 (.agg #[.int .i64 E]), recovered := true } :: older) ∧ Kp (fun b => b = tb) w w' ∧ w'.cell? ⟨tb, 0, none⟩ = some (.int .i64 E) := by
  refine callsD_of_wpS Tryz.func118 rfl fun c₀ cs hu => ?_
  simp only [Tryz.ntmps118, List.size_toArray, List.length_cons, List.length_nil, Nat.reduceAdd, Nat.reduceSub, Array.replicate_succ, Array.replicate_zero, List.push_toArray, List.append_toArray, List.nil_append, List.cons_append]
  apply wpS_seq
  apply wpS_region
  simp [wpOpsS, go_sem, recoverD, hu, Exit.thenS]
  refine wpS_of_wp ?_
  have hlt : tb < w.heap.size := cell_lt hc
  have ca := ((Kp.refl none' w).alloc (.cells #[.int .i64 E] 231)).cell (a := ⟨tb, 0, none⟩) hc (fun x => x)
  have hne : w.heap.size ≠ tb := by omega
  have hta := tAs E
  go_wp2
  refine ⟨rfl, _, rfl, _, by simp [results, Tryz.results118], rfl, rfl, ?_, ?_⟩
  · exact (kp_at w tb 0 (.int .i64 E)).alloc _
  · exact ((Kp.refl none' _).alloc _).cell (a := ⟨tb, 0, none⟩) (World.cell?_setCell_same _ _ _ hc) (fun x => x)
theorem tIdle (tb : Nat) (w : World) :
    CallsD Tryz.prog 118 #[.pointer (some ⟨tb, 0, none⟩)] .returning w fun e u' w' => e = .returned (.tuple #[]) ∧ u' = .returning ∧ w' = w := by
  refine callsD_of_wpS Tryz.func118 rfl fun c₀ cs hu => ?_
  simp only [Tryz.ntmps118, List.size_toArray, List.length_cons, List.length_nil, Nat.reduceAdd, Nat.reduceSub, Array.replicate_succ, Array.replicate_zero, List.push_toArray, List.append_toArray, List.nil_append, List.cons_append]
  apply wpS_seq
  apply wpS_region
  simp [wpOpsS, go_sem, recoverD, hu, Exit.thenS]
  refine wpS_of_wp ?_
  go_wp2
  cases c₀
  simp_all [bodyPostS, results, Tryz.results118]
theorem cLine (xs : List ByteArray) (hz : ∀ x ∈ xs, x.size ≤ 1000000) (hn : xs.length ≤ 1000000) (h1 : 1 ≤ xs.length) (B rb mb : Nat) (v : Value) (s : CS) (w : World) (hr : RdS w B rb mb v s) (hfew : s.met.length < 100000) (hfl : s.c.flows.length < 100000)
    (g cap : Nat) (hcap : xs.length ≤ cap) (hd : ∀ i x, xs[i]? = some x → w.cell? ⟨g, i, none⟩ = some (.string x)) :
    Calls Tryz.prog 119 #[.pointer (some ⟨rb, 0, none⟩), .slice (some ⟨g, 0, none⟩) xs.length cap] w fun e w' => LnP B rb mb v s (xs.map bl) w e w' := by
  match xs, h1, hz, hn, hcap, hd with
  | x0 :: r, h1, hz, hn, hcap, hd =>
  have d0 := hd 0 x0 rfl
  obtain ⟨p, hp⟩ : ∃ p, plc nms (bl x0) = p := ⟨_, rfl⟩
  have hle := plc_le (bl x0) nms
  rw [hp] at hle
  have hl : nms.length = 11 := rfl
  rw [hl] at hle
  by_cases hb : p = 11 ∨ (x0 :: r).length ≠ (if p = 10 then 6 else 2) ∨ (p < 10 ∧ p ∈ s.met)
  · refine (cLineBad x0 p (x0 :: r).length hp B rb mb v s w hr hn h1 hb g cap d0).mono ?_
    rintro e w' ⟨rfl, k⟩
    have hE : lineS s ((x0 :: r).map bl) = (s, 31) := line_bad (p := p) hp (by rw [List.length_map]; exact hb)
    exact .inr ⟨by rw [hE]; simp, by rw [hE], k.mono (fun _ _ x => x.elim)⟩
  · have hp11 : p ≠ 11 := fun h => hb (.inl h)
    have hpm : p < 10 → p ∉ s.met := fun h h2 => hb (.inr (.inr ⟨h, h2⟩))
    have hln : (x0 :: r).length = (if p = 10 then 6 else 2) := by
      by_cases h : (x0 :: r).length = (if p = 10 then 6 else 2)
      · exact h
      · exact absurd (.inr (.inl h)) hb
    clear hb
    by_cases hp10 : p = 10
    · subst hp10
      rw [if_pos rfl] at hln
      match r, hln, hz, hd, hcap, hn, h1 with
      | [y0, y1, y2, y3, y4], hln, hz, hd, hcap, hn, h1 =>
        exact cLine10 x0 y0 y1 y2 y3 y4 (hz _ (by simp)) (hz _ (by simp)) (hz _ (by simp)) (hz _ (by simp)) (hz _ (by simp)) hp B rb mb v s w hr hfew hfl g cap hcap d0 (hd 1 _ rfl) (hd 2 _ rfl) (hd 3 _ rfl) (hd 4 _ rfl) (hd 5 _ rfl)
    · rw [if_neg hp10] at hln
      match r, hln, hz, hd, hcap, hn, h1 with
      | [y0], hln, hz, hd, hcap, hn, h1 =>
        have hme := hpm (by omega)
        have hz0 := hz y0 (by simp)
        have d1 := hd 1 _ rfl
        have hc : p = 0 ∨ p = 1 ∨ p = 2 ∨ p = 3 ∨ p = 4 ∨ p = 5 ∨ p = 6 ∨ p = 7 ∨ p = 8 ∨ p = 9 := by omega
        rcases hc with rfl | rfl | rfl | rfl | rfl | rfl | rfl | rfl | rfl | rfl
        · exact cLine0 x0 y0 hz0 hp B rb mb v s w hr hme hfew g cap d0 d1
        · exact cLine1 x0 y0 hz0 hp B rb mb v s w hr hme hfew g cap d0 d1
        · exact cLine2 x0 y0 hz0 hp B rb mb v s w hr hme hfew g cap d0 d1
        · exact cLine3 x0 y0 hz0 hp B rb mb v s w hr hme hfew g cap d0 d1
        · exact cLine4 x0 y0 hz0 hp B rb mb v s w hr hme hfew g cap d0 d1
        · exact cLine5 x0 y0 hz0 hp B rb mb v s w hr hme hfew g cap d0 d1
        · exact cLine6 x0 y0 hz0 hp B rb mb v s w hr hme hfew g cap d0 d1
        · exact cLine7 x0 y0 hz0 hp B rb mb v s w hr hme hfew g cap d0 d1
        · exact cLine8 x0 y0 hz0 hp B rb mb v s w hr hme hfew g cap d0 d1
        · exact cLine9 x0 y0 hz0 hp B rb mb v s w hr hme hfew g cap d0 d1
theorem RdS.kp {S : Nat → Prop} {w w' : World} {B rb mb : Nat} {v : Value} {s : CS} (h : RdS w B rb mb v s) (k : Kp S w w') (h1 : ¬ S rb) (h2 : ¬ S mb) (h3 : ∀ b, v.ownBlock = some b → ¬ S b) : RdS w' B rb mb v s := by
  obtain ⟨K, hm, hc⟩ := h.map
  exact ⟨h.rd.kp k h1 h3, ⟨K, hm.kp k h2, hc⟩, h.few, h.mlo⟩
theorem RdS.old {w w' : World} {B rb mb : Nat} {v : Value} {s : CS} (h : RdS w B rb mb v s) (k : Kp none' w w') : RdS w' B rb mb v s := h.kp k (fun x => x) (fun x => x) (fun _ _ x => x)
def TrP (B rb mb : Nat) (v : Value) (s : CS) (ws : List (List UInt8)) (w w' : World) : Prop := ((lineS s ws).2 = 0 → ∃ v', RdS w' B rb mb v' (lineS s ws).1) ∧ Kp (Sr rb mb v) w w'
set_option maxRecDepth 100000 in
set_option maxHeartbeats 4000000 in
theorem cTry (xs : List ByteArray) (hz : ∀ x ∈ xs, x.size ≤ 1000000) (hn : xs.length ≤ 1000000) (h1 : 1 ≤ xs.length) (B rb mb : Nat) (v : Value) (s : CS) (w : World) (hr : RdS w B rb mb v s) (hfew : s.met.length < 100000) (hfl : s.c.flows.length < 100000)
    (g cap : Nat) (hcap : xs.length ≤ cap) (hd : ∀ i x, xs[i]? = some x → w.cell? ⟨g, i, none⟩ = some (.string x)) (E : Int) (hE : (lineS s (xs.map bl)).2 = E) :
    Calls Tryz.prog 76 #[.pointer (some ⟨rb, 0, none⟩), .slice (some ⟨g, 0, none⟩) xs.length cap] w fun e w' => e = .returned (.int .i64 E) ∧ TrP B rb mb v s (xs.map bl) w w' := by
  have hmf : ∀ (fn : Fn) (first cap : Array Value) (w : World), (Instr.makeFunc fn first cap).run Tryz.prog w = .ok (.func fn first cap) w := fun _ _ _ _ => rfl
  have k0 := (Kp.refl none' w).alloc (.cells #[.int .i64 0] 34)
  have hb0 := Blk.new w [.int .i64 0] 34
  have HL := Lib.hid (cLine xs hz hn h1 B rb mb v s _ (hr.old k0) hfew hfl g cap hcap (fun i x hx => k0.cell (hd i x hx) (fun x => x)))
  have HNT : Hid (¬ Sr rb mb v w.heap.size) := by
    rintro (e | e | e)
    · have := hr.rd.blk.lt; omega
    · obtain ⟨K, hm, _⟩ := hr.map
      have := hm.lt; omega
    · have := (own_block hr.rd.own e).2; omega
  have HK0 := Lib.hid k0; have HB0 := Lib.hid hb0
  clear hz hn h1 hr hcap hd k0 hb0
  go_enter_defers Tryz.func76, Tryz.ntmps76
  go_wp2_with fail
  refine (HL.out).mono ?_
  rintro e w1 h2
  have hb1 : ∀ {w1}, Kp (Sr rb mb v) _ w1 → Blk w1 w.heap.size [.int .i64 0] 34 := fun k => HB0.out.kp k HNT.out
  rcases h2 with ⟨hF, rfl, ⟨v', hv'⟩, k2⟩ | ⟨hF, rfl, k2⟩
  · have hb := hb1 k2
    have c0 := hb.cell 0 rfl
    have y0 := hb.fz 0
    have hE0 : E = 0 := by rw [← hE]; exact hF
    have c1 := (hb.set 0 (.int .i64 0)).cell 0 rfl
    have HV : Hid (RdS (w1.setCell ⟨w.heap.size, 0, none⟩ (.int .i64 0)) B rb mb v' (lineS s (xs.map bl)).1) := hv'.kp (kp_at w1 w.heap.size 0 (.int .i64 0)) (fun e => blk_ne hv'.rd.blk hb (by decide) e) (fun e => by obtain ⟨K, hm, _⟩ := hv'.map; exact hm.ne hb e.symm) (fun b hbb e => own_ne_blk hv'.rd.own hb (by decide) (by rw [hbb]; exact congrArg some e))
    have HKK : Hid (Kp (Sr rb mb v) w (w1.setCell ⟨w.heap.size, 0, none⟩ (.int .i64 0))) := ((HK0.out.mono (fun _ _ x => x.elim)).trans k2).set (.inr (Nat.le_refl _)) _
    subst hE0
    clear k2 hv' hb1 hb
    go_wp2
    refine leaves_cons (f := 118) (args := #[.pointer (some ⟨w.heap.size, 0, none⟩)]) (by simp) (by simp [go_sem]) ?_
    refine (tIdle _ _).mono ?_
    rintro e u' w2 ⟨rfl, rfl, rfl⟩
    simp [Leaves, settle, results, Tryz.results76, go_sem, c1]
    exact ⟨fun _ => ⟨v', HV.out⟩, HKK.out⟩
  · have hb := hb1 k2
    have c0 := hb.cell 0 rfl
    have y0 := hb.fz 0
    have hE0 : (lineS s (xs.map bl)).2 = E := hE
    have hF' : E ≠ 0 := by rw [← hE]; exact hF
    have HKK : Hid (Kp (Sr rb mb v) w w1) := (HK0.out.mono (fun _ _ x => x.elim)).trans k2
    unfold stopP
    rw [hE0]
    clear k2 hb1 hb
    refine leaves_cons (f := 118) (args := #[.pointer (some ⟨w.heap.size, 0, none⟩)]) (by simp) (by simp [go_sem]) ?_
    refine (tCatch w.heap.size E 0 [] _ c0 y0).mono ?_
    rintro e u' w2 ⟨rfl, rfl, k3, c3⟩
    have HK3 : Hid (Kp (Sr rb mb v) w w2) := HKK.out.then k3 (fun i hi e => by have e2 : i = w.heap.size := e; omega)
    simp [Leaves, settle, results, Tryz.results76, go_sem, c3]
    exact ⟨fun h => absurd (hE.symm.trans h) hF', HK3.out⟩
end Go.Proofs.YtlaakhfgidjofaaGreatDoor

namespace Go.Proofs.YtlaakhfgidjofaaGreatDoor
set_option linter.unusedVariables false
set_option linter.unusedSimpArgs false
open Go.RowKit Go.Shelf
structure WM (w wr : World) (bs bo bf : Nat) (s : ByteArray) (v : Value) (f : Int) (o : List (List UInt8)) : Prop where
  cs : Blk wr bs [.string s] 9
  co : Blk wr bo [v] 111
  cf : Blk wr bf [.int .i64 f] 3
  own : wr.ownsRow w.heap.size 9 1 v o.length (wtx o)
  kp : Kp none' w wr
  lo : w.heap.size ≤ bs ∧ w.heap.size ≤ bo ∧ w.heap.size ≤ bf
  ne : v.ownBlock ≠ some bs
theorem bk_ne {w : World} {b b' : Nat} {cs cs' : List Value} {t t' : TypeId} (h : Blk w b cs t) (h' : Blk w b' cs' t') (ht : t ≠ t') : b ≠ b' := fun e => by subst e; exact ht (h.inj h').2
theorem ob_type {w : World} {base : Nat} {e : TypeId} {size : Nat} {v : Value} {n : Nat} {xs : List Value} (h : w.ownsRow base e size v n xs) {b : Nat} (hb : v.ownBlock = some b) : ∃ cur, w.heap[b]? = some (.cells cur e (0, 0)) := by
  rcases h.2 with ⟨rfl, _⟩ | ⟨g, cap, cur, rfl, hg, hh, r⟩
  · cases hb
  · cases hb; exact ⟨cur, hh⟩
theorem ob_ne {w : World} {base : Nat} {e : TypeId} {size : Nat} {v : Value} {n : Nat} {xs : List Value} (h : w.ownsRow base e size v n xs) {b : Nat} {cs : List Value} {t : TypeId} (hb : Blk w b cs t) (ht : t ≠ e) : v.ownBlock ≠ some b := fun hv => by
  obtain ⟨cur, hh⟩ := ob_type h hv
  have := hb.is.symm.trans hh
  simp at this; exact ht this.2
theorem ob_setNe {w : World} {base : Nat} {e : TypeId} {size : Nat} {v : Value} {n : Nat} {xs : List Value} (h : w.ownsRow base e size v n xs) {a : Addr} (hne : v.ownBlock ≠ some a.block) (u : Value) : (w.setCell a u).ownsRow base e size v n xs := by
  refine ⟨h.1, ?_⟩
  rcases h.2 with h | ⟨g, cap, cur, rfl, hg, hh, r⟩
  · exact .inl h
  · exact .inr ⟨g, cap, cur, rfl, hg, (Below.heap_setCell _ _ _ _ (fun e => hne (by simp [Value.ownBlock, e]))).trans hh, r⟩
theorem WM.setF {w wr : World} {bs bo bf : Nat} {s : ByteArray} {v : Value} {f : Int} {o : List (List UInt8)} (h : WM w wr bs bo bf s v f o) (g : Int) : WM w (wr.setCell ⟨bf, 0, none⟩ (.int .i64 g)) bs bo bf s v g o :=
  ⟨h.cs.setNe (bk_ne h.cs h.cf (by decide)) _, h.co.setNe (bk_ne h.co h.cf (by decide)) _, h.cf.set 0 _, ob_setNe h.own (ob_ne h.own h.cf (by decide)) _, h.kp.set (.inr h.lo.2.2) _, h.lo, h.ne⟩
theorem WM.grow {w wr w1 : World} {bs bo bf : Nat} {s : ByteArray} {v v1 : Value} {f : Int} {o : List (List UInt8)} (h : WM w wr bs bo bf s v f o) {x : ByteArray} {O : Obj} (hown : w1.ownsRow w.heap.size 9 1 v1 (o.length + 1) (wtx o ++ [.string x])) (hg : (wr.alloc O).drew.grownBy w1 v.ownBlock) (hne : v1.ownBlock ≠ some bs) :
    WM w (w1.setCell ⟨bo, 0, none⟩ v1) bs bo bf s v1 f (o ++ [bl x]) := by
  have c1 := ((h.cs.alloc O).drew).grown hg (fun e => h.ne e.symm)
  have c2 := ((h.co.alloc O).drew).grown hg (fun e => ob_ne h.own h.co (by decide) e.symm)
  have c3 := ((h.cf.alloc O).drew).grown hg (fun e => ob_ne h.own h.cf (by decide) e.symm)
  refine ⟨c1.setNe (bk_ne c1 c2 (by decide)) _, c2.set 0 _, c3.setNe (bk_ne c3 c2 (by decide)) _, ?_, (((h.kp.alloc O).drew).grown hg (fun k hk => .inr (own_block h.own hk).1)).set (.inr h.lo.2.1) _, h.lo, hne⟩
  rw [wtx_snoc, List.length_append]
  exact ob_setNe hown (ob_ne hown c2 (by decide)) _
theorem step_app1_at {P : Program} {t e : TypeId} {z : Value} {size bytes : Nat} (T : SlT P t e z size bytes) {ops : Array Oper} {o : Oper} {a : Act} {w : World} {K : Act → World → Prop} {Q : Exit → Act → World → Prop} {E : Prop} (s x : Operand)
    (hgd : o.guard = none) (ho : o.op = .call { callee := .builtin .append, args := #[s, x], argTypes := #[t, t] }) (base : Nat) {v : Value} {n : Nat} {xs : List Value} (hown : w.ownsRow base e size v n xs)
    {b c : Nat} (news : List Value) (hs : a.eval s = v) (hx : a.eval x = .slice (some ⟨b, 0, none⟩) 1 c) (hl : news.length = size) {fr : Nat × Nat} (hblk : w.heap[b]? = some (.cells news.toArray e fr)) (h1 : news.all (·.oneCell') = true)
    (hbytes : (n + 1) * bytes ≤ 140737488355328) (h63 : n < 9223372036854775807) (hbase : base ≤ w.heap.size) (H : Nat) (hH : w.heap.size = H)
    (h : ∀ g cap w', w'.ownsRow base e size (.slice (some ⟨g, 0, none⟩) (n + 1) cap) (n + 1) (xs ++ news) → w.grownBy w' v.ownBlock → (v.ownBlock = some g ∨ g = H) → g < w'.heap.size → K (a.put o.dst (.slice (some ⟨g, 0, none⟩) (n + 1) cap)) w') :
    if Region.wanted o (yielded ops a.tmps) = true then Oper.wp P o a w K Q else E := by
  obtain ⟨i, hi, hz0, hz1, hz2⟩ := info_parts T.info
  refine step_append_lies w hgd s x t ho base e i z size bytes T.ht hi hz0 hz1 hz2 T.hz T.pos v n xs hs hown ⟨b, 0, none⟩ 1 c news hx (by simpa using hl) ?_ (by simpa using h1) (by omega) (by unfold maxLen; omega) hbytes hbase H hH h
  intro j u hu
  have e : (⟨b, 0, none⟩ : Addr).add j = ⟨b, j, none⟩ := by unfold Addr.add; split <;> simp_all
  rw [e]; simp [World.cell?, hblk, hu]
set_option maxHeartbeats 2000000 in
theorem dEnd {w wr : World} {bs bo bf : Nat} {s : ByteArray} {v : Value} {f : Int} {o : List (List UInt8)} (h : WM w wr bs bo bf s v f o) (k : Nat) (hf : f = -1 ∨ (0 ≤ f ∧ f ≤ k)) (hk : k ≤ s.size) (hs : s.size ≤ 1000000) (ho : o.length ≤ 1000000) :
    Calls Tryz.prog 117 #[.int .i64 k, .pointer (some ⟨bf, 0, none⟩), .pointer (some ⟨bo, 0, none⟩), .pointer (some ⟨bs, 0, none⟩)] wr fun e w' => (∃ r, e = .returned r) ∧ ∃ v', WM w w' bs bo bf s v' (-1) (if f < 0 then o else o ++ [bl (s.extract f.toNat k)]) := by
  have d1 := h.cf.cell 0 rfl
  have g1 := h.cf.fz 0
  rcases hf with rfl | ⟨f0, f1⟩
  · have HE := Lib.hid (h.setF (-1))
    clear h
    go_enter Tryz.func117, Tryz.ntmps117
    go_wp2
    go_end0
    exact ⟨⟨_, rfl⟩, v, HE.out⟩
  · obtain ⟨a, rfl⟩ : ∃ a : Nat, f = a := ⟨f.toNat, by omega⟩
    have d2 := h.co.cell 0 rfl
    have d3 := h.cs.cell 0 rfl
    have g2 := h.co.fz 0
    have g3 : ∀ O, (wr.alloc O).frozen? ⟨bo, 0, none⟩ = false := fun O => (h.co.alloc O).fz 0
    obtain ⟨ao, cap, rfl⟩ := own_shape h.own
    have hsz := h.kp.size
    have hlt1 := h.cs.lt
    have hlt2 := h.co.lt
    have hlt3 := h.cf.lt
    have n1 := Ne.symm (h.ne); have n2 := Ne.symm (ob_ne h.own h.co (by decide)); have n3 := Ne.symm (ob_ne h.own h.cf (by decide))
    have N1 := Lib.hid n1; have N2 := Lib.hid n2; have N3 := Lib.hid n3
    have H := Lib.hid h
    have e1 : (if (a : Int) < 0 then o else o ++ [bl (s.extract (a : Int).toNat k)]) = o ++ [bl (s.extract a k)] := by rw [if_neg (by omega), Int.toNat_natCast]
    rw [e1]
    have ne1 := World.new_ne wr ⟨bf, 0, none⟩ d1
    have ne2 := World.new_ne wr ⟨bo, 0, none⟩ d2
    have ne3 := World.new_ne wr ⟨bs, 0, none⟩ d3
    have b1 : (0 : Int) ≤ (a : Int) := by omega
    have b2 : (a : Int) ≤ (k : Int) := f1
    have b3 : (k : Int) ≤ (s.size : Int) := by omega
    clear h e1 n1 n2 n3
    go_enter Tryz.func117, Tryz.ntmps117
    go_wp2
    go_region_law ((refine step_app1_at tStr (.tmp 7) (.tmp 12) (by rfl) (by rfl) w.heap.size (v := .slice ao o.length cap) ((H.out.own.alloc _).drew) [.string (s.extract a k)] (by rfl) (by rfl) rfl (fr := (0, 0)) (heap_new2 _ _ _ (by simp)) rfl (by omega) (by omega) (by simp; omega) (wr.heap.size + 1) (by simp) ?_; intro gg cap1 w1 hown1 hgrow hat hltg; have hblk1 := ((H.out.co.alloc (.cells #[.string (s.extract a k)] 9)).drew).grown hgrow N2.out; have q0 := hblk1.cell 0 rfl; have q1 := hblk1.fz 0))
    all_goals
      have hG := H.out.grow (x := s.extract a k) hown1 hgrow (by
        rcases hat with e | e
        · intro e2; exact H.out.ne (e.trans (by simpa [Value.ownBlock] using e2))
        · intro e2; simp [Value.ownBlock] at e2; omega)
      have r1 := hG.cf.cell 0 rfl
      have r2 := hG.cf.fz 0
      have HG := Lib.hid (hG.setF (-1))
      clear hG hown1 hgrow hblk1 q0 q1 d1 g1 d2 d3
      go_wp2
      go_end0
      exact ⟨⟨_, rfl⟩, _, HG.out⟩
def WSt (s : ByteArray) (k : Nat) (f : Int) (o : List (List UInt8)) : Prop :=
  ∃ n, wst ((bl s).take k) = (o, n) ∧ ((n = [] ∧ f = -1) ∨ (n ≠ [] ∧ 0 ≤ f ∧ f ≤ k ∧ n = ((bl s).take k).drop f.toNat))
theorem WSt.zero (s : ByteArray) : WSt s 0 (-1) [] := ⟨[], rfl, .inl ⟨rfl, rfl⟩⟩
theorem WSt.f {s : ByteArray} {k : Nat} {f : Int} {o : List (List UInt8)} (h : WSt s k f o) : f = -1 ∨ (0 ≤ f ∧ f ≤ k) := by
  obtain ⟨n, _, ⟨_, h⟩ | ⟨_, h1, h2, _⟩⟩ := h
  · exact .inl h
  · exact .inr ⟨h1, h2⟩
theorem WSt.len {s : ByteArray} {k : Nat} {f : Int} {o : List (List UInt8)} (h : WSt s k f o) : o.length ≤ k := by
  obtain ⟨n, h1, _⟩ := h
  have := wst_len ((bl s).take k)
  rw [h1] at this
  have h2 : ((bl s).take k).length ≤ k := by rw [List.length_take]; omega
  simp only at this
  omega
theorem WSt.sign {s : ByteArray} {k : Nat} {f : Int} {o : List (List UInt8)} (h : WSt s k f o) (hk : k < s.size) (hc : blank s[k] = false) : WSt s (k + 1) (if f < 0 then (k : Int) else f) o := by
  obtain ⟨n, h1, h2⟩ := h
  have hl : ((bl s).take k).length = k := by rw [List.length_take, bl_len]; omega
  refine ⟨n ++ [s[k]], by rw [take_bl s k hk, wst_snoc, h1, wstep_sign hc], .inr ⟨by simp, ?_⟩⟩
  rcases h2 with ⟨rfl, rfl⟩ | ⟨_, f0, f1, hn⟩
  · refine ⟨by simp, by simp; omega, ?_⟩
    rw [take_bl s k hk]
    simp only [show ((-1 : Int) < 0) from by decide, if_true, Int.toNat_natCast]
    rw [List.drop_append_of_le_length (by omega), List.drop_of_length_le (by omega)]
  · have hff : ¬ f < 0 := by omega
    rw [if_neg hff]
    refine ⟨f0, by omega, ?_⟩
    rw [take_bl s k hk, List.drop_append_of_le_length (by omega), ← hn]
theorem WSt.word {s : ByteArray} {k : Nat} {f : Int} {o : List (List UInt8)} (h : WSt s k f o) : wend (wst ((bl s).take k)) = if f < 0 then o else o ++ [bl (s.extract f.toNat k)] := by
  obtain ⟨n, h1, h2⟩ := h
  rw [h1]
  unfold wend
  rcases h2 with ⟨rfl, rfl⟩ | ⟨hne, f0, f1, hn⟩
  · simp
  · have e : n = bl (s.extract f.toNat k) := by rw [bl_cut, hn, List.drop_take]
    rw [if_neg hne, if_neg (by omega), e]
theorem WSt.blank {s : ByteArray} {k : Nat} {f : Int} {o : List (List UInt8)} (h : WSt s k f o) (hk : k < s.size) (hc : blank s[k] = true) : WSt s (k + 1) (-1) (if f < 0 then o else o ++ [bl (s.extract f.toNat k)]) := by
  have hw := h.word
  obtain ⟨n, h1, h2⟩ := h
  refine ⟨[], ?_, .inl ⟨rfl, rfl⟩⟩
  rw [take_bl s k hk, wst_snoc, ← hw, h1, wstep_blank hc]
def WAll (w wr : World) (bs bo bf : Nat) (s : ByteArray) (k : Nat) : Prop := ∃ v f o, WM w wr bs bo bf s v f o ∧ WSt s k f o
set_option maxHeartbeats 2000000 in
theorem dWords (s : ByteArray) (w : World) (hs : s.size ≤ 1000000) : Calls Tryz.prog 75 #[.string s] w fun e w' => ∃ v, e = .returned v ∧ w'.ownsRow w.heap.size 9 1 v (words (bl s)).length (wtx (words (bl s))) ∧ Kp none' w w' := by
  go_enter Tryz.func75, Tryz.ntmps75
  go_wp2
  go_loopw [10] (fun i wr => ∃ k : Nat, k ≤ s.size ∧ i = .int .i64 k ∧ Hid (WAll w wr w.heap.size (w.heap.size + 1) (w.heap.size + 2) s k)) (fun i _ => s.size - (intOf i).toNat)
  case atStart =>
    refine ⟨0, Nat.zero_le _, rfl, .slice none 0 0, -1, [], ⟨?_, ?_, ?_, World.ownsRow_nil _ _ _ _, (((Kp.refl _ _).alloc _).alloc _).alloc _, ⟨by omega, by omega, by omega⟩, by simp [Value.ownBlock]⟩, WSt.zero s⟩
    · exact ((Blk.new w [.string s] _).alloc _).alloc _
    · have := (Blk.new (w.alloc (.cells #[.string s] 9)) [.slice none 0 0] 111).alloc (.cells #[.int .i64 (-1)] 3)
      simpa using this
    · have := Blk.new ((w.alloc (.cells #[.string s] 9)).alloc (.cells #[.slice none 0 0] 111)) [.int .i64 (-1)] 3
      simpa using this
  case round =>
    obtain ⟨k, hk, rfl, hw⟩ := hrel
    obtain ⟨v, f, o, hm, hst⟩ := hw.out
    have hcs := hm.cs.cell 0 rfl
    have hlen := hst.len
    by_cases hlt : k < s.size
    · by_cases hb : blank s[k] = true
      · have hcc := blank_iff.1 hb
        have hcs2 : (((s[k].toNat : Int) == 32) = true ∨ (((s[k].toNat : Int) == 32) = false ∧ ((s[k].toNat : Int) == 9) = true)) := by
          rcases hcc with h | h
          · exact .inl (by rw [beq_iff_eq]; omega)
          · exact .inr ⟨by rw [beq_eq_false_iff_ne]; omega, by rw [beq_iff_eq]; omega⟩
        have hE := Lib.hid (dEnd hm k hst.f hk hs (by omega))
        have HN := Lib.hid (hst.blank hlt hb)
        clear hw hm hst hb hcc
        rcases hcs2 with h1 | ⟨h1, h2⟩
        all_goals
          go_wp2_with fail
          refine (hE.out).mono ?_
          rintro e w2 ⟨⟨r, rfl⟩, v', hm2⟩
          have HM2 := Lib.hid hm2; clear hm2
          go_wp2_with fail
          go_roundw
          case rel => exact ⟨k + 1, by omega, by go_num, v', _, _, HM2.out, HN.out⟩
          case measure => simp [intOf]; omega
      · have hb' : blank s[k] = false := by simpa using hb
        have h1 : ((s[k].toNat : Int) == 32) = false := by rw [beq_eq_false_iff_ne]; intro e; exact hb (blank_iff.2 (.inl (by omega)))
        have h2 : ((s[k].toNat : Int) == 9) = false := by rw [beq_eq_false_iff_ne]; intro e; exact hb (blank_iff.2 (.inr (by omega)))
        have hN := hst.sign hlt hb'
        have hcf := hm.cf.cell 0 rfl
        have hff := hm.cf.fz 0
        by_cases hf : f < 0
        · rw [if_pos hf] at hN
          have HN := Lib.hid hN
          have HM := Lib.hid (hm.setF k)
          clear hw hm hst hb hb' hN
          go_wp2_with fail
          go_roundw
          case rel => exact ⟨k + 1, by omega, by go_num, v, _, _, HM.out, HN.out⟩
          case measure => simp [intOf]; omega
        · rw [if_neg hf] at hN
          have HN := Lib.hid hN
          have HM := Lib.hid hm
          clear hw hm hst hb hb' hN
          go_wp2_with fail
          go_roundw
          case rel => exact ⟨k + 1, by omega, by go_num, v, _, _, HM.out, HN.out⟩
          case measure => simp [intOf]; omega
    · obtain rfl : k = s.size := by omega
      have hE := Lib.hid (dEnd hm s.size hst.f hk hs (by omega))
      have hD := hst.word
      rw [List.take_of_length_le (by rw [bl_len]; omega)] at hD
      have HD := Lib.hid hD
      clear hw hm hst hD
      go_wp2_with fail
      refine (hE.out).mono ?_
      rintro e w2 ⟨⟨r, rfl⟩, v', hm2⟩
      have hco := hm2.co.cell 0 rfl
      have HM2 := Lib.hid hm2; clear hm2
      go_wp2_with fail
      go_ret
      refine ⟨v', rfl, ?_, HM2.out.kp⟩
      have := HM2.out.own
      rw [← HD.out] at this
      exact this
end Go.Proofs.YtlaakhfgidjofaaGreatDoor

namespace Go.Proofs.YtlaakhfgidjofaaGreatDoor
set_option linter.unusedVariables false
set_option linter.unusedSimpArgs false
theorem first_at (c : UInt8) (l : List UInt8) (h : c ∈ l) : ∃ i : Nat, Lib.index l [c] = i ∧ i < l.length ∧ l = l.take i ++ c :: l.drop (i + 1) ∧ c ∉ l.take i := by
  rw [Lib.index_one]
  have hge := Lib.indexByte_ge l c
  by_cases hm : Lib.indexByte l c = -1
  · obtain ⟨k, hk⟩ := List.mem_iff_getElem?.1 h
    exact absurd hk (Lib.indexByte_none hm k)
  · obtain ⟨i, hi⟩ : ∃ i : Nat, Lib.indexByte l c = i := ⟨(Lib.indexByte l c).toNat, by omega⟩
    obtain ⟨h1, h2⟩ := Lib.indexByte_some hi
    have hlt := (List.getElem?_eq_some_iff.1 h1).1
    refine ⟨i, hi, hlt, ?_, fun hc => ?_⟩
    · conv => lhs; rw [← List.take_append_drop i l]
      rw [List.drop_eq_getElem_cons hlt, (List.getElem?_eq_some_iff.1 h1).2]
    · obtain ⟨k, hk⟩ := List.mem_iff_getElem?.1 hc
      have hkl := (List.getElem?_eq_some_iff.1 hk).1
      rw [List.length_take] at hkl
      rw [List.getElem?_take, if_pos (by omega)] at hk
      exact h2 k (by omega) hk
theorem split_parts (c : UInt8) (l : List UInt8) : Lib.splitK [c] 0 (Lib.count l [c]) l = parts c l := by
  have h : ∀ (n : Nat) (l : List UInt8), l.length ≤ n → Lib.splitK [c] 0 (l.count c) l = parts c l := by
    intro n
    induction n with
    | zero =>
      intro l hl
      have : l = [] := List.eq_nil_of_length_eq_zero (by omega)
      subst this; rfl
    | succ n ih =>
      intro l hl
      by_cases hc : c ∈ l
      · obtain ⟨i, hi, hlt, he, hn⟩ := first_at c l hc
        have hcnt : l.count c = (l.drop (i + 1)).count c + 1 := by
          conv => lhs; rw [he]
          rw [List.count_append, List.count_eq_zero_of_not_mem hn, List.count_cons_self]; omega
        rw [hcnt, Lib.splitK, hi, if_neg (by simp)]
        simp only [Int.toNat_natCast, List.length_cons, List.length_nil, Nat.zero_add, Nat.add_zero]
        rw [ih _ (by rw [List.length_drop]; omega)]
        conv => rhs; rw [he]
        rw [parts_cons c _ _ hn]
      · rw [List.count_eq_zero_of_not_mem hc, parts_one c l hc]; rfl
  rw [Lib.count_one]
  exact h _ l (Nat.le_refl _)
end Go.Proofs.YtlaakhfgidjofaaGreatDoor
