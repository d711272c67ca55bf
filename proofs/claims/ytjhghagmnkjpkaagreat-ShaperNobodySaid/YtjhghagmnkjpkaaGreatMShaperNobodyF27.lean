/- A shaper's operations in plain Lean: the reply, and the shaper behind it (layer 26). -/
import Derived.Test.YtjhghagmnkjpkaaGreatMShaperNobodyF26
import Derived.Deep.RegionWith
import Derived.Deep.RegionHeld3
namespace Go.Proofs.YtjhghagmnkjpkaaGreat
set_option linter.unusedVariables false
set_option linter.unusedSimpArgs false
open Go Go.RowKit Go.Shelf

def zSt : List Value := [.int .u64 0, .int .u64 0, .int .i64 0, .int .u64 0] ++ List.replicate 32 (.int .u64 0)
/-- A reply's cells. -/
def rpC (kind code : Int) (fl id ln rank : Nat) (st : List Value) : List Value := [.int .i64 kind, .int .i64 code, .int .u32 fl, .int .u32 id, .int .u64 ln, .int .u64 rank] ++ st
theorem infoRp : (Tryz.prog.info? 36).map (·.size) = some 42 := by kernel_rfl
/-- One refusal more. -/
def refS (s : Sh) (k : Nat) : Sh := { s with ref := s.ref.set k (satN (s.ref.getD k 0) 1) }
def enqS (s : Sh) (fl id ln : Nat) : List Value × Sh :=
  if mayG s.g fl ln = 0 then
    (rpC 1 0 fl id ln (nextR s.r s.now fl ln).1 zSt, { s with g := inG s.g fl ln, r := (nextR s.r s.now fl ln).2, bk := bkPush s.bk (nextR s.r s.now fl ln).1 ⟨fl, id, ln⟩ })
  else (rpC 1 (mayG s.g fl ln) fl id ln 0 zSt, refS s (mayG s.g fl ln).toNat)
def deqS (s : Sh) : List Value × Sh :=
  if (bkPeek s.bk).2 = false then (rpC 2 18 0 0 0 0 zSt, s)
  else if s.tok < (bkPeek s.bk).1.x.len then (rpC 2 19 0 0 0 0 zSt, s)
  else (rpC 2 0 (bkPeek s.bk).1.x.flow (bkPeek s.bk).1.x.id (bkPeek s.bk).1.x.len (bkPeek s.bk).1.rank zSt,
    { s with tok := s.tok - (bkPeek s.bk).1.x.len, bk := bkPop s.bk, g := outG s.g (bkPeek s.bk).1.x.flow (bkPeek s.bk).1.x.len, r := sentR s.r (bkPeek s.bk).1.rank })
def statsC (s : Sh) : List Value := [.int .u64 s.now, .int .u64 s.tok, .int .i64 (sumP s.g.st), .int .u64 (sumB s.g.st)] ++ s.ref.map eN8
def doS (s : Sh) (o : OpR) : List Value × Sh :=
  if o.kind = 1 then enqS s o.flow o.id o.len
  else if o.kind = 2 then deqS s
  else if o.kind = 3 then (rpC 3 0 0 0 0 0 zSt, { s with now := satN s.now o.ticks, tok := tickB s.rate s.burst s.tok o.ticks })
  else if o.kind = 4 then (rpC 4 0 0 0 0 0 (statsC s), s)
  else if o.kind = 5 then (rpC 5 2 0 0 0 0 zSt, refS s 2)
  else (rpC 0 1 0 0 0 0 zSt, refS s 1)
theorem sumP_lay {g : Ga} (ok : g.Ok) {id n : Nat} (h0 : 0 ≤ g.at id) : sumP (g.lay id n).st = sumP g.st + 1 := by
  obtain ⟨h1, h2⟩ := ok.x_get h0
  show sumP (g.st.set _ _) = _
  rw [sumP_set _ _ _ h1, ← h2]
  show sumP g.st - (g.x id).p + ((g.x id).p + 1) = _
  omega
theorem sumP_out {g : Ga} (ok : g.Ok) (id n : Nat) : sumP g.st - 1 ≤ sumP (outG g id n).st := by
  unfold outG
  split
  · rename_i h
    obtain ⟨h0, _, _⟩ := out_zero h
    obtain ⟨h1, h2⟩ := ok.x_get h0
    show _ ≤ sumP (g.st.set _ _)
    rw [sumP_set _ _ _ h1, ← h2]
    show _ ≤ sumP g.st - (g.x id).p + ((g.x id).p - 1)
    omega
  · omega
theorem c_in (g : Ga) (id n : Nat) : (inG g id n).c = g.c := by unfold inG Ga.lay Ga.put; split <;> rfl
theorem c_out (g : Ga) (id n : Nat) : (outG g id n).c = g.c := by unfold outG Ga.put; split <;> rfl
theorem fl_next (r : Rk) (now id n : Nat) : (nextR r now id n).2.fl = r.fl := by unfold nextR Rk.setTag; split; rfl; split <;> rfl
theorem fl_sent (r : Rk) (x : Nat) : (sentR r x).fl = r.fl := by unfold sentR; split <;> rfl
theorem nextR_lt {r : Rk} (h : r.Ok) (now id n : Nat) : (nextR r now id n).1 < 18446744073709551616 := by
  unfold nextR
  have h1 := h.tag id
  have h2 := h.vok
  split
  · show max _ _ < _; omega
  · split
    · exact satN_lt _ _
    · exact h1
theorem ref_lt {l : List Nat} (h : ∀ x ∈ l, x < 18446744073709551616) (k : Nat) : ∀ x ∈ l.set k (satN (l.getD k 0) 1), x < 18446744073709551616 := by
  intro x hx
  rcases List.mem_or_eq_of_mem_set hx with h1 | h1
  · exact h x h1
  · rw [h1]; exact satN_lt _ _
theorem refS_ok {s : Sh} (h : s.Ok) (k : Nat) : (refS s k).Ok :=
  { h with ref := ref_lt h.ref k, len := by show (s.ref.set k _).length = 32; rw [List.length_set]; exact h.len }
theorem may_room {g : Ga} {id n : Nat} (h : mayG g id n = 0) : sumP g.st < g.c.packets := (fit_zero (may_fit h)).2.2.2.1
theorem enq_ok {s : Sh} (h : s.Ok) (hg : s.g.Ok) (hr : s.r.Ok) {fl id ln : Nat} (hf : fl < 4294967296) (hi : id < 4294967296) (hl : ln < 18446744073709551616) : (enqS s fl id ln).2.Ok := by
  unfold enqS
  split
  · rename_i hm
    have hp := push_items h.wf (nextR s.r s.now fl ln).1 ⟨fl, id, ln⟩
    have h0 := (lay_ok hg (may_fit hm)).1
    have hi : inG s.g fl ln = s.g.lay fl ln := by unfold inG; rw [if_pos hm]
    exact { h with
      wf := push_wf h.wf _ _
      fl := by show (nextR _ _ _ _).2.fl = (inG _ _ _).c.flows; rw [fl_next, c_in]; exact h.fl
      its := fun i hi => by
        rcases List.mem_cons.1 (hp.mem_iff.1 hi) with e | e
        · subst e; exact ⟨nextR_lt hr _ _ _, hf, by assumption, hl⟩
        · exact h.its i e
      tot := by
        show ((bkItems (bkPush s.bk _ _)).length : Int) ≤ sumP (inG s.g fl ln).st
        rw [hp.length_eq, hi, sumP_lay hg h0, List.length_cons]
        have := h.tot
        omega }
  · exact refS_ok h _
theorem deq_ok {s : Sh} (h : s.Ok) (hg : s.g.Ok) : (deqS s).2.Ok := by
  unfold deqS
  split
  · exact h
  · split
    · exact h
    · rename_i h1 h2
      have e := pop_items s.bk
      exact { h with
        tok := by show s.tok - _ ≤ s.burst; have := h.tok; omega
        wf := pop_wf h.wf
        fl := by show (sentR _ _).fl = (outG _ _ _).c.flows; rw [fl_sent, c_out]; exact h.fl
        its := fun i hi => h.its i (List.mem_of_mem_tail (by rw [← e]; exact hi))
        tot := by
          show ((bkItems (bkPop s.bk)).length : Int) ≤ sumP (outG s.g _ _).st
          have h3 := sumP_out hg (bkPeek s.bk).1.x.flow (bkPeek s.bk).1.x.len
          have h4 := h.tot
          have h5 : bkItems s.bk ≠ [] := fun e => by unfold bkPeek at h1; rw [e] at h1; exact h1 rfl
          have h6 := List.length_pos_iff.2 h5
          rw [e, List.length_tail]
          omega }
theorem do_ok {s : Sh} (h : s.Ok) (hg : s.g.Ok) (hr : s.r.Ok) (o : OpR) (ho : o.ok) : (doS s o).2.Ok := by
  unfold doS
  split
  · exact enq_ok h hg hr ho.flow ho.id ho.len
  · split
    · exact deq_ok h hg
    · split
      · exact { h with now := satN_lt _ _, tok := by show min _ _ ≤ _; exact Nat.min_le_right _ _ }
      · split
        · exact h
        · split
          · exact refS_ok h _
          · exact refS_ok h _
theorem do_n (s : Sh) (o : OpR) : bkN (doS s o).2.bk ≤ bkN s.bk + 1 := by
  unfold doS enqS deqS refS
  split
  · split
    · exact push_n _ _ _
    · exact Nat.le_succ _
  · split
    · split
      · exact Nat.le_succ _
      · split
        · exact Nat.le_succ _
        · show bkN (bkPop s.bk) ≤ _; rw [pop_n]; exact Nat.le_succ _
    · split
      · exact Nat.le_succ _
      · split
        · exact Nat.le_succ _
        · split <;> exact Nat.le_succ _
/-- Operations, one behind the other. -/
def runS (s : Sh) : List OpR → List (List Value) × Sh
  | [] => ([], s)
  | o :: l => ((doS s o).1 :: (runS (doS s o).2 l).1, (runS (doS s o).2 l).2)
theorem runS_snoc (s : Sh) (l : List OpR) (o : OpR) : runS s (l ++ [o]) = ((runS s l).1 ++ [(doS (runS s l).2 o).1], (doS (runS s l).2 o).2) := by
  induction l generalizing s with
  | nil => rfl
  | cons a l ih => simp only [List.cons_append, runS, ih]
theorem runS_len (s : Sh) (l : List OpR) : (runS s l).1.length = l.length := by
  induction l generalizing s with
  | nil => rfl
  | cons a l ih => simp only [runS, List.length_cons, ih]
end Go.Proofs.YtjhghagmnkjpkaaGreat

namespace Go.Proofs.YtjhghagmnkjpkaaGreat
set_option linter.unusedVariables false
set_option linter.unusedSimpArgs false
open Go Go.RowKit Go.Shelf

/-- What is known behind an operation. -/
abbrev ShTo (w : World) (f : ShF) (s' : Sh) (w' : World) : Prop := ∃ f', ShM w' f' s' ∧ Kp f.all w w' ∧ Nw w f.all f'.all ∧ f'.sb = f.sb
set_option maxRecDepth 100000 in
set_option maxHeartbeats 8000000 in
theorem enqYes {w : World} {f : ShF} {s : Sh} (kind : Int) (fl id ln tk : Nat) (h : ShM w f s) (hm : mayG s.g fl ln = 0) (hid : fl < 4294967296) (hidd : id < 4294967296) (hln : ln < 18446744073709551616) (hn : bkN s.bk < 9223372036854775807) :
    Calls Tryz.prog 21 #[.pointer (some ⟨f.sb, 0, none⟩), .agg #[.int .i64 kind, .int .u32 fl, .int .u32 id, .int .u64 ln, .int .u64 tk]] w fun e w' => e = .returned (.agg (enqS s fl id ln).1.toArray) ∧ ShTo w f (enqS s fl id ln).2 w' := by
  have HOK2 := Lib.hid (enq_ok h.ok h.gate.ok h.ranks.ok hid hidd hln)
  have hq : enqS s fl id ln = (rpC 1 0 fl id ln (nextR s.r s.now fl ln).1 zSt, { s with g := inG s.g fl ln, r := (nextR s.r s.now fl ln).2, bk := bkPush s.bk (nextR s.r s.now fl ln).1 ⟨fl, id, ln⟩ }) := by unfold enqS; rw [if_pos hm]
  rw [hq] at HOK2 ⊢
  clear hq
  have HOK := Lib.hid h.ok
  have hnow := h.ok.now
  obtain ⟨t5, x5, gu, ge, gp, hv, hbc⟩ := h.back.c
  have HBC := Lib.hid hbc
  have hhp := h.back
  rw [hv] at hhp
  have HG := Lib.hid h.gate
  have HR := Lib.hid h.ranks
  have HBKH := Lib.hid hhp
  have HB0 := Lib.hid h.top
  have hsl := h.top.lt
  have c0 := h.top.cell 0 rfl
  have c1 := h.top.cell 1 rfl
  have c5 := h.top.cell 5 rfl
  have c6 := h.top.cell 6 rfl
  have HSG := Lib.hid h.sg; have HSR := Lib.hid h.sr; have HSK := Lib.hid h.sk
  have HGR := Lib.hid h.gr; have HGK := Lib.hid h.gk; have HRK := Lib.hid h.rk
  have HGL := Lib.hid (fun b hb => h.gate.lt (b := b) hb); have HRL := Lib.hid (fun b hb => h.ranks.lt (b := b) hb); have HBL := Lib.hid (fun b hb => h.back.lt (b := b) hb)
  have hfl := h.ok.fl
  have hroom : (bkItems s.bk).length < s.g.c.packets.toNat := by have h1 := h.ok.tot; have h2 := may_room hm; omega
  have hat : 0 ≤ findF s.r.fl fl := by rw [hfl]; exact (lay_ok h.gate.ok (may_fit hm)).1
  have HIN := Lib.hid (fun W (k : GMem W f.Fg f.gb s.g) => by have := gIn k fl ln hid; rw [hm] at this; exact this)
  have HNX := Lib.hid (fun W (k : RMem W f.Fr f.rb s.r) => kNext k s.now fl ln hnow hln hat)
  have HPU := Lib.hid (fun W (F : Nat → Prop) (r : Nat) (hr : r < 18446744073709551616) (k : BkM W F (.iface t5 x5) s.g.c.packets.toNat s.bk) => HBC.out.push W F _ _ r fl id ln k hroom hn hr)
  have HTOP := Lib.hid h.top
  have hwp := c_in s.g fl ln
  have HWP := Lib.hid hwp
  rw [hv] at c5
  have HV := Lib.hid hv
  refine calls_post ?_
  intro PP HP
  clear h hbc hm hfl hid hidd hln hroom hn hnow hhp hat hwp hv
  obtain ⟨sb, gb, rb, v, Fg, Fr, Fb⟩ := f
  simp only at *
  obtain ⟨now, hnw⟩ : ∃ now, s.now = now := ⟨_, rfl⟩
  have HNW := Lib.hid hnw
  simp only [hnw] at HNX c6
  clear hnw
  have hz0 := Blk.new (w.alloc (.cells #[.int .i64 kind, .int .u32 fl, .int .u32 id, .int .u64 ln, .int .u64 tk] 38)) [.int .i64 0, .int .i64 0, .int .u32 0, .int .u32 0, .int .u64 0, .int .u64 0, .int .u64 0, .int .u64 0, .int .i64 0, .int .u64 0, .int .u64 0, .int .u64 0, .int .u64 0, .int .u64 0, .int .u64 0, .int .u64 0, .int .u64 0, .int .u64 0, .int .u64 0, .int .u64 0, .int .u64 0, .int .u64 0, .int .u64 0, .int .u64 0, .int .u64 0, .int .u64 0, .int .u64 0, .int .u64 0, .int .u64 0, .int .u64 0, .int .u64 0, .int .u64 0, .int .u64 0, .int .u64 0, .int .u64 0, .int .u64 0, .int .u64 0, .int .u64 0, .int .u64 0, .int .u64 0, .int .u64 0, .int .u64 0] 36
  have e1 : (w.alloc (.cells #[.int .i64 kind, .int .u32 fl, .int .u32 id, .int .u64 ln, .int .u64 tk] 38)).heap.size = w.heap.size + 1 := by simp
  rw [e1] at hz0
  have HZ0 := Lib.hid hz0
  have hz1 := Blk.new ((w.alloc (.cells #[.int .i64 kind, .int .u32 fl, .int .u32 id, .int .u64 ln, .int .u64 tk] 38)).alloc (.cells #[.int .i64 0, .int .i64 0, .int .u32 0, .int .u32 0, .int .u64 0, .int .u64 0, .int .u64 0, .int .u64 0, .int .i64 0, .int .u64 0, .int .u64 0, .int .u64 0, .int .u64 0, .int .u64 0, .int .u64 0, .int .u64 0, .int .u64 0, .int .u64 0, .int .u64 0, .int .u64 0, .int .u64 0, .int .u64 0, .int .u64 0, .int .u64 0, .int .u64 0, .int .u64 0, .int .u64 0, .int .u64 0, .int .u64 0, .int .u64 0, .int .u64 0, .int .u64 0, .int .u64 0, .int .u64 0, .int .u64 0, .int .u64 0, .int .u64 0, .int .u64 0, .int .u64 0, .int .u64 0, .int .u64 0, .int .u64 0] 36)) [.int .u32 fl, .int .u32 id, .int .u64 ln] 31
  have hz2 := Blk.new (((w.alloc (.cells #[.int .i64 kind, .int .u32 fl, .int .u32 id, .int .u64 ln, .int .u64 tk] 38)).alloc (.cells #[.int .i64 0, .int .i64 0, .int .u32 0, .int .u32 0, .int .u64 0, .int .u64 0, .int .u64 0, .int .u64 0, .int .i64 0, .int .u64 0, .int .u64 0, .int .u64 0, .int .u64 0, .int .u64 0, .int .u64 0, .int .u64 0, .int .u64 0, .int .u64 0, .int .u64 0, .int .u64 0, .int .u64 0, .int .u64 0, .int .u64 0, .int .u64 0, .int .u64 0, .int .u64 0, .int .u64 0, .int .u64 0, .int .u64 0, .int .u64 0, .int .u64 0, .int .u64 0, .int .u64 0, .int .u64 0, .int .u64 0, .int .u64 0, .int .u64 0, .int .u64 0, .int .u64 0, .int .u64 0, .int .u64 0, .int .u64 0] 36)).alloc (.cells #[.int .u32 fl, .int .u32 id, .int .u64 ln] 31)) [.int .i64 0, .int .i64 0, .int .u32 0, .int .u32 0, .int .u64 0, .int .u64 0, .int .u64 0, .int .u64 0, .int .i64 0, .int .u64 0, .int .u64 0, .int .u64 0, .int .u64 0, .int .u64 0, .int .u64 0, .int .u64 0, .int .u64 0, .int .u64 0, .int .u64 0, .int .u64 0, .int .u64 0, .int .u64 0, .int .u64 0, .int .u64 0, .int .u64 0, .int .u64 0, .int .u64 0, .int .u64 0, .int .u64 0, .int .u64 0, .int .u64 0, .int .u64 0, .int .u64 0, .int .u64 0, .int .u64 0, .int .u64 0, .int .u64 0, .int .u64 0, .int .u64 0, .int .u64 0, .int .u64 0, .int .u64 0] 36
  have hk0 := ((((Kp.refl none' w).alloc (.cells #[.int .i64 kind, .int .u32 fl, .int .u32 id, .int .u64 ln, .int .u64 tk] 38)).alloc (.cells #[.int .i64 0, .int .i64 0, .int .u32 0, .int .u32 0, .int .u64 0, .int .u64 0, .int .u64 0, .int .u64 0, .int .i64 0, .int .u64 0, .int .u64 0, .int .u64 0, .int .u64 0, .int .u64 0, .int .u64 0, .int .u64 0, .int .u64 0, .int .u64 0, .int .u64 0, .int .u64 0, .int .u64 0, .int .u64 0, .int .u64 0, .int .u64 0, .int .u64 0, .int .u64 0, .int .u64 0, .int .u64 0, .int .u64 0, .int .u64 0, .int .u64 0, .int .u64 0, .int .u64 0, .int .u64 0, .int .u64 0, .int .u64 0, .int .u64 0, .int .u64 0, .int .u64 0, .int .u64 0, .int .u64 0, .int .u64 0] 36)).alloc (.cells #[.int .u32 fl, .int .u32 id, .int .u64 ln] 31)).alloc (.cells #[.int .i64 0, .int .i64 0, .int .u32 0, .int .u32 0, .int .u64 0, .int .u64 0, .int .u64 0, .int .u64 0, .int .i64 0, .int .u64 0, .int .u64 0, .int .u64 0, .int .u64 0, .int .u64 0, .int .u64 0, .int .u64 0, .int .u64 0, .int .u64 0, .int .u64 0, .int .u64 0, .int .u64 0, .int .u64 0, .int .u64 0, .int .u64 0, .int .u64 0, .int .u64 0, .int .u64 0, .int .u64 0, .int .u64 0, .int .u64 0, .int .u64 0, .int .u64 0, .int .u64 0, .int .u64 0, .int .u64 0, .int .u64 0, .int .u64 0, .int .u64 0, .int .u64 0, .int .u64 0, .int .u64 0, .int .u64 0] 36)
  have e2 : ((w.alloc (.cells #[.int .i64 kind, .int .u32 fl, .int .u32 id, .int .u64 ln, .int .u64 tk] 38)).alloc (.cells #[.int .i64 0, .int .i64 0, .int .u32 0, .int .u32 0, .int .u64 0, .int .u64 0, .int .u64 0, .int .u64 0, .int .i64 0, .int .u64 0, .int .u64 0, .int .u64 0, .int .u64 0, .int .u64 0, .int .u64 0, .int .u64 0, .int .u64 0, .int .u64 0, .int .u64 0, .int .u64 0, .int .u64 0, .int .u64 0, .int .u64 0, .int .u64 0, .int .u64 0, .int .u64 0, .int .u64 0, .int .u64 0, .int .u64 0, .int .u64 0, .int .u64 0, .int .u64 0, .int .u64 0, .int .u64 0, .int .u64 0, .int .u64 0, .int .u64 0, .int .u64 0, .int .u64 0, .int .u64 0, .int .u64 0, .int .u64 0] 36)).heap.size = w.heap.size + 2 := by simp
  have e3 : (((w.alloc (.cells #[.int .i64 kind, .int .u32 fl, .int .u32 id, .int .u64 ln, .int .u64 tk] 38)).alloc (.cells #[.int .i64 0, .int .i64 0, .int .u32 0, .int .u32 0, .int .u64 0, .int .u64 0, .int .u64 0, .int .u64 0, .int .i64 0, .int .u64 0, .int .u64 0, .int .u64 0, .int .u64 0, .int .u64 0, .int .u64 0, .int .u64 0, .int .u64 0, .int .u64 0, .int .u64 0, .int .u64 0, .int .u64 0, .int .u64 0, .int .u64 0, .int .u64 0, .int .u64 0, .int .u64 0, .int .u64 0, .int .u64 0, .int .u64 0, .int .u64 0, .int .u64 0, .int .u64 0, .int .u64 0, .int .u64 0, .int .u64 0, .int .u64 0, .int .u64 0, .int .u64 0, .int .u64 0, .int .u64 0, .int .u64 0, .int .u64 0] 36)).alloc (.cells #[.int .u32 fl, .int .u32 id, .int .u64 ln] 31)).heap.size = w.heap.size + 3 := by simp
  rw [e2] at hz1
  rw [e3] at hz2
  have HZ1 := Lib.hid hz1
  have HZ2 := Lib.hid hz2
  have HK0 := Lib.hid hk0
  clear hz0 hz1 hz2 hk0 e1 e2 e3
  go_enter Tryz.func21, Tryz.ntmps21
  go_wp2_with (first
    | (refine wp_store_blk rfl 36 (.tmp 6) (.tmp 16) rfl HZ2.out [.int .i64 1, .int .i64 0, .int .u32 fl, .int .u32 id, .int .u64 ln, .int .u64 0, .int .u64 0, .int .u64 0, .int .i64 0, .int .u64 0, .int .u64 0, .int .u64 0, .int .u64 0, .int .u64 0, .int .u64 0, .int .u64 0, .int .u64 0, .int .u64 0, .int .u64 0, .int .u64 0, .int .u64 0, .int .u64 0, .int .u64 0, .int .u64 0, .int .u64 0, .int .u64 0, .int .u64 0, .int .u64 0, .int .u64 0, .int .u64 0, .int .u64 0, .int .u64 0, .int .u64 0, .int .u64 0, .int .u64 0, .int .u64 0, .int .u64 0, .int .u64 0, .int .u64 0, .int .u64 0, .int .u64 0, .int .u64 0] rfl rfl rfl infoRp rfl ?_
       intro W4 hb4 hk4
       have HB4 := Lib.hid hb4
       have HK4 := Lib.hid hk4
       clear hb4 hk4))
  have k04 : Kp none' w W4 := HK0.out.then HK4.out (fun b hb e => by omega)
  have HP4 := Lib.hid ((HZ1.out.alloc (.cells #[.int .i64 0, .int .i64 0, .int .u32 0, .int .u32 0, .int .u64 0, .int .u64 0, .int .u64 0, .int .u64 0, .int .i64 0, .int .u64 0, .int .u64 0, .int .u64 0, .int .u64 0, .int .u64 0, .int .u64 0, .int .u64 0, .int .u64 0, .int .u64 0, .int .u64 0, .int .u64 0, .int .u64 0, .int .u64 0, .int .u64 0, .int .u64 0, .int .u64 0, .int .u64 0, .int .u64 0, .int .u64 0, .int .u64 0, .int .u64 0, .int .u64 0, .int .u64 0, .int .u64 0, .int .u64 0, .int .u64 0, .int .u64 0, .int .u64 0, .int .u64 0, .int .u64 0, .int .u64 0, .int .u64 0, .int .u64 0] 36)).kp HK4.out (fun e => by omega))
  have HZ4 := Lib.hid (((HZ0.out.alloc (.cells #[.int .u32 fl, .int .u32 id, .int .u64 ln] 31)).alloc (.cells #[.int .i64 0, .int .i64 0, .int .u32 0, .int .u32 0, .int .u64 0, .int .u64 0, .int .u64 0, .int .u64 0, .int .i64 0, .int .u64 0, .int .u64 0, .int .u64 0, .int .u64 0, .int .u64 0, .int .u64 0, .int .u64 0, .int .u64 0, .int .u64 0, .int .u64 0, .int .u64 0, .int .u64 0, .int .u64 0, .int .u64 0, .int .u64 0, .int .u64 0, .int .u64 0, .int .u64 0, .int .u64 0, .int .u64 0, .int .u64 0, .int .u64 0, .int .u64 0, .int .u64 0, .int .u64 0, .int .u64 0, .int .u64 0, .int .u64 0, .int .u64 0, .int .u64 0, .int .u64 0, .int .u64 0, .int .u64 0] 36)).kp HK4.out (fun e => by omega))
  have K04 := Lib.hid k04
  have d0 := k04.cell c0 (fun x => x)
  have p0 := HP4.out.cell 0 rfl
  have p2 := HP4.out.cell 2 rfl
  clear HZ0 HZ1 HZ2 HK0 HK4 k04
  go_wp2_with fail
  refine wp_region_kept2 [] [0, 1, 2, 3, 4, 5, 6, 7] 8 (by kernel_rfl) (by kernel_rfl) (fun c a d u w h => by cases d <;> exact h) ?_
  simp only [pick, List.getElem?_cons_succ, List.getElem?_cons_zero, List.drop_succ_cons, List.drop_zero]
  show wpKL _ _ _ _ _ _
  repeat (first
    | (refine wpKL_op (by exact rfl) (by as_aux_lemma => intro W hK; have e0 := hK.cell d0 (fun x => x); have e1 := hK.cell p0 (fun x => x); have e2 := hK.cell p2 (fun x => x); go_simp; exact rfl) ?_; simp only [Act.put, List.setIfInBounds_toArray, List.set_cons_succ, List.set_cons_zero])
    | (refine wpKL_off (by exact rfl) ?_; simp only [Act.put, List.setIfInBounds_toArray, List.set_cons_succ, List.set_cons_zero]))
  show ∀ W, _ → wpList _ _ _ _ _ _
  intro W5 hK5
  have K05 := Lib.hid (K04.out.trans hK5)
  have HP5 := Lib.hid (HP4.out.kp hK5 (fun x => x))
  have HB5 := Lib.hid (HB4.out.kp hK5 (fun x => x))
  have HG5 := Lib.hid (HG.out.old K05.out)
  have HZ5 := Lib.hid (HZ4.out.kp hK5 (fun x => x))
  clear hK5 d0 p0 p2 HP4 HB4 K04
  go_wp2_with fail
  refine (HIN.out W5 HG5.out).mono ?_
  rintro e W6 ⟨rfl, hg6, hk6⟩
  have k06 : Kp Fg w W6 := (K05.out.mono (fun _ _ x => x.elim)).trans hk6
  have K06 := Lib.hid k06
  have hgl := HGL.out
  have HG6 := Lib.hid hg6
  have HP6 := Lib.hid (HP5.out.kp hk6 (fun hb => by have := hgl _ hb; omega))
  have HB6 := Lib.hid (HB5.out.kp hk6 (fun hb => by have := hgl _ hb; omega))
  have HZ6 := Lib.hid (HZ5.out.kp hk6 (fun hb => by have := hgl _ hb; omega))
  have HR6 := Lib.hid (HR.out.kp k06 (fun b hb hg => HGR.out b hg hb))
  have HH6 := Lib.hid (HBKH.out.kp k06 (fun b hb hg => HGK.out b hg hb))
  have d1 := k06.cell c1 HSG.out
  have d6 := k06.cell c6 HSG.out
  have p0 := HP6.out.cell 0 rfl
  have p2 := HP6.out.cell 2 rfl
  clear hg6 hk6 k06 hgl HIN HG HR HBKH HB5 HP5 K05 HG5
  have HNX6 := Lib.hid (fun W (k : Kp none' W6 W) => HNX.out W (HR6.out.old k))
  have hrl := HRL.out
  have HPL : Hid (¬ Fr (w.heap.size + 2)) := Lib.hid (fun hb => by have := hrl _ hb; omega)
  have HBL3 : Hid (¬ Fr (w.heap.size + 3)) := Lib.hid (fun hb => by have := hrl _ hb; omega)
  clear hrl HNX HR6
  generalize hRK : (nextR s.r now fl ln) = RK at *
  go_wp2_with fail
  have HD1 := Lib.hid d1
  have HD6 := Lib.hid d6
  have HSR2 := HSR
  go_region_held3 (fun w' => w'.cell? ⟨sb, 1, none⟩ = some (.pointer (some ⟨rb, 0, none⟩)) ∧ w'.cell? ⟨sb, 6, none⟩ = some (.int .u64 now) ∧ w'.cell? ⟨w.heap.size + 2, 0, none⟩ = some (.int .u32 fl) ∧ w'.cell? ⟨w.heap.size + 2, 2, none⟩ = some (.int .u64 ln)) (first | go_keep | exact ⟨m1, m6, m0, m2⟩)
    (first
      | (go_at_call 38; refine (HNX6.out _ (Kp.refl none' W6).drew).mono ?_; rintro e W8 ⟨rfl, hr8, hrk, hk8⟩; have K8 := Lib.hid (((Kp.refl none' W6).drew.mono (fun _ _ x => x.elim)).trans hk8); have HR8 := Lib.hid hr8; have HB8 := Lib.hid (HB6.out.kp K8.out HBL3.out); have b5 := HB8.out.cell 5 rfl; have bz := HB8.out.fz 5; have g1 := K8.out.cell d1 HSR.out; have g6 := K8.out.cell d6 HSR.out; have q0 := K8.out.cell p0 HPL.out; have q2 := K8.out.cell p2 HPL.out; have ks : Kp (fun z => z = w.heap.size + 3) W8 (W8.setCell ⟨w.heap.size + 3, 5, none⟩ (.int .u64 RK.1)) := (Kp.refl (fun z => z = w.heap.size + 3) W8).set (p := ⟨w.heap.size + 3, 5, none⟩) (.inl rfl) _; have m1 := ks.cell g1 (fun e => by simp only at e; omega); have m6 := ks.cell g6 (fun e => by simp only at e; omega); have m0 := ks.cell q0 (fun e => by simp only at e; omega); have m2 := ks.cell q2 (fun e => by simp only at e; omega); have KS := Lib.hid ks; clear hr8 hk8 ks))
  have hrl := HRL.out
  have hgl := HGL.out
  have hbl := HBL.out
  have HG8 := Lib.hid (HG6.out.kp K8.out (fun b hg hr => HGR.out b hg hr))
  have HH8 := Lib.hid (HH6.out.kp K8.out (fun b hb hr => HRK.out b hr hb))
  have HP8 := Lib.hid (HP6.out.kp K8.out HPL.out)
  have K08 : Hid (Kp (fun z => Fg z ∨ Fr z) w W8) := Lib.hid ((K06.out.mono (fun b _ h => .inl h)).trans (K8.out.mono (fun b _ h => .inr h)))
  have HZ9 := Lib.hid ((HZ6.out.kp K8.out (fun hb => by have := hrl _ hb; omega)).kp KS.out (fun e => by omega))
  have HB9 := Lib.hid (HB8.out.set 5 (.int .u64 RK.1))
  have HG9 := Lib.hid (HG8.out.kp KS.out (fun b hb e => by have := hgl b hb; omega))
  have HR9 := Lib.hid (HR8.out.kp KS.out (fun b hb e => by have := hrl b hb; omega))
  have HH9 := Lib.hid (HH8.out.kp KS.out (fun b hb e => by have := hbl b hb; omega))
  have HP9 := Lib.hid (HP8.out.kp KS.out (fun e => by omega))
  have K09 : Hid (Kp (fun z => Fg z ∨ Fr z) w (W8.setCell ⟨w.heap.size + 3, 5, none⟩ (.int .u64 RK.1))) := Lib.hid (K08.out.then KS.out (fun b hb e => by omega))
  have d5 := K09.out.cell c5 (fun h => h.elim HSG.out HSR.out)
  have HRK9 := Lib.hid hrk
  obtain ⟨W9, hW9⟩ : ∃ W9, W8.setCell ⟨w.heap.size + 3, 5, none⟩ (.int .u64 RK.1) = W9 := ⟨_, rfl⟩
  rw [hW9] at HB9 HZ9 HG9 HR9 HH9 HP9 K09 d5
  rw [show W8.setCell ⟨w.heap.size + 1 + 1 + 1, 5, none⟩ (.int .u64 RK.1) = W9 from hW9]
  have p5 := HB9.out.cell 5 rfl
  have HLD := Lib.hid (pk_load HP9.out)
  clear hW9 hrl hgl hbl K8 HR8 HB8 KS g1 g6 q0 q2 m1 m6 m0 m2 b5 bz hrk HNX6 HG6 HH6 HP6 HB6 d1 d6 p0 p2 HD1 HD6
  go_wp2_with fail
  refine wp_region_kept2 [] [0, 1, 2, 3, 4, 5, 6] 7 (by kernel_rfl) (by kernel_rfl) (fun c a d u w h => by cases d <;> exact h) ?_
  simp only [pick, List.getElem?_cons_succ, List.getElem?_cons_zero, List.drop_succ_cons, List.drop_zero]
  show wpKL _ _ _ _ _ _
  repeat (first
    | (refine wpKL_op (by exact rfl) (load_at rfl rfl HLD.out) ?_; simp only [Act.put, List.setIfInBounds_toArray, List.set_cons_succ, List.set_cons_zero])
    | (refine wpKL_op (by exact rfl) (by as_aux_lemma => intro W hK; have e0 := hK.cell d5 (fun x => x); have e1 := hK.cell p5 (fun x => x); go_simp; exact rfl) ?_; simp only [Act.put, List.setIfInBounds_toArray, List.set_cons_succ, List.set_cons_zero])
    | (refine wpKL_off (by exact rfl) ?_; simp only [Act.put, List.setIfInBounds_toArray, List.set_cons_succ, List.set_cons_zero]))
  show ∀ W, _ → wpList _ _ _ _ _ _
  intro W10 hK10
  have hmth := HBC.out.mu W10
  have hcf := HBC.out.cu
  have HZ10 := Lib.hid (HZ9.out.kp hK10 (fun x => x))
  have HB10 := Lib.hid (HB9.out.kp hK10 (fun x => x))
  have HG10 := Lib.hid (HG9.out.old hK10)
  have HR10 := Lib.hid (HR9.out.old hK10)
  have HH10 := Lib.hid (HH9.out.old hK10)
  have K10 := Lib.hid (K09.out.trans (hK10.mono (fun _ _ x => x.elim)))
  clear hK10 d5 p5 HLD HP9 HB9 HG9 HR9 HH9 K09
  go_wp2_with fail
  refine (HPU.out W10 Fb RK.1 HRK9.out HH10.out).mono ?_
  rintro e W11 ⟨rfl, F', hp11, hk11, hn11⟩
  have hbl := HBL.out
  have HB11 := Lib.hid (HB10.out.kp hk11 (fun hb => by have := hbl _ hb; omega))
  have HZ11 := Lib.hid (HZ10.out.kp hk11 (fun hb => by have := hbl _ hb; omega))
  have K11 : Hid (Kp (fun z => Fg z ∨ Fr z ∨ Fb z) w W11) := Lib.hid ((K10.out.mono (fun z _ h => by rcases h with h | h; exact .inl h; exact .inr (.inl h))).trans (hk11.mono (fun z _ h => .inr (.inr h))))
  have HG11 := Lib.hid (HG10.out.kp hk11 (fun z h1 h2 => HGK.out z h1 h2))
  have HR11 := Lib.hid (HR10.out.kp hk11 (fun z h1 h2 => HRK.out z h1 h2))
  have HH11 := Lib.hid hp11
  have HN11 := Lib.hid hn11
  have HS10 := Lib.hid HB10.out.lt
  clear hp11 hk11 hn11 hmth hcf HB10 HZ10 K10 HG10 HR10 HH10 hbl c0 c1 c5 c6
  go_wp2_with (first
    | (refine wpList_load_mid rfl 36 (.tmp 6) rfl (w.heap.size + 3) 0 rfl ([.int .i64 1, .int .i64 0, .int .u32 fl, .int .u32 id, .int .u64 ln, .int .u64 0, .int .u64 0, .int .u64 0, .int .i64 0, .int .u64 0, .int .u64 0, .int .u64 0, .int .u64 0, .int .u64 0, .int .u64 0, .int .u64 0, .int .u64 0, .int .u64 0, .int .u64 0, .int .u64 0, .int .u64 0, .int .u64 0, .int .u64 0, .int .u64 0, .int .u64 0, .int .u64 0, .int .u64 0, .int .u64 0, .int .u64 0, .int .u64 0, .int .u64 0, .int .u64 0, .int .u64 0, .int .u64 0, .int .u64 0, .int .u64 0, .int .u64 0, .int .u64 0, .int .u64 0, .int .u64 0, .int .u64 0, .int .u64 0].set 5 (.int .u64 RK.1)) _ (fun j v hv => by rw [Nat.zero_add]; exact HB11.out.cell j hv) Tryz.underlying36 rfl infoRp ?_)
    | (refine wp_store_blk rfl 36 (.tmp 4) (.tmp 58) rfl HZ11.out ([.int .i64 1, .int .i64 0, .int .u32 fl, .int .u32 id, .int .u64 ln, .int .u64 0, .int .u64 0, .int .u64 0, .int .i64 0, .int .u64 0, .int .u64 0, .int .u64 0, .int .u64 0, .int .u64 0, .int .u64 0, .int .u64 0, .int .u64 0, .int .u64 0, .int .u64 0, .int .u64 0, .int .u64 0, .int .u64 0, .int .u64 0, .int .u64 0, .int .u64 0, .int .u64 0, .int .u64 0, .int .u64 0, .int .u64 0, .int .u64 0, .int .u64 0, .int .u64 0, .int .u64 0, .int .u64 0, .int .u64 0, .int .u64 0, .int .u64 0, .int .u64 0, .int .u64 0, .int .u64 0, .int .u64 0, .int .u64 0].set 5 (.int .u64 RK.1)) rfl rfl rfl infoRp rfl ?_
       intro W12 hb12 hk12
       have HB12 := Lib.hid hb12
       have HK12 := Lib.hid hk12
       clear hb12 hk12))
  have hgl := HGL.out
  have hrl := HRL.out
  have hbl := HBL.out
  have hs10 := HS10.out
  have K12 : Kp (fun z => Fg z ∨ Fr z ∨ Fb z) w W12 := K11.out.then HK12.out (fun z hz e => by omega)
  have hF : ∀ z, F' z → Fb z ∨ w.heap.size + 3 < z := fun z hz => (HN11.out z hz).imp_right (fun h => by omega)
  have e0 : nextR s.r s.now fl ln = RK := by rw [HNW.out]; exact hRK
  rw [e0] at HP
  refine ret_blk (by exact rfl) HB12.out _ Tryz.underlying36 rfl infoRp (by exact rfl) (HP.out _ _ ⟨rfl, ⟨sb, gb, rb, v, Fg, Fr, F'⟩, ?_, ?_, ?_, rfl⟩)
  · exact { top := HTOP.out.kp K12 (fun h => by rcases h with h | h | h; exact HSG.out h; exact HSR.out h; exact HSK.out h)
            gate := HG11.out.kp HK12.out (fun z hz e => by have := hgl z hz; omega)
            ranks := HR11.out.kp HK12.out (fun z hz e => by have := hrl z hz; omega)
            back := by
              show BkM W12 F' v (inG s.g fl ln).c.packets.toNat _
              rw [HWP.out, HV.out]
              exact HH11.out.kp HK12.out (fun z hz e => by rcases hF z hz with h | h; (have := hbl z h; omega); omega)
            sg := HSG.out
            sr := HSR.out
            sk := fun h => by rcases hF _ h with h | h; exact HSK.out h; (simp only at h; omega)
            gr := HGR.out
            gk := fun z h1 h2 => by rcases hF z h2 with h | h; exact HGK.out z h1 h; (have := hgl z h1; omega)
            rk := fun z h1 h2 => by rcases hF z h2 with h | h; exact HRK.out z h1 h; (have := hrl z h1; omega)
            ok := by have := HOK2.out; rw [e0] at this; exact this }
  · exact K12.mono (fun z _ h => .inr h)
  · intro z hz
    rcases hz with h | h | h | h
    · exact .inl (.inl h)
    · exact .inl (.inr (.inl h))
    · exact .inl (.inr (.inr (.inl h)))
    · rcases hF z h with h | h
      · exact .inl (.inr (.inr (.inr h)))
      · exact .inr (by omega)
end Go.Proofs.YtjhghagmnkjpkaaGreat
