/- Walk for layer 24: conf.Read. -/
import Derived.Test.YtlaakhfgidjofaaGreatDoorMSnapNobodyF12
import Derived.Test.YtlaakhfgidjofaaGreatDoorMSnapNobodyF13
import Derived.Test.YtlaakhfgidjofaaGreatDoorShelf
import Derived.Maps.OwnOps
import Derived.Test.YtlaakhfgidjofaaGreatDoorMSnapNobodyF4
import Derived.Test.YtlaakhfgidjofaaGreatDoorMSnapNobodyF5
import Derived.Test.YtlaakhfgidjofaaGreatDoorMSnapNobodyF1
import Derived.Deep.RegionHeld3
namespace Go.Proofs.YtlaakhfgidjofaaGreatDoor
set_option linter.unusedVariables false
set_option linter.unusedSimpArgs false
open Go Go.RowKit Go.Shelf Go.Maps
theorem own_full {w : World} {base : Nat} {e : TypeId} {size : Nat} {v : Value} {n : Nat} {xs : List Value} (h : w.ownsRow base e size v n xs) (hn : 0 < n) : ∃ g cap, v = .slice (some ⟨g, 0, none⟩) n cap ∧ base ≤ g ∧ n ≤ cap ∧ cap ≤ 9223372036854775807 := by
  rcases h.2 with ⟨_, h⟩ | ⟨g, cap, cur, hv, hg, _, h1, h2, _⟩
  · omega
  · exact ⟨g, cap, hv, hg, h1, by unfold maxLen at h2; omega⟩
theorem parts_size (c : UInt8) (l : List UInt8) : ∀ p ∈ parts c l, p.length ≤ l.length := by
  have h : (∀ p ∈ (pst c l).1, p.length ≤ l.length) ∧ (pst c l).2.length ≤ l.length := by
    refine snocInd (P := fun l => (∀ p ∈ (pst c l).1, p.length ≤ l.length) ∧ (pst c l).2.length ≤ l.length) (by simp [pst]) (fun l d ih => ?_) l
    rw [pst_snoc, List.length_append]
    unfold pstep
    split
    · refine ⟨fun p hp => ?_, by simp⟩
      rcases List.mem_append.1 hp with hp | hp
      · have := ih.1 p hp; omega
      · simp at hp; subst hp; have := ih.2; omega
    · refine ⟨fun p hp => ?_, ?_⟩
      · have := ih.1 p hp; omega
      · rw [List.length_append]; have := ih.2; simp; omega
  intro p hp
  unfold parts at hp
  rcases List.mem_append.1 hp with hp | hp
  · exact h.1 p hp
  · simp at hp; subst hp; exact h.2
theorem parts_count (c : UInt8) (l : List UInt8) : 1 ≤ (parts c l).length ∧ (parts c l).length ≤ l.length + 1 := by
  have h : (pst c l).1.length ≤ l.length := by
    refine snocInd (P := fun l => (pst c l).1.length ≤ l.length) (by simp [pst]) (fun l d ih => ?_) l
    rw [pst_snoc, List.length_append]
    unfold pstep
    split
    · rw [List.length_append]; simp; omega
    · simp; omega
  unfold parts
  rw [List.length_append]; simp; omega
theorem words_size (l : List UInt8) : ∀ p ∈ words l, p.length ≤ l.length := by
  have h : (∀ p ∈ (wst l).1, p.length ≤ l.length) ∧ (wst l).2.length ≤ l.length := by
    refine snocInd (P := fun l => (∀ p ∈ (wst l).1, p.length ≤ l.length) ∧ (wst l).2.length ≤ l.length) (by simp [wst]) (fun l d ih => ?_) l
    rw [wst_snoc, List.length_append]
    unfold wstep
    split
    · split
      · exact ⟨fun p hp => by have := ih.1 p hp; omega, by simp⟩
      · refine ⟨fun p hp => ?_, by simp⟩
        rcases List.mem_append.1 hp with hp | hp
        · have := ih.1 p hp; omega
        · simp at hp; subst hp; have := ih.2; omega
    · refine ⟨fun p hp => ?_, ?_⟩
      · have := ih.1 p hp; omega
      · rw [List.length_append]; have := ih.2; simp; omega
  intro p hp
  unfold words wend at hp
  split at hp
  · exact h.1 p hp
  · rcases List.mem_append.1 hp with hp | hp
    · exact h.1 p hp
    · simp at hp; subst hp; exact h.2
theorem words_many (l : List UInt8) : (words l).length ≤ l.length + 1 := by
  have := wst_len l
  unfold words wend
  split
  · omega
  · simp; omega
theorem map_bl_tx (l : List (List UInt8)) : (l.map tx).map bl = l := by simp [List.map_map, Function.comp_def, bl_tx]
theorem map_tx_bl (l : List ByteArray) : (l.map bl).map tx = l := by simp [List.map_map, Function.comp_def, tx_bl]
theorem skip_nil {l : List UInt8} (h : words l = []) : skip l = true := by unfold skip; rw [h]
theorem skip_cons {l : List UInt8} {x : ByteArray} {r : List ByteArray} (h : words l = (x :: r).map bl) (h0 : 0 < x.size) : skip l = (x[0] == 35) := by
  unfold skip; rw [h]; show ((bl x).head? == some 35) = _
  rw [head_get x h0]; simp
theorem word_pos {l : List UInt8} {x : ByteArray} {r : List ByteArray} (h : words l = (x :: r).map bl) : 0 < x.size := by
  have := (words_words l (bl x) (by rw [h]; simp)).1
  rw [← bl_len]
  exact List.length_pos_iff.2 this
def MX (w : World) : Prop := ∃ m, w.cell? ⟨0, 0, none⟩ = some (.int .i64 m)
theorem MX.kp {w w' : World} (h : MX w) (k : Kp none' w w') : MX w' := by
  obtain ⟨m, hm⟩ := h
  exact ⟨m, k.cell hm id⟩
theorem aSplit (s : ByteArray) (c : UInt8) (w : World) (hs : s.size ≤ 1000000) (hx : MX w) : ∃ ps : List ByteArray, ps.map bl = parts c (bl s) ∧
    Calls Tryz.prog 74 #[.string s, .string ⟨#[c]⟩] w fun e w' => e = .returned (.slice (some ⟨w.heap.size, 0, none⟩) ps.length ps.length) ∧ w' = w.alloc (.cells (strs ps).toArray 9) := by
  obtain ⟨m, hm⟩ := hx
  have h1 : 1 ≤ (⟨#[c]⟩ : ByteArray).size := Nat.le_refl 1
  refine ⟨Lib.splitB ⟨#[c]⟩ 0 (Lib.countB s ⟨#[c]⟩) s, ?_, ?_⟩
  · have h := Lib.splitB_data ⟨#[c]⟩ 0 (Lib.countB s ⟨#[c]⟩) s
    exact h.trans (split_parts c (bl s))
  · rw [Lib.splitB_all ⟨#[c]⟩ h1 0 _ s rfl]
    exact Tryz.strings_Split s ⟨#[c]⟩ m w (by omega) hm h1
theorem infoC : (Tryz.prog.info? 25).map (·.size) = some 11 := by kernel_rfl
theorem oneC (c : CfR) {v : Value} (hv : v.oneCell' = true) : ∀ u ∈ enC c v, u.oneCell' = true := by
  intro u hu
  unfold enC at hu
  simp only [List.mem_cons, List.not_mem_nil, or_false] at hu
  rcases hu with rfl | rfl | rfl | rfl | rfl | rfl | rfl | rfl | rfl | rfl | rfl <;> first | rfl | exact hv
theorem ret_row3 {P : Program} {f : Func} {s u v : Tmp} {ty : TypeId} (hf : f.results = #[.cell s ty, .tmp u, .tmp v]) {R : Ending → World → Prop} {W : World} {g : Nat} {cs : List Value} {t : TypeId} {T : Array Value} (hb : Blk W g cs t) (d : TypeDesc) (hu : P.underlying ty = some d) (hd : (match d with | .struct _ | .array _ _ => true | _ => false) = true)
    (hi : (P.info? ty).map (·.size) = some cs.length) (h2 : T.getD s undef = .pointer (some ⟨g, 0, none⟩)) (hR : R (.returned (.tuple #[.agg cs.toArray, T.getD u undef, T.getD v undef])) W) : bodyPost P f R Exit.ret { tmps := T, defers := [] } W := by
  refine bodyPost_ret (v := .tuple #[.agg cs.toArray, T.getD u undef, T.getD v undef]) ?_ rfl hR
  have h2' : T[s]?.getD undef = .pointer (some ⟨g, 0, none⟩) := by simpa using h2
  simp [results, hf, h2', asAddr, run_loadVar_row W g t ty cs.toArray (0, 0) d hb.is hu hd (by rw [List.size_toArray]; exact hi)]
theorem lineS_len (s : CS) (ws : List (List UInt8)) : (lineS s ws).1.met.length ≤ s.met.length + 1 ∧ (lineS s ws).1.c.flows.length ≤ s.c.flows.length + 1 := by
  by_cases hb : plc nms (ws.headD []) = 11 ∨ ws.length ≠ (if plc nms (ws.headD []) = 10 then 6 else 2) ∨ (plc nms (ws.headD []) < 10 ∧ plc nms (ws.headD []) ∈ s.met)
  · rw [line_at rfl, if_pos hb]; exact ⟨Nat.le_succ _, Nat.le_succ _⟩
  · rw [line_at rfl, if_neg hb]
    split
    · split
      · exact ⟨Nat.le_succ _, Nat.le_succ _⟩
      · simp
    · split
      · exact ⟨Nat.le_succ _, Nat.le_succ _⟩
      · refine ⟨by simp, ?_⟩
        simp only [setAt_flows]; omega
theorem own_mk (w : World) (B : Nat) (hB : B ≤ w.heap.size) (e : TypeId) (xs : List Value) (hx : xs.length ≤ 1000000) : (w.alloc (.cells xs.toArray e)).ownsRow B e 1 (.slice (some ⟨w.heap.size, 0, none⟩) xs.length xs.length) xs.length xs :=
  ⟨by simp, .inr ⟨w.heap.size, xs.length, xs.toArray, rfl, hB, heap_new _ _, Nat.le_refl _, by unfold maxLen; omega, by simp, by simp⟩⟩
theorem zC_ok : zC.ok := ⟨by decide, by decide, by decide, by decide, by decide, by decide, by decide, by decide, by decide, by decide, fun f hf => by cases hf⟩
structure RcI (ls : List (List UInt8)) (w wr : World) (cb rb mb lg lc : Nat) (k : Nat) : Prop where
  st : ∃ v s, gud ⟨zC, []⟩ (ls.take k) = some s ∧ RdS wr w.heap.size rb mb v s ∧ s.met.length ≤ k ∧ s.c.flows.length ≤ k
  cfg : Blk wr cb (enC zC (.slice none 0 0)) 25
  own : wr.ownsRow w.heap.size 9 1 (.slice (some ⟨lg, 0, none⟩) ls.length lc) ls.length (wtx ls)
  kp : Kp none' w wr
  lo : w.heap.size ≤ cb ∧ w.heap.size ≤ rb ∧ w.heap.size ≤ mb
theorem gud_skip' {ls : List (List UInt8)} {k : Nat} (hk : k < ls.length) {x : List UInt8} (hx : ls[k] = x) {s : CS} (h : gud ⟨zC, []⟩ (ls.take k) = some s) (hs : skip x = true) : gud ⟨zC, []⟩ (ls.take (k + 1)) = some s := by
  rw [List.take_succ_eq_append_getElem hk, hx, gud_snoc _ _ _ _ h, stepL_skip s hs]; simp
theorem gud_next' {ls : List (List UInt8)} {k : Nat} (hk : k < ls.length) {x : List UInt8} (hx : ls[k] = x) {s : CS} (h : gud ⟨zC, []⟩ (ls.take k) = some s) (hs : skip x = false) (h0 : (lineS s (words x)).2 = 0) : gud ⟨zC, []⟩ (ls.take (k + 1)) = some (lineS s (words x)).1 := by
  have e : stepL s x = lineS s (words x) := by unfold stepL; rw [hs]; simp
  rw [List.take_succ_eq_append_getElem hk, hx, gud_snoc _ _ _ _ h, e, if_neg (by simp [h0])]
theorem RcI.pass {ls : List (List UInt8)} {w wr w1 : World} {cb rb mb lg lc k : Nat} (h : RcI ls w wr cb rb mb lg lc k) (hk : k < ls.length) {x : List UInt8} (hx : ls[k] = x) (hs : skip x = true) (k1 : Kp none' wr w1) : RcI ls w w1 cb rb mb lg lc (k + 1) := by
  obtain ⟨⟨v, s, hg, hr, h1, h2⟩, h3, h4, h5, h6⟩ := h
  exact ⟨⟨v, s, gud_skip' hk hx hg hs, hr.old k1, by omega, by omega⟩, h3.kp k1 (fun x => x), own_kp h4 k1 (fun _ _ x => x), h5.trans k1, h6⟩
theorem RcI.next {ls : List (List UInt8)} {w wr w1 w2 : World} {cb rb mb lg lc k : Nat} (h3 : Blk wr cb (enC zC (.slice none 0 0)) 25) (h4 : wr.ownsRow w.heap.size 9 1 (.slice (some ⟨lg, 0, none⟩) ls.length lc) ls.length (wtx ls)) (h5 : Kp none' w wr) (h6 : w.heap.size ≤ cb ∧ w.heap.size ≤ rb ∧ w.heap.size ≤ mb)
    {v : Value} {s : CS} (hg : gud ⟨zC, []⟩ (ls.take k) = some s) (hr : RdS wr w.heap.size rb mb v s) (h1 : s.met.length ≤ k) (h2 : s.c.flows.length ≤ k) (hk : k < ls.length) {x : List UInt8} (hx : ls[k] = x) (hs : skip x = false) (k1 : Kp none' wr w1)
    (ht : TrP w.heap.size rb mb v s (words x) w1 w2) (h0 : (lineS s (words x)).2 = 0) : RcI ls w w2 cb rb mb lg lc (k + 1) := by
  have hr1 := hr.old k1
  have hc1 := h3.kp k1 (fun x => x)
  have ho1 : w1.ownsRow w.heap.size 9 1 (.slice (some ⟨lg, 0, none⟩) ls.length lc) ls.length (wtx ls) := own_kp h4 k1 (fun _ _ x => x)
  obtain ⟨K, hm, hcc⟩ := hr1.map
  obtain ⟨v', hv'⟩ := ht.1 h0
  have hl := lineS_len s (words x)
  refine ⟨⟨v', _, gud_next' hk hx hg hs h0, hv', by omega, by omega⟩, hc1.kp ht.2 ?_, own_kp ho1 ht.2 ?_, (h5.trans k1).then ht.2 ?_, h6⟩
  · rintro (e | e | e)
    · exact blk_ne hc1 hr1.rd.blk (by decide) e
    · exact hm.ne hc1 e
    · exact own_ne_blk hr1.rd.own hc1 (by decide) e
  · intro b hb
    rintro (e | e | e)
    · exact own_ne_blk ho1 hr1.rd.blk (by decide) (by rw [hb, e])
    · exact hm.neO ho1 (by rw [hb, e])
    · exact own_ne_own ho1 hr1.rd.own (by decide) b hb e
  · rintro i hi (e | e | e)
    · omega
    · omega
    · have := (own_block hr1.rd.own e).1; omega
theorem rcfg {w : World} {B rb mb : Nat} {v : Value} {s : CS} (h : RdS w B rb mb v s) {c : CfR} (hc : s.c = c) (i : Nat) (hi : i < 11) {u : Value} (hu : (enC c v)[i]? = some u) : w.cell? ⟨rb, i, none⟩ = some u := by
  subst hc
  exact h.rd.blk.cell i (by rw [List.getElem?_append_left (by rw [enC_len]; exact hi)]; exact hu)
set_option maxRecDepth 100000 in
set_option maxHeartbeats 8000000 in
theorem gReadCB (s : ByteArray) (hs : s.size ≤ 90000) (w : World) (hx : MX w) : Calls Tryz.prog 31 #[.string s] w fun e w' => ∃ v, e = .returned (.tuple #[.agg (enC (readC (bl s)).1 v).toArray, .int .i64 (readC (bl s)).2.1, .int .i64 (readC (bl s)).2.2]) ∧ Sl w' v (readC (bl s)).1.flows.length 5 ((readC (bl s)).1.flows.flatMap enFl) ∧ (readC (bl s)).1.ok ∧ (∀ z, v.ownBlock = some z → w.heap.size ≤ z) ∧ Kp none' w w' := by
  have hmm := @run_makeMap Tryz.prog
  have hpl := parts_count 10 (bl s)
  rw [bl_len] at hpl
  have HPS := Lib.hid (parts_size 10 (bl s))
  obtain ⟨N, hN⟩ : ∃ N, (parts 10 (bl s)).length = N := ⟨_, rfl⟩
  obtain ⟨W3, hW3⟩ : ∃ W, ((w.alloc (.cells #[.int .i64 0, .int .i64 0, .int .i64 0, .int .i64 0, .int .i64 0, .int .u64 0, .int .i64 0, .int .u64 0, .int .u64 0, .int .u64 0, .slice none 0 0] 25)).alloc (.map #[] 0)).alloc (.cells #[.int .i64 0, .int .i64 0, .int .i64 0, .int .i64 0, .int .i64 0, .int .u64 0, .int .i64 0, .int .u64 0, .int .u64 0, .int .u64 0, .slice none 0 0, .map (some (w.heap.size + 1))] 159) = W := ⟨_, rfl⟩
  have hk3 : Kp none' w W3 := by rw [← hW3]; exact (((Kp.refl _ _).alloc _).alloc _).alloc _
  have hcb : Blk W3 w.heap.size (enC zC (.slice none 0 0)) 25 := by rw [← hW3]; exact ((Blk.new w (enC zC (.slice none 0 0)) 25).alloc _).alloc _
  have hrd : RdS W3 w.heap.size (w.heap.size + 1 + 1) (w.heap.size + 1) (.slice none 0 0) ⟨zC, []⟩ := by
    rw [← hW3]
    refine ⟨⟨?_, World.ownsRow_nil _ _ _ _, zC_ok, by simp [zC], by omega⟩, ⟨[], ⟨#[], 0, ?_, rfl, by simp⟩, fun i _ => rfl⟩, by simp, by omega⟩
    · have := Blk.new ((w.alloc (.cells #[.int .i64 0, .int .i64 0, .int .i64 0, .int .i64 0, .int .i64 0, .int .u64 0, .int .i64 0, .int .u64 0, .int .u64 0, .int .u64 0, .slice none 0 0] 25)).alloc (.map #[] 0)) (enC zC (.slice none 0 0) ++ [.map (some (w.heap.size + 1))]) 159
      rw [World.size_alloc, World.size_alloc] at this
      exact this
    · have h1 := heap_newC (w.alloc (.cells #[.int .i64 0, .int .i64 0, .int .i64 0, .int .i64 0, .int .i64 0, .int .u64 0, .int .i64 0, .int .u64 0, .int .u64 0, .int .u64 0, .slice none 0 0] 25)) (.map #[] 0) (n := w.heap.size + 1) (by rw [World.size_alloc])
      exact (((Kp.refl none' _).alloc _).block _ (Array.getElem?_eq_some_iff.1 h1).1 (fun x => x)).trans h1
  have HK3 := Lib.hid hk3; have HCB := Lib.hid hcb; have HRD := Lib.hid hrd
  obtain ⟨ps, hps, hsp⟩ := aSplit s 10 W3 (by omega) (hx.kp hk3)
  have hpn : ps.length = N := by rw [← hN, ← hps, List.length_map]
  have hwp : strs ps = wtx (parts 10 (bl s)) := by unfold wtx; rw [← hps, map_tx_bl]
  rw [hpn, hwp] at hsp
  have HSP := Lib.hid hsp
  have hrb : w.heap.size + 1 + 1 < W3.heap.size := hrd.rd.blk.lt
  have HI0 : Hid (RcI (parts 10 (bl s)) w (W3.alloc (.cells (wtx (parts 10 (bl s))).toArray 9)) w.heap.size (w.heap.size + 1 + 1) (w.heap.size + 1) W3.heap.size N 0) := by
    have ho := own_mk W3 w.heap.size (by omega) 9 (wtx (parts 10 (bl s))) (by rw [wtx_len, hN]; omega)
    rw [wtx_len] at ho
    rw [hN] at ho
    refine ⟨⟨.slice none 0 0, ⟨zC, []⟩, rfl, hrd.old ((Kp.refl _ _).alloc _), by simp, by simp [zC]⟩, hcb.alloc _, by rw [hN]; exact ho, hk3.alloc _, by omega⟩
  have HN := Lib.hid hN
  clear hx hk3 hcb hrd hps hsp hpn hwp hN HRD HCB
  go_enter Tryz.func31, Tryz.ntmps31
  go_wp2_with fail
  clear hW3
  refine (HSP.out).mono ?_
  rintro e wX ⟨rfl, rfl⟩
  generalize (W3.alloc (.cells (wtx (parts 10 (bl s))).toArray 9)) = wX at *
  generalize W3.heap.size = lg at *
  obtain ⟨cb, hcb⟩ : ∃ c, w.heap.size = c := ⟨_, rfl⟩
  obtain ⟨mb, hmb⟩ : ∃ c, w.heap.size + 1 = c := ⟨_, rfl⟩
  obtain ⟨rb, hrb2⟩ : ∃ c, w.heap.size + 1 + 1 = c := ⟨_, rfl⟩
  rw [hrb2] at HI0 ⊢
  rw [hmb] at HI0 ⊢
  have HI1 : Hid (RcI (parts 10 (bl s)) w wX cb rb mb lg N 0) := by rw [← hcb]; exact HI0.out
  have hcbe : w.heap.size ≤ cb := by omega
  rw [hcb]
  clear HI0 HSP hrb hrb2 hmb hcb HK3
  go_wp2_with fail
  go_loopw [17] (fun i0 wr => ∃ k : Nat, i0 = .int .i64 k ∧ k ≤ N ∧ Hid (RcI (parts 10 (bl s)) w wr cb rb mb lg N k)) (fun i0 _ => N - (intOf i0).toNat)
  case atStart => exact ⟨0, rfl, by omega, HI1.out⟩
  case round =>
    obtain ⟨k, rfl, hk, hr⟩ := hrel
    by_cases hlt : k < N
    · have hkp : k < (parts 10 (bl s)).length := by rw [HN.out]; exact hlt
      have hki : (k : Int) < N := by omega
      obtain ⟨x, hx⟩ : ∃ x, (parts 10 (bl s))[k] = x := ⟨_, rfl⟩
      have hxs : (tx x).size ≤ 90000 := by
        have := HPS.out x (by rw [← hx]; exact List.getElem_mem hkp)
        rw [tx_size, bl_len] at *; omega
      have HX := Lib.hid hx
      have hcell : wr.cell? ⟨lg, k, none⟩ = some (.string (tx x)) := by
        have := hr.out.own
        rw [HN.out] at this
        exact own_cell this k (by simp [wtx, strs, hkp, hx])
      clear hx
      have HWD := Lib.hid (dWords (tx x) wr (by omega))
      rw [bl_tx] at HWD
      go_wp2_with fail
      refine (HWD.out).mono ?_
      rintro e w1 ⟨v1, rfl, hown1, k1⟩
      obtain ⟨ws, hws⟩ : ∃ ws, (words x).map tx = ws := ⟨_, rfl⟩
      have hws2 : words x = ws.map bl := by rw [← hws, map_bl_tx]
      have hwl : (words x).length = ws.length := by rw [← hws, List.length_map]
      have hwm := words_many x
      rw [tx_size] at hxs
      have hwsz := words_size x
      unfold wtx at hown1
      rw [hws, hwl] at hown1
      have HW1 := Lib.hid hown1
      have HK1 := Lib.hid k1
      clear HWD hown1 k1 hws hcell
      cases ws with
      | nil =>
        have HSK := Lib.hid (hr.out.pass hkp HX.out (skip_nil hws2) HK1.out)
        have hv : v1 = .slice none 0 0 ∨ ∃ g c, v1 = .slice (some ⟨g, 0, none⟩) 0 c := by
          rcases HW1.out.2 with ⟨h, _⟩ | ⟨g, c, _, h, _⟩
          · exact .inl h
          · exact .inr ⟨g, c, h⟩
        clear hws2 hwl hwsz hwm
        rcases hv with rfl | ⟨g1, c1, rfl⟩
        all_goals
          go_wp2
          go_roundw
          case rel => exact ⟨k + 1, by go_num, by omega, HSK.out⟩
          case measure => simp [intOf]; omega
      | cons y r =>
        obtain ⟨g1, cap1, rfl, hg1, hc1, hc2⟩ := own_full HW1.out (by simp)
        have hp := word_pos hws2
        have hsk := skip_cons hws2 hp
        have hrl : (y :: r).length ≤ 1000000 := by
          rw [hwl] at hwm; omega
        have hrsz : ∀ z ∈ (y :: r), z.size ≤ 1000000 := fun z hz => by
          have := hwsz (bl z) (by rw [hws2]; exact List.mem_map_of_mem hz)
          rw [bl_len] at this; omega
        have hcells : ∀ i z, (y :: r)[i]? = some z → w1.cell? ⟨g1, i, none⟩ = some (.string z) := fun i z hz => own_cell HW1.out i (by
          unfold strs
          rw [List.getElem?_map, hz]; rfl)
        have hc0 := hcells 0 y rfl
        have hpi : (0 : Int) < y.size := by omega
        have hrl2 : (((y :: r).length : Int) == 0) = false := by rw [beq_eq_false_iff_ne, List.length_cons]; omega
        obtain ⟨M, hM⟩ : ∃ M, (y :: r).length = M := ⟨_, rfl⟩
        obtain ⟨⟨v, st, hg, hrd, hl1, hl2⟩, h3, h4, h5, h6⟩ := hr.out
        obtain ⟨E, hE⟩ : ∃ E, (lineS st ((y :: r).map bl)).2 = E := ⟨_, rfl⟩
        have HTR := Lib.hid (cTry (y :: r) hrsz hrl (by simp) w.heap.size rb mb v st w1 (hrd.old HK1.out) (by omega) (by omega) g1 cap1 hc1 hcells E hE)
        rw [List.length_cons] at HTR
        rw [hM] at hrl2
        have hln : (r.length : Int) + 1 = M := by rw [← hM, List.length_cons]; omega
        by_cases h35 : (y[0] == 35) = true
        · have h35n : y[0] = 35 := by simpa using h35
          have hcs : ((y[0].toNat : Int) == 35) = true := by rw [h35n]; rfl
          have HSK := Lib.hid (hr.out.pass hkp HX.out (by rw [hsk]; exact h35) HK1.out)
          clear h35 h35n hsk hws2 HTR hg hrd hl1 hl2 h3 h4 h5 h6 hE hcells hrsz hrl hM
          go_wp2
          go_roundw
          case rel => exact ⟨k + 1, by go_num, by omega, HSK.out⟩
          case measure => simp [intOf]; omega
        · have hcs : ((y[0].toNat : Int) == 35) = false := by
            rw [beq_eq_false_iff_ne]; intro e
            have : y[0].toNat = 35 := by omega
            exact h35 (by rw [beq_iff_eq]; exact UInt8.toNat_inj.1 this)
          have hskf : skip x = false := by rw [hsk]; simpa using h35
          have HSF := Lib.hid hskf
          rw [← hws2] at hE HTR
          by_cases hE0 : E = 0
          · subst hE0
            have HNX := Lib.hid (fun w2 ht => RcI.next h3 h4 h5 h6 hg hrd hl1 hl2 hkp HX.out hskf HK1.out (w2 := w2) ht hE)
            clear h35 hsk hws2 hg hrd hl1 hl2 h3 h4 h5 h6 hE hcells hrsz hrl hskf hM
            go_wp2_with fail
            refine (HTR.out).mono ?_
            rintro e w2 ⟨rfl, ht⟩
            have HI2 := Lib.hid (HNX.out w2 ht)
            clear ht
            go_wp2
            go_roundw
            case rel => exact ⟨k + 1, by go_num, by omega, HI2.out⟩
            case measure => simp [intOf]; omega
          · have hst : (stepL st (parts 10 (bl s))[k]).2 = E := by rw [HX.out]; unfold stepL; rw [hskf]; simpa using hE
            have hbad := readC_bad hkp hg (by rw [hst]; exact hE0)
            rw [hst] at hbad
            have HBAD := Lib.hid hbad
            have hb : (E != 0) = true := by simpa using hE0
            have HCF : Hid (∀ w2, TrP w.heap.size rb mb v st (words x) w1 w2 → Blk w2 cb (enC zC (.slice none 0 0)) 25 ∧ Kp none' w w2) := fun w2 ht => by
              have hr1 := hrd.old HK1.out
              have hc1 := h3.kp HK1.out (fun x => x)
              obtain ⟨K, hm, hcc⟩ := hr1.map
              refine ⟨hc1.kp ht.2 ?_, (h5.trans HK1.out).then ht.2 ?_⟩
              · rintro (e | e | e)
                · exact blk_ne hc1 hr1.rd.blk (by decide) e
                · exact hm.ne hc1 e
                · exact own_ne_blk hr1.rd.own hc1 (by decide) e
              · rintro i hi (e | e | e)
                · omega
                · omega
                · have := (own_block hr1.rd.own e).1; omega
            have hwk : IntKind.i64.wrap ((k : Int) + 1) = ((k + 1 : Nat) : Int) := by rw [IntWalk.i64_in _ (by omega)]; omega
            clear h35 hsk hws2 hg hrd hl1 hl2 h3 h4 h5 h6 hE hcells hrsz hrl hskf hst hbad hE0 hM
            go_wp2_with fail
            refine (HTR.out).mono ?_
            rintro e w2 ⟨rfl, ht⟩
            have hcf := HCF.out w2 ht
            have HB2 := Lib.hid hcf.1; have HK2 := Lib.hid hcf.2
            clear ht hcf
            go_wp2_with (first
              | (refine wp_set_row rfl 25 (.tmp 2) (.tmp 39) rfl HB2.out (enC zC (.slice none 0 0)) rfl rfl infoC rfl (oneC zC rfl) ?_
                 intro W8 hB8 hO8 hK8
                 have HB8 := Lib.hid hB8; have HK8 := Lib.hid (hK8 _ _ HK2.out (.inr hcbe))
                 clear hB8 hO8 hK8))
            refine ret_row3 (by rfl) HB8.out _ Tryz.underlying25 rfl infoC (by rfl) ?_
            refine ⟨.slice none 0 0, ?_, ?_, ?_, (fun z h => by cases h), HK8.out⟩
            · rw [HBAD.out]; rfl
            · rw [HBAD.out]; exact Sl.nil _ _
            · rw [HBAD.out]; exact zC_ok
    · have hke : k = N := by omega
      subst hke
      obtain ⟨⟨v, st, hg, hrd, hl1, hl2⟩, h3, h4, h5, h6⟩ := hr.out
      have htk : (parts 10 (bl s)).take k = parts 10 (bl s) := by rw [← HN.out, List.take_length]
      rw [htk] at hg
      have hdone := readC_done hg
      obtain ⟨c, hc⟩ : ∃ c, st.c = c := ⟨_, rfl⟩
      have HR := Lib.hid hrd
      have hsl := own_sl hrd.rd.own
      have hok := hrd.rd.ok
      have hv1 : v.oneCell' = true := by obtain ⟨ao, cap, rfl⟩ := own_shape hrd.rd.own; rfl
      rw [hc] at hdone hsl hok
      have HSL := Lib.hid hsl
      have HB3 := Lib.hid h3
      have HK3 := Lib.hid h5
      have HCH := Lib.hid (fun W hs => gChk c hok v W hs)
      have HOK := Lib.hid hok
      obtain ⟨E, hE⟩ : ∃ E, chk c = E := ⟨_, rfl⟩
      rw [hE] at hdone HCH
      have HD := Lib.hid hdone
      have HV1 := Lib.hid hv1
      have x0 := rcfg hrd hc 0 (by decide) rfl; have x1 := rcfg hrd hc 1 (by decide) rfl; have x2 := rcfg hrd hc 2 (by decide) rfl; have x3 := rcfg hrd hc 3 (by decide) rfl; have x4 := rcfg hrd hc 4 (by decide) rfl; have x5 := rcfg hrd hc 5 (by decide) rfl
      have x6 := rcfg hrd hc 6 (by decide) rfl; have x7 := rcfg hrd hc 7 (by decide) rfl; have x8 := rcfg hrd hc 8 (by decide) rfl; have x9 := rcfg hrd hc 9 (by decide) rfl; have x10 := rcfg hrd hc 10 (by decide) rfl
      have HC := Lib.hid hc
      unfold enC at HCH
      clear hg hrd hl1 hl2 h3 h4 h5 h6 htk hdone hsl hE hv1 hok hc
      go_wp2_with fail
      refine (HCH.out _ HSL.out).mono ?_
      rintro e w2 ⟨rfl, k2⟩
      have HR2 := Lib.hid (HR.out.old k2)
      have HB2 := Lib.hid (HB3.out.kp k2 (fun x => x))
      have HK2 := Lib.hid (HK3.out.trans k2)
      have HSL2 := Lib.hid (HSL.out.old k2)
      clear k2 x0 x1 x2 x3 x4 x5 x6 x7 x8 x9 x10
      by_cases hE0 : E = 0
      · subst hE0
        have x0 := rcfg HR2.out HC.out 0 (by decide) rfl; have x1 := rcfg HR2.out HC.out 1 (by decide) rfl; have x2 := rcfg HR2.out HC.out 2 (by decide) rfl; have x3 := rcfg HR2.out HC.out 3 (by decide) rfl; have x4 := rcfg HR2.out HC.out 4 (by decide) rfl; have x5 := rcfg HR2.out HC.out 5 (by decide) rfl
        have x6 := rcfg HR2.out HC.out 6 (by decide) rfl; have x7 := rcfg HR2.out HC.out 7 (by decide) rfl; have x8 := rcfg HR2.out HC.out 8 (by decide) rfl; have x9 := rcfg HR2.out HC.out 9 (by decide) rfl; have x10 := rcfg HR2.out HC.out 10 (by decide) rfl
        go_wp2_with (first
          | (refine wp_set_row rfl 25 (.tmp 2) (.tmp 56) rfl HB2.out (enC c v) rfl rfl infoC rfl (oneC c HV1.out) ?_
             intro W8 hB8 hO8 hK8
             have HB8 := Lib.hid hB8; have HK8 := Lib.hid (hK8 _ _ HK2.out (.inr hcbe)); have HZ8 := Lib.hid (hK8 _ _ (Kp.refl (fun b => b = cb) w2) (.inl rfl))
             clear hB8 hO8 hK8))
        refine ret_row3 (by rfl) HB8.out _ Tryz.underlying25 rfl infoC (by rfl) ?_
        have hd := HD.out
        rw [if_neg (by simp)] at hd
        refine ⟨v, ?_, ?_, ?_, fun z h => (own_block HR2.out.rd.own h).1, HK8.out⟩
        · rw [hd]; rfl
        · rw [hd]
          exact HSL2.out.kp HZ8.out (fun b hb hvb e => own_ne_blk HR2.out.rd.own HB2.out (by decide) (by rw [hvb]; exact congrArg some e))
        · rw [hd]; exact HOK.out
      · have hb : (E != 0) = true := by simpa using hE0
        have HE0 := Lib.hid hE0
        clear hE0
        go_wp2_with (first
          | (refine wp_set_row rfl 25 (.tmp 2) (.tmp 51) rfl HB2.out (enC zC (.slice none 0 0)) rfl rfl infoC rfl (oneC zC rfl) ?_
             intro W8 hB8 hO8 hK8
             have HB8 := Lib.hid hB8; have HK8 := Lib.hid (hK8 _ _ HK2.out (.inr hcbe))
             clear hB8 hO8 hK8))
        refine ret_row3 (by rfl) HB8.out _ Tryz.underlying25 rfl infoC (by rfl) ?_
        have hd := HD.out
        rw [if_pos HE0.out] at hd
        refine ⟨.slice none 0 0, ?_, ?_, ?_, (fun z h => by cases h), HK8.out⟩
        · rw [hd]; rfl
        · rw [hd]; exact Sl.nil _ _
        · rw [hd]; exact zC_ok
end Go.Proofs.YtlaakhfgidjofaaGreatDoor

namespace Go.Proofs.YtlaakhfgidjofaaGreatDoor
set_option linter.unusedVariables false
set_option linter.unusedSimpArgs false
open Go Go.RowKit Go.Shelf

end Go.Proofs.YtlaakhfgidjofaaGreatDoor

namespace Go.Proofs.YtlaakhfgidjofaaGreatDoor
set_option linter.unusedVariables false
set_option linter.unusedSimpArgs false
open Go.RowKit Go.Shelf
structure Lns (l : List UInt8) (B : Nat) (w wr : World) (v : Value) (x : ByteArray) (o : List (List UInt8)) : Prop where
  st : pst 10 l = (o, bl x)
  own : wr.ownsRow B 9 1 v o.length (wtx o)
  kp : Kp none' w wr
theorem pst_len (c : UInt8) (l : List UInt8) : (pst c l).1.length + (pst c l).2.length ≤ l.length := by
  refine snocInd (P := fun l => (pst c l).1.length + (pst c l).2.length ≤ l.length) (by simp [pst]) (fun l d ih => ?_) l
  rw [pst_snoc]
  unfold pstep
  split <;> simp at * <;> omega
theorem Lns.len {l : List UInt8} {B : Nat} {w wr : World} {v : Value} {x : ByteArray} {o : List (List UInt8)} (h : Lns l B w wr v x o) : o.length + x.size ≤ l.length := by
  have := pst_len 10 l
  rw [h.st, bl_len] at this; exact this
theorem Lns.sign {l : List UInt8} {B : Nat} {w wr : World} {v : Value} {x y : ByteArray} {o : List (List UInt8)} (h : Lns l B w wr v x o) {c : UInt8} (hc : (c == 10) = false) (hy : bl y = bl x ++ [c]) : Lns (l ++ [c]) B w wr v y o :=
  ⟨by rw [pst_snoc, h.st]; unfold pstep; rw [hc, hy]; rfl, h.own, h.kp⟩
theorem Lns.done {l : List UInt8} {B : Nat} {w wr : World} {v : Value} {x : ByteArray} {o : List (List UInt8)} (h : Lns l B w wr v x o) : parts 10 l = o ++ [bl x] := by
  unfold parts; rw [h.st]
end Go.Proofs.YtlaakhfgidjofaaGreatDoor

namespace Go.Proofs.YtlaakhfgidjofaaGreatDoor
set_option linter.unusedVariables false
set_option linter.unusedSimpArgs false
open Go Go.RowKit Go.Shelf
def mets (l : List Nat) : List Value := l.map fun (n : Nat) => .int .i64 (n : Int)
structure RrI (ls : List (List UInt8)) (w wr : World) (b2 b5 lg lc : Nat) (mv : Value) (k : Nat) (v : Value) (s : CS) : Prop where
  good : gud ⟨zC, []⟩ (ls.take k) = some s
  cfg : Blk wr b5 (enC s.c v) 25
  fl : wr.ownsRow w.heap.size 85 5 v s.c.flows.length (s.c.flows.flatMap enFl)
  met : wr.ownsRow w.heap.size 3 1 mv s.met.length (mets s.met)
  res : Blk wr b2 (enC zC (.slice none 0 0)) 25
  own : wr.ownsRow w.heap.size 9 1 (.slice (some ⟨lg, 0, none⟩) ls.length lc) ls.length (wtx ls)
  ok : s.c.ok
  few : s.met.length ≤ k ∧ s.c.flows.length ≤ k
  kp : Kp none' w wr
theorem RrI.old {ls : List (List UInt8)} {w wr w1 : World} {b2 b5 lg lc : Nat} {mv : Value} {k : Nat} {v : Value} {s : CS} (h : RrI ls w wr b2 b5 lg lc mv k v s) (k1 : Kp none' wr w1) : RrI ls w w1 b2 b5 lg lc mv k v s :=
  ⟨h.good, h.cfg.kp k1 (fun x => x), own_kp h.fl k1 (fun _ _ x => x), own_kp h.met k1 (fun _ _ x => x), h.res.kp k1 (fun x => x), own_kp h.own k1 (fun _ _ x => x), h.ok, h.few, h.kp.trans k1⟩
theorem RrI.pass {ls : List (List UInt8)} {w wr w1 : World} {b2 b5 lg lc : Nat} {mv : Value} {k : Nat} {v : Value} {s : CS} (h : RrI ls w wr b2 b5 lg lc mv k v s) (hk : k < ls.length) {x : List UInt8} (hx : ls[k] = x) (hs : skip x = true) (k1 : Kp none' wr w1) : RrI ls w w1 b2 b5 lg lc mv (k + 1) v s := by
  have h1 := h.old k1
  exact ⟨gud_skip' hk hx h1.good hs, h1.cfg, h1.fl, h1.met, h1.res, h1.own, h1.ok, ⟨by have := h1.few; omega, by have := h1.few; omega⟩, h1.kp⟩
end Go.Proofs.YtlaakhfgidjofaaGreatDoor
