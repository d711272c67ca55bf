/- fair.Waits: how long each packet waited. -/
import Derived.Test.YthjapdjglifopaaFwA
import Derived.Test.YthjapdjglifopaaFairW
import Derived.Test.YthjapdjglifopaaTrOfW
namespace Go.Proofs.Ythjapdjglifopaa
set_option linter.unusedVariables false
set_option linter.unusedSimpArgs false
open Go Go.RowKit

def enT (e : Pk × Nat × Nat) : List Value := [.int .u32 e.1.1, .int .u32 e.1.2.1, .int .u64 e.1.2.2, .int .u64 e.2.1, .int .u64 e.2.2]
theorem enT_len (e : Pk × Nat × Nat) : (enT e).length = 5 := rfl
theorem tWt : SlT Try.prog 39 48 (.agg #[.int .u32 0, .int .u32 0, .int .u64 0, .int .u64 0, .int .u64 0]) 5 32 := ⟨Try.underlying39, by kernel_rfl, rfl, by decide⟩
theorem wp_appQ {ops : Array Oper} {o : Oper} {a : Act} {w : World} {Kc : Act → World → Prop} {Q : Exit → Act → World → Prop} {E : Prop} (s y : Operand) (hgd : o.guard = none) (ho : o.op = .call { callee := .builtin .append, args := #[s, y], argTypes := #[99, 99] })
    (base : Nat) {v : Value} {xs : List Nat} (x : Nat) (hs : a.eval s = v) {b c : Nat} (hx : a.eval y = .slice (some ⟨b, 0, none⟩) 1 c) (h : (v = .slice none 0 0 ∧ xs = []) ∨ RowAt w base v xs) (hl : xs.length ≤ 1000000) (hbase : base ≤ w.heap.size) (hb : w.cell? ⟨b, 0, none⟩ = some (eN x))
    (hK : ∀ v' w', RowAt w' base v' (xs ++ [x]) → w.grownBy w' v.ownBlock → (v'.ownBlock = v.ownBlock ∨ v'.ownBlock = some w.heap.size) → Kc (a.put o.dst v') w') :
    if Region.wanted o (yielded ops a.tmps) = true then Oper.wp Try.prog o a w Kc Q else E := by
  have hw : Region.wanted o (yielded ops a.tmps) = true := by simp [Region.wanted, hgd]
  rw [if_pos hw]
  obtain ⟨v', w', hr, h1, h2, h3⟩ := run_appQ x h hl hbase hb (c := c) o.type
  unfold Oper.wp execOp
  simp only [ho, resolve, invoke, builtin, Sem.run_bind, Sem.run_pure, Result.andThen_ok, List.map_toArray, List.map_cons, List.map_nil, hs, hx, hr]
  exact hK v' w' h1 h2 h3
theorem Qs.congr {w : World} {base mb : Nat} {Q Q' : Pk → List Nat} {K : List (Pk × Value)} (h : Qs w base mb Q K) (e : ∀ p, Q' p = Q p) : Qs w base mb Q' K := by
  have : Q' = Q := funext e
  rw [this]; exact h
/-- From a look-up on. -/
def FromQ (w : World) (base : Nat) (fv : Value) (xs : List Nat) : Prop := (fv = .slice none 0 0 ∧ xs = []) ∨ (RowAt w base fv xs ∧ xs ≠ [])
theorem FromQ.old {w w' : World} {base : Nat} {fv : Value} {xs : List Nat} (h : FromQ w base fv xs) (k : Kp none' w w') : FromQ w' base fv xs :=
  h.imp_right fun h => ⟨h.1.kp k (fun _ _ x => x), h.2⟩
theorem FromQ.low {w : World} {base : Nat} {fv : Value} {xs : List Nat} (h : FromQ w base fv xs) {b : Nat} (hb : fv.ownBlock = some b) : base ≤ b ∧ b < w.heap.size ∧ ∃ cs, Blk w b cs 30 := by
  rcases h with ⟨rfl, _⟩ | ⟨h, _⟩
  · cases hb
  · obtain ⟨g, h1, h2, h3, h4⟩ := h.blk
    rw [h1] at hb; cases hb
    exact ⟨h2, h3, h4⟩
/-- What a round may write. -/
def Wr (w : World) (mb : Nat) (fv : Value) : Nat → Prop := fun b => b = mb ∨ fv.ownBlock = some b ∨ w.heap.size ≤ b
theorem own_out {w : World} {B base mb n : Nat} {v fv : Value} {xs : List Value} {K : List (Pk × Value)} {ys : List Nat} (h : w.ownsRow B 48 5 v n xs) (hm : MapK w mb K) (hf : FromQ w base fv ys) : ∀ b, v.ownBlock = some b → ¬ Wr w mb fv b := by
  intro b hb hS
  obtain ⟨cur, hc⟩ := own_type h hb
  rcases hS with hS | hS | hS
  · subst hS
    obtain ⟨es, clock, h1, _⟩ := hm
    rw [h1] at hc; cases hc
  · obtain ⟨_, _, cs, h3⟩ := hf.low hS
    have := h3.is.symm.trans hc
    simp at this
  · have := (own_block h hb).2; omega
/-- since[p] = v behind what an append may write. -/
theorem put_step {wr W w8 : World} {B mb : Nat} {Q : Pk → List Nat} {K : List (Pk × Value)} {fv v8 : Value} {p : Pk} {ys : List Nat} (h : Qs wr B mb Q K) (hfv : (getK K p).getD (.slice none 0 0) = fv) (hf : FromQ wr B fv (Q p)) (k1 : Kp none' wr W) (hg : W.grownBy w8 fv.ownBlock) (hr : RowAt w8 B v8 ys) (hy : ys ≠ []) (ho : v8.ownBlock = fv.ownBlock ∨ v8.ownBlock = some W.heap.size) :
    ∃ w9 K9, (Instr.mapUpdate 98 (.map (some mb)) (enP p) v8).run Try.prog w8 = .ok () w9 ∧ Qs w9 B mb (fun q => if q = p then ys else Q q) K9 ∧ Kp (Wr wr mb fv) wr w9 := by
  have hne : fv.ownBlock ≠ some mb := fun e => by
    obtain ⟨_, _, cs, hb⟩ := hf.low e
    exact h.map.ne hb rfl
  have k8 : Kp (fun b => fv.ownBlock = some b) wr w8 := (k1.mono (T := fun b => fv.ownBlock = some b) (fun _ _ x => x.elim)).grown hg (fun k hk => .inl hk)
  have hm8 := h.map.kp k8 hne
  obtain ⟨w9, K9, hmu, hm9, hgk, hk9⟩ := run_putK hm8 p v8
  have k9 : Kp (Wr wr mb fv) wr w9 := (k8.mono (T := Wr wr mb fv) (fun _ _ x => .inr (.inl x))).trans (hk9.mono (fun _ _ x => .inl x))
  have hr9 : RowAt w9 B v8 ys := hr.kp hk9 (fun b hb e => by
    obtain ⟨g, g1, _, _, cs, g4⟩ := hr.blk
    rw [g1] at hb; cases hb
    exact hm8.ne g4 e)
  refine ⟨w9, K9, hmu, h.put hm9 hgk (by rw [hfv]; exact k9) hr9 hy ?_, k9⟩
  rw [hfv]
  rcases ho with ho | ho
  · exact .inl ho
  · exact .inr ⟨_, ho, k1.size⟩
theorem own_ne_map {w : World} {B mb n sz : Nat} {e : TypeId} {v : Value} {xs : List Value} {K : List (Pk × Value)} (h : w.ownsRow B e sz v n xs) (hm : MapK w mb K) : v.ownBlock ≠ some mb := fun hb => by
  obtain ⟨cur, hc⟩ := own_type h hb
  obtain ⟨es, clock, h1, _⟩ := hm
  rw [h1] at hc; cases hc
theorem cut_step {w3 : World} {B mb : Nat} {Q : Pk → List Nat} {K : List (Pk × Value)} {p : Pk} {v8 : Value} {ys : List Nat} (h : Qs w3 B mb Q K) (hr : RowAt w3 B v8 ys) (hy : ys ≠ []) (ho : v8.ownBlock = ((getK K p).getD (.slice none 0 0)).ownBlock) :
    ∃ w9 K9, (Instr.mapUpdate 98 (.map (some mb)) (enP p) v8).run Try.prog w3.drew = .ok () w9 ∧ Qs w9 B mb (fun q => if q = p then ys else Q q) K9 ∧ Kp (fun b => b = mb) w3 w9 := by
  obtain ⟨w9, K9, hmu, hm9, hgk, hk9⟩ := run_putK (h.map.kp (Kp.refl none' w3).drew (fun x => x)) p v8
  have k : Kp (fun b => b = mb) w3 w9 := (Kp.refl (fun b => b = mb) w3).drew.trans hk9
  refine ⟨w9, K9, hmu, h.put hm9 hgk (k.mono fun _ _ x => .inl x) (hr.kp k (fun b hb e => ?_)) hy (.inl ho), k⟩
  obtain ⟨g, g1, _, _, cs, g4⟩ := hr.blk
  rw [g1] at hb; cases hb
  exact h.map.ne g4 e
theorem drop_step {w3 : World} {B mb : Nat} {Q : Pk → List Nat} {K : List (Pk × Value)} (h : Qs w3 B mb Q K) (p : Pk) (v8 : Value) (ty : TypeId) :
    ∃ w9 w10 K10, (Instr.mapUpdate 98 (.map (some mb)) (enP p) v8).run Try.prog w3.drew = .ok () w9 ∧ Kp (fun b => b = mb) w3 w9 ∧
      (Builtin.delete_ #[98, 45] ty #[.map (some mb), enP p]).run Try.prog w9 = .ok (.tuple #[]) w10 ∧ Qs w10 B mb (fun q => if q = p then [] else Q q) K10 ∧ Kp (fun b => b = mb) w3 w10 := by
  obtain ⟨w9, K9, hmu, hm9, hgk, hk9⟩ := run_putK (h.map.kp (Kp.refl none' w3).drew (fun x => x)) p v8
  have k : Kp (fun b => b = mb) w3 w9 := (Kp.refl (fun b => b = mb) w3).drew.trans hk9
  obtain ⟨w10, K10, hdl, hm10, hgk10, hk10⟩ := run_delK hm9 p ty
  refine ⟨w9, w10, K10, hmu, k, hdl, h.del hm10 (fun q => ?_) (k.trans hk10), k.trans hk10⟩
  rw [hgk10, hgk]
  by_cases e : q = p
  · rw [if_pos e, if_pos e]
  · rw [if_neg e, if_neg e, if_neg e]
theorem own_ne_row {w : World} {B base n sz : Nat} {v fv : Value} {xs : List Value} {ys : List Nat} (h : w.ownsRow B 48 sz v n xs) (hr : RowAt w base fv ys) : ∀ b, fv.ownBlock = some b → ¬ v.ownBlock = some b := by
  intro b hb hv
  obtain ⟨cur, hc⟩ := own_type h hv
  obtain ⟨g, g1, _, _, cs, g4⟩ := hr.blk
  rw [g1] at hb; cases hb
  have := g4.is.symm.trans hc
  simp at this
theorem qs_grown {w w' : World} {B base mb n sz : Nat} {v : Value} {xs : List Value} {Q : Pk → List Nat} {K : List (Pk × Value)} (hq : Qs w base mb Q K) (h : w.ownsRow B 48 sz v n xs) (k : Kp (fun b => v.ownBlock = some b) w w') : Qs w' base mb Q K :=
  hq.kp k (own_ne_map h hq.map) (fun p u b hp hb => own_ne_row h (hq.yes p u hp).2 b hb)
/-- What the loop keeps. -/
structure WaI (x : List OpR) (l : List RpR) (B mb : Nat) (w wr : World) (v : Value) (i : Nat) : Prop where
  own : wr.ownsRow B 48 5 v (wS x l i).out.length ((wS x l i).out.flatMap enT)
  qs : ∃ K, Qs wr B mb (qOf x l (wS x l i).told i) K
  kp : Kp none' w wr
set_option maxRecDepth 100000 in
set_option maxHeartbeats 8000000 in
theorem fWaits (x : List OpR) (l : List RpR) (hx : ∀ o ∈ x, o.ok) (hl : ∀ q ∈ l, q.ok) (hxn : x.length ≤ 1000) (hln : l.length ≤ 1000) (u v : Value) (w : World) (h1 : Sl w u x.length 5 (x.flatMap enO)) (h2 : Sl w v l.length 42 (l.flatMap enQ)) :
    Calls Try.prog 16 #[u, v] w fun e w' => ∃ r, e = .returned r ∧ w'.ownsRow w.heap.size 48 5 r (outW x l).length ((outW x l).flatMap enT) ∧ Kp none' w w' := by
  obtain ⟨xo, xc, rfl⟩ : ∃ ao cap, u = .slice ao x.length cap := by obtain ⟨ao, cap, rfl, _⟩ := h1.is; exact ⟨_, _, rfl⟩
  obtain ⟨lo, lc, rfl⟩ : ∃ ao cap, v = .slice ao l.length cap := by obtain ⟨ao, cap, rfl, _⟩ := h2.is; exact ⟨_, _, rfl⟩
  have HX := Lib.hid h1; have HQ := Lib.hid h2; have HXO := Lib.hid hx; have HLO := Lib.hid hl
  obtain ⟨N, hN⟩ : ∃ N, N = min x.length l.length := ⟨_, rfl⟩
  have hNx : N ≤ x.length := by omega
  have hNl : N ≤ l.length := by omega
  have hNi : min (x.length : Int) (l.length : Int) = N := by omega
  have HRES : Hid (outW x l = (wS x l N).out) := by show _ = _; unfold outW; rw [hN]
  have hmm := @run_makeMap Try.prog
  have HI0 : Hid (WaI x l w.heap.size w.heap.size w (w.alloc (.map #[] 0)) (.slice none 0 0) 0) := by
    refine ⟨⟨rfl, .inl ⟨rfl, rfl⟩⟩, ⟨[], ⟨⟨#[], 0, heap_new _ _, rfl, List.nodup_nil⟩, Nat.le_refl _, fun p _ => rfl, fun p v hp => (by cases hp), fun p q v u _ hp => (by cases hp)⟩⟩, (Kp.refl _ _).alloc _⟩
  clear h1 h2 hx hl hN
  go_enter Try.func16, Try.ntmps16
  go_wp2_with fail
  obtain ⟨mb, hmb⟩ : ∃ b, w.heap.size = b := ⟨_, rfl⟩
  have HI1 : Hid (WaI x l w.heap.size mb w (w.alloc (.map #[] 0)) (.slice none 0 0) 0) := by rw [← hmb]; exact HI0.out
  rw [hmb]
  clear HI0
  go_loopw [5, 6, 17] (fun s5 s6 i wr => ∃ (j n : Nat) (v5 : Value), v5 = s5 ∧ i = .int .i64 j ∧ j ≤ N ∧ s6 = .int .u64 n ∧ n < 18446744073709551616 ∧ Hid (n = nowF (x.take j) ∧ WaI x l w.heap.size mb w wr v5 j)) (fun _ _ i _ => N - (intOf i).toNat)
  case atStart => exact ⟨0, 0, _, rfl, rfl, by omega, rfl, by omega, rfl, HI1.out⟩
  case round =>
    clear HI1
    obtain ⟨j, n, v5, rfl, rfl, hj, rfl, hn, HI⟩ := hrel
    by_cases hlt : j < N
    · obtain ⟨gx, ox, cx, e1, hcx⟩ := (HX.out.old HI.out.2.kp).at enO_len (by decide) j (by omega)
      injection e1 with e1 _ e3
      subst e1 e3
      obtain ⟨gq, oq, cq, e1, hcq⟩ := (HQ.out.old HI.out.2.kp).range enQ_len (by decide) j (by omega)
      injection e1 with e1 _ e3
      subst e1 e3
      have hjl : j < l.length := by omega
      have hjx : j < x.length := by omega
      have hqo := HLO.out l[j] (List.getElem_mem hjl)
      have hoo := HXO.out x[j] (List.getElem_mem hjx)
      have hgd : l.getD j default = l[j] := by simp [List.getD, hjl]
      have hnw : nowF (x.take (j + 1)) = nowS n x[j] := by rw [List.take_succ_eq_append_getElem hjx, nowF_snoc, ← HI.out.1]
      have hst : wS x l (j + 1) = stepW x l (wS x l j) j := rfl
      have htl := wS_len x l j
      have hol := wS_out x l j
      obtain ⟨q, hq⟩ : ∃ q, l[j] = q := ⟨_, rfl⟩
      obtain ⟨o, ho⟩ : ∃ o, x[j] = o := ⟨_, rfl⟩
      rw [hq] at hqo hcq hgd
      rw [ho] at hoo hcx hnw
      unfold stepW at hst
      rw [hgd] at hst
      obtain ⟨K, hqs⟩ := HI.out.2.qs
      have hqm := fun p => q_more (x := x) (l := l) htl p
      have hqt := fun p k => q_told (x := x) (l := l) (p := p) (k := k) htl
      rw [hgd] at hqm hqt
      have HQO := Lib.hid hqo
      obtain ⟨qk, qc, qf, qi, qn, qone, _, _, _, _, _⟩ := hqo
      have c2 : wr.cell? ⟨gq, oq + j * 42 + 2, none⟩ = some (.int .u32 q.flow) := hcq 2 _ qf
      have c3 : wr.cell? ⟨gq, oq + j * 42 + 3, none⟩ = some (.int .u32 q.id) := hcq 3 _ qi
      have c4 : wr.cell? ⟨gq, oq + j * 42 + 4, none⟩ = some (.int .u64 q.len) := hcq 4 _ qn
      have c2' : wr.cell? ⟨gq, oq + j * 42 + 2 + 1, none⟩ = some (.int .u32 q.id) := c3
      have c2'' : wr.cell? ⟨gq, oq + j * 42 + 2 + 2, none⟩ = some (.int .u64 q.len) := c4
      have hka : Kp none' wr (wr.alloc (.cells #[.int .u32 q.flow, .int .u32 q.id, .int .u64 q.len] 45)) := (Kp.refl none' wr).alloc _
      have hlk := run_lookK (hqs.map.kp hka (fun x => x)) (pkQ q)
      have hlk' : (Instr.lookup 98 (.map (some mb)) (.agg #[.int .u32 q.flow, .int .u32 q.id, .int .u64 q.len]) false).run Try.prog (wr.alloc (.cells #[.int .u32 q.flow, .int .u32 q.id, .int .u64 q.len] 45)) = .ok ((getK K (pkQ q)).getD (.slice none 0 0)) (wr.alloc (.cells #[.int .u32 q.flow, .int .u32 q.id, .int .u64 q.len] 45)) := hlk
      obtain ⟨fv, hfv⟩ : ∃ fv, (getK K (pkQ q)).getD (.slice none 0 0) = fv := ⟨_, rfl⟩
      rw [hfv] at hlk'
      have hji : (j : Int) < N := by omega
      have hjli : (j : Int) < l.length := by omega
      have hjxi : (j : Int) < x.length := by omega
      clear hlk
      have hmlt : mb < wr.heap.size := by obtain ⟨es, clock, hb, _⟩ := hqs.map; exact (Array.getElem?_eq_some_iff.1 hb).1
      have hfr : FromQ wr w.heap.size fv (qOf x l (wS x l j).told j (pkQ q)) := by rw [← hfv]; exact hqs.from_ (pkQ q)
      have hoo' := own_out HI.out.2.own hqs.map hfr
      have HRG : Hid (∀ W, Kp none' w W → W.rangeAt gq (oq + j * 42) (enQ q)) := fun W k => by
        obtain ⟨g2, o2, c2, e2, h2⟩ := (HQ.out.old k).range enQ_len (by decide) j hjl
        injection e2 with e2 _ _
        cases e2
        rw [hq] at h2
        exact h2
      have HXC : Hid (∀ W, Kp none' w W → W.cell? ⟨gx, ox + j * 5, none⟩ = some (.int .i64 o.kind) ∧ W.cell? ⟨gx, ox + j * 5 + 4, none⟩ = some (.int .u64 o.ticks)) := fun W k => by
        obtain ⟨g2, o2, c2, e2, h2⟩ := (HX.out.old k).at enO_len (by decide) j hjx
        injection e2 with e2 _ _
        cases e2
        rw [ho] at h2
        exact ⟨h2 0 _ rfl, h2 4 _ rfl⟩
      have HBX := Lib.hid (Blk.new wr [.int .u32 q.flow, .int .u32 q.id, .int .u64 q.len] 45)
      have HKA := Lib.hid hka; have HQS := Lib.hid hqs; have HFV := Lib.hid hfv; have HFR := Lib.hid hfr; have HOO := Lib.hid hoo'
      have HNW := Lib.hid hnw; have HST := Lib.hid hst; have HQM := Lib.hid hqm; have HQT := Lib.hid hqt; have HTL := Lib.hid htl; have HOL := Lib.hid hol
      have htk := hoo.ticks
      have HLT := Lib.hid (fun W => fLets q HQO.out W)
      have HGO := Lib.hid (fun W => fGoes q HQO.out W)
      have HQL := Lib.hid (qOf_len x l (wS x l j).told j (pkQ q))
      clear hst hqm hqt hnw hka hqs hfv hfr hoo' qk qc qf qi qn qone hcq hcx hq ho hgd c3 c4 hoo htl hol
      have HK1w := Lib.hid (HI.out.2.kp.trans HKA.out)
      cases hlet : letsB q with
      | true =>
        rw [hlet] at HLT
        go_wp2_with (first
          | (refine wpList_load_mid rfl 77 (.tmp 31) rfl gq (oq + j * 42) rfl (enQ q) _ (HRG.out _ HK1w.out) Try.underlying77 rfl (infoQ q) ?_)
          | (go_at_call 34; refine (HLT.out _).mono ?_; rintro e w1 ⟨rfl, hk1⟩
             have HKr1 := Lib.hid (HKA.out.trans hk1); have HKw1 := Lib.hid (HK1w.out.trans hk1); have HB1 := Lib.hid (HBX.out.kp hk1 (fun x => x))
             have b0 := HB1.out.cell 0 rfl; have b1 := HB1.out.cell 1 rfl; have b2 := HB1.out.cell 2 rfl
             clear hk1 hlk' c2 c2' c2''))
        have hbA := (HB1.out.alloc (.cells #[.int .u64 n] 30)).drew
        have x0 := hbA.cell 0 rfl; have x1 := hbA.cell 1 rfl; have x2 := hbA.cell 2 rfl
        have HBA := Lib.hid hbA
        clear hbA
        go_region_law ((refine wp_appQ (.tmp 36) (.tmp 38) rfl rfl w.heap.size n rfl rfl ((HFR.out.old ((HKr1.out.alloc _).drew)).imp_right And.left) (by have := HQL.out; omega) (by have := HKw1.out.size; simp; omega) ((Blk.new w1 [eN n] 30).drew.cell 0 rfl) ?_); intro v8 w8 hr8 hg8 ho8
                       have hb8 := HBA.out.grown hg8 (fun e => by have := (HFR.out.low e.symm).2.1; omega)
                       have z0 := hb8.cell 0 rfl; have z1 := hb8.cell 1 rfl; have z2 := hb8.cell 2 rfl
                       clear hb8
                       obtain ⟨w9, K9, hmu, hqs9, hk9⟩ := put_step HQS.out HFV.out HFR.out ((HKr1.out.alloc _).drew) hg8 hr8 (by simp) ho8
                       have hmu' : (Instr.mapUpdate 98 (.map (some mb)) (.agg #[.int .u32 q.flow, .int .u32 q.id, .int .u64 q.len]) v8).run Try.prog w8 = .ok () w9 := hmu
                       clear hmu)
        all_goals
          have hgl : goesB q = false := lets_goes hlet
          have hKw9 : Kp none' w w9 := HI.out.2.kp.then hk9 (fun i hi hS => by
            rcases hS with hS | hS | hS
            · have := HQS.out.mlow; omega
            · have := (HFR.out.low hS).1; omega
            · have := HI.out.2.kp.size; omega)
          have hwa : WaI x l w.heap.size mb w w9 v5 (j + 1) := by
            have hst := HST.out
            rw [hgl] at hst
            refine ⟨?_, ⟨K9, ?_⟩, hKw9⟩
            · rw [hst]
              exact own_kp HI.out.2.own hk9 HOO.out
            · rw [hst]
              refine hqs9.congr fun p' => ?_
              rw [HQM.out p', hlet]
              by_cases e : p' = pkQ q
              · subst e; simp [HI.out.1]
              · rw [if_neg e]
                have : decide (pkQ q = p') = false := decide_eq_false (fun h => e h.symm)
                simp [this]
          have HWA := Lib.hid hwa; have HKw9 := Lib.hid hKw9
          clear hr8 hg8 ho8 hqs9 hk9 hKw9 hwa hmu' hlet hgl x0 x1 x2 z0 z1 z2
          have d0 := (HXC.out _ HKw9.out).1
          have d4 := (HXC.out _ HKw9.out).2
          by_cases hk3 : o.kind = 3
          · have hk3i : (o.kind == 3) = true := by simp [hk3]
            have HL : Hid (nowF (x.take (j + 1)) = satN n o.ticks) := by show _ = _; rw [HNW.out]; unfold nowS; rw [if_pos hk3]
            have hs := satN_lt n o.ticks
            have HA := Lib.hid (fun W => sAdd n o.ticks hn htk W)
            obtain ⟨n2, hn2⟩ : ∃ z, satN n o.ticks = z := ⟨_, rfl⟩
            rw [hn2] at HA HL hs
            clear hn2
            go_wp2_with (go_at_call 36; refine (HA.out _).mono ?_; rintro e w4 ⟨rfl, hw4⟩; obtain rfl := hw4)
            go_roundw
            case rel => exact ⟨j + 1, n2, _, rfl, by go_num, by omega, rfl, hs, HL.out.symm, HWA.out⟩
            case measure => simp [intOf]; omega
          · have hk3i : (o.kind == 3) = false := by simp [hk3]
            have HL : Hid (nowF (x.take (j + 1)) = n) := by show _ = _; rw [HNW.out]; unfold nowS; rw [if_neg hk3]
            go_wp2_with fail
            go_roundw
            case rel => exact ⟨j + 1, n, _, rfl, by go_num, by omega, rfl, hn, HL.out.symm, HWA.out⟩
            case measure => simp [intOf]; omega
      | false =>
        rw [hlet] at HLT
        cases hgo : goesB q with
        | false =>
          rw [hgo] at HGO
          go_wp2_with (first
            | (refine wpList_load_mid rfl 77 (.tmp 31) rfl gq (oq + j * 42) rfl (enQ q) _ (HRG.out _ HK1w.out) Try.underlying77 rfl (infoQ q) ?_)
            | (go_at_call 34; refine (HLT.out _).mono ?_; rintro e w1 ⟨rfl, hk1⟩
               have HKr1 := Lib.hid (HKA.out.trans hk1); have HKw1 := Lib.hid (HK1w.out.trans hk1); have HB1 := Lib.hid (HBX.out.kp hk1 (fun x => x))
               clear hk1 hlk' c2 c2' c2'')
            | (refine wpList_load_mid rfl 77 (.tmp 43) rfl gq (oq + j * 42) rfl (enQ q) _ (HRG.out _ HKw1.out) Try.underlying77 rfl (infoQ q) ?_))
          refine (HGO.out _).mono ?_
          rintro e w2 ⟨rfl, hk2⟩
          have HKr2 := Lib.hid (HKr1.out.trans hk2); have HKw2 := Lib.hid (HKw1.out.trans hk2); have HB2 := Lib.hid (HB1.out.kp hk2 (fun x => x))
          clear hk2
          have hwa : WaI x l w.heap.size mb w w2 v5 (j + 1) := by
            have hst := HST.out
            rw [hgo] at hst
            refine ⟨?_, ⟨K, ?_⟩, HKw2.out⟩
            · rw [hst]
              exact own_kp (S := none') HI.out.2.own HKr2.out (fun _ _ h => h)
            · rw [hst]
              refine (HQS.out.old HKr2.out).congr fun p' => ?_
              rw [HQM.out p', hlet]; simp
          have HWA := Lib.hid hwa; have HKw9 := Lib.hid HKw2.out
          clear hwa hlet hgo
          have d0 := (HXC.out _ HKw9.out).1
          have d4 := (HXC.out _ HKw9.out).2
          by_cases hk3 : o.kind = 3
          · have hk3i : (o.kind == 3) = true := by simp [hk3]
            have HL : Hid (nowF (x.take (j + 1)) = satN n o.ticks) := by show _ = _; rw [HNW.out]; unfold nowS; rw [if_pos hk3]
            have hs := satN_lt n o.ticks
            have HA := Lib.hid (fun W => sAdd n o.ticks hn htk W)
            obtain ⟨n2, hn2⟩ : ∃ z, satN n o.ticks = z := ⟨_, rfl⟩
            rw [hn2] at HA HL hs
            clear hn2
            go_wp2_with (go_at_call 36; refine (HA.out _).mono ?_; rintro e w4 ⟨rfl, hw4⟩; obtain rfl := hw4)
            go_roundw
            case rel => exact ⟨j + 1, n2, _, rfl, by go_num, by omega, rfl, hs, HL.out.symm, HWA.out⟩
            case measure => simp [intOf]; omega
          · have hk3i : (o.kind == 3) = false := by simp [hk3]
            have HL : Hid (nowF (x.take (j + 1)) = n) := by show _ = _; rw [HNW.out]; unfold nowS; rw [if_neg hk3]
            go_wp2_with fail
            go_roundw
            case rel => exact ⟨j + 1, n, _, rfl, by go_num, by omega, rfl, hn, HL.out.symm, HWA.out⟩
            case measure => simp [intOf]; omega
        | true =>
          rw [hgo] at HGO
          have hcases := HFR.out
          rcases hcases with ⟨hf0, hq0⟩ | ⟨hrow, hq0⟩
          · subst hf0
            have hfn : firstT l (wS x l j).told (pkQ q) j = none := by
              cases hft : firstT l (wS x l j).told (pkQ q) j with
              | none => rfl
              | some k => have := (HQT.out (pkQ q) k hlet hft).1; rw [hq0] at this; cases this
            go_wp2_with (first
              | (refine wpList_load_mid rfl 77 (.tmp 31) rfl gq (oq + j * 42) rfl (enQ q) _ (HRG.out _ HK1w.out) Try.underlying77 rfl (infoQ q) ?_)
              | (go_at_call 34; refine (HLT.out _).mono ?_; rintro e w1 ⟨rfl, hk1⟩
                 have HKr1 := Lib.hid (HKA.out.trans hk1); have HKw1 := Lib.hid (HK1w.out.trans hk1); have HB1 := Lib.hid (HBX.out.kp hk1 (fun x => x))
                 clear hk1 hlk' c2 c2' c2'')
              | (refine wpList_load_mid rfl 77 (.tmp 43) rfl gq (oq + j * 42) rfl (enQ q) _ (HRG.out _ HKw1.out) Try.underlying77 rfl (infoQ q) ?_))
            refine (HGO.out _).mono ?_
            rintro e w2 ⟨rfl, hk2⟩
            have HKr2 := Lib.hid (HKr1.out.trans hk2); have HKw2 := Lib.hid (HKw1.out.trans hk2); have HB2 := Lib.hid (HB1.out.kp hk2 (fun x => x))
            clear hk2
            have hwa : WaI x l w.heap.size mb w w2 v5 (j + 1) := by
              have hst := HST.out
              rw [hgo] at hst
              simp only [hfn] at hst
              refine ⟨?_, ⟨K, ?_⟩, HKw2.out⟩
              · rw [hst]
                exact own_kp (S := none') HI.out.2.own HKr2.out (fun _ _ h => h)
              · rw [hst]
                refine (HQS.out.old HKr2.out).congr fun p' => ?_
                rw [HQM.out p', hlet]; simp
            have HWA := Lib.hid hwa; have HKw9 := Lib.hid HKw2.out
            clear hwa hlet hgo hfn hq0
            have d0 := (HXC.out _ HKw9.out).1
            have d4 := (HXC.out _ HKw9.out).2
            by_cases hk3 : o.kind = 3
            · have hk3i : (o.kind == 3) = true := by simp [hk3]
              have HL : Hid (nowF (x.take (j + 1)) = satN n o.ticks) := by show _ = _; rw [HNW.out]; unfold nowS; rw [if_pos hk3]
              have hs := satN_lt n o.ticks
              have HA := Lib.hid (fun W => sAdd n o.ticks hn htk W)
              obtain ⟨n2, hn2⟩ : ∃ z, satN n o.ticks = z := ⟨_, rfl⟩
              rw [hn2] at HA HL hs
              clear hn2
              go_wp2_with (go_at_call 36; refine (HA.out _).mono ?_; rintro e w4 ⟨rfl, hw4⟩; obtain rfl := hw4)
              go_roundw
              case rel => exact ⟨j + 1, n2, _, rfl, by go_num, by omega, rfl, hs, HL.out.symm, HWA.out⟩
              case measure => simp [intOf]; omega
            · have hk3i : (o.kind == 3) = false := by simp [hk3]
              have HL : Hid (nowF (x.take (j + 1)) = n) := by show _ = _; rw [HNW.out]; unfold nowS; rw [if_neg hk3]
              go_wp2_with fail
              go_roundw
              case rel => exact ⟨j + 1, n, _, rfl, by go_num, by omega, rfl, hn, HL.out.symm, HWA.out⟩
              case measure => simp [intOf]; omega
          · obtain ⟨k, hft⟩ : ∃ k, firstT l (wS x l j).told (pkQ q) j = some k := by
              cases hft : firstT l (wS x l j).told (pkQ q) j with
              | none => exact absurd (first_none hft x) hq0
              | some k => exact ⟨k, rfl⟩
            obtain ⟨hqk, hqr⟩ := HQT.out (pkQ q) k hlet hft
            obtain ⟨rest, hrs⟩ : ∃ rest, qOf x l (((wS x l j).told ++ [false]).set k true) (j + 1) (pkQ q) = rest := ⟨_, rfl⟩
            obtain ⟨t0, ht0⟩ : ∃ t0, nowF (x.take k) = t0 := ⟨_, rfl⟩
            rw [hrs, ht0] at hqk
            rw [hqk] at hrow
            obtain ⟨g, off, cap, cs, hfvs, _⟩ := id hrow
            obtain ⟨m, hm⟩ : ∃ m, rest.length = m := ⟨_, rfl⟩
            have hfvs' : fv = .slice (some ⟨g, off, none⟩) (m + 1) cap := by rw [hfvs, ← hm]; rfl
            subst hfvs'
            obtain ⟨hnn, hc0, hcap, hrow8⟩ := RowAt.cut hrow
            clear hnn
            rw [hm] at hcap hrow8
            have HT0 : Hid (∀ W, Kp none' wr W → W.cell? ⟨g, off, none⟩ = some (.int .u64 t0)) := fun W k => k.cell hc0 (fun x => x)
            have HROW := Lib.hid hrow8; have HQR := Lib.hid hqr; have HRS := Lib.hid hrs; have HT := Lib.hid ht0; have HFT := Lib.hid hft
            have hstep : wS x l (j + 1) = ⟨((wS x l j).told ++ [false]).set k true, (wS x l j).out ++ [(pkQ q, t0, n)]⟩ := by
              have hst := HST.out
              rw [hgo] at hst
              simp only [hft] at hst
              rw [hst, ht0, ← HI.out.1]
            have HSTEP := Lib.hid hstep
            clear hrow hc0 hrow8 hqr hrs ht0 hft hstep hq0 hqk hfvs hgo
            go_wp2_with (first
              | (refine wpList_load_mid rfl 77 (.tmp 31) rfl gq (oq + j * 42) rfl (enQ q) _ (HRG.out _ HK1w.out) Try.underlying77 rfl (infoQ q) ?_)
              | (go_at_call 34; refine (HLT.out _).mono ?_; rintro e w1 ⟨rfl, hk1⟩
                 have HKr1 := Lib.hid (HKA.out.trans hk1); have HKw1 := Lib.hid (HK1w.out.trans hk1); have HB1 := Lib.hid (HBX.out.kp hk1 (fun x => x))
                 clear hk1 hlk' c2 c2' c2'')
              | (refine wpList_load_mid rfl 77 (.tmp 43) rfl gq (oq + j * 42) rfl (enQ q) _ (HRG.out _ HKw1.out) Try.underlying77 rfl (infoQ q) ?_))
            refine (HGO.out _).mono ?_
            rintro e w2 ⟨rfl, hk2⟩
            have HKr2 := Lib.hid (HKr1.out.trans hk2); have HKw2 := Lib.hid (HKw1.out.trans hk2); have HB2 := Lib.hid (HB1.out.kp hk2 (fun x => x))
            clear hk2
            have b0 := HB2.out.cell 0 rfl
            have b1 := HB2.out.cell 1 rfl
            have b2 := HB2.out.cell 2 rfl
            have e0 := HT0.out w2 HKr2.out
            have HOW2 := Lib.hid (own_kp (S := none') HI.out.2.own HKr2.out (fun _ _ h => h))
            have hm0 : (0 : Int) < (m : Int) + 1 := by omega
            have hle := HOL.out
            have hws2 := HKw2.out.size
            go_wp2_with fail
            go_region_law ((refine step_app1 tWt (.tmp 51) (.tmp 58) rfl rfl w.heap.size (v := v5) ((HOW2.out.alloc _).drew) (enT (pkQ q, t0, n)) rfl rfl rfl (fr := (0, 0)) (heap_new2 _ _ _ (by simp)) rfl (by omega) (by omega) (by simp; omega) ?_); intro g3 cap3 w3 hown3 hgrow3)
            all_goals
              have k3 : Kp (fun b => v5.ownBlock = some b) w2 w3 := (((Kp.refl (fun b => v5.ownBlock = some b) w2).alloc _).drew).grown hgrow3 (fun k hk => .inl hk)
              have hB3 : Blk w3 wr.heap.size [.int .u32 q.flow, .int .u32 q.id, .int .u64 q.len] 45 := ((HB2.out.alloc _).drew).grown hgrow3 (fun e => by have := (own_block HI.out.2.own e.symm).2; omega)
              have hqs3 := qs_grown (HQS.out.old HKr2.out) HOW2.out k3
              have hrow3 := (HROW.out.kp HKr2.out (fun _ _ x => x)).kp k3 (own_ne_row HOW2.out (HROW.out.kp HKr2.out (fun _ _ x => x)))
              have b0 := hB3.cell 0 rfl
              have b1 := hB3.cell 1 rfl
              have b2 := hB3.cell 2 rfl
              have hown3' : w3.ownsRow w.heap.size 48 5 (.slice (some ⟨g3, 0, none⟩) ((wS x l j).out.length + 1) cap3) (wS x l (j + 1)).out.length ((wS x l (j + 1)).out.flatMap enT) := by
                rw [HSTEP.out]
                simpa using hown3
              have HOW3 := Lib.hid hown3'; have HK3 := Lib.hid k3; have HQ3 := Lib.hid hqs3; have HR3 := Lib.hid hrow3; have HB3 := Lib.hid hB3
              have HEND : Hid (∀ W KK, Kp (fun b => b = mb) w3 W → Qs W w.heap.size mb (fun p' => if p' = pkQ q then rest else qOf x l (wS x l j).told j p') KK → Kp none' w W ∧ WaI x l w.heap.size mb w W (.slice (some ⟨g3, 0, none⟩) ((wS x l j).out.length + 1) cap3) (j + 1)) := by
                intro W KK kW hqW
                have hKW : Kp none' w W := (HKw2.out.then HK3.out (fun i hi hS => by have := (own_block HI.out.2.own hS).1; omega)).then kW (fun i hi hS => by have := HQS.out.mlow; omega)
                refine ⟨hKW, ⟨own_kp HOW3.out kW (fun b hb e => own_ne_map HOW3.out HQ3.out.map (by rw [hb, e])), ⟨KK, ?_⟩, hKW⟩⟩
                rw [HSTEP.out]
                refine hqW.congr fun p' => ?_
                by_cases e : p' = pkQ q
                · subst e; rw [if_pos rfl]; exact HRS.out
                · rw [if_neg e]; exact HQR.out p' e
              clear hgrow3 hown3 hown3' k3 hqs3 hrow3 hB3 e0
              by_cases hr0 : m = 0
              · have hrn : rest = [] := List.eq_nil_of_length_eq_zero (hm.trans hr0)
                subst hr0
                subst hrn
                clear hm
                by_cases hc1 : cap = 1
                · subst hc1
                  obtain ⟨w9, w10, K9, hmu, k9, hdl, hqs9, hk9⟩ := drop_step HQ3.out (pkQ q) (.slice (some ⟨g, off, none⟩) 0 0) 0
                  have hmu' : (Instr.mapUpdate 98 (.map (some mb)) (.agg #[.int .u32 q.flow, .int .u32 q.id, .int .u64 q.len]) (.slice (some ⟨g, off, none⟩) 0 0)).run Try.prog w3.drew = .ok () w9 := hmu
                  have hdl' : (Builtin.delete_ #[98, 45] 0 #[.map (some mb), .agg #[.int .u32 q.flow, .int .u32 q.id, .int .u64 q.len]]).run Try.prog w9 = .ok (.tuple #[]) w10 := hdl
                  have hb9 := HB3.out.kp k9 (fun e => by have := hmlt; omega)
                  have x0 := hb9.cell 0 rfl; have x1 := hb9.cell 1 rfl; have x2 := hb9.cell 2 rfl
                  obtain ⟨hKw9, hwa⟩ := HEND.out _ _ hk9 hqs9
                  have HWA := Lib.hid hwa; have HKw9 := Lib.hid hKw9
                  clear hmu hdl hwa hKw9 hqs9 hk9 k9 hb9
                  go_wp2_with fail
                  go_region
                  all_goals
                    have d0 := (HXC.out _ HKw9.out).1
                    have d4 := (HXC.out _ HKw9.out).2
                    by_cases hk3 : o.kind = 3
                    · have hk3i : (o.kind == 3) = true := by simp [hk3]
                      have HL : Hid (nowF (x.take (j + 1)) = satN n o.ticks) := by show _ = _; rw [HNW.out]; unfold nowS; rw [if_pos hk3]
                      have hs := satN_lt n o.ticks
                      have HA := Lib.hid (fun W => sAdd n o.ticks hn htk W)
                      obtain ⟨n2, hn2⟩ : ∃ z, satN n o.ticks = z := ⟨_, rfl⟩
                      rw [hn2] at HA HL hs
                      clear hn2
                      go_wp2_with (go_at_call 36; refine (HA.out _).mono ?_; rintro e w4 ⟨rfl, hw4⟩; obtain rfl := hw4)
                      go_roundw
                      case rel => exact ⟨j + 1, n2, _, rfl, by go_num, by omega, rfl, hs, HL.out.symm, HWA.out⟩
                      case measure => simp [intOf]; omega
                    · have hk3i : (o.kind == 3) = false := by simp [hk3]
                      have HL : Hid (nowF (x.take (j + 1)) = n) := by show _ = _; rw [HNW.out]; unfold nowS; rw [if_neg hk3]
                      go_wp2_with fail
                      go_roundw
                      case rel => exact ⟨j + 1, n, _, rfl, by go_num, by omega, rfl, hn, HL.out.symm, HWA.out⟩
                      case measure => simp [intOf]; omega
                · have hc1' : ¬ cap ≤ 1 := by omega
                  obtain ⟨w9, w10, K9, hmu, k9, hdl, hqs9, hk9⟩ := drop_step HQ3.out (pkQ q) (.slice (some ⟨g, off + 1, none⟩) 0 (cap - 1)) 0
                  have hmu' : (Instr.mapUpdate 98 (.map (some mb)) (.agg #[.int .u32 q.flow, .int .u32 q.id, .int .u64 q.len]) (.slice (some ⟨g, off + 1, none⟩) 0 (cap - 1))).run Try.prog w3.drew = .ok () w9 := hmu
                  have hdl' : (Builtin.delete_ #[98, 45] 0 #[.map (some mb), .agg #[.int .u32 q.flow, .int .u32 q.id, .int .u64 q.len]]).run Try.prog w9 = .ok (.tuple #[]) w10 := hdl
                  have hb9 := HB3.out.kp k9 (fun e => by have := hmlt; omega)
                  have x0 := hb9.cell 0 rfl; have x1 := hb9.cell 1 rfl; have x2 := hb9.cell 2 rfl
                  obtain ⟨hKw9, hwa⟩ := HEND.out _ _ hk9 hqs9
                  have HWA := Lib.hid hwa; have HKw9 := Lib.hid hKw9
                  clear hmu hdl hwa hKw9 hqs9 hk9 k9 hb9
                  go_wp2_with fail
                  go_region
                  all_goals
                    have d0 := (HXC.out _ HKw9.out).1
                    have d4 := (HXC.out _ HKw9.out).2
                    by_cases hk3 : o.kind = 3
                    · have hk3i : (o.kind == 3) = true := by simp [hk3]
                      have HL : Hid (nowF (x.take (j + 1)) = satN n o.ticks) := by show _ = _; rw [HNW.out]; unfold nowS; rw [if_pos hk3]
                      have hs := satN_lt n o.ticks
                      have HA := Lib.hid (fun W => sAdd n o.ticks hn htk W)
                      obtain ⟨n2, hn2⟩ : ∃ z, satN n o.ticks = z := ⟨_, rfl⟩
                      rw [hn2] at HA HL hs
                      clear hn2
                      go_wp2_with (go_at_call 36; refine (HA.out _).mono ?_; rintro e w4 ⟨rfl, hw4⟩; obtain rfl := hw4)
                      go_roundw
                      case rel => exact ⟨j + 1, n2, _, rfl, by go_num, by omega, rfl, hs, HL.out.symm, HWA.out⟩
                      case measure => simp [intOf]; omega
                    · have hk3i : (o.kind == 3) = false := by simp [hk3]
                      have HL : Hid (nowF (x.take (j + 1)) = n) := by show _ = _; rw [HNW.out]; unfold nowS; rw [if_neg hk3]
                      go_wp2_with fail
                      go_roundw
                      case rel => exact ⟨j + 1, n, _, rfl, by go_num, by omega, rfl, hn, HL.out.symm, HWA.out⟩
                      case measure => simp [intOf]; omega
              · have hc1' : ¬ cap ≤ 1 := by omega
                obtain ⟨w9, K9, hmu, hqs9, hk9⟩ := cut_step HQ3.out HR3.out (by intro e; rw [e] at hm; exact hr0 hm.symm) (by rw [HFV.out]; rfl)
                have hmu' : (Instr.mapUpdate 98 (.map (some mb)) (.agg #[.int .u32 q.flow, .int .u32 q.id, .int .u64 q.len]) (.slice (some ⟨g, off + 1, none⟩) m (cap - 1))).run Try.prog w3.drew = .ok () w9 := hmu
                obtain ⟨hKw9, hwa⟩ := HEND.out _ _ hk9 hqs9
                have HWA := Lib.hid hwa; have HKw9 := Lib.hid hKw9
                have hm1 : ¬ m + 1 = 1 := by omega
                have hm2 : (1 : Int) ≤ (m : Int) + 1 := by omega
                have hm1' : ¬ ((m : Int) + 1 = 1) := by omega
                have hc2 : ¬ cap = 1 := by omega
                clear hmu hwa hKw9 hqs9 hk9 hm
                go_wp2_with fail
                go_region
                all_goals
                  have d0 := (HXC.out _ HKw9.out).1
                  have d4 := (HXC.out _ HKw9.out).2
                  by_cases hk3 : o.kind = 3
                  · have hk3i : (o.kind == 3) = true := by simp [hk3]
                    have HL : Hid (nowF (x.take (j + 1)) = satN n o.ticks) := by show _ = _; rw [HNW.out]; unfold nowS; rw [if_pos hk3]
                    have hs := satN_lt n o.ticks
                    have HA := Lib.hid (fun W => sAdd n o.ticks hn htk W)
                    obtain ⟨n2, hn2⟩ : ∃ z, satN n o.ticks = z := ⟨_, rfl⟩
                    rw [hn2] at HA HL hs
                    clear hn2
                    go_wp2_with (go_at_call 36; refine (HA.out _).mono ?_; rintro e w4 ⟨rfl, hw4⟩; obtain rfl := hw4)
                    go_roundw
                    case rel => exact ⟨j + 1, n2, _, rfl, by go_num, by omega, rfl, hs, HL.out.symm, HWA.out⟩
                    case measure => simp [intOf]; omega
                  · have hk3i : (o.kind == 3) = false := by simp [hk3]
                    have HL : Hid (nowF (x.take (j + 1)) = n) := by show _ = _; rw [HNW.out]; unfold nowS; rw [if_neg hk3]
                    go_wp2_with fail
                    go_roundw
                    case rel => exact ⟨j + 1, n, _, rfl, by go_num, by omega, rfl, hn, HL.out.symm, HWA.out⟩
                    case measure => simp [intOf]; omega
    · have hjN : j = N := by omega
      subst hjN
      go_wp2_with fail
      go_ret
      refine ⟨v5, rfl, ?_, HI.out.2.kp⟩
      rw [HRES.out]
      exact HI.out.2.own
end Go.Proofs.Ythjapdjglifopaa
