/- Walk of layer 26: whether what waits by a state may wait (shaper.fits). -/
import Derived.Test.YtlaakhfgidjofaaGreatDoorMSnapNobodyF19
import Derived.Test.YtlaakhfgidjofaaGreatDoorMSnapNobodyF15
import Derived.Test.YtlaakhfgidjofaaGreatDoorMSnapNobodyF25
import Derived.Maps.OwnOps
import Derived.Maps.OwnSet
import Derived.Maps.Views
namespace Go.Proofs.YtlaakhfgidjofaaGreatDoor
set_option linter.unusedVariables false
set_option linter.unusedSimpArgs false
open Go Go.RowKit Go.Shelf Go.Maps
structure Ft where
  own : Nat → Option Nat
  left : Nat
  pk : Int
def ft1 (mtu : Nat) (s : Ft) (x : Wt) : Option Ft := match s.own x.flow with
  | none => none
  | some m => if x.len = 0 ∨ min mtu (min m s.left) < x.len ∨ s.pk = 0 then none else some ⟨fun k => if k = x.flow then some (m - x.len) else s.own k, s.left - x.len, s.pk - 1⟩
def ftL (mtu : Nat) : Ft → List Wt → Option Ft
  | s, [] => some s
  | s, x :: r => match ft1 mtu s x with
    | none => none
    | some s' => ftL mtu s' r
theorem ftL_app (mtu : Nat) (a b : List Wt) : ∀ s, ftL mtu s (a ++ b) = match ftL mtu s a with
    | none => none
    | some s' => ftL mtu s' b := by
  induction a with
  | nil => intro s; rfl
  | cons x a ih =>
    intro s
    rw [List.cons_append, ftL, ftL]
    cases ft1 mtu s x with
    | none => rfl
    | some s' => exact ih s'
def ownF (l : List FlR) : Nat → Option Nat := l.foldl (fun own f => fun k => if k = f.id then some f.cap else own k) (fun _ => none)
theorem ownF_snoc (l : List FlR) (f : FlR) : ownF (l ++ [f]) = fun k => if k = f.id then some f.cap else ownF l k := by unfold ownF; rw [List.foldl_append]; rfl
def ft0 (c : CfR) : Ft := ⟨ownF c.flows, c.bytes, c.packets⟩
def fitS (c : CfR) (qs : List (List Wt)) : Bool := (ftL c.mtu (ft0 c) qs.flatten).isSome
structure OwM (w : World) (mb num : Nat) (own : Nat → Option Nat) : Prop where
  is : ∃ n D, w.ownsMap Tryz.prog 69 (plainElem (H := Unit) Tryz.prog 22) mb n D ∧ n ≤ num ∧ ∀ b : Nat, b < 4294967296 → Maps.has D (.int .u32 (b : Int)) = (own b).isSome ∧ D.atKey (.int .u32 (b : Int)) (.lit (.int .u64 0)) = .lit (.int .u64 ((own b).getD 0 : Nat))
  lt : ∀ b v, own b = some v → v < 18446744073709551616
theorem mapKp {S : Nat → Prop} {w w' : World} {P : Program} {k : TypeId} {R : Value → Option (DataW Unit × List MemPlace)} {b n : Nat} {D : DataW Unit} (h : w.ownsMap P k R b n D) (k' : Kp S w w') (hs : ¬ S b) : w'.ownsMap P k R b n D := by
  obtain ⟨es, clock, hb, F, hs', hD⟩ := h
  exact ⟨es, clock, (k'.block b (Array.getElem?_eq_some_iff.1 hb).1 hs).trans hb, F, hs', hD⟩
theorem OwM.kp {T : Nat → Prop} {w w' : World} {mb num : Nat} {own : Nat → Option Nat} (h : OwM w mb num own) (k : Kp T w w') (hT : ¬ T mb) : OwM w' mb num own := by
  obtain ⟨n, D, h1, h2⟩ := h.is
  exact ⟨⟨n, D, mapKp h1 k hT, h2⟩, h.lt⟩
theorem OwM.blt {w : World} {mb num : Nat} {own : Nat → Option Nat} (h : OwM w mb num own) : mb < w.heap.size := by
  obtain ⟨n, D, h1, _⟩ := h.is
  exact h1.lt
theorem uKey (x : Nat) (h : x < 4294967296) : keyOf Tryz.prog 69 (.int .u32 (x : Int)) = some (.int .u32 (x : Int)) := keyOf_int_mk Tryz.underlying69 (by simp [Lit.wf, IntKind.min, IntKind.max, IntKind.signed, IntKind.bits]; omega)
theorem uLit (x : Int) : WideAt.IsKeyLit (.int .u32 x) := by simp [WideAt.IsKeyLit]
theorem uWf {b : Nat} (h : b < 18446744073709551616) : (Lit.int .u64 (b : Int)).wf = true := by simp [Lit.wf, IntKind.min, IntKind.max, IntKind.signed, IntKind.bits]; omega
theorem OwM.look {w : World} {mb num : Nat} {own : Nat → Option Nat} (h : OwM w mb num own) (id : Nat) (hid : id < 4294967296) :
    ∀ W, Kp none' w W → (Instr.lookup 258 (.map (some mb)) (.int .u32 (id : Int)) true).run Tryz.prog W = .ok (.tuple #[.int .u64 ((own id).getD 0 : Nat), .bool (own id).isSome]) W := fun W k => by
  obtain ⟨n, D, h1, _, h3⟩ := h.is
  obtain ⟨v, ps, hrun, hv⟩ := (mapKp h1 k (fun x => x)).look_ok (int_keyed Tryz.underlying69) Tryz.underlying258 (Tryz.zeroValue22 W) (plainElem_int Tryz.underlying22 (by decide)) (uKey id hid)
  obtain ⟨c, rfl, hc, _⟩ := plainElem_int_inv Tryz.underlying22 hv
  obtain ⟨h4, h5⟩ := h3 id hid
  have hc := congrArg Prod.fst hc
  simp only at hc
  rw [h5] at hc
  simp only [DataW.lit.injEq, Lit.int.injEq, true_and] at hc
  subst hc
  rw [hrun, h4]
set_option maxRecDepth 100000 in
theorem OwM.put {w w' : World} {mb num n : Nat} {own : Nat → Option Nat} {D : DataW Unit} (hown : w.ownsMap Tryz.prog 69 (plainElem (H := Unit) Tryz.prog 22) mb n D) (hn : n ≤ num) (hat : ∀ b : Nat, b < 4294967296 → Maps.has D (.int .u32 (b : Int)) = (own b).isSome ∧ D.atKey (.int .u32 (b : Int)) (.lit (.int .u64 0)) = .lit (.int .u64 ((own b).getD 0 : Nat))) (hlt : ∀ b v, own b = some v → v < 18446744073709551616) (id x : Nat) (hx : x < 18446744073709551616)
    (h : w'.ownsMap Tryz.prog 69 (plainElem (H := Unit) Tryz.prog 22) mb (n + 1) (D.put (.int .u32 (id : Int)) (.lit (.int .u64 (x : Int))))) : OwM w' mb (num + 1) (fun k => if k = id then some x else own k) := by
  have ha : ∀ b : Nat, b < 4294967296 → Maps.has (D.put (.int .u32 (id : Int)) (.lit (.int .u64 (x : Int)))) (.int .u32 (b : Int)) = (if b = id then some x else own b).isSome ∧ (D.put (.int .u32 (id : Int)) (.lit (.int .u64 (x : Int)))).atKey (.int .u32 (b : Int)) (.lit (.int .u64 0)) = .lit (.int .u64 ((if b = id then some x else own b).getD 0 : Nat)) := by
    intro b hb
    by_cases e : b = id
    · subst e
      rw [if_pos rfl]
      exact ⟨has_put_same hown.isMap (uLit _) _, atKey_put_same hown.isMap (uLit _) _ _⟩
    · rw [if_neg e, has_put_other (fun hc => e (by injection hc with _ hc; exact Int.ofNat.inj hc)), atKey_put_other (fun hc => e (by injection hc with _ hc; exact Int.ofNat.inj hc))]
      exact hat b hb
  have hb : ∀ b v, (if b = id then some x else own b) = some v → v < 18446744073709551616 := by
    intro b v hv
    by_cases e : b = id
    · rw [if_pos e] at hv; injection hv with hv; rw [← hv]; exact hx
    · rw [if_neg e] at hv; exact hlt b v hv
  exact ⟨⟨n + 1, _, h, Nat.succ_le_succ hn, ha⟩, hb⟩
theorem ownF_lt (l : List FlR) (h : ∀ f ∈ l, f.ok) : ∀ b v, ownF l b = some v → v < 18446744073709551616 := by
  refine snocT (P := fun l => (∀ f ∈ l, FlR.ok f) → ∀ b v, ownF l b = some v → v < 18446744073709551616) (fun _ b v hv => by cases hv) (fun l f ih h b v hv => ?_) l h
  rw [ownF_snoc] at hv
  simp only at hv
  by_cases e : b = f.id
  · rw [if_pos e] at hv; injection hv with hv
    have := (h f (by simp)).cap
    omega
  · rw [if_neg e] at hv; exact ih (fun g hg => h g (List.mem_append_left _ hg)) b v hv
set_option maxRecDepth 100000 in
set_option maxHeartbeats 4000000 in
theorem aFits (c : CfR) (hc : c.ok) (hpk : 1 ≤ c.packets ∧ c.packets ≤ 4096) (hfl : c.flows.length ≤ 64) (v : Value) (s : StS) (ok : s.ok) (hn : s.qs.flatten.length ≤ 100000) (hnq : s.qs.length ≤ 100000) (vt vb vq : Value) (vs : List Value) (w : World)
    (hs : Sl w v c.flows.length 5 (c.flows.flatMap enFl)) (hm : StM w s vt vb vq vs) :
    Calls Tryz.prog 89 #[.agg (enC c v).toArray, .agg (stC s.now s.tok s.virt s.ref vt vb vq).toArray] w fun e w' => e = .returned (.bool (fitS c s.qs)) ∧ Kp none' w w' := by
  have hmm := @run_makeMap Tryz.prog
  obtain ⟨o1, o2, o3, o4, o5, o6, o7, o8⟩ := ok
  obtain ⟨now, tok, virt, ref, tags, bounds, qs⟩ := s
  obtain ⟨ht, hb, hq, hqs⟩ := hm
  simp only at *
  obtain ⟨cs, hcs⟩ : ∃ cs, stC now tok virt ref vt vb vq = cs := ⟨_, rfl⟩
  have h37 : cs[37]? = some vq := by rw [← hcs]; exact st_37 _ _ _ _ o4 _ _ _
  rw [hcs]
  have hff := ownF_lt c.flows hc.flows
  have HFO := Lib.hid hc.flows
  have hmt := hc.mtu
  have hby := hc.bytes
  unfold M64 at hmt hby
  have HFT : Hid (∀ l, ftL c.mtu (ft0 c) l = ftL c.mtu ⟨ownF c.flows, c.bytes, c.packets⟩ l) := fun _ => rfl
  have HR : Hid (fitS c qs = (ftL c.mtu ⟨ownF c.flows, c.bytes, c.packets⟩ qs.flatten).isSome) := rfl
  obtain ⟨fa, fc, rfl⟩ : ∃ fa fc, v = .slice fa c.flows.length fc := by obtain ⟨_, _, fa, fc, rfl, _⟩ := hs; exact ⟨_, _, rfl⟩
  obtain ⟨qa, qc, rfl⟩ : ∃ qa qc, vq = .slice qa qs.length qc := by obtain ⟨_, _, qa, qc, rfl, _⟩ := hq; exact ⟨_, _, rfl⟩
  refine calls_post ?_
  intro PP HP
  rw [HR.out] at HP
  obtain ⟨rk, bk, lv, qu, pk, bt, sh, mt, rt, bu, fl⟩ := c
  simp only [enC] at *
  have HC := Lib.hid (((Blk.new w [.int .i64 rk, .int .i64 bk, .int .i64 lv, .int .i64 qu, .int .i64 pk, .int .u64 bt, .int .i64 sh, .int .u64 mt, .int .u64 rt, .int .u64 bu, .slice fa fl.length fc] 25).alloc (.cells cs.toArray 30)).alloc (.map #[] 0))
  have HB : Hid (Blk (((w.alloc (.cells #[.int .i64 rk, .int .i64 bk, .int .i64 lv, .int .i64 qu, .int .i64 pk, .int .u64 bt, .int .i64 sh, .int .u64 mt, .int .u64 rt, .int .u64 bu, .slice fa fl.length fc] 25)).alloc (.cells cs.toArray 30)).alloc (.map #[] 0)) (w.heap.size + 1) cs 30) := by
    have := (Blk.new (w.alloc (.cells #[.int .i64 rk, .int .i64 bk, .int .i64 lv, .int .i64 qu, .int .i64 pk, .int .u64 bt, .int .i64 sh, .int .u64 mt, .int .u64 rt, .int .u64 bu, .slice fa fl.length fc] 25)) cs 30).alloc (.map #[] 0)
    rw [World.size_alloc] at this; exact this
  have HO : Hid (OwM (((w.alloc (.cells #[.int .i64 rk, .int .i64 bk, .int .i64 lv, .int .i64 qu, .int .i64 pk, .int .u64 bt, .int .i64 sh, .int .u64 mt, .int .u64 rt, .int .u64 bu, .slice fa fl.length fc] 25)).alloc (.cells cs.toArray 30)).alloc (.map #[] 0)) (w.heap.size + 1 + 1) 0 (fun _ => none)) := by
    refine ⟨⟨0, .map [], ?_, Nat.le_refl _, fun b _ => ⟨rfl, rfl⟩⟩, fun b v hv => by cases hv⟩
    have := World.ownsMap_made (H := Unit) ((w.alloc (.cells #[.int .i64 rk, .int .i64 bk, .int .i64 lv, .int .i64 qu, .int .i64 pk, .int .u64 bt, .int .i64 sh, .int .u64 mt, .int .u64 rt, .int .u64 bu, .slice fa fl.length fc] 25)).alloc (.cells cs.toArray 30)) Tryz.prog 69 (plainElem (H := Unit) Tryz.prog 22)
    rw [World.size_alloc, World.size_alloc] at this; exact this
  have HK : Hid (Kp none' w (((w.alloc (.cells #[.int .i64 rk, .int .i64 bk, .int .i64 lv, .int .i64 qu, .int .i64 pk, .int .u64 bt, .int .i64 sh, .int .u64 mt, .int .u64 rt, .int .u64 bu, .slice fa fl.length fc] 25)).alloc (.cells cs.toArray 30)).alloc (.map #[] 0))) := (((Kp.refl none' w).alloc _).alloc _).alloc _
  have HS := Lib.hid hs; have HQ := Lib.hid hq; have HQS := Lib.hid hqs; have H37 := Lib.hid h37
  clear hs hq hqs ht hb hc hcs h37 o1 o2 o3 o4 o5 o6 o7 HR HFT
  go_enter Tryz.func89, Tryz.ntmps89
  go_upto_region 2 with fail
  generalize (((w.alloc (.cells #[.int .i64 rk, .int .i64 bk, .int .i64 lv, .int .i64 qu, .int .i64 pk, .int .u64 bt, .int .i64 sh, .int .u64 mt, .int .u64 rt, .int .u64 bu, .slice fa fl.length fc] 25)).alloc (.cells cs.toArray 30)).alloc (.map #[] 0)) = w0 at *
  have c10 := HC.out.cell 10 rfl
  obtain ⟨mb, hmb⟩ : ∃ mb, w.heap.size + 1 + 1 = mb := ⟨_, rfl⟩
  rw [hmb] at HO
  simp only [hmb]
  go_wp2_with fail
  go_loopw [21] (fun i wr => ∃ j : Nat, i = .int .i64 j ∧ j ≤ fl.length ∧ Hid (OwM wr mb j (ownF (fl.take j)) ∧ Kp (fun b => b = mb) w0 wr)) (fun i _ => fl.length - (intOf i).toNat)
  case atStart => exact ⟨0, rfl, by omega, HO.out, Kp.refl _ _⟩
  case round =>
    obtain ⟨j, rfl, hj, hr⟩ := hrel
    obtain ⟨r1, r2⟩ := hr.out
    have hkw : Kp none' w wr := HK.out.then r2 (fun i hi e => by omega)
    by_cases hlt : j < fl.length
    · obtain ⟨g, off, cap', e1, hcl⟩ := (HS.out.old hkw).at enFl_len (by decide) j hlt
      injection e1 with e1 _ e3
      subst e1 e3
      have hfk := HFO.out fl[j] (List.getElem_mem hlt)
      have hTk : fl.take (j + 1) = fl.take j ++ [fl[j]] := List.take_succ_eq_append_getElem hlt
      obtain ⟨f, hf⟩ : ∃ f, fl[j] = f := ⟨_, rfl⟩
      rw [hf] at hcl hfk hTk
      have c0 := hcl 0 _ rfl; have c1 := hcl 1 _ rfl; have c2 := hcl 2 _ rfl; have c3 := hcl 3 _ rfl; have c4 := hcl 4 _ rfl
      simp only [Nat.add_zero] at c0
      obtain ⟨nn, DD, hown, hle, hat⟩ := r1.is
      have hlt1 := r1.lt
      have HKY := Lib.hid (uKey f.id hfk.id)
      have HEL : Hid (plainElem (H := Unit) Tryz.prog 22 (.int .u64 (f.cap : Int)) = some (.lit (.int .u64 (f.cap : Int)), [])) := plainElem_int Tryz.underlying22 (uWf hfk.cap)
      have HOW := Lib.hid (mapKp hown ((Kp.refl none' wr).alloc (.cells #[.int .u32 f.id, .int .u64 f.cost, .int .u64 f.budget, .int .u64 f.size, .int .u64 f.cap] 85)) (fun x => x))
      have HAT := Lib.hid hat; have HLT := Lib.hid hlt1; have HTk := Lib.hid hTk; have HOW0 := Lib.hid hown
      have R2 := Lib.hid r2
      have hcap := hfk.cap
      have hszr := r2.size
      have hmbl := r1.blt
      obtain ⟨fi, fco, fbu, fsi, fca⟩ := f
      simp only at *
      clear hown hat hlt1 hTk r1 r2 hr hf hcl hfk
      go_wp2_with (at_mapUpdate; refine wpList_mapUpdate_own _ rfl _ _ _ 258 rfl 69 22 (int_keyed Tryz.underlying69) Tryz.underlying258 (plainElem (H := Unit) Tryz.prog 22) mb nn DD rfl HOW.out (by unfold maxLen; omega) _ _ _ rfl rfl HKY.out (.lit (.int .u64 (fca : Int))) [] HEL.out ?_)
      intro w9 hown9 hgrow9
      have hput := OwM.put HOW0.out hle HAT.out HLT.out fi fca hcap hown9
      have HP9 : Hid (OwM w9 mb (j + 1) (ownF (fl.take (j + 1)))) := by
        show OwM _ _ _ _
        rw [HTk.out, ownF_snoc]; exact hput
      have HK9 : Hid (Kp (fun b => b = mb) w0 w9) := (R2.out.alloc _).grown hgrow9 (fun k e => .inl (Option.some.inj e).symm)
      clear hown9 hgrow9 hput
      go_wp2_with fail
      go_roundw
      case rel => exact ⟨j + 1, by go_num, by omega, HP9.out, HK9.out⟩
      case measure => simp [intOf]; omega
    · have e : j = fl.length := by omega
      subst e
      rw [List.take_length] at r1
      have R1 := Lib.hid r1; have R2 := Lib.hid r2
      have HKW := Lib.hid hkw
      have HC1 := Lib.hid (HC.out.kp r2 (fun e => by omega)); have HB1 := Lib.hid (HB.out.kp r2 (fun e => by omega))
      have d4 := HC1.out.cell 4 rfl; have d5 := HC1.out.cell 5 rfl
      have d37 := HB1.out.cell 37 H37.out
      obtain ⟨wl, hwl⟩ : ∃ wl : World, wl = wr := ⟨_, rfl⟩
      subst hwl
      clear r1 r2 hr hkw
      go_wp2_with fail
      refine wp_region_kept2 [] [0, 1, 2, 3, 4] 5 (by kernel_rfl) (by kernel_rfl) (fun c a d u w h => by cases d <;> exact h) ?_
      simp only [pick, List.getElem?_cons_succ, List.getElem?_cons_zero, List.drop_succ_cons, List.drop_zero]
      show wpKL _ _ _ _ _ _
      repeat (first
        | (refine wpKL_op (by exact rfl) (by as_aux_lemma => intro W hK; have e0 := hK.cell d4 (fun x => x); have e1 := hK.cell d5 (fun x => x); go_simp; exact rfl) ?_; simp only [Act.put, List.setIfInBounds_toArray, List.set_cons_succ, List.set_cons_zero])
        | (refine wpKL_off (by exact rfl) ?_; simp only [Act.put, List.setIfInBounds_toArray, List.set_cons_succ, List.set_cons_zero]))
      show ∀ W, _ → wpList _ _ _ _ _ _
      intro W1 hW1
      have HO1 := Lib.hid (R1.out.kp hW1 (fun x => x))
      have HK1 : Hid (Kp (fun b => b = mb) w0 W1) := R2.out.trans (hW1.mono (fun _ _ x => x.elim))
      have HKW1 := Lib.hid (HKW.out.trans hW1)
      have HC2 := Lib.hid (HC1.out.kp hW1 (fun x => x))
      have d38 := hW1.cell d37 (fun x => x)
      have hsW := HKW1.out.size
      have hmW := HO1.out.blt
      clear hW1 d4 d5 d37 HKW R1 R2 HC1 HB1
      go_wp2_with fail
      go_loopw [8, 9, 38] (fun p l i wr => ∃ (j : Nat) (st : Ft), i = .int .i64 j ∧ p = .int .i64 st.pk ∧ l = .int .u64 st.left ∧ j ≤ qs.length ∧ 0 ≤ st.pk ∧ st.pk ≤ 4096 ∧ st.left < 18446744073709551616 ∧ Hid (ftL mt ⟨ownF fl, bt, pk⟩ (qs.take j).flatten = some st ∧ OwM wr mb (64 + (qs.take j).flatten.length) st.own ∧ Kp (fun b => b = mb) W1 wr)) (fun _ _ i _ => qs.length - (intOf i).toNat)
      case atStart => exact ⟨0, ⟨ownF fl, bt, pk⟩, rfl, rfl, rfl, by omega, by show (0 : Int) ≤ pk; omega, by show pk ≤ 4096; omega, hby, rfl, ⟨by obtain ⟨n, D, h1, h2, h3⟩ := HO1.out.is; exact ⟨n, D, h1, by simp; omega, h3⟩, HO1.out.lt⟩, Kp.refl _ _⟩
      case round =>
        obtain ⟨j, st, rfl, rfl, rfl, hj, hp0, hp1, hl0, hr⟩ := hrel
        obtain ⟨wo, hwo⟩ : ∃ wo : World, wo = wr := ⟨_, rfl⟩
        subst hwo
        obtain ⟨r0, r1, r2⟩ := hr.out
        have hkw : Kp none' w wo := HKW1.out.then r2 (fun i hi e => by omega)
        by_cases hlt : j < qs.length
        · obtain ⟨Q, hQ⟩ : ∃ Q, qs[j] = Q := ⟨_, rfl⟩
          have hTk : qs.take (j + 1) = qs.take j ++ [Q] := by rw [List.take_succ_eq_append_getElem hlt, hQ]
          have hoQ : ∀ x ∈ Q, x.ok := by rw [← hQ]; exact o8 _ (List.getElem_mem hlt)
          have hsplit : qs.flatten = (qs.take j).flatten ++ (Q ++ (qs.drop (j + 1)).flatten) := by
            have h1 : qs = qs.take j ++ (Q :: qs.drop (j + 1)) := by rw [← hQ, ← List.drop_eq_getElem_cons hlt, List.take_append_drop]
            conv => lhs; rw [h1]
            rw [List.flatten_append, List.flatten_cons]
          have hQl : (qs.take j).flatten.length + Q.length ≤ 100000 := by have := hn; rw [hsplit, List.length_append, List.length_append] at this; omega
          obtain ⟨v, hv, hsv⟩ := HQS.out.at j hlt
          rw [hQ] at hsv
          obtain ⟨ao, cap', e1, hcc⟩ := (HQ.out.old hkw).is
          injection e1 with e1 _ e3
          subst e1 e3
          obtain ⟨g, off, rfl, c0⟩ := hcc j v hv
          obtain ⟨sa, sc, rfl⟩ : ∃ sa sc, v = .slice sa Q.length sc := by obtain ⟨_, _, sa, sc, rfl, _⟩ := hsv; exact ⟨_, _, rfl⟩
          have HSV := Lib.hid hsv; have HTk := Lib.hid hTk; have HOQ := Lib.hid hoQ; have HSP := Lib.hid hsplit
          have A0 := Lib.hid r0; have A1 := Lib.hid r1; have A2 := Lib.hid r2; have A3 := Lib.hid hkw
          have hQl2 : Q.length ≤ 100000 := by omega
          obtain ⟨B, hB⟩ : ∃ B, (qs.take j).flatten.length = B := ⟨_, rfl⟩
          rw [hB] at hQl A1
          have hBH := Lib.hid hB
          clear r0 r1 r2 hr hkw hcc hv hsv hTk hoQ hsplit hQ hB
          go_wp2_with fail
          go_loopw [8, 9, 44] (fun p l i wr => ∃ (k : Nat) (su : Ft), i = .int .i64 k ∧ p = .int .i64 su.pk ∧ l = .int .u64 su.left ∧ k ≤ Q.length ∧ 0 ≤ su.pk ∧ su.pk ≤ 4096 ∧ su.left < 18446744073709551616 ∧ Hid (ftL mt st (Q.take k) = some su ∧ OwM wr mb (64 + B + k) su.own ∧ Kp (fun b => b = mb) W1 wr)) (fun _ _ i _ => Q.length - (intOf i).toNat)
          case atStart => exact ⟨0, st, rfl, rfl, rfl, by omega, hp0, hp1, hl0, rfl, A1.out, A2.out⟩
          case round =>
            obtain ⟨k, su, rfl, rfl, rfl, hk, hq0, hq1, hm0, hr⟩ := hrel
            obtain ⟨r0, r1, r2⟩ := hr.out
            have hkw : Kp none' w wr := HKW1.out.then r2 (fun i hi e => by omega)
            by_cases hlt2 : k < Q.length
            · obtain ⟨x, hx⟩ : ∃ x, Q[k] = x := ⟨_, rfl⟩
              have hTq : Q.take (k + 1) = Q.take k ++ [x] := by rw [List.take_succ_eq_append_getElem hlt2, hx]
              have hQd : Q = Q.take k ++ (x :: Q.drop (k + 1)) := by rw [← hx, ← List.drop_eq_getElem_cons hlt2, List.take_append_drop]
              obtain ⟨x1, x2, x3, x4⟩ : x.ok := by rw [← hx]; exact HOQ.out _ (List.getElem_mem hlt2)
              obtain ⟨g5, off5, cap5, e1, hcq⟩ := (HSV.out.old hkw).at enWt_len (by decide) k hlt2
              injection e1 with e1 _ e3
              subst e1 e3
              rw [hx] at hcq
              have b0 := hcq 0 _ rfl; have b1 := hcq 1 _ rfl; have b2 := hcq 2 _ rfl; have b3 := hcq 3 _ rfl
              simp only [Nat.add_zero] at b0
              have hno : ft1 mt su x = none → (ftL mt ⟨ownF fl, bt, pk⟩ qs.flatten).isSome = false := fun h => by
                rw [HSP.out, ftL_app, A0.out]
                simp only
                conv => lhs; rw [hQd]
                rw [List.append_assoc, ftL_app, r0]
                simp only [List.cons_append, ftL, h]
                rfl
              have hyes : ∀ sv, ft1 mt su x = some sv → ftL mt st (Q.take (k + 1)) = some sv := fun sv h => by
                rw [hTq, ftL_app, r0]
                simp only [ftL, h]
              have HL := Lib.hid (fun W (kw : Kp none' wr W) => r1.look x.flow x2 W kw)
              obtain ⟨xr, xf, xi, xl⟩ := x
              simp only at *
              have hl0 := HL.out _ (((Kp.refl none' wr).alloc (.cells #[.int .u64 xr, .int .u32 xf, .int .u32 xi, .int .u64 xl] 73)).alloc (.cells #[.int .u32 xf, .int .u32 xi, .int .u64 xl] 71))
              have hmtc : wr.cell? ⟨w.heap.size, 7, none⟩ = some (.int .u64 mt) := ((HC2.out.kp r2 (fun e => by omega)).cell 7 rfl)
              cases hown : su.own xf with
              | none =>
                have HF : Hid ((ftL mt ⟨ownF fl, bt, pk⟩ qs.flatten).isSome = false) := hno (by unfold ft1; rw [hown])
                rw [hown] at hl0
                simp only [Option.getD_none, Option.isSome_none] at hl0
                have HKF := Lib.hid hkw
                clear r0 r1 r2 hr hcq hno hyes HL hTq hQd hx
                go_wp2_with fail
                exact HP.out _ _ ⟨by rw [HF.out]; rfl, (HKF.out.alloc _).alloc _⟩
              | some m =>
                rw [hown] at hl0
                simp only [Option.getD_some, Option.isSome_some] at hl0
                have hm64 := r1.lt xf m hown
                have hszw := r2.size
                have HNO := Lib.hid hno; have HYES := Lib.hid hyes; have R0 := Lib.hid r0; have R1 := Lib.hid r1; have R2a := Lib.hid r2; have HKW3 := Lib.hid hkw
                clear hno hyes hTq hQd hx r0 r1 r2 hr hcq HL hkw
                go_upto_region 16 with fail
                have HKF2 : Hid (Kp none' w ((wr.alloc (.cells #[.int .u64 xr, .int .u32 xf, .int .u32 xi, .int .u64 xl] 73)).alloc (.cells #[.int .u32 xf, .int .u32 xi, .int .u64 xl] 71))) := (HKW3.out.alloc _).alloc _
                have hal : Kp none' wr ((wr.alloc (.cells #[.int .u64 xr, .int .u32 xf, .int .u32 xi, .int .u64 xl] 73)).alloc (.cells #[.int .u32 xf, .int .u32 xi, .int .u64 xl] 71)) := ((Kp.refl _ _).alloc _).alloc _
                have hpb : Blk ((wr.alloc (.cells #[.int .u64 xr, .int .u32 xf, .int .u32 xi, .int .u64 xl] 73)).alloc (.cells #[.int .u32 xf, .int .u32 xi, .int .u64 xl] 71)) (wr.heap.size + 1) [.int .u32 xf, .int .u32 xi, .int .u64 xl] 71 := by
                  have := Blk.new (wr.alloc (.cells #[.int .u64 xr, .int .u32 xf, .int .u32 xi, .int .u64 xl] 73)) [.int .u32 xf, .int .u32 xi, .int .u64 xl] 71
                  rw [World.size_alloc] at this; exact this
                have d7 := hal.cell hmtc (fun x => x)
                have r1' := R1.out.kp hal (fun x => x)
                have r2' := R2a.out.trans (hal.mono (T := fun b => b = mb) (fun _ _ x => x.elim))
                have e0 := hpb.cell 0 rfl; have e1 := hpb.cell 1 rfl; have e2 := hpb.cell 2 rfl
                clear hl0 hmtc b0 b1 b2 b3
                generalize (wr.alloc (.cells #[.int .u64 xr, .int .u32 xf, .int .u32 xi, .int .u64 xl] 73)).alloc (.cells #[.int .u32 xf, .int .u32 xi, .int .u64 xl] 71) = w3 at *
                obtain ⟨nn, DD, hown1, hle, hat⟩ := r1'.is
                have HLT := Lib.hid r1'.lt
                have HOW := Lib.hid hown1; have HAT := Lib.hid hat
                have R2 := Lib.hid r2'
                have hB64 : nn ≤ 300000 := by omega
                clear hal hpb r1' r2' hown1 hat R1 R2a HKW3
                by_cases z1 : xl = 0
                · have HF : Hid ((ftL mt ⟨ownF fl, bt, pk⟩ qs.flatten).isSome = false) := HNO.out (by unfold ft1; rw [hown]; simp only; rw [if_pos (.inl z1)])
                  clear HNO HYES
                  go_wp2_with fail
                  all_goals first | exact HP.out _ _ ⟨by rw [HF.out]; rfl, HKF2.out⟩ | (exfalso; omega)
                · by_cases z2 : min mt (min m su.left) < xl
                  · have HF : Hid ((ftL mt ⟨ownF fl, bt, pk⟩ qs.flatten).isSome = false) := HNO.out (by unfold ft1; rw [hown]; simp only; rw [if_pos (.inr (.inl z2))])
                    clear HNO HYES
                    go_wp2_with fail
                    all_goals first | exact HP.out _ _ ⟨by rw [HF.out]; rfl, HKF2.out⟩ | (exfalso; omega)
                  · by_cases z3 : su.pk = 0
                    · have HF : Hid ((ftL mt ⟨ownF fl, bt, pk⟩ qs.flatten).isSome = false) := HNO.out (by unfold ft1; rw [hown]; simp only; rw [if_pos (.inr (.inr z3))])
                      clear HNO HYES
                      go_wp2_with fail
                      all_goals first | exact HP.out _ _ ⟨by rw [HF.out]; rfl, HKF2.out⟩ | (exfalso; omega)
                    · have HV := Lib.hid (HYES.out ⟨fun k => if k = xf then some (m - xl) else su.own k, su.left - xl, su.pk - 1⟩ (by unfold ft1; rw [hown]; simp only; rw [if_neg (fun h => by rcases h with h | h | h; exact z1 h; exact z2 h; exact z3 h)]))
                      clear HNO HYES
                      have y1 : xl ≤ mt := by omega
                      have y2 : xl ≤ m := by omega
                      have y3 : xl ≤ su.left := by omega
                      have q1 : ((xl : Int) == 0) = false := by rw [beq_eq_false_iff_ne]; omega
                      have q3 : (su.pk == 0) = false := by rw [beq_eq_false_iff_ne]; omega
                      have q4 : ¬ mt < xl := by omega
                      have q5 : ¬ m < xl := by omega
                      have q6 : ¬ su.left < xl := by omega
                      have p1 : 1 ≤ su.pk := by omega
                      clear z1 z2 z3
                      have HKY := Lib.hid (uKey xf x2)
                      have HEL : Hid (plainElem (H := Unit) Tryz.prog 22 (.int .u64 ((m : Int) - xl)) = some (.lit (.int .u64 ((m - xl : Nat) : Int)), [])) := by
                        have := plainElem_int (H := Unit) Tryz.underlying22 (uWf (show m - xl < 18446744073709551616 by omega))
                        rw [show ((m - xl : Nat) : Int) = (m : Int) - xl by omega] at this ⊢
                        exact this
                      have hw1 : IntKind.u64.wrap ((m : Int) - xl) = (m : Int) - xl := by rw [IntKind.wrap_u64]; omega
                      have hw2 : IntKind.u64.wrap ((su.left : Int) - xl) = (su.left : Int) - xl := by rw [IntKind.wrap_u64]; omega
                      go_wp2_with (at_mapUpdate; refine wpList_mapUpdate_own _ rfl _ _ _ 258 rfl 69 22 (int_keyed Tryz.underlying69) Tryz.underlying258 (plainElem (H := Unit) Tryz.prog 22) mb nn DD rfl HOW.out (by unfold maxLen; omega) _ _ _ rfl rfl HKY.out (.lit (.int .u64 ((m - xl : Nat) : Int))) [] HEL.out ?_)
                      all_goals
                        intro w9 hown9 hgrow9
                        have hput := OwM.put HOW.out hle HAT.out HLT.out xf (m - xl) (by omega) hown9
                        have HP9 : Hid (OwM w9 mb (64 + B + (k + 1)) (fun k => if k = xf then some (m - xl) else su.own k)) := hput
                        have HK9 : Hid (Kp (fun b => b = mb) W1 w9) := R2.out.grown hgrow9 (fun k e => .inl (Option.some.inj e).symm)
                        have hkw9 : Kp (fun b => b = mb) w3 w9 := (Kp.refl _ w3).grown hgrow9 (fun k e => .inl (Option.some.inj e).symm)
                        have g0 := hkw9.cell e0 (by show wr.heap.size + 1 ≠ mb; omega)
                        have g2 := hkw9.cell e2 (by show wr.heap.size + 1 ≠ mb; omega)
                        clear hown9 hgrow9 hput hkw9 HOW HAT HLT R2 HKY HEL
                        go_wp2_with fail
                        go_roundw
                        case rel => exact ⟨k + 1, ⟨fun k => if k = xf then some (m - xl) else su.own k, su.left - xl, su.pk - 1⟩, by go_num, by go_num, by go_num, by omega, by show 0 ≤ su.pk - 1; omega, by show su.pk - 1 ≤ 4096; omega, by show su.left - xl < _; omega, HV.out, HP9.out, HK9.out⟩
                        case measure => simp [intOf]; omega
            · have e : k = Q.length := by omega
              subst e
              rw [List.take_length] at r0
              have hfl2 : (qs.take (j + 1)).flatten = (qs.take j).flatten ++ Q := by rw [HTk.out, List.flatten_append]; simp
              have T0 : Hid (ftL mt ⟨ownF fl, bt, pk⟩ (qs.take (j + 1)).flatten = some su) := by
                show _ = _
                rw [hfl2, ftL_app, A0.out]; exact r0
              have T1 : Hid (OwM wr mb (64 + (qs.take (j + 1)).flatten.length) su.own) := by
                show OwM _ _ _ _
                rw [hfl2, List.length_append, hBH.out, ← Nat.add_assoc]; exact r1
              have T2 := Lib.hid r2
              clear r0 r1 r2 hr hkw hfl2 A0 A1 A2
              go_wp2_with fail
              go_roundw
              case rel => exact ⟨j + 1, su, by go_num, rfl, rfl, by omega, hq0, hq1, hm0, T0.out, T1.out, T2.out⟩
              case measure => simp [intOf]; omega
        · have e : j = qs.length := by omega
          subst e
          rw [List.take_length] at r0
          have HF : Hid ((ftL mt ⟨ownF fl, bt, pk⟩ qs.flatten).isSome = true) := by show _ = _; rw [r0]; rfl
          have HKF := Lib.hid hkw
          clear r0 r1 r2 hr hkw
          go_wp2_with fail
          exact HP.out _ _ ⟨by rw [HF.out]; rfl, HKF.out⟩
end Go.Proofs.YtlaakhfgidjofaaGreatDoor
