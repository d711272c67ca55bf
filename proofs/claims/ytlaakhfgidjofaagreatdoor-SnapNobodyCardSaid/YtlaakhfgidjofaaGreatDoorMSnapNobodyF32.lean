/- Walk of layer 40: the snapshot of a state in which nothing waits. -/
import Derived.Test.YtlaakhfgidjofaaGreatDoorMSnapNobodyF31
import Derived.Test.YtlaakhfgidjofaaGreatDoorMSnapNobodyF19
import Derived.Test.YtlaakhfgidjofaaGreatDoorMSnapNobodyF16
import Derived.Test.YtlaakhfgidjofaaGreatDoorMSnapNobodyF7
import Derived.Test.YtlaakhfgidjofaaGreatDoorMSnapNobodyF15
import Derived.Test.YtlaakhfgidjofaaGreatDoorMSnapNobodyF1
import Derived.Test.YtlaakhfgidjofaaGreatDoorMSnapNobodyF29
namespace Go.Proofs.YtlaakhfgidjofaaGreatDoor
set_option linter.unusedVariables false
set_option linter.unusedSimpArgs false
open Go Go.RowKit Go.Shelf
def snB (c : CfR) (s : StS) : List UInt8 := fdsB (.txt (tx (putT c)) :: stF s)
set_option maxRecDepth 100000 in
set_option maxHeartbeats 4000000 in
theorem aPut0 (c : CfR) (hc : c.ok) (hE : chk c = 0) (hbk : c.back = 1) (hpk : 1 ≤ c.packets ∧ c.packets ≤ 4096) (hfl : c.flows.length ≤ 64) (v : Value) (s : StS) (ok : s.ok) (hq : s.qs = [[]]) (hmay : mayL c s = true) (htl : s.tags.length = c.flows.length) (hfn : ∀ f ∈ stF s, f.ok) (hn : (stF s).length ≤ 100000) (hl : (snB c s).length ≤ 800000) (htx : (tx (putT c)).size ≤ 65535) (vt vb vq : Value) (vs : List Value) (w : World)
    (hs : Sl w v c.flows.length 5 (c.flows.flatMap enFl)) (hm : StM w s vt vb vq vs) :
    Calls Tryz.prog 8 #[.agg (enC c v).toArray, .agg (stC s.now s.tok s.virt s.ref vt vb vq).toArray] w fun e w' => e = .returned (.tuple #[.string (tx (sealL (snB c s))), .int .i64 0]) ∧ Kp none' w w' := by
  have hL := fun W (k : Kp none' w W) => aLoad0 c hc hE hbk hpk hfl v s ok hq hmay htl vt vb vq vs W (hs.old k) (hm.old k)
  have hP := fun W (k : Kp none' w W) => gPutC c hc v W (hs.old k)
  rw [hE] at hP
  have hF := fun W (k : Kp none' w W) => bFields s ok hn vt vb vq vs W (hm.old k)
  have hW := fun v W h => aPutL (.txt (tx (putT c)) :: stF s) (by intro f hf; rcases List.mem_cons.1 hf with rfl | hf; exact htx; exact hfn f hf) (by unfold snB at hl; omega) v W h
  have hS := fun W => sSeal (tx (snB c s)) (by rw [← bl_len, bl_tx]; omega) W
  rw [bl_tx] at hS
  have hi : (Tryz.prog.info? 30).map (·.size) = some (stC s.now s.tok s.virt s.ref vt vb vq).length := by rw [stC_len _ _ _ _ ok.len]; exact infoSt
  have hic : (Tryz.prog.info? 25).map (·.size) = some (enC c v).length := infoCf
  have hsb : snB c s = fdsB (.txt (tx (putT c)) :: stF s) := rfl
  have hfl2 : stFl (stF s) = (stF s).flatMap enFd := rfl
  refine calls_post ?_
  intro PP HP
  obtain ⟨cs, hcs⟩ : ∃ cs, stC s.now s.tok s.virt s.ref vt vb vq = cs := ⟨_, rfl⟩
  obtain ⟨cc, hcc⟩ : ∃ cc, enC c v = cc := ⟨_, rfl⟩
  obtain ⟨T, hT⟩ : ∃ T, tx (putT c) = T := ⟨_, rfl⟩
  obtain ⟨Fs, hFs⟩ : ∃ Fs, stF s = Fs := ⟨_, rfl⟩
  obtain ⟨B, hB⟩ : ∃ B, snB c s = B := ⟨_, rfl⟩
  rw [hcs] at hL hF hi ⊢
  rw [hcc] at hL hP hic ⊢
  rw [hB] at hS HP hsb
  rw [hT, hFs] at hW hsb
  rw [hT] at hP
  rw [hFs] at hF hn hfl2
  rw [← hsb] at hW
  have HL := Lib.hid hL; have HPt := Lib.hid hP; have HF := Lib.hid hF; have HWr := Lib.hid hW; have HS := Lib.hid hS; have HI := Lib.hid hi; have HIc := Lib.hid hic
  have HC := Lib.hid ((Blk.new w cc 25).alloc (.cells cs.toArray 30))
  have HB : Hid (Blk ((w.alloc (.cells cc.toArray 25)).alloc (.cells cs.toArray 30)) (w.heap.size + 1) cs 30) := by
    have := Blk.new (w.alloc (.cells cc.toArray 25)) cs 30
    rw [World.size_alloc] at this; exact this
  have HK : Hid (Kp none' w ((w.alloc (.cells cc.toArray 25)).alloc (.cells cs.toArray 30))) := ((Kp.refl none' w).alloc _).alloc _
  clear hL hP hF hW hS hi hic hs hm hcs hcc hT hFs hB hsb hmay htl hfn hl htx hfl2 ok hq hc hE hbk hpk hfl
  go_enter Tryz.func8, Tryz.ntmps8
  go_upto_region 1 with fail
  generalize (w.alloc (.cells cc.toArray 25)).alloc (.cells cs.toArray 30) = w0 at *
  go_wp2_with (first
    | (refine wp_get_rowG (by exact rfl) 25 (.tmp 2) rfl HC.out _ rfl Tryz.underlying25 rfl HIc.out ?_)
    | (refine wp_get_rowG (by exact rfl) 30 (.tmp 3) rfl HB.out _ rfl Tryz.underlying30 rfl HI.out ?_))
  refine (HL.out w0 HK.out).mono ?_
  rintro e w1 ⟨⟨b1, rfl⟩, k1⟩
  have HC1 := Lib.hid (HC.out.kp k1 (fun x => x))
  have HB1 := Lib.hid (HB.out.kp k1 (fun x => x))
  have HK1 := Lib.hid (HK.out.trans k1)
  clear k1 HC HB HK HL
  go_wp2_with (refine wp_get_rowG (by exact rfl) 25 (.tmp 2) rfl HC1.out _ rfl Tryz.underlying25 rfl HIc.out ?_)
  refine (HPt.out w1 HK1.out).mono ?_
  rintro e w2 ⟨rfl, k2⟩
  have HB2 := Lib.hid (HB1.out.kp k2 (fun x => x))
  have HK2 := Lib.hid (HK1.out.trans k2)
  clear k2 HC1 HB1 HK1 HPt
  have hO : (w2.alloc (.cells #[.int .i64 6, .int .u64 0, .string T] 59)).ownsRow w.heap.size 59 3 (.slice (some ⟨w2.heap.size, 0, none⟩) 1 1) 1 (enFd (.txt T)) :=
    ⟨rfl, .inr ⟨w2.heap.size, 1, _, rfl, HK2.out.size, heap_new _ _, Nat.le_refl _, by unfold maxLen; omega, rfl, rfl⟩⟩
  have HO := Lib.hid hO
  have HB3 := Lib.hid (HB2.out.alloc (.cells #[.int .i64 6, .int .u64 0, .string T] 59))
  have HK3 := Lib.hid (HK2.out.alloc (.cells #[.int .i64 6, .int .u64 0, .string T] 59))
  clear hO HB2
  go_wp2_with (refine wp_get_rowG (by exact rfl) 30 (.tmp 3) rfl HB3.out _ rfl Tryz.underlying30 rfl HI.out ?_)
  refine (HF.out _ HK3.out).mono ?_
  rintro e w4 ⟨r, rfl, ho4, k4⟩
  have HO4 := Lib.hid (own_kp HO.out k4 (fun _ _ x => x))
  have HK4 := Lib.hid (HK3.out.trans k4)
  have HS4 := Lib.hid (own_sl ho4)
  obtain ⟨ra, rc, rfl⟩ := own_shape ho4
  have hz4 := HK4.out.size
  clear ho4 k4 HO HB3 HK3 HF HK2
  go_wp2_with (at_builtin; refine wp_appSl tFld (.tmp 29) (.tmp 31) rfl rfl w.heap.size HO4.out rfl rfl HS4.out (stFl_all _) (by omega) (by omega) hz4 ?_)
  intro v5 w5 hown hgrow
  have hne4 := fun b (hb : (Value.slice (some ⟨w2.heap.size, 0, none⟩) 1 1).ownBlock = some b) => (own_block HO4.out hb).1
  have hk5 : Kp (fun b => (Value.slice (some ⟨w2.heap.size, 0, none⟩) 1 1).ownBlock = some b) w4 w5 := (Kp.refl _ w4).grown hgrow (fun b hb => .inl hb)
  have HK5 := Lib.hid (HK4.out.then hk5 (fun i hi hb => by have := hne4 _ hb; omega))
  have hsl : Sl w5 v5 (Fd.txt T :: Fs).length 3 ((Fd.txt T :: Fs).flatMap enFd) := by
    have := own_sl hown
    rw [Nat.add_comm 1] at this
    exact this
  have HW5 := Lib.hid (HWr.out v5 w5 hsl)
  obtain ⟨va, vc, rfl⟩ := own_shape hown
  clear hown hgrow hne4 hk5 hsl HWr HO4 HS4 HK4
  go_wp2_with fail
  refine HW5.out.mono ?_
  rintro e w6 ⟨rfl, k6⟩
  have HK6 := Lib.hid (HK5.out.trans k6)
  clear k6 HK5 HW5
  go_wp2_with fail
  refine (HS.out w6).mono ?_
  rintro e w7 ⟨rfl, k7⟩
  have HK7 := Lib.hid (HK6.out.trans k7)
  clear k7 HK6 HS
  go_wp2_with fail
  exact HP.out _ _ ⟨rfl, HK7.out⟩
end Go.Proofs.YtlaakhfgidjofaaGreatDoor

namespace Go.Proofs.YtlaakhfgidjofaaGreatDoor
set_option linter.unusedVariables false
set_option linter.unusedSimpArgs false
open Go Go.RowKit
variable {P : Program} {ops : Array Oper} {Q : Exit → Act → World → Prop} {md : Region.Mode}
structure RN where
  R : Value → World → Prop
  S : Value → Prop
  wit : ∃ v, S v
  per : ∀ v w w', R v w → Kp none' w w' → R v w'
  need : List Nat := []
abbrev FactM := Nat → World → Prop
def updA (A : FactM) (i : Nat) (x : World → Prop) : FactM := fun j w => if j = i then x w else A j w
theorem updA_comm (A : FactM) {i p : Nat} (h : p ≠ i) (x y : World → Prop) : updA (updA A p x) i y = updA (updA A i y) p x := by
  funext j w
  unfold updA
  by_cases h1 : j = i
  · subst h1; simp [Ne.symm h]
  · by_cases h2 : j = p
    · subst h2; simp [h1]
    · simp [h1, h2]
def Have (A : FactM) (N : List Nat) (w : World) : Prop := ∀ j ∈ N, A j w
theorem have_upd {A : FactM} {N : List Nat} {p : Nat} (h : p ∉ N) (x : World → Prop) : Have (updA A p x) N = Have A N := by
  funext w
  unfold Have updA
  refine propext ⟨fun h1 j hj => ?_, fun h1 j hj => ?_⟩
  · have := h1 j hj; rw [if_neg (fun (e : j = p) => h (by rw [← e]; exact hj))] at this; exact this
  · rw [if_neg (fun (e : j = p) => h (by rw [← e]; exact hj))]; exact h1 j hj
def MkN (P : Program) (ops : Array Oper) (w0 : World) (R : RN) (B : World → Prop) (o : Oper) (a : Act) : Prop :=
  Region.wanted o (yielded ops a.tmps) = true ∧ ∀ w, Kp none' w0 w → B w → (∃ v w', (execOp a.eval o).run P w = .ok (.value v) w' ∧ R.R v w' ∧ R.S v ∧ Kp none' w w') ∨ ∃ f args, (execOp a.eval o).run P w = .ok (.enter f args) w ∧ Calls P f args w fun e w' => ∃ v, e = .returned v ∧ R.R v w' ∧ R.S v ∧ Kp none' w w'
theorem MkN.alike {w0 : World} {R : RN} {B : World → Prop} {o : Oper} {a a' : Act} (hy : MkN P ops w0 R B o a) (he : execOp a'.eval o = execOp a.eval o) (hw : Region.wanted o (yielded ops a'.tmps) = Region.wanted o (yielded ops a.tmps)) : MkN P ops w0 R B o a' := by
  unfold MkN at *; rw [he, hw]; exact hy
def wpN (P : Program) (ops : Array Oper) (w0 : World) (Rm : Nat → Option RN) (C : Act → FactM → Prop) : List Nat → Act → FactM → Prop
  | [], a, A => C a A
  | i :: r, a, A => ∃ o, ops[i]? = some o ∧ match Rm i with
    | none => ∃ v, EverU P ops w0 o v a ∧ wpN P ops w0 Rm C r (a.put o.dst v) A
    | some R => MkN P ops w0 R (Have A R.need) o a ∧ ∀ v, R.S v → wpN P ops w0 Rm C r (a.put o.dst v) (updA A i (R.R v))
def outN (P : Program) (ops : Array Oper) (w0 : World) (Rm : Nat → Option RN) (C : Act → FactM → Prop) (L : List Nat) (i : Nat) (o : Oper) (a : Act) (A : FactM) : Prop :=
  match Rm i with
  | none => ∃ v, EverU P ops w0 o v a ∧ wpN P ops w0 Rm C L (a.put o.dst v) A
  | some R => MkN P ops w0 R (Have A R.need) o a ∧ ∀ v, R.S v → wpN P ops w0 Rm C L (a.put o.dst v) (updA A i (R.R v))
theorem wpN.out {w0 : World} {Rm : Nat → Option RN} {C : Act → FactM → Prop} {i : Nat} {o : Oper} (hi : ops[i]? = some o) (hsel : ∀ (j : Nat) (o : Oper) cs b, ops[j]? = some o → o.op ≠ .select cs b) (post : List Nat) : ∀ (pre : List Nat) (a : Act) (A : FactM),
    (∀ p ∈ pre, p ≠ i ∧ (∀ R, Rm i = some R → p ∉ R.need) ∧ (∀ R, Rm p = some R → i ∉ R.need) ∧ ∀ op, ops[p]? = some op → op.apart ops o = true) → wpN P ops w0 Rm C (pre ++ i :: post) a A → outN P ops w0 Rm C (pre ++ post) i o a A
  | [], a, A, _, h => by
    obtain ⟨o', h1, h2⟩ := h
    have : o' = o := Option.some.inj (h1.symm.trans hi)
    subst this
    exact h2
  | p :: pre, a, A, hap, h => by
    obtain ⟨op, h1, h2⟩ := h
    obtain ⟨a1, a2, a3⟩ := Oper.apart_spec ((hap p List.mem_cons_self).2.2.2 op h1)
    have hso := fun cs b => hsel i o cs b hi
    have hsp := fun cs b => hsel p op cs b h1
    have hap' := fun q hq => hap q (List.mem_cons_of_mem _ hq)
    obtain ⟨hpi, hnd, hndp, _⟩ := hap p List.mem_cons_self
    have back : ∀ vp v, wpN P ops w0 Rm C (pre ++ post) ((a.put op.dst vp).put o.dst v) A → wpN P ops w0 Rm C (pre ++ post) ((a.put o.dst v).put op.dst vp) A := fun vp v h => by rw [← Act.put_comm a vp v a2]; exact h
    cases ep : Rm p with
    | none =>
      rw [ep] at h2
      obtain ⟨vp, e1, e2⟩ := h2
      have ih := wpN.out hi hsel post pre _ A hap' e2
      unfold outN at ih ⊢
      cases ei : Rm i with
      | none =>
        rw [ei] at ih
        obtain ⟨v, f1, f2⟩ := ih
        refine ⟨v, f1.alike (execOp_put o hso a op.dst vp a1).symm (wanted_put o a op.dst vp a1).symm, op, h1, ?_⟩
        rw [ep]
        exact ⟨vp, e1.alike (execOp_put op hsp a o.dst v a3) (wanted_put op a o.dst v a3), by rw [← Act.put_comm a vp v a2]; exact f2⟩
      | some R =>
        rw [ei] at ih
        refine ⟨ih.1.alike (execOp_put o hso a op.dst vp a1).symm (wanted_put o a op.dst vp a1).symm, fun v hv => ⟨op, h1, ?_⟩⟩
        rw [ep]
        exact ⟨vp, e1.alike (execOp_put op hsp a o.dst v a3) (wanted_put op a o.dst v a3), by rw [← Act.put_comm a vp v a2]; exact ih.2 v hv⟩
    | some Rp =>
      rw [ep] at h2
      obtain ⟨e1, e2⟩ := h2
      have ih := fun vp hvp => wpN.out hi hsel post pre _ _ hap' (e2 vp hvp)
      obtain ⟨u, hu⟩ := Rp.wit
      unfold outN at ih ⊢
      cases ei : Rm i with
      | none =>
        simp only [ei] at ih ⊢
        obtain ⟨v, f1, _⟩ := ih u hu
        have f1a := f1.alike (execOp_put o hso a op.dst u a1).symm (wanted_put o a op.dst u a1).symm
        refine ⟨v, f1a, op, h1, ?_⟩
        rw [ep]
        refine ⟨e1.alike (execOp_put op hsp a o.dst v a3) (wanted_put op a o.dst v a3), fun vp hvp => ?_⟩
        obtain ⟨v2, g1, g2⟩ := ih vp hvp
        have g1a := g1.alike (execOp_put o hso a op.dst vp a1).symm (wanted_put o a op.dst vp a1).symm
        have := f1a.uniq g1a
        subst this
        rw [← Act.put_comm a vp v a2]; exact g2
      | some R =>
        simp only [ei] at ih ⊢
        have ih1 := (ih u hu).1
        rw [have_upd (hnd R ei)] at ih1
        refine ⟨ih1.alike (execOp_put o hso a op.dst u a1).symm (wanted_put o a op.dst u a1).symm, fun v hv => ⟨op, h1, ?_⟩⟩
        rw [ep]
        have e1' := e1.alike (execOp_put op hsp a o.dst v a3) (wanted_put op a o.dst v a3)
        refine ⟨?_, fun vp hvp => ?_⟩
        · rw [have_upd (hndp Rp ep)]; exact e1'
        · rw [← Act.put_comm a vp v a2, ← updA_comm A hpi]
          exact (ih vp hvp).2 v hv
theorem wpAny_keptN {w0 : World} {n g : Nat} {Rm : Nat → Option RN} {C : Act → FactM → Prop} (hnd : ∀ i R, Rm i = some R → ∀ j ∈ R.need, j < i ∧ (match ops[j]?, ops[i]? with | some oj, some oi => oj.apart ops oi | _, _ => true) = false) (hsel : Region.noSelect ops = true) (hs : sinkE md ops [] n = true) (hc : Region.chainB md ops n = true) (hn : n < ops.size) (hd : depsB md ops = true) (hp : pairsB md ops n = true)
    (hC : ∀ listed a A w, listed.size = ops.size → (∀ i, i < n → listed.getD i false = true) → (∀ t, n ≤ t → t < ops.size → listed.getD t true = false) → C a A → Kp none' w0 w → (∀ j, A j w) → wpAny P md ops Q g listed a w) :
    ∀ (m : Nat) (R : List Nat) (listed : Array Bool) (a : Act) (A : FactM) (w : World), R.length = m → R.Pairwise (· < ·) → (∀ i ∈ R, i < n) → (∀ i, i < n → (listed.getD i true = false ↔ i ∈ R)) → HeadInv md ops n listed → Kp none' w0 w → (∀ j, A j w) → (∀ j w w', A j w → Kp none' w w' → A j w') →
      wpN P ops w0 Rm C R a A → wpAny P md ops Q (m + g) listed a w := by
  intro m
  induction m with
  | zero =>
    intro R listed a A w hl _ _ hR inv hk hA hAp h
    have : R = [] := List.eq_nil_of_length_eq_zero hl
    subst this
    rw [Nat.zero_add]
    exact hC listed a A w inv.size (fun i hi => getD_true_of (by rw [inv.size]; omega) (fun h0 => by have := (hR i hi).1 h0; cases this)) inv.tail h hk hA
  | succ m ih =>
    intro R listed a A w hl hpw hRn hR inv hk hA hAp h
    obtain ⟨r0, R', rfl⟩ : ∃ r0 R', R = r0 :: R' := by cases R with | nil => simp at hl | cons r R' => exact ⟨_, _, rfl⟩
    have hr0 : r0 < n := hRn r0 List.mem_cons_self
    have hun0 : listed.getD r0 true = false := (hR r0 hr0).2 List.mem_cons_self
    rw [show m + 1 + g = (m + g) + 1 by omega]
    refine ⟨fun h0 => ?_, fun i hi => ?_⟩
    · have : r0 ∈ Region.ready md ops listed := by
        obtain ⟨o, ho⟩ : ∃ o, ops[r0]? = some o := ⟨_, Array.getElem?_eq_getElem (by omega)⟩
        refine mem_ready.2 ⟨hun0, o, ho, fun e he hb => ?_⟩
        have hlt := depsB_spec hd r0 o ho e he hb
        refine getD_true_of (by rw [inv.size]; omega) (fun h1 => ?_)
        have hm := (hR e.on (by omega)).1 h1
        rcases List.mem_cons.1 hm with h2 | h2
        · omega
        · have := (List.pairwise_cons.1 hpw).1 _ h2; omega
      rw [h0] at this; cases this
    · have hin : i < n := by
        rcases Nat.lt_or_ge i n with h1 | h1
        · exact h1
        · exact absurd hi (tail_waitsE hs hc hn inv (fun e he => by cases he) _ r0 rfl hr0 hun0 i h1)
      obtain ⟨hun, oi, hoi, hall⟩ := mem_ready.1 hi
      have hm := (hR i hin).1 hun
      obtain ⟨pre, post, hpp⟩ := List.append_of_mem hm
      rw [hpp] at h hpw hR hRn hl
      have hpre : ∀ p ∈ pre, p < i := fun p hp => (List.pairwise_append.1 hpw).2.2 p hp i List.mem_cons_self
      have hpost : ∀ p ∈ post, i < p := fun p hp => (List.pairwise_cons.1 (List.pairwise_append.1 hpw).2.1).1 p hp
      have hdn : ∀ p ∈ pre, ∀ op, ops[p]? = some op → op.apart ops oi = true := fun p hp' op hop => pairsB_spec hp p i op oi (hpre p hp') hin hop hoi (fun e he hb heq => by
        have h1 := hall e he hb
        have h2 := (hR p (hRn p (List.mem_append_left _ hp'))).2 (List.mem_append_left _ hp')
        rw [heq, getD_both h2] at h1; cases h1)
      have hd1 : ∀ p ∈ pre, ∀ R, Rm i = some R → p ∉ R.need := fun p hp' R hr hm => by
        obtain ⟨_, h2⟩ := hnd i R hr p hm
        obtain ⟨op, hop⟩ : ∃ op, ops[p]? = some op := ⟨_, Array.getElem?_eq_getElem (by have := hpre p hp'; omega)⟩
        rw [hop, hoi] at h2
        simp only [hdn p hp' op hop] at h2
        cases h2
      have hd2 : ∀ p ∈ pre, ∀ R, Rm p = some R → i ∉ R.need := fun p hp' R hr hm => by
        have := (hnd p R hr i hm).1
        have := hpre p hp'
        omega
      have hout := wpN.out hoi (Region.noSelect_spec hsel) post pre a A (fun p hp' => ⟨fun e => by have := hpre p hp'; omega, hd1 p hp', hd2 p hp', hdn p hp'⟩) h
      have hsub : (pre ++ post).Sublist (pre ++ i :: post) := List.Sublist.append_left (List.sublist_cons_self _ _) _
      have hlist : ∀ j, j < n → ((listed.setIfInBounds i true).getD j true = false ↔ j ∈ pre ++ post) := fun j hj => by
        by_cases hji : i = j
        · subst hji
          have h1 : (listed.setIfInBounds i true).getD i true = true := by
            have : i < listed.size := by rw [inv.size]; omega
            simp [this]
          rw [h1]
          refine ⟨fun h => (by cases h), fun h => ?_⟩
          rcases List.mem_append.1 h with h | h
          · have := hpre _ h; omega
          · have := hpost _ h; omega
        · rw [getD_set_ne true hji, hR j hj]
          constructor
          · intro h
            rcases List.mem_append.1 h with h | h
            · exact List.mem_append_left _ h
            · rcases List.mem_cons.1 h with h | h
              · omega
              · exact List.mem_append_right _ h
          · intro h; exact hsub.subset h
      have hgo : ∀ a' A' w', Kp none' w0 w' → (∀ j, A' j w') → (∀ j w w', A' j w → Kp none' w w' → A' j w') → wpN P ops w0 Rm C (pre ++ post) a' A' → wpAny P md ops Q (m + g) (listed.setIfInBounds i true) a' w' := fun a' A' w' hk' hA' hAp' h' =>
        ih (pre ++ post) _ a' A' w' (by simp at hl ⊢; omega) (hpw.sublist hsub) (fun j hj => hRn j (hsub.subset hj)) hlist (inv.set hi hin) hk' hA' hAp' h'
      unfold outN at hout
      unfold Go.wpOp
      simp only [hoi]
      cases er : Rm i with
      | none =>
        rw [er] at hout
        obtain ⟨v, e1, e2⟩ := hout
        rcases e1 with ⟨hw, hv⟩ | ⟨hw, rfl⟩
        · rw [if_pos hw]
          refine .inl ?_
          unfold Oper.wp
          rw [hv w hk]
          exact hgo _ _ _ hk hA hAp e2
        · rw [if_neg (by rw [hw]; simp)]
          exact hgo _ _ _ hk hA hAp e2
      | some R =>
        rw [er] at hout
        obtain ⟨⟨hw, hv⟩, e2⟩ := hout
        have hAp2 : ∀ v, ∀ j w w', updA A i (R.R v) j w → Kp none' w w' → updA A i (R.R v) j w' := fun v j w w' h k => by
          unfold updA at *
          split
          · rename_i e; rw [if_pos e] at h; exact R.per v w w' h k
          · rename_i e; rw [if_neg e] at h; exact hAp j w w' h k
        have hA2 : ∀ v w', Kp none' w w' → R.R v w' → ∀ j, updA A i (R.R v) j w' := fun v w' k hr j => by
          unfold updA
          split
          · exact hr
          · exact hAp j _ _ (hA j) k
        rw [if_pos hw]
        refine .inl ?_
        unfold Oper.wp
        rcases hv w hk (fun j _ => hA j) with ⟨v, w', e, hr, hs, hk'⟩ | ⟨f, args, e, hcl⟩
        · rw [e]
          exact hgo _ _ _ (hk.trans hk') (hA2 v _ hk' hr) (hAp2 v) (e2 v hs)
        · rw [e]
          refine Calls.mono hcl fun x w' hx => ?_
          obtain ⟨v, rfl, hr, hs, hk'⟩ := hx
          exact hgo _ _ _ (hk.trans hk') (hA2 v _ hk' hr) (hAp2 v) (e2 v hs)
def pickN (l : List Oper) (Rm : Nat → Option RN) : List Nat → List (Oper × Option (Nat × RN))
  | [] => []
  | k :: r => match l[k]? with
    | some o => (o, (Rm k).map (fun R => (k, R))) :: pickN l Rm r
    | none => pickN l Rm r
def wpNL (P : Program) (ops : Array Oper) (w0 : World) (C : Act → FactM → Prop) : List (Oper × Option (Nat × RN)) → Act → FactM → Prop
  | [], a, A => C a A
  | (o, none) :: r, a, A => ∃ v, EverU P ops w0 o v a ∧ wpNL P ops w0 C r (a.put o.dst v) A
  | (o, some (i, R)) :: r, a, A => MkN P ops w0 R (Have A R.need) o a ∧ ∀ v, R.S v → wpNL P ops w0 C r (a.put o.dst v) (updA A i (R.R v))
theorem wpN_of_list {w0 : World} {Rm : Nat → Option RN} {C : Act → FactM → Prop} {l : List Oper} : ∀ (K : List Nat) (a : Act) (A : FactM), K.all (fun k => decide (k < l.length)) = true → wpNL P l.toArray w0 C (pickN l Rm K) a A → wpN P l.toArray w0 Rm C K a A
  | [], a, A, _, h => h
  | k :: K, a, A, hb, h => by
    simp only [List.all_cons, Bool.and_eq_true, decide_eq_true_eq] at hb
    have hk : l[k]? = some l[k] := List.getElem?_eq_getElem hb.1
    simp only [pickN, hk] at h
    refine ⟨l[k], by rw [List.getElem?_toArray]; exact hk, ?_⟩
    cases e : Rm k with
    | none =>
      rw [e] at h
      obtain ⟨v, h1, h2⟩ := h
      exact ⟨v, h1, wpN_of_list K _ _ hb.2 h2⟩
    | some R =>
      rw [e] at h
      exact ⟨h.1, fun v hv => wpN_of_list K _ _ hb.2 (h.2 v hv)⟩
theorem wp_region_keptN {id : Nat} {a : Act} {w : World} {l : List Oper} (Rm : Nat → Option RN) (K : List Nat) (n : Nat) (hm : P.follows .mixedOrders = true) (hB : (keptB .any l.toArray [] K n && K.all (fun k => decide (k < l.length))) = true)
    (hnd : ∀ i R, Rm i = some R → ∀ j ∈ R.need, j < i ∧ (match l[j]?, l[i]? with | some oj, some oi => oj.apart l.toArray oi | _, _ => true) = false)
    (h : wpNL P l.toArray w (fun a' A => ∀ W, Kp none' w W → (∀ j, A j W) → wpList P l.toArray Q (l.drop n) a' W) (pickN l Rm K) a (fun _ _ => True)) : (Code.region id l.toArray true).wp P Q a w := by
  simp only [Bool.and_eq_true] at hB
  obtain ⟨hB, hK⟩ := hB
  have h' := wpN_of_list K a _ hK h
  simp only [keptB, Bool.and_eq_true, decide_eq_true_eq] at hB
  obtain ⟨⟨⟨⟨⟨⟨⟨⟨⟨⟨⟨⟨⟨⟨⟨b1, b2⟩, b3⟩, b4⟩, b5⟩, b6⟩, b7⟩, b8⟩, b9⟩, b10⟩, b11⟩, b12⟩, b13⟩, b14⟩, b15⟩, b16⟩ := hB
  have hsz : l.toArray.size = l.length := by simp
  refine wp_region_any hm ?_
  have inv0 : HeadInv .any l.toArray n (listE l.toArray []) := by
    refine ⟨b12, fun j oj hj hl e he hb => ?_, fun t ht ht' => ?_⟩
    · have h1 := List.all_eq_true.1 b14 j (List.mem_range.2 (Array.getElem?_eq_some_iff.1 hj).1)
      simp only [hj, hl, Bool.not_true, Bool.false_or] at h1
      have h2 := Array.all_eq_true_iff_forall_mem.1 h1 e he
      simpa [hb] using h2
    · have h1 := List.all_eq_true.1 b13 t (List.mem_range.2 ht')
      rw [decide_eq_false (by omega), Bool.false_or] at h1
      simpa using h1
  have hfin := wpAny_keptN (P := P) (md := .any) (ops := l.toArray) (Q := Q) (w0 := w) (n := n) (g := l.toArray.size - n) (Rm := Rm) (C := fun a' A => ∀ W, Kp none' w W → (∀ j, A j W) → wpList P l.toArray Q (l.drop n) a' W)
    (fun i R hr j hj => by simpa only [List.getElem?_toArray] using hnd i R hr j hj) b1 b3 b4 b2 b5 b6 (fun listed a'' A w' hs h1 h2 hcc hk hA => by
      have hcan : listed = canonB l.toArray n := by
        apply Array.ext
        · simp [canonB, hs]
        · intro i hi1 hi2
          have hil : i < l.toArray.size := by rw [← hs]; exact hi1
          simp only [canonB, List.map_toArray, List.getElem_toArray, List.getElem_map, List.getElem_range]
          by_cases hin : i < n
          · have := h1 i hin; simp [hi1] at this; rw [this, decide_eq_true hin]
          · have := h2 i (by omega) hil; simp [hi1] at this; rw [this, decide_eq_false hin]
      subst hcan
      have hdl : (l.drop n).length = l.toArray.size - n := by simp
      have := wpAny_of_seq (P := P) (md := .any) (ops := l.toArray) (Q' := Q) (l.drop n) n (canonB l.toArray n) a'' w' (fun j => by simp [List.getElem?_drop]) (by rw [hdl]; exact b15) (hcc w' hk hA)
      rwa [hdl] at this) K.length K (listE l.toArray []) a _ w.drew rfl (sortedB_spec K b8) (fun i hi => by simpa using List.all_eq_true.1 b9 i hi) (fun i hi => by
        have h1 := List.all_eq_true.1 b10 i (List.mem_range.2 hi)
        rw [beq_iff_eq] at h1
        rw [h1]; simp) inv0 (Kp.refl none' w).drew (fun _ => trivial) (fun _ _ _ _ _ => trivial) h'
  have hKn : K.length = n := by simpa using b16
  rw [hKn, show n + (l.toArray.size - n) = l.toArray.size by omega] at hfin
  exact hfin
theorem wpNL_op {w0 : World} {C : Act → FactM → Prop} {r : List (Oper × Option (Nat × RN))} {o : Oper} {a : Act} {A : FactM} {v : Value} (hw : Region.wanted o (yielded ops a.tmps) = true) (h1 : ∀ W, Kp none' w0 W → (execOp a.eval o).run P W = .ok (.value v) W) (h2 : wpNL P ops w0 C r (a.put o.dst v) A) : wpNL P ops w0 C ((o, none) :: r) a A :=
  ⟨v, .inl ⟨hw, h1⟩, h2⟩
theorem wpNL_call {w0 : World} {C : Act → FactM → Prop} {r : List (Oper × Option (Nat × RN))} {i : Nat} {o : Oper} {a : Act} {A : FactM} {R : RN} {f : FuncId} {args : Array Value} (hw : Region.wanted o (yielded ops a.tmps) = true) (h1 : ∀ W, (execOp a.eval o).run P W = .ok (.enter f args) W)
    (hc : ∀ W, Kp none' w0 W → Have A R.need W → Calls P f args W fun e w' => ∃ v, e = .returned v ∧ R.R v w' ∧ R.S v ∧ Kp none' W w') (h2 : ∀ v, R.S v → wpNL P ops w0 C r (a.put o.dst v) (updA A i (R.R v))) : wpNL P ops w0 C ((o, some (i, R)) :: r) a A :=
  ⟨⟨hw, fun W hk hb => .inr ⟨f, args, h1 W, hc W hk hb⟩⟩, h2⟩
end Go.Proofs.YtlaakhfgidjofaaGreatDoor

namespace Go.Proofs.YtlaakhfgidjofaaGreatDoor
set_option linter.unusedVariables false
set_option linter.unusedSimpArgs false
open Go Go.RowKit Go.Shelf
structure SnOk (c : CfR) (s : StS) : Prop where
  hc : c.ok
  hE : chk c = 0
  hbk : c.back = 1
  hpk : 1 ≤ c.packets ∧ c.packets ≤ 4096
  hfl : c.flows.length ≤ 64
  ok : s.ok
  hq : s.qs = [[]]
  hmay : mayL c s = true
  htl : s.tags.length = c.flows.length
  hfn : ∀ f ∈ stF s, f.ok
  hn : (stF s).length ≤ 100000
  hl : (snB c s).length ≤ 800000
  htx : (tx (putT c)).size ≤ 65535
theorem SnOk.put {c : CfR} {s : StS} (h : SnOk c s) {v vt vb vq : Value} {vs : List Value} {w : World} (hs : Sl w v c.flows.length 5 (c.flows.flatMap enFl)) (hm : StM w s vt vb vq vs) :
    Calls Tryz.prog 8 #[.agg (enC c v).toArray, .agg (stC s.now s.tok s.virt s.ref vt vb vq).toArray] w fun e w' => e = .returned (.tuple #[.string (tx (sealL (snB c s))), .int .i64 0]) ∧ Kp none' w w' :=
  aPut0 c h.hc h.hE h.hbk h.hpk h.hfl v s h.ok h.hq h.hmay h.htl h.hfn h.hn h.hl h.htx vt vb vq vs w hs hm
theorem SnOk.load {c : CfR} {s : StS} (h : SnOk c s) {v vt vb vq : Value} {vs : List Value} {w : World} (hs : Sl w v c.flows.length 5 (c.flows.flatMap enFl)) (hm : StM w s vt vb vq vs) :
    Calls Tryz.prog 17 #[.agg (enC c v).toArray, .agg (stC s.now s.tok s.virt s.ref vt vb vq).toArray] w fun e w' => (∃ b, e = .returned (.tuple #[.pointer (some ⟨b, 0, none⟩), .int .i64 0])) ∧ Kp none' w w' :=
  aLoad0 c h.hc h.hE h.hbk h.hpk h.hfl v s h.ok h.hq h.hmay h.htl vt vb vq vs w hs hm
def st0 (S : Sh) : StS := ⟨S.now, S.tok, S.r.virt, List.replicate 32 0, S.r.tags, [], [[]]⟩
def stN (S : Sh) (base : Nat) : RN where
  R v W := ∃ vt vq, v = .agg (stC S.now S.tok S.r.virt (List.replicate 32 0) vt (.slice none 0 0) vq).toArray ∧ W.ownsRow base 22 1 vt S.r.tags.length (n8s S.r.tags) ∧ W.ownsRow base 47 1 vq 1 [.slice none 0 0]
  S _ := True
  wit := ⟨undef, trivial⟩
  per := fun _ _ _ ⟨vt, vq, h1, h2, h3⟩ k => ⟨vt, vq, h1, own_kp h2 k (fun _ _ x => x), own_kp h3 k (fun _ _ x => x)⟩
def knN (v0 : Value) (N : List Nat) : RN where
  R _ _ := True
  S v := v = v0
  wit := ⟨v0, rfl⟩
  per := fun _ _ _ _ _ => trivial
  need := N
theorem aSave0 {c : CfR} {w : World} {f : ShF} {S : Sh} (h : ShM w f S) (n : Nat) (hbk : S.bk = .hp n []) (href : S.ref = List.replicate 32 0) (ho : SnOk c (st0 S)) (v : Value) (hs : Sl w v c.flows.length 5 (c.flows.flatMap enFl)) :
    Calls Tryz.prog 13 #[.agg (enC c v).toArray, .pointer (some ⟨f.sb, 0, none⟩)] w fun e w' => e = .returned (.tuple #[.string (tx (sealL (snB c (st0 S)))), .int .i64 0]) ∧ Kp none' w w' := by
  have hSt := fun W (k : Kp none' w W) => aState0 (h.old k) n hbk href
  have hPt := fun vt vq W (k : Kp none' w W) (h1 : W.ownsRow w.heap.size 22 1 vt S.r.tags.length (n8s S.r.tags)) (h2 : W.ownsRow w.heap.size 47 1 vq 1 [.slice none 0 0]) =>
    ho.put (w := W) (hs.old k) (⟨own_sl h1, own_sl (World.ownsRow_nil W 0 22 1), own_sl h2, own_sl (World.ownsRow_nil W 0 73 4), trivial⟩ : StM W (st0 S) vt (.slice none 0 0) vq [.slice none 0 0])
  have HC := Lib.hid (Blk.new w (enC c v) 25)
  have HK : Hid (Kp none' w (w.alloc (.cells (enC c v).toArray 25))) := (Kp.refl none' w).alloc _
  have HS := Lib.hid hSt; have HP := Lib.hid hPt
  have hlt := (h.top.kp HK.out (fun x => x)).lt
  clear hSt hPt h hbk href ho hs
  go_enter Tryz.func13, Tryz.ntmps13
  go_upto_region 3 with fail
  generalize w.alloc (.cells (enC c v).toArray 25) = w0 at *
  obtain ⟨Rm, hRm⟩ : ∃ Rm : Nat → Option RN, Rm = fun | 2 => some (stN S w.heap.size) | 3 => some (knN (.tuple #[.string (tx (sealL (snB c (st0 S)))), .int .i64 0]) [2]) | _ => none := ⟨_, rfl⟩
  have hLC : ∀ W, Kp none' w0 W → (Instr.loadAt 25 (.pointer (some ⟨w.heap.size, 0, none⟩))).run Tryz.prog W = .ok (.agg (enC c v).toArray) W := fun W hK => run_loadAt_mid W _ 0 25 (enC c v) _ (fun j u hu => by rw [Nat.zero_add]; exact hK.cell (HC.out.cell j hu) (fun x => x)) Tryz.underlying25 rfl infoCf
  refine wp_region_keptN Rm [0, 1, 2, 3, 4, 5] 6 (by kernel_rfl) (by kernel_rfl) ?_ ?_
  · intro i R hr j hj
    subst hRm
    rcases i with _ | _ | _ | _ | i
    · cases hr
    · cases hr
    · cases hr; cases hj
    · cases hr
      have : j = 2 := by simpa [knN] using hj
      subst this
      exact ⟨by omega, by rfl⟩
    · cases hr
  subst hRm
  simp only [pickN, List.getElem?_cons_succ, List.getElem?_cons_zero, List.drop_succ_cons, List.drop_zero, Option.map_some, Option.map_none]
  refine wpNL_op (by exact rfl) (load_at rfl rfl hLC) ?_; simp only [Act.put, List.setIfInBounds_toArray, List.set_cons_succ, List.set_cons_zero]
  refine wpNL_op (by exact rfl) (by as_aux_lemma => intro W hK; go_simp; exact rfl) ?_; simp only [Act.put, List.setIfInBounds_toArray, List.set_cons_succ, List.set_cons_zero]
  refine wpNL_call (by exact rfl) (by as_aux_lemma => intro W; go_simp <;> exact ⟨rfl, rfl⟩) (fun W hK _ => (HS.out W (HK.out.trans hK)).mono fun e w' ⟨vt, vq, h1, h2, h3, h4⟩ => ⟨_, h1, ⟨vt, vq, rfl, own_base h2 (HK.out.trans hK).size, own_base h3 (HK.out.trans hK).size⟩, trivial, h4⟩) ?_
  intro x _; simp only [Act.put, List.setIfInBounds_toArray, List.set_cons_succ, List.set_cons_zero]
  refine wpNL_call (by exact rfl) (by as_aux_lemma => intro W; go_simp <;> exact ⟨rfl, rfl⟩) (fun W hK hA => by
    obtain ⟨vt, vq, rfl, h2, h3⟩ := hA 2 (List.mem_singleton.2 rfl)
    exact (HP.out vt vq W (HK.out.trans hK) h2 h3).mono fun e w' ⟨h4, h5⟩ => ⟨_, h4, trivial, rfl, h5⟩) ?_
  rintro _ rfl; simp only [Act.put, List.setIfInBounds_toArray, List.set_cons_succ, List.set_cons_zero]
  refine wpNL_op (by exact rfl) (by as_aux_lemma => intro W hK; go_simp; exact rfl) ?_; simp only [Act.put, List.setIfInBounds_toArray, List.set_cons_succ, List.set_cons_zero]
  refine wpNL_op (by exact rfl) (by as_aux_lemma => intro W hK; go_simp; exact rfl) ?_; simp only [Act.put, List.setIfInBounds_toArray, List.set_cons_succ, List.set_cons_zero]
  show ∀ W, _ → _ → wpList _ _ _ _ _ _
  intro W hK _
  have HKw := Lib.hid (HK.out.trans hK)
  clear hK HK HC HS HP hLC
  go_wp2_with fail
  go_ret2
  exact ⟨rfl, HKw.out⟩
theorem aSaveN (c : CfR) (v : Value) (w : World) : Calls Tryz.prog 13 #[.agg (enC c v).toArray, .pointer none] w fun e w' => e = .returned (.tuple #[.string ⟨#[]⟩, .int .i64 10]) ∧ Kp none' w w' := by
  have k0 : Kp none' w (w.alloc (.cells (enC c v).toArray 25)) := (Kp.refl none' w).alloc _
  go_enter Tryz.func13, Tryz.ntmps13
  go_wp2_with fail
  go_ret2
  exact ⟨rfl, k0⟩
end Go.Proofs.YtlaakhfgidjofaaGreatDoor
