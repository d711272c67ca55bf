/- A region that draws its order, in which some operations yield the same in every world (taken first), others yield the same in every world in which what was there is as it was, and make memory at most; the last few wait for all of these. Walked once, in the text's order. Names no function of the program. -/
import Derived.Test.YtlaakhfgidjofaaGreatDoorMSnapNobodyF4
import Derived.StillTail
import Derived.Test.YtlaakhfgidjofaaGreatDoorMSnapNobodyF3
import Derived.Test.YtlaakhfgidjofaaGreatDoorShelf
import Derived.Test.YtlaakhfgidjofaaGreatDoorMSnapNobodyF2
import Derived.Lib.Join
namespace Go.Proofs.YtlaakhfgidjofaaGreatDoor
set_option linter.unusedVariables false
set_option linter.unusedSimpArgs false
open Go Go.RowKit
def EverK (P : Program) (ops : Array Oper) (w0 : World) (o : Oper) (v : Value) (a : Act) : Prop :=
  (Region.wanted o (yielded ops a.tmps) = true ∧ ∀ w, Kp none' w0 w → (execOp a.eval o).run P w = .ok (.value v) w ∨ (∃ f args, (execOp a.eval o).run P w = .ok (.enter f args) w ∧ Calls P f args w fun e w' => e = .returned v ∧ Kp none' w w') ∨ ((execOp a.eval o).run P w = .ok .skip w ∧ v = undef)) ∨
  (Region.wanted o (yielded ops a.tmps) = false ∧ v = undef)
variable {P : Program} {ops : Array Oper} {Q : Exit → Act → World → Prop} {md : Region.Mode}
theorem EverK.wpOp {w0 : World} {i : Nat} {o : Oper} {v : Value} {a : Act} (hi : ops[i]? = some o) (hy : EverK P ops w0 o v a) {K : Act → World → Prop} {w : World} (hk : Kp none' w0 w) (h : ∀ w', Kp none' w0 w' → K (a.put o.dst v) w') : Go.wpOp P ops Q i K a w := by
  unfold Go.wpOp
  simp only [hi]
  rcases hy with ⟨hw, hv⟩ | ⟨hw, rfl⟩
  · rw [if_pos hw]
    refine .inl ?_
    unfold Oper.wp
    rcases hv w hk with e | ⟨f, args, e, hc⟩ | ⟨e, rfl⟩
    · rw [e]; exact h w hk
    · rw [e]
      refine Calls.mono hc fun x w' hx => ?_
      obtain ⟨rfl, hk'⟩ := hx
      exact h w' (hk.trans hk')
    · rw [e]; exact h w hk
  · rw [if_neg (by rw [hw]; simp)]; exact h w hk
theorem EverK.alike {w0 : World} {o : Oper} {v : Value} {a a' : Act} (hy : EverK P ops w0 o v a) (he : execOp a'.eval o = execOp a.eval o) (hw : Region.wanted o (yielded ops a'.tmps) = Region.wanted o (yielded ops a.tmps)) : EverK P ops w0 o v a' := by
  unfold EverK at *; rw [he, hw]; exact hy
def wpKept (P : Program) (ops : Array Oper) (w0 : World) (C : Act → Prop) : List Nat → Act → Prop
  | [], a => C a
  | i :: r, a => ∃ o v, ops[i]? = some o ∧ EverK P ops w0 o v a ∧ wpKept P ops w0 C r (a.put o.dst v)
def wpEvers (P : Program) (ops : Array Oper) (C : Act → Prop) : List Nat → Act → Prop
  | [], a => C a
  | i :: r, a => ∃ o v, ops[i]? = some o ∧ Ever P ops o v a ∧ wpEvers P ops C r (a.put o.dst v)
theorem wpKept.out {w0 : World} {C : Act → Prop} {i : Nat} {o : Oper} (hi : ops[i]? = some o) (hsel : ∀ (j : Nat) (o : Oper) cs b, ops[j]? = some o → o.op ≠ .select cs b) (post : List Nat) : ∀ (pre : List Nat) (a : Act),
    (∀ p ∈ pre, ∀ op, ops[p]? = some op → op.apart ops o = true) → wpKept P ops w0 C (pre ++ i :: post) a → ∃ v, EverK P ops w0 o v a ∧ wpKept P ops w0 C (pre ++ post) (a.put o.dst v)
  | [], a, _, h => by
    obtain ⟨o', v, h1, h2, h3⟩ := h
    have : o' = o := Option.some.inj (h1.symm.trans hi)
    subst this
    exact ⟨v, h2, h3⟩
  | p :: pre, a, hap, h => by
    obtain ⟨op, vp, h1, h2, h3⟩ := h
    obtain ⟨v, e1, e2⟩ := wpKept.out hi hsel post pre _ (fun q hq => hap q (List.mem_cons_of_mem _ hq)) h3
    obtain ⟨a1, a2, a3⟩ := Oper.apart_spec (hap p List.mem_cons_self op h1)
    have hso := fun cs b => hsel i o cs b hi
    have hsp := fun cs b => hsel p op cs b h1
    refine ⟨v, e1.alike (execOp_put o hso a op.dst vp a1).symm (wanted_put o a op.dst vp a1).symm, op, vp, h1, h2.alike (execOp_put op hsp a o.dst v a3) (wanted_put op a o.dst v a3), ?_⟩
    rw [← Act.put_comm a vp v a2]; exact e2
def sinkE (md : Region.Mode) (ops : Array Oper) (E : List Nat) (n : Nat) : Bool :=
  (List.range n).all fun i => E.contains i || (List.range (n + 1)).any fun j => decide (i < j) && Region.waitsFor md ops j i
theorem tail_waitsE {E : List Nat} {n : Nat} {listed : Array Bool} (hs : sinkE md ops E n = true) (hc : Region.chainB md ops n = true) (hn : n < ops.size) (inv : HeadInv md ops n listed) (hE : ∀ e ∈ E, listed.getD e false = true) :
    ∀ (d i : Nat), n - i = d → i < n → listed.getD i true = false → ∀ t, n ≤ t → t ∉ Region.ready md ops listed := by
  intro d
  induction d using Nat.strongRecOn with
  | _ d ih =>
    intro i hd hi hun t ht hr
    obtain ⟨_, ot, hot, hall⟩ := mem_ready.1 hr
    have htlt : t < ops.size := (Array.getElem?_eq_some_iff.1 hot).1
    by_cases htn : t = n
    · subst htn
      have h1 := List.all_eq_true.1 hs i (List.mem_range.2 hi)
      rw [Bool.or_eq_true] at h1
      rcases h1 with h1 | h1
      · have := hE i (by simpa using h1)
        rw [getD_both hun] at this; cases this
      · obtain ⟨j, hj, hj2⟩ := List.any_eq_true.1 h1
        simp only [Bool.and_eq_true, decide_eq_true_eq] at hj2
        obtain ⟨oj, hoj, e, he, hb, hon⟩ := Region.waitsFor_spec hj2.2
        have hjle : j ≤ t := by have := List.mem_range.1 hj; omega
        by_cases hjt : j = t
        · subst hjt
          have : oj = ot := Option.some.inj (hoj.symm.trans hot)
          subst this
          have h2 := hall e he hb
          rw [hon, getD_both hun] at h2
          cases h2
        · cases hl : listed.getD j false with
          | true =>
            have h2 := inv.closed j oj hoj hl e he hb
            rw [hon, getD_both hun] at h2
            cases h2
          | false =>
            have hjs : j < listed.size := by rw [inv.size]; omega
            exact ih (t - j) (by omega) j rfl (by omega) (getD_in hjs hl) t (Nat.le_refl _) hr
    · have h1 := List.all_eq_true.1 hc t (List.mem_range.2 htlt)
      simp only [Bool.or_eq_true, decide_eq_true_eq] at h1
      rcases h1 with h1 | h1
      · omega
      · obtain ⟨o', ho', e, he, hb, hon⟩ := Region.waitsFor_spec h1
        have : o' = ot := Option.some.inj (ho'.symm.trans hot)
        subst this
        have h2 := hall e he hb
        rw [hon, getD_both (inv.tail (t - 1) (by omega) (by omega))] at h2
        cases h2
def depsB (md : Region.Mode) (ops : Array Oper) : Bool :=
  (List.range ops.size).all fun j => match ops[j]? with | some oj => oj.after.all fun e => !Region.binds md e || decide (e.on < j) | none => true
theorem depsB_spec (h : depsB md ops = true) (j : Nat) (oj : Oper) (hj : ops[j]? = some oj) : ∀ e ∈ oj.after, Region.binds md e = true → e.on < j := by
  intro e he hb
  have h1 := List.all_eq_true.1 h j (List.mem_range.2 (Array.getElem?_eq_some_iff.1 hj).1)
  simp only [hj] at h1
  have h2 := Array.all_eq_true_iff_forall_mem.1 h1 e he
  simpa [hb] using h2
def pairsB (md : Region.Mode) (ops : Array Oper) (n : Nat) : Bool :=
  (List.range n).all fun i => (List.range i).all fun p => Region.waitsFor md ops i p || match ops[p]?, ops[i]? with | some op, some oi => op.apart ops oi | _, _ => true
theorem pairsB_spec {n : Nat} (h : pairsB md ops n = true) (p i : Nat) (op oi : Oper) (hpi : p < i) (hi : i < n) (h1 : ops[p]? = some op) (h2 : ops[i]? = some oi) (hno : ∀ e ∈ oi.after, Region.binds md e = true → e.on ≠ p) : op.apart ops oi = true := by
  have h3 := List.all_eq_true.1 (List.all_eq_true.1 h i (List.mem_range.2 hi)) p (List.mem_range.2 hpi)
  rw [Bool.or_eq_true] at h3
  rcases h3 with h3 | h3
  · obtain ⟨oj, hoj, e, he, hb, hon⟩ := Region.waitsFor_spec h3
    have : oj = oi := Option.some.inj (hoj.symm.trans h2)
    subst this
    exact absurd hon (hno e he hb)
  · simpa [h1, h2] using h3
theorem getD_true_of {listed : Array Bool} {i : Nat} (hi : i < listed.size) (h : ¬ listed.getD i true = false) : listed.getD i false = true := by
  simp [hi] at h ⊢; exact h
theorem wpAny_kept {w0 : World} {n g : Nat} {E : List Nat} {C : Act → Prop} (hsel : Region.noSelect ops = true) (hs : sinkE md ops E n = true) (hc : Region.chainB md ops n = true) (hn : n < ops.size) (hd : depsB md ops = true) (hp : pairsB md ops n = true)
    (hC : ∀ listed a w, listed.size = ops.size → (∀ i, i < n → listed.getD i false = true) → (∀ t, n ≤ t → t < ops.size → listed.getD t true = false) → C a → Kp none' w0 w → wpAny P md ops Q g listed a w) :
    ∀ (m : Nat) (R : List Nat) (listed : Array Bool) (a : Act) (w : World), R.length = m → R.Pairwise (· < ·) → (∀ i ∈ R, i < n) → (∀ i, i < n → (listed.getD i true = false ↔ i ∈ R)) → (∀ e ∈ E, listed.getD e false = true) → HeadInv md ops n listed → Kp none' w0 w →
      wpKept P ops w0 C R a → wpAny P md ops Q (m + g) listed a w := by
  intro m
  induction m with
  | zero =>
    intro R listed a w hl _ _ hR hE inv hk h
    have : R = [] := List.eq_nil_of_length_eq_zero hl
    subst this
    rw [Nat.zero_add]
    exact hC listed a w inv.size (fun i hi => getD_true_of (by rw [inv.size]; omega) (fun h0 => by have := (hR i hi).1 h0; cases this)) inv.tail h hk
  | succ m ih =>
    intro R listed a w hl hpw hRn hR hE inv hk h
    obtain ⟨r0, R', rfl⟩ : ∃ r0 R', R = r0 :: R' := by cases R with | nil => simp at hl | cons r R' => exact ⟨_, _, rfl⟩
    have hr0 : r0 < n := hRn r0 List.mem_cons_self
    have hun0 : listed.getD r0 true = false := (hR r0 hr0).2 List.mem_cons_self
    rw [show m + 1 + g = (m + g) + 1 by omega]
    refine ⟨fun h0 => ?_, fun i hi => ?_⟩
    · have : r0 ∈ Region.ready md ops listed := by
        obtain ⟨o, ho⟩ : ∃ o, ops[r0]? = some o := ⟨_, Array.getElem?_eq_getElem (by omega)⟩
        refine mem_ready.2 ⟨hun0, o, ho, fun e he hb => ?_⟩
        have hlt := depsB_spec hd r0 o ho e he hb
        refine getD_true_of (by rw [inv.size]; omega) (fun h1 => ?_)
        have hm := (hR e.on (by omega)).1 h1
        rcases List.mem_cons.1 hm with h2 | h2
        · omega
        · have := (List.pairwise_cons.1 hpw).1 _ h2; omega
      rw [h0] at this; cases this
    · have hin : i < n := by
        rcases Nat.lt_or_ge i n with h1 | h1
        · exact h1
        · exact absurd hi (tail_waitsE hs hc hn inv hE _ r0 rfl hr0 hun0 i h1)
      obtain ⟨hun, oi, hoi, hall⟩ := mem_ready.1 hi
      have hm := (hR i hin).1 hun
      obtain ⟨pre, post, hpp⟩ := List.append_of_mem hm
      rw [hpp] at h hpw hR hRn hl
      have hpre : ∀ p ∈ pre, p < i := fun p hp => (List.pairwise_append.1 hpw).2.2 p hp i List.mem_cons_self
      have hpost : ∀ p ∈ post, i < p := fun p hp => (List.pairwise_cons.1 (List.pairwise_append.1 hpw).2.1).1 p hp
      obtain ⟨v, e1, e2⟩ := wpKept.out hoi (Region.noSelect_spec hsel) post pre a (fun p hp' op hop => pairsB_spec hp p i op oi (hpre p hp') hin hop hoi (fun e he hb heq => by
        have h1 := hall e he hb
        have h2 := (hR p (hRn p (List.mem_append_left _ hp'))).2 (List.mem_append_left _ hp')
        rw [heq, getD_both h2] at h1; cases h1)) h
      have hsub : (pre ++ post).Sublist (pre ++ i :: post) := List.Sublist.append_left (List.sublist_cons_self _ _) _
      refine e1.wpOp hoi hk (fun w' hk' => ih (pre ++ post) _ _ w' (by simp at hl ⊢; omega) (hpw.sublist hsub) (fun j hj => hRn j (hsub.subset hj)) (fun j hj => ?_) (fun e he => getD_set_true (hE e he)) (inv.set hi hin) hk' e2)
      by_cases hji : i = j
      · subst hji
        have h1 : (listed.setIfInBounds i true).getD i true = true := by
          have : i < listed.size := by rw [inv.size]; omega
          simp [this]
        rw [h1]
        refine ⟨fun h => (by cases h), fun h => ?_⟩
        rcases List.mem_append.1 h with h | h
        · have := hpre _ h; omega
        · have := hpost _ h; omega
      · rw [getD_set_ne true hji, hR j hj]
        constructor
        · intro h
          rcases List.mem_append.1 h with h | h
          · exact List.mem_append_left _ h
          · rcases List.mem_cons.1 h with h | h
            · omega
            · exact List.mem_append_right _ h
        · intro h; exact hsub.subset h
def listE (ops : Array Oper) (E : List Nat) : Array Bool := E.foldl (fun l e => l.setIfInBounds e true) (Array.replicate ops.size false)
def eversB (md : Region.Mode) (ops : Array Oper) : List Nat → Array Bool → Bool
  | [], _ => true
  | k :: r, listed => (Region.ready md ops listed).contains k && Region.free md ops listed k && eversB md ops r (listed.setIfInBounds k true)
theorem wpAny_evers {g : Nat} {C : Act → Prop} {w : World} (hs : Region.noSelect ops = true) (hQ : ∀ c a d u w, Q (.panic c) (Act.put a d u) w → Q (.panic c) a w) :
    ∀ (E : List Nat) (listed : Array Bool) (a : Act), eversB md ops E listed = true → (∀ a, C a → wpAny P md ops Q g (E.foldl (fun l e => l.setIfInBounds e true) listed) a w) → wpEvers P ops C E a → wpAny P md ops Q (E.length + g) listed a w
  | [], listed, a, _, hC, h => by simpa using hC a h
  | k :: E, listed, a, hB, hC, h => by
    obtain ⟨o, v, h0, hv, hr⟩ := h
    simp only [eversB, Bool.and_eq_true] at hB
    obtain ⟨⟨b1, b2⟩, b3⟩ := hB
    have := wpAny_evers hs hQ E (listed.setIfInBounds k true) (a.put o.dst v) b3 (fun a hc => hC a hc) hr
    rw [List.length_cons, show E.length + 1 + g = (E.length + g) + 1 by omega]
    exact wpAny_ever h0 (Region.noSelect_spec hs) hQ _ _ _ _ (Region.free_spec h0 b2) (by simpa using b1) hv this
def sortedB : List Nat → Bool
  | a :: b :: r => decide (a < b) && sortedB (b :: r)
  | _ => true
theorem sortedB_spec : ∀ (l : List Nat), sortedB l = true → l.Pairwise (· < ·)
  | [], _ => List.Pairwise.nil
  | [a], _ => List.pairwise_singleton _ _
  | a :: b :: r, h => by
    simp only [sortedB, Bool.and_eq_true, decide_eq_true_eq] at h
    have ih := sortedB_spec (b :: r) h.2
    refine List.pairwise_cons.2 ⟨fun c hc => ?_, ih⟩
    rcases List.mem_cons.1 hc with rfl | hc
    · exact h.1
    · exact Nat.lt_trans h.1 ((List.pairwise_cons.1 ih).1 c hc)
def canonB (ops : Array Oper) (n : Nat) : Array Bool := (List.range ops.size).toArray.map fun i => decide (i < n)
def keptB (md : Region.Mode) (ops : Array Oper) (E K : List Nat) (n : Nat) : Bool :=
  Region.noSelect ops && decide (n < ops.size) && sinkE md ops E n && Region.chainB md ops n && depsB md ops && pairsB md ops n && eversB md ops E (Array.replicate ops.size false) && sortedB K && K.all (fun k => decide (k < n)) &&
  ((List.range n).all fun i => (listE ops E).getD i true == !K.contains i) && E.all (fun e => (listE ops E).getD e false) && decide ((listE ops E).size = ops.size) && ((List.range ops.size).all fun t => decide (t < n) || !(listE ops E).getD t true) &&
  ((List.range ops.size).all fun j => !(listE ops E).getD j false || match ops[j]? with | some oj => oj.after.all fun e => !Region.binds md e || (listE ops E).getD e.on false | none => true) &&
  Region.seqB md ops (ops.size - n) n (canonB ops n) && decide (E.length + K.length = n)
theorem wp_region_kept {id : Nat} {a : Act} {w : World} {l : List Oper} (E K : List Nat) (n : Nat) (hm : P.follows .mixedOrders = true) (hB : keptB .any l.toArray E K n = true)
    (hQ : ∀ c a d u w, Q (.panic c) (Act.put a d u) w → Q (.panic c) a w)
    (h : wpEvers P l.toArray (wpKept P l.toArray w (fun a' => ∀ W, Kp none' w W → wpList P l.toArray Q (l.drop n) a' W) K) E a) : (Code.region id l.toArray true).wp P Q a w := by
  simp only [keptB, Bool.and_eq_true, decide_eq_true_eq] at hB
  obtain ⟨⟨⟨⟨⟨⟨⟨⟨⟨⟨⟨⟨⟨⟨⟨b1, b2⟩, b3⟩, b4⟩, b5⟩, b6⟩, b7⟩, b8⟩, b9⟩, b10⟩, b11⟩, b12⟩, b13⟩, b14⟩, b15⟩, b16⟩ := hB
  have hsz : l.toArray.size = l.length := by simp
  refine wp_region_any hm ?_
  have inv0 : HeadInv .any l.toArray n (listE l.toArray E) := by
    refine ⟨b12, fun j oj hj hl e he hb => ?_, fun t ht ht' => ?_⟩
    · have h1 := List.all_eq_true.1 b14 j (List.mem_range.2 (Array.getElem?_eq_some_iff.1 hj).1)
      simp only [hj, hl, Bool.not_true, Bool.false_or] at h1
      have h2 := Array.all_eq_true_iff_forall_mem.1 h1 e he
      simpa [hb] using h2
    · have h1 := List.all_eq_true.1 b13 t (List.mem_range.2 ht')
      rw [decide_eq_false (by omega), Bool.false_or] at h1
      simpa using h1
  have hfin := wpAny_evers (P := P) (md := .any) (ops := l.toArray) (Q := Q) (w := w.drew) (g := K.length + (l.toArray.size - n)) b1 hQ E (Array.replicate l.toArray.size false) a b7 (fun a' hc =>
    wpAny_kept (E := E) b1 b3 b4 b2 b5 b6 (fun listed a'' w' hs h1 h2 hcc hk => by
      have hcan : listed = canonB l.toArray n := by
        apply Array.ext
        · simp [canonB, hs]
        · intro i hi1 hi2
          have hil : i < l.toArray.size := by rw [← hs]; exact hi1
          simp only [canonB, List.map_toArray, List.getElem_toArray, List.getElem_map, List.getElem_range]
          by_cases hin : i < n
          · have := h1 i hin; simp [hi1] at this; rw [this, decide_eq_true hin]
          · have := h2 i (by omega) hil; simp [hi1] at this; rw [this, decide_eq_false hin]
      subst hcan
      have hdl : (l.drop n).length = l.toArray.size - n := by simp
      have := wpAny_of_seq (P := P) (md := .any) (ops := l.toArray) (Q' := Q) (l.drop n) n (canonB l.toArray n) a'' w' (fun j => by simp [List.getElem?_drop]) (by rw [hdl]; exact b15) (hcc w' hk)
      rwa [hdl] at this) K.length K (listE l.toArray E) a' w.drew rfl (sortedB_spec K b8) (fun i hi => by simpa using List.all_eq_true.1 b9 i hi) (fun i hi => by
        have h1 := List.all_eq_true.1 b10 i (List.mem_range.2 hi)
        rw [beq_iff_eq] at h1
        rw [h1]; simp) (fun e he => List.all_eq_true.1 b11 e he) inv0 (Kp.refl none' w).drew hc) h
  rw [show E.length + (K.length + (l.toArray.size - n)) = l.toArray.size by omega] at hfin
  exact hfin
theorem calls_same {P : Program} {f : FuncId} {args : Array Value} {w : World} {v : Ending} (h : Calls P f args w fun e w' => e = v ∧ w = w') : Calls P f args w fun e w' => e = v ∧ Kp none' w w' :=
  h.mono fun _ _ ⟨he, hw⟩ => ⟨he, hw ▸ Kp.refl none' w⟩
def pick (l : List Oper) : List Nat → List Oper
  | [] => []
  | k :: r => match l[k]? with
    | some o => o :: pick l r
    | none => pick l r
def wpKL (P : Program) (ops : Array Oper) (w0 : World) (C : Act → Prop) : List Oper → Act → Prop
  | [], a => C a
  | o :: r, a => ∃ v, EverK P ops w0 o v a ∧ wpKL P ops w0 C r (a.put o.dst v)
theorem kept_of_list {w0 : World} {C : Act → Prop} {l : List Oper} : ∀ (K : List Nat) (a : Act), K.all (fun k => decide (k < l.length)) = true → wpKL P l.toArray w0 C (pick l K) a → wpKept P l.toArray w0 C K a
  | [], a, _, h => h
  | k :: K, a, hb, h => by
    simp only [List.all_cons, Bool.and_eq_true, decide_eq_true_eq] at hb
    have hk : l[k]? = some l[k] := List.getElem?_eq_getElem hb.1
    simp only [pick, hk] at h
    obtain ⟨v, h1, h2⟩ := h
    exact ⟨l[k], v, by rw [List.getElem?_toArray]; exact hk, h1, kept_of_list K _ hb.2 h2⟩
theorem evers_of_list {C : Act → Prop} {l : List Oper} : ∀ (K : List Nat) (a : Act), K.all (fun k => decide (k < l.length)) = true → wpHeads P l.toArray C (pick l K) a → wpEvers P l.toArray C K a
  | [], a, _, h => h
  | k :: K, a, hb, h => by
    simp only [List.all_cons, Bool.and_eq_true, decide_eq_true_eq] at hb
    have hk : l[k]? = some l[k] := List.getElem?_eq_getElem hb.1
    simp only [pick, hk] at h
    obtain ⟨v, h1, h2⟩ := h
    exact ⟨l[k], v, by rw [List.getElem?_toArray]; exact hk, h1, evers_of_list K _ hb.2 h2⟩
theorem wpEvers.mono {C C' : Act → Prop} (hC : ∀ a, C a → C' a) : ∀ (E : List Nat) (a : Act), wpEvers P ops C E a → wpEvers P ops C' E a
  | [], a, h => hC a h
  | _ :: E, _, ⟨o, v, h0, h1, h2⟩ => ⟨o, v, h0, h1, wpEvers.mono hC E _ h2⟩
theorem wp_region_kept2 {id : Nat} {a : Act} {w : World} {l : List Oper} (E K : List Nat) (n : Nat) (hm : P.follows .mixedOrders = true) (hB : (keptB .any l.toArray E K n && E.all (fun k => decide (k < l.length)) && K.all (fun k => decide (k < l.length))) = true)
    (hQ : ∀ c a d u w, Q (.panic c) (Act.put a d u) w → Q (.panic c) a w)
    (h : wpHeads P l.toArray (fun a' => wpKL P l.toArray w (fun a' => ∀ W, Kp none' w W → wpList P l.toArray Q (l.drop n) a' W) (pick l K) a') (pick l E) a) : (Code.region id l.toArray true).wp P Q a w := by
  simp only [Bool.and_eq_true] at hB
  obtain ⟨⟨b1, b2⟩, b3⟩ := hB
  exact wp_region_kept E K n hm b1 hQ (wpEvers.mono (fun a' h' => kept_of_list K a' b3 h') E a (evers_of_list E a b2 h))
theorem wpKL_op {w0 : World} {C : Act → Prop} {r : List Oper} {o : Oper} {a : Act} {v : Value} (hw : Region.wanted o (yielded ops a.tmps) = true) (h1 : ∀ W, Kp none' w0 W → (execOp a.eval o).run P W = .ok (.value v) W) (h2 : wpKL P ops w0 C r (a.put o.dst v)) : wpKL P ops w0 C (o :: r) a :=
  ⟨v, .inl ⟨hw, fun W hk => .inl (h1 W hk)⟩, h2⟩
theorem wpKL_call {w0 : World} {C : Act → Prop} {r : List Oper} {o : Oper} {a : Act} {v : Value} {f : FuncId} {args : Array Value} (hw : Region.wanted o (yielded ops a.tmps) = true) (h1 : ∀ W, (execOp a.eval o).run P W = .ok (.enter f args) W)
    (hc : ∀ W, Kp none' w0 W → Calls P f args W fun e w' => e = .returned v ∧ Kp none' W w') (h2 : wpKL P ops w0 C r (a.put o.dst v)) : wpKL P ops w0 C (o :: r) a :=
  ⟨v, .inl ⟨hw, fun W hk => .inr (.inl ⟨f, args, h1 W, hc W hk⟩)⟩, h2⟩
theorem wpKL_skip {w0 : World} {C : Act → Prop} {r : List Oper} {o : Oper} {a : Act} (hw : Region.wanted o (yielded ops a.tmps) = true) (h1 : ∀ W, Kp none' w0 W → (execOp a.eval o).run P W = .ok .skip W) (h2 : wpKL P ops w0 C r (a.put o.dst undef)) : wpKL P ops w0 C (o :: r) a :=
  ⟨undef, .inl ⟨hw, fun W hk => .inr (.inr ⟨h1 W hk, rfl⟩)⟩, h2⟩
theorem wpKL_off {w0 : World} {C : Act → Prop} {r : List Oper} {o : Oper} {a : Act} (hw : Region.wanted o (yielded ops a.tmps) = false) (h2 : wpKL P ops w0 C r (a.put o.dst undef)) : wpKL P ops w0 C (o :: r) a :=
  ⟨undef, .inr ⟨hw, rfl⟩, h2⟩
end Go.Proofs.YtlaakhfgidjofaaGreatDoor

namespace Go.Proofs.YtlaakhfgidjofaaGreatDoor
set_option linter.unusedVariables false
set_option linter.unusedSimpArgs false
open Go Go.RowKit Go.Shelf
theorem cat_ex (a b : ByteArray) (na nb : Nat) (ha : a.size ≤ na) (hb : b.size ≤ nb) (h : na + nb ≤ 1000000) : ∃ x : ByteArray, (∀ W, (Op.stringOp .add a b).run Tryz.prog W = .ok (.string x) W) ∧ bl x = bl a ++ bl b ∧ x.size ≤ na + nb :=
  ⟨a ++ b, fun W => cat_run (P := Tryz.prog) a b (by omega) W, bl_app a b, by rw [ByteArray.size_append]; omega⟩
theorem putU_len (n : Nat) (h : n ≤ 18446744073709551615) : (putU n).length ≤ 30 := by
  unfold putU
  have h1 := put_len20 (n / 1000000000) (by omega)
  have h2 := put_len20 (n / 1000000) (by omega)
  have h3 := put_len20 (n / 1000) (by omega)
  have h4 := put_len20 n h
  split
  · simp; omega
  · split
    · simp; omega
    · split
      · simp; omega
      · omega
theorem kp_of_drew {w w' : World} (h : ∃ d, w' = w.drewN d) : Kp none' w w' := by obtain ⟨d, rfl⟩ := h; exact (Kp.refl none' w).drewN d

structure ChkOk (c : CfR) : Prop where
  rank : 1 ≤ c.rank ∧ c.rank ≤ 3
  back : 1 ≤ c.back ∧ c.back ≤ 3
  levels : 1 ≤ c.levels ∧ c.levels ≤ 3
  queues : 1 ≤ c.queues ∧ c.queues ≤ 32
  packets : 1 ≤ c.packets ∧ c.packets ≤ 4096
  share : 0 ≤ c.share ∧ c.share ≤ 16
  flows : 1 ≤ c.flows.length ∧ c.flows.length ≤ 64
theorem chk_ok {c : CfR} (h : chk c = 0) : ChkOk c := by
  unfold chk at h
  split at h
  · cases h
  · split at h
    · cases h
    · split at h
      · cases h
      · split at h
        · rename_i h0; exact absurd h h0
        · rename_i h1 h2 h3 h4
          have h4 : admE c = 0 := by simpa using h4
          unfold admE at h4
          split at h4
          · cases h4
          · split at h4
            · cases h4
            · split at h4
              · cases h4
              · unfold flowsE at h4
                split at h4
                · cases h4
                · exact ⟨by omega, by omega, by omega, by omega, by omega, by omega, by omega⟩
def lnT (c : CfR) (i : Nat) : List UInt8 := nms.getD i [] ++ 32 :: (wordN c i ++ [10])
def flT (f : FlR) : List UInt8 := joinL (flW f) ++ [10]
def hdT (c : CfR) : List UInt8 := lnT c 0 ++ lnT c 1 ++ (lnT c 2 ++ lnT c 3 ++ lnT c 4) ++ (lnT c 5 ++ lnT c 6 ++ lnT c 7 ++ lnT c 8 ++ lnT c 9)
theorem textC_eq (c : CfR) : textC c = hdT c ++ c.flows.flatMap flT := by
  unfold textC itemsC
  rw [List.flatMap_append]
  have e : ((List.range 10).map (hdW c)).flatMap (fun l => joinL l ++ [10]) = hdT c := by
    simp [List.range_succ, hdT, lnT, hdW, joinL]
  rw [e, List.flatMap_map]; rfl
theorem flT_eq (f : FlR) : flT f = [102, 108, 111, 119, 32] ++ putU f.id ++ [32] ++ putU f.cost ++ [32] ++ putU f.budget ++ [32] ++ putU f.size ++ [32] ++ putU f.cap ++ [10] := by
  simp [flT, flW, joinL, nms]
def putT (c : CfR) : List UInt8 := if chk c = 0 then textC c else []
end Go.Proofs.YtlaakhfgidjofaaGreatDoor

namespace Go.Proofs.YtlaakhfgidjofaaGreatDoor
set_option linter.unusedVariables false
set_option linter.unusedSimpArgs false
open Go.RowKit Go.Shelf
theorem blank_iff {c : UInt8} : blank c = true ↔ c.toNat = 32 ∨ c.toNat = 9 := by unfold blank; simp
def wtx (l : List (List UInt8)) : List Value := strs (l.map tx)
theorem wtx_len (l : List (List UInt8)) : (wtx l).length = l.length := by simp [wtx, strs]
theorem wtx_snoc (l : List (List UInt8)) (x : ByteArray) : wtx (l ++ [bl x]) = wtx l ++ [.string x] := by simp [wtx, strs, tx_bl]
theorem wst_len (l : List UInt8) : (wst l).1.length + (wst l).2.length ≤ l.length := by
  refine snocInd (P := fun l => (wst l).1.length + (wst l).2.length ≤ l.length) (by simp [wst]) (fun l c ih => ?_) l
  rw [wst_snoc]
  unfold wstep
  by_cases hb : blank c = true
  · simp only [hb, if_true]
    by_cases hn : (wst l).2 = []
    · simp only [hn, if_true, List.length_nil, List.length_append, List.length_cons]; rw [hn] at ih; simp at ih; omega
    · simp only [if_neg hn, List.length_nil, List.length_append, List.length_cons]
      have : 0 < (wst l).2.length := by
        cases e : (wst l).2 with
        | nil => exact absurd e hn
        | cons a r => simp
      omega
  · simp only [hb]
    simp only [Bool.false_eq_true, if_false, List.length_append, List.length_cons, List.length_nil]; omega
structure Wds (l : List UInt8) (B : Nat) (w wr : World) (v : Value) (x : ByteArray) (o : List (List UInt8)) : Prop where
  st : wst l = (o, bl x)
  own : wr.ownsRow B 9 1 v o.length (wtx o)
  kp : Kp none' w wr
theorem Wds.len {l : List UInt8} {B : Nat} {w wr : World} {v : Value} {x : ByteArray} {o : List (List UInt8)} (h : Wds l B w wr v x o) : o.length + x.size ≤ l.length := by
  have := wst_len l
  rw [h.st, bl_len] at this; exact this
theorem Wds.sign {l : List UInt8} {B : Nat} {w wr : World} {v : Value} {x y : ByteArray} {o : List (List UInt8)} (h : Wds l B w wr v x o) {c : UInt8} (hc : blank c = false) (hy : bl y = bl x ++ [c]) : Wds (l ++ [c]) B w wr v y o :=
  ⟨by rw [wst_snoc, h.st, wstep_sign hc, hy], h.own, h.kp⟩
theorem take_bl (s : ByteArray) (k : Nat) (h : k < s.size) : (bl s).take (k + 1) = (bl s).take k ++ [s[k]] := by
  rw [List.take_succ_eq_append_getElem (by rw [bl_len]; exact h), bl_get s k h]

theorem join_eq (l : List (List UInt8)) : Lib.join l [32] = joinL l := by
  induction l with
  | nil => rfl
  | cons a r ih =>
    cases r with
    | nil => rw [Lib.join_one]; rfl
    | cons b r =>
      rw [Lib.join_cons] at *
      show a ++ Lib.joinTail [32] (b :: r) = a ++ 32 :: joinL (b :: r)
      rw [← ih]
      simp [Lib.joinTail]
set_option maxHeartbeats 1000000 in
theorem dJoin (xs : List ByteArray) (v : Value) (w : World) (h : Sl w v xs.length 1 (strs xs)) (hcap : ∀ ao n c, v = .slice ao n c → n ≤ c) (hl : (joinL (xs.map bl)).length ≤ 1000000) (hn : xs.length ≤ 1000000) :
    Calls Tryz.prog 45 #[v] w fun e w' => e = .returned (.string (tx (joinL (xs.map bl)))) ∧ Kp none' w w' := by
  obtain ⟨ao, cap, rfl, hc⟩ := h.is
  have hcp := hcap _ _ _ rfl
  clear h hcap
  cases xs with
  | nil =>
    clear hc hcp hl hn
    simp only [List.length_nil]
    go_enter Tryz.func45, Tryz.ntmps45
    go_wp2_with fail
    refine (Tryz.strings_Join_none ao cap ⟨#[32]⟩ w).mono ?_
    rintro e w1 ⟨rfl, rfl⟩
    go_wp2_with fail
    go_ret
    exact ⟨rfl, Kp.refl _ _⟩
  | cons x r =>
    obtain ⟨b, off, rfl, hc0⟩ := hc 0 (.string x) rfl
    have hcells : ∀ (j : Nat) y, (x :: r)[j]? = some y → w.cell? ⟨b, off + j, none⟩ = some (.string y) := fun j y hy => by
      obtain ⟨b', off', e, h1⟩ := hc j (.string y) (by unfold strs; rw [List.getElem?_map, hy]; rfl)
      cases e; exact h1
    have hbk := World.block_lt_of_cell? w _ hc0
    have hj : Lib.join ((x :: r).map (·.data.toList)) (ByteArray.data ⟨#[32]⟩).toList = joinL ((x :: r).map bl) := join_eq _
    have hJ := Tryz.strings_Join b off cap (x :: r) ⟨#[32]⟩ w hcells hbk (by omega) hcp (by rw [hj]; omega)
    rw [hj] at hJ
    have HJ := Lib.hid hJ
    clear hJ hj hcells hc hc0 hbk hl
    generalize joinL ((x :: r).map bl) = jl at *
    go_enter Tryz.func45, Tryz.ntmps45
    go_wp2_with fail
    refine (HJ.out).mono ?_
    rintro e w1 ⟨rfl, hb⟩
    have HK : Hid (Kp none' w w1) := (Kp.of_below hb).mono (fun b hb h => by omega)
    clear hb
    go_wp2_with fail
    go_ret
    exact ⟨rfl, HK.out⟩
end Go.Proofs.YtlaakhfgidjofaaGreatDoor
