/- A region that draws its order, as in Kept; some of the heads (allocs, calls) yield a value of which a relation to the world is known that lasts, and make memory at most. Names no function of the program. -/
import Derived.Test.YtlaakhfgidjofaaGreatDoorMSnapNobodyF28
namespace Go.Proofs.YtlaakhfgidjofaaGreatDoor
set_option linter.unusedVariables false
set_option linter.unusedSimpArgs false
open Go Go.RowKit
variable {P : Program} {ops : Array Oper} {Q : Exit → Act → World → Prop} {md : Region.Mode}
def EverU (P : Program) (ops : Array Oper) (w0 : World) (o : Oper) (v : Value) (a : Act) : Prop :=
  (Region.wanted o (yielded ops a.tmps) = true ∧ ∀ w, Kp none' w0 w → (execOp a.eval o).run P w = .ok (.value v) w) ∨ (Region.wanted o (yielded ops a.tmps) = false ∧ v = undef)
theorem EverU.uniq {w0 : World} {o : Oper} {v v' : Value} {a : Act} (h : EverU P ops w0 o v a) (h' : EverU P ops w0 o v' a) : v = v' := by
  rcases h with ⟨h1, h2⟩ | ⟨h1, h2⟩ <;> rcases h' with ⟨h3, h4⟩ | ⟨h3, h4⟩
  · have e := (h2 w0 (Kp.refl _ _)).symm.trans (h4 w0 (Kp.refl _ _))
    simpa using e
  · rw [h1] at h3; cases h3
  · rw [h1] at h3; cases h3
  · rw [h2, h4]
theorem EverU.alike {w0 : World} {o : Oper} {v : Value} {a a' : Act} (hy : EverU P ops w0 o v a) (he : execOp a'.eval o = execOp a.eval o) (hw : Region.wanted o (yielded ops a'.tmps) = Region.wanted o (yielded ops a.tmps)) : EverU P ops w0 o v a' := by
  unfold EverU at *; rw [he, hw]; exact hy
structure RS where
  R : Value → World → Prop
  S : Value → Prop
  wit : ∃ v, S v
  per : ∀ v w w', R v w → Kp none' w w' → R v w'
def MkK (P : Program) (ops : Array Oper) (w0 : World) (R : RS) (o : Oper) (a : Act) : Prop :=
  Region.wanted o (yielded ops a.tmps) = true ∧ ∀ w, Kp none' w0 w → (∃ v w', (execOp a.eval o).run P w = .ok (.value v) w' ∧ R.R v w' ∧ R.S v ∧ Kp none' w w') ∨ ∃ f args, (execOp a.eval o).run P w = .ok (.enter f args) w ∧ Calls P f args w fun e w' => ∃ v, e = .returned v ∧ R.R v w' ∧ R.S v ∧ Kp none' w w'
theorem MkK.alike {w0 : World} {R : RS} {o : Oper} {a a' : Act} (hy : MkK P ops w0 R o a) (he : execOp a'.eval o = execOp a.eval o) (hw : Region.wanted o (yielded ops a'.tmps) = Region.wanted o (yielded ops a.tmps)) : MkK P ops w0 R o a' := by
  unfold MkK at *; rw [he, hw]; exact hy
def wpM (P : Program) (ops : Array Oper) (w0 : World) (Rm : Nat → Option RS) (C : Act → (World → Prop) → Prop) : List Nat → Act → (World → Prop) → Prop
  | [], a, A => C a A
  | i :: r, a, A => ∃ o, ops[i]? = some o ∧ match Rm i with
    | none => ∃ v, EverU P ops w0 o v a ∧ wpM P ops w0 Rm C r (a.put o.dst v) A
    | some R => MkK P ops w0 R o a ∧ ∀ v, R.S v → wpM P ops w0 Rm C r (a.put o.dst v) (fun W => A W ∧ R.R v W)
theorem wpM.mono {w0 : World} {Rm : Nat → Option RS} {C : Act → (World → Prop) → Prop} (hC : ∀ a A A', (∀ W, A' W → A W) → C a A → C a A') : ∀ (L : List Nat) (a : Act) (A A' : World → Prop), (∀ W, A' W → A W) → wpM P ops w0 Rm C L a A → wpM P ops w0 Rm C L a A'
  | [], a, A, A', h, hc => hC a A A' h hc
  | i :: r, a, A, A', h, ⟨o, h0, hm⟩ => by
    refine ⟨o, h0, ?_⟩
    cases e : Rm i with
    | none => rw [e] at hm; obtain ⟨v, h1, h2⟩ := hm; exact ⟨v, h1, wpM.mono hC r _ A A' h h2⟩
    | some R => rw [e] at hm; exact ⟨hm.1, fun v hv => wpM.mono hC r _ _ _ (fun W hw => ⟨h W hw.1, hw.2⟩) (hm.2 v hv)⟩
def outM (P : Program) (ops : Array Oper) (w0 : World) (Rm : Nat → Option RS) (C : Act → (World → Prop) → Prop) (L : List Nat) (i : Nat) (o : Oper) (a : Act) (A : World → Prop) : Prop :=
  match Rm i with
  | none => ∃ v, EverU P ops w0 o v a ∧ wpM P ops w0 Rm C L (a.put o.dst v) A
  | some R => MkK P ops w0 R o a ∧ ∀ v, R.S v → wpM P ops w0 Rm C L (a.put o.dst v) (fun W => A W ∧ R.R v W)
theorem wpM.out {w0 : World} {Rm : Nat → Option RS} {C : Act → (World → Prop) → Prop} (hC : ∀ a A A', (∀ W, A' W → A W) → C a A → C a A') {i : Nat} {o : Oper} (hi : ops[i]? = some o) (hsel : ∀ (j : Nat) (o : Oper) cs b, ops[j]? = some o → o.op ≠ .select cs b) (post : List Nat) : ∀ (pre : List Nat) (a : Act) (A : World → Prop),
    (∀ p ∈ pre, ∀ op, ops[p]? = some op → op.apart ops o = true) → wpM P ops w0 Rm C (pre ++ i :: post) a A → outM P ops w0 Rm C (pre ++ post) i o a A
  | [], a, A, _, h => by
    obtain ⟨o', h1, h2⟩ := h
    have : o' = o := Option.some.inj (h1.symm.trans hi)
    subst this
    exact h2
  | p :: pre, a, A, hap, h => by
    obtain ⟨op, h1, h2⟩ := h
    obtain ⟨a1, a2, a3⟩ := Oper.apart_spec (hap p List.mem_cons_self op h1)
    have hso := fun cs b => hsel i o cs b hi
    have hsp := fun cs b => hsel p op cs b h1
    have hap' : ∀ q ∈ pre, ∀ op, ops[q]? = some op → op.apart ops o = true := fun q hq => hap q (List.mem_cons_of_mem _ hq)
    have back : ∀ vp v, wpM P ops w0 Rm C (pre ++ post) ((a.put op.dst vp).put o.dst v) A → wpM P ops w0 Rm C (pre ++ post) ((a.put o.dst v).put op.dst vp) A := fun vp v h => by rw [← Act.put_comm a vp v a2]; exact h
    cases ep : Rm p with
    | none =>
      rw [ep] at h2
      obtain ⟨vp, e1, e2⟩ := h2
      have ih := wpM.out hC hi hsel post pre _ A hap' e2
      unfold outM at ih ⊢
      cases ei : Rm i with
      | none =>
        rw [ei] at ih
        obtain ⟨v, f1, f2⟩ := ih
        refine ⟨v, f1.alike (execOp_put o hso a op.dst vp a1).symm (wanted_put o a op.dst vp a1).symm, op, h1, ?_⟩
        rw [ep]
        exact ⟨vp, e1.alike (execOp_put op hsp a o.dst v a3) (wanted_put op a o.dst v a3), by rw [← Act.put_comm a vp v a2]; exact f2⟩
      | some R =>
        rw [ei] at ih
        refine ⟨ih.1.alike (execOp_put o hso a op.dst vp a1).symm (wanted_put o a op.dst vp a1).symm, fun v hv => ⟨op, h1, ?_⟩⟩
        rw [ep]
        exact ⟨vp, e1.alike (execOp_put op hsp a o.dst v a3) (wanted_put op a o.dst v a3), by rw [← Act.put_comm a vp v a2]; exact ih.2 v hv⟩
    | some Rp =>
      rw [ep] at h2
      obtain ⟨e1, e2⟩ := h2
      have ih := fun vp hvp => wpM.out hC hi hsel post pre _ _ hap' (e2 vp hvp)
      obtain ⟨u, hu⟩ := Rp.wit
      unfold outM at ih ⊢
      cases ei : Rm i with
      | none =>
        simp only [ei] at ih ⊢
        obtain ⟨v, f1, _⟩ := ih u hu
        have f1a := f1.alike (execOp_put o hso a op.dst u a1).symm (wanted_put o a op.dst u a1).symm
        refine ⟨v, f1a, op, h1, ?_⟩
        rw [ep]
        refine ⟨e1.alike (execOp_put op hsp a o.dst v a3) (wanted_put op a o.dst v a3), fun vp hvp => ?_⟩
        obtain ⟨v2, g1, g2⟩ := ih vp hvp
        have g1a := g1.alike (execOp_put o hso a op.dst vp a1).symm (wanted_put o a op.dst vp a1).symm
        have := f1a.uniq g1a
        subst this
        rw [← Act.put_comm a vp v a2]; exact g2
      | some R =>
        simp only [ei] at ih ⊢
        refine ⟨(ih u hu).1.alike (execOp_put o hso a op.dst u a1).symm (wanted_put o a op.dst u a1).symm, fun v hv => ⟨op, h1, ?_⟩⟩
        rw [ep]
        refine ⟨e1.alike (execOp_put op hsp a o.dst v a3) (wanted_put op a o.dst v a3), fun vp hvp => ?_⟩
        rw [← Act.put_comm a vp v a2]
        exact wpM.mono hC _ _ _ _ (fun W hw => ⟨⟨hw.1.1, hw.2⟩, hw.1.2⟩) ((ih vp hvp).2 v hv)
theorem wpAny_keptM {w0 : World} {n g : Nat} {Rm : Nat → Option RS} {C : Act → (World → Prop) → Prop} (hCm : ∀ a A A', (∀ W, A' W → A W) → C a A → C a A') (hsel : Region.noSelect ops = true) (hs : sinkE md ops [] n = true) (hc : Region.chainB md ops n = true) (hn : n < ops.size) (hd : depsB md ops = true) (hp : pairsB md ops n = true)
    (hC : ∀ listed a A w, listed.size = ops.size → (∀ i, i < n → listed.getD i false = true) → (∀ t, n ≤ t → t < ops.size → listed.getD t true = false) → C a A → Kp none' w0 w → A w → wpAny P md ops Q g listed a w) :
    ∀ (m : Nat) (R : List Nat) (listed : Array Bool) (a : Act) (A : World → Prop) (w : World), R.length = m → R.Pairwise (· < ·) → (∀ i ∈ R, i < n) → (∀ i, i < n → (listed.getD i true = false ↔ i ∈ R)) → HeadInv md ops n listed → Kp none' w0 w → A w → (∀ w w', A w → Kp none' w w' → A w') →
      wpM P ops w0 Rm C R a A → wpAny P md ops Q (m + g) listed a w := by
  intro m
  induction m with
  | zero =>
    intro R listed a A w hl _ _ hR inv hk hA hAp h
    have : R = [] := List.eq_nil_of_length_eq_zero hl
    subst this
    rw [Nat.zero_add]
    exact hC listed a A w inv.size (fun i hi => getD_true_of (by rw [inv.size]; omega) (fun h0 => by have := (hR i hi).1 h0; cases this)) inv.tail h hk hA
  | succ m ih =>
    intro R listed a A w hl hpw hRn hR inv hk hA hAp h
    obtain ⟨r0, R', rfl⟩ : ∃ r0 R', R = r0 :: R' := by cases R with | nil => simp at hl | cons r R' => exact ⟨_, _, rfl⟩
    have hr0 : r0 < n := hRn r0 List.mem_cons_self
    have hun0 : listed.getD r0 true = false := (hR r0 hr0).2 List.mem_cons_self
    rw [show m + 1 + g = (m + g) + 1 by omega]
    refine ⟨fun h0 => ?_, fun i hi => ?_⟩
    · have : r0 ∈ Region.ready md ops listed := by
        obtain ⟨o, ho⟩ : ∃ o, ops[r0]? = some o := ⟨_, Array.getElem?_eq_getElem (by omega)⟩
        refine mem_ready.2 ⟨hun0, o, ho, fun e he hb => ?_⟩
        have hlt := depsB_spec hd r0 o ho e he hb
        refine getD_true_of (by rw [inv.size]; omega) (fun h1 => ?_)
        have hm := (hR e.on (by omega)).1 h1
        rcases List.mem_cons.1 hm with h2 | h2
        · omega
        · have := (List.pairwise_cons.1 hpw).1 _ h2; omega
      rw [h0] at this; cases this
    · have hin : i < n := by
        rcases Nat.lt_or_ge i n with h1 | h1
        · exact h1
        · exact absurd hi (tail_waitsE hs hc hn inv (fun e he => by cases he) _ r0 rfl hr0 hun0 i h1)
      obtain ⟨hun, oi, hoi, hall⟩ := mem_ready.1 hi
      have hm := (hR i hin).1 hun
      obtain ⟨pre, post, hpp⟩ := List.append_of_mem hm
      rw [hpp] at h hpw hR hRn hl
      have hpre : ∀ p ∈ pre, p < i := fun p hp => (List.pairwise_append.1 hpw).2.2 p hp i List.mem_cons_self
      have hpost : ∀ p ∈ post, i < p := fun p hp => (List.pairwise_cons.1 (List.pairwise_append.1 hpw).2.1).1 p hp
      have hout := wpM.out hCm hoi (Region.noSelect_spec hsel) post pre a A (fun p hp' op hop => pairsB_spec hp p i op oi (hpre p hp') hin hop hoi (fun e he hb heq => by
        have h1 := hall e he hb
        have h2 := (hR p (hRn p (List.mem_append_left _ hp'))).2 (List.mem_append_left _ hp')
        rw [heq, getD_both h2] at h1; cases h1)) h
      have hsub : (pre ++ post).Sublist (pre ++ i :: post) := List.Sublist.append_left (List.sublist_cons_self _ _) _
      have hlist : ∀ j, j < n → ((listed.setIfInBounds i true).getD j true = false ↔ j ∈ pre ++ post) := fun j hj => by
        by_cases hji : i = j
        · subst hji
          have h1 : (listed.setIfInBounds i true).getD i true = true := by
            have : i < listed.size := by rw [inv.size]; omega
            simp [this]
          rw [h1]
          refine ⟨fun h => (by cases h), fun h => ?_⟩
          rcases List.mem_append.1 h with h | h
          · have := hpre _ h; omega
          · have := hpost _ h; omega
        · rw [getD_set_ne true hji, hR j hj]
          constructor
          · intro h
            rcases List.mem_append.1 h with h | h
            · exact List.mem_append_left _ h
            · rcases List.mem_cons.1 h with h | h
              · omega
              · exact List.mem_append_right _ h
          · intro h; exact hsub.subset h
      have hgo : ∀ a' A' w', Kp none' w0 w' → A' w' → (∀ w w', A' w → Kp none' w w' → A' w') → wpM P ops w0 Rm C (pre ++ post) a' A' → wpAny P md ops Q (m + g) (listed.setIfInBounds i true) a' w' := fun a' A' w' hk' hA' hAp' h' =>
        ih (pre ++ post) _ a' A' w' (by simp at hl ⊢; omega) (hpw.sublist hsub) (fun j hj => hRn j (hsub.subset hj)) hlist (inv.set hi hin) hk' hA' hAp' h'
      unfold outM at hout
      unfold Go.wpOp
      simp only [hoi]
      cases er : Rm i with
      | none =>
        rw [er] at hout
        obtain ⟨v, e1, e2⟩ := hout
        rcases e1 with ⟨hw, hv⟩ | ⟨hw, rfl⟩
        · rw [if_pos hw]
          refine .inl ?_
          unfold Oper.wp
          rw [hv w hk]
          exact hgo _ _ _ hk hA hAp e2
        · rw [if_neg (by rw [hw]; simp)]
          exact hgo _ _ _ hk hA hAp e2
      | some R =>
        rw [er] at hout
        obtain ⟨⟨hw, hv⟩, e2⟩ := hout
        have hAp2 : ∀ v, ∀ w w', (A w ∧ R.R v w) → Kp none' w w' → (A w' ∧ R.R v w') := fun v w w' h k => ⟨hAp w w' h.1 k, R.per v w w' h.2 k⟩
        rw [if_pos hw]
        refine .inl ?_
        unfold Oper.wp
        rcases hv w hk with ⟨v, w', e, hr, hs, hk'⟩ | ⟨f, args, e, hcl⟩
        · rw [e]
          exact hgo _ _ _ (hk.trans hk') ⟨hAp _ _ hA hk', hr⟩ (hAp2 v) (e2 v hs)
        · rw [e]
          refine Calls.mono hcl fun x w' hx => ?_
          obtain ⟨v, rfl, hr, hs, hk'⟩ := hx
          exact hgo _ _ _ (hk.trans hk') ⟨hAp _ _ hA hk', hr⟩ (hAp2 v) (e2 v hs)
def pickM (l : List Oper) (Rm : Nat → Option RS) : List Nat → List (Oper × Option RS)
  | [] => []
  | k :: r => match l[k]? with
    | some o => (o, Rm k) :: pickM l Rm r
    | none => pickM l Rm r
def wpML (P : Program) (ops : Array Oper) (w0 : World) (C : Act → (World → Prop) → Prop) : List (Oper × Option RS) → Act → (World → Prop) → Prop
  | [], a, A => C a A
  | (o, none) :: r, a, A => ∃ v, EverU P ops w0 o v a ∧ wpML P ops w0 C r (a.put o.dst v) A
  | (o, some R) :: r, a, A => MkK P ops w0 R o a ∧ ∀ v, R.S v → wpML P ops w0 C r (a.put o.dst v) (fun W => A W ∧ R.R v W)
theorem wpM_of_list {w0 : World} {Rm : Nat → Option RS} {C : Act → (World → Prop) → Prop} {l : List Oper} : ∀ (K : List Nat) (a : Act) (A : World → Prop), K.all (fun k => decide (k < l.length)) = true → wpML P l.toArray w0 C (pickM l Rm K) a A → wpM P l.toArray w0 Rm C K a A
  | [], a, A, _, h => h
  | k :: K, a, A, hb, h => by
    simp only [List.all_cons, Bool.and_eq_true, decide_eq_true_eq] at hb
    have hk : l[k]? = some l[k] := List.getElem?_eq_getElem hb.1
    simp only [pickM, hk] at h
    refine ⟨l[k], by rw [List.getElem?_toArray]; exact hk, ?_⟩
    cases e : Rm k with
    | none =>
      rw [e] at h
      obtain ⟨v, h1, h2⟩ := h
      exact ⟨v, h1, wpM_of_list K _ _ hb.2 h2⟩
    | some R =>
      rw [e] at h
      exact ⟨h.1, fun v hv => wpM_of_list K _ _ hb.2 (h.2 v hv)⟩
theorem wp_region_keptM {id : Nat} {a : Act} {w : World} {l : List Oper} (Rm : Nat → Option RS) (K : List Nat) (n : Nat) (hm : P.follows .mixedOrders = true) (hB : (keptB .any l.toArray [] K n && K.all (fun k => decide (k < l.length))) = true)
    (h : wpML P l.toArray w (fun a' A => ∀ W, Kp none' w W → A W → wpList P l.toArray Q (l.drop n) a' W) (pickM l Rm K) a (fun _ => True)) : (Code.region id l.toArray true).wp P Q a w := by
  simp only [Bool.and_eq_true] at hB
  obtain ⟨hB, hK⟩ := hB
  have h' := wpM_of_list K a _ hK h
  simp only [keptB, Bool.and_eq_true, decide_eq_true_eq] at hB
  obtain ⟨⟨⟨⟨⟨⟨⟨⟨⟨⟨⟨⟨⟨⟨⟨b1, b2⟩, b3⟩, b4⟩, b5⟩, b6⟩, b7⟩, b8⟩, b9⟩, b10⟩, b11⟩, b12⟩, b13⟩, b14⟩, b15⟩, b16⟩ := hB
  have hsz : l.toArray.size = l.length := by simp
  refine wp_region_any hm ?_
  have inv0 : HeadInv .any l.toArray n (listE l.toArray []) := by
    refine ⟨b12, fun j oj hj hl e he hb => ?_, fun t ht ht' => ?_⟩
    · have h1 := List.all_eq_true.1 b14 j (List.mem_range.2 (Array.getElem?_eq_some_iff.1 hj).1)
      simp only [hj, hl, Bool.not_true, Bool.false_or] at h1
      have h2 := Array.all_eq_true_iff_forall_mem.1 h1 e he
      simpa [hb] using h2
    · have h1 := List.all_eq_true.1 b13 t (List.mem_range.2 ht')
      rw [decide_eq_false (by omega), Bool.false_or] at h1
      simpa using h1
  have hfin := wpAny_keptM (P := P) (md := .any) (ops := l.toArray) (Q := Q) (w0 := w) (n := n) (g := l.toArray.size - n) (Rm := Rm) (C := fun a' A => ∀ W, Kp none' w W → A W → wpList P l.toArray Q (l.drop n) a' W)
    (fun a A A' hA hc W hk hW => hc W hk (hA W hW)) b1 b3 b4 b2 b5 b6 (fun listed a'' A w' hs h1 h2 hcc hk hA => by
      have hcan : listed = canonB l.toArray n := by
        apply Array.ext
        · simp [canonB, hs]
        · intro i hi1 hi2
          have hil : i < l.toArray.size := by rw [← hs]; exact hi1
          simp only [canonB, List.map_toArray, List.getElem_toArray, List.getElem_map, List.getElem_range]
          by_cases hin : i < n
          · have := h1 i hin; simp [hi1] at this; rw [this, decide_eq_true hin]
          · have := h2 i (by omega) hil; simp [hi1] at this; rw [this, decide_eq_false hin]
      subst hcan
      have hdl : (l.drop n).length = l.toArray.size - n := by simp
      have := wpAny_of_seq (P := P) (md := .any) (ops := l.toArray) (Q' := Q) (l.drop n) n (canonB l.toArray n) a'' w' (fun j => by simp [List.getElem?_drop]) (by rw [hdl]; exact b15) (hcc w' hk hA)
      rwa [hdl] at this) K.length K (listE l.toArray []) a _ w.drew rfl (sortedB_spec K b8) (fun i hi => by simpa using List.all_eq_true.1 b9 i hi) (fun i hi => by
        have h1 := List.all_eq_true.1 b10 i (List.mem_range.2 hi)
        rw [beq_iff_eq] at h1
        rw [h1]; simp) inv0 (Kp.refl none' w).drew trivial (fun _ _ _ _ => trivial) h'
  have hKn : K.length = n := by simpa using b16
  rw [hKn, show n + (l.toArray.size - n) = l.toArray.size by omega] at hfin
  exact hfin
theorem wpML_op {w0 : World} {C : Act → (World → Prop) → Prop} {r : List (Oper × Option RS)} {o : Oper} {a : Act} {A : World → Prop} {v : Value} (hw : Region.wanted o (yielded ops a.tmps) = true) (h1 : ∀ W, Kp none' w0 W → (execOp a.eval o).run P W = .ok (.value v) W) (h2 : wpML P ops w0 C r (a.put o.dst v) A) : wpML P ops w0 C ((o, none) :: r) a A :=
  ⟨v, .inl ⟨hw, h1⟩, h2⟩
theorem wpML_call {w0 : World} {C : Act → (World → Prop) → Prop} {r : List (Oper × Option RS)} {o : Oper} {a : Act} {A : World → Prop} {R : RS} {f : FuncId} {args : Array Value} (hw : Region.wanted o (yielded ops a.tmps) = true) (h1 : ∀ W, (execOp a.eval o).run P W = .ok (.enter f args) W)
    (hc : ∀ W, Kp none' w0 W → Calls P f args W fun e w' => ∃ v, e = .returned v ∧ R.R v w' ∧ R.S v ∧ Kp none' W w') (h2 : ∀ v, R.S v → wpML P ops w0 C r (a.put o.dst v) (fun W => A W ∧ R.R v W)) : wpML P ops w0 C ((o, some R) :: r) a A :=
  ⟨⟨hw, fun W hk => .inr ⟨f, args, h1 W, hc W hk⟩⟩, h2⟩
def allocR (base : Nat) (z : List Value) (t : TypeId) : RS where
  R v W := ∃ b, v = .pointer (some ⟨b, 0, none⟩) ∧ base ≤ b ∧ Blk W b z t
  S v := ∃ b, v = .pointer (some ⟨b, 0, none⟩)
  wit := ⟨_, 0, rfl⟩
  per := fun _ _ _ ⟨b, h1, h2, h3⟩ k => ⟨b, h1, h2, h3.kp k id⟩
def rowR (base : Nat) (e : TypeId) (size n : Nat) (xs : List Value) : RS where
  R v W := W.ownsRow base e size v n xs
  S v := ∃ a c, v = .slice a n c
  wit := ⟨_, none, 0, rfl⟩
  per := fun _ _ _ h k => own_kp h k (fun _ _ x => x)
def constR (v0 : Value) : RS where
  R _ _ := True
  S v := v = v0
  wit := ⟨v0, rfl⟩
  per := fun _ _ _ _ _ => trivial
theorem wpML_const {w0 : World} {C : Act → (World → Prop) → Prop} {r : List (Oper × Option RS)} {o : Oper} {a : Act} {A : World → Prop} {v : Value} {f : FuncId} {args : Array Value} (hw : Region.wanted o (yielded ops a.tmps) = true) (h1 : ∀ W, (execOp a.eval o).run P W = .ok (.enter f args) W)
    (hc : ∀ W, Kp none' w0 W → Calls P f args W fun e w' => e = .returned v ∧ Kp none' W w') (h2 : wpML P ops w0 C r (a.put o.dst v) (fun W => A W ∧ True)) : wpML P ops w0 C ((o, some (constR v)) :: r) a A :=
  wpML_call hw h1 (fun W hk => (hc W hk).mono fun _ _ h => ⟨v, h.1, trivial, rfl, h.2⟩) (by rintro _ rfl; exact h2)
theorem wpML_row {w0 : World} {C : Act → (World → Prop) → Prop} {r : List (Oper × Option RS)} {o : Oper} {a : Act} {A : World → Prop} {base n size : Nat} {e : TypeId} {xs : List Value} {f : FuncId} {args : Array Value} (hw : Region.wanted o (yielded ops a.tmps) = true) (h1 : ∀ W, (execOp a.eval o).run P W = .ok (.enter f args) W)
    (hc : ∀ W, Kp none' w0 W → Calls P f args W fun x w' => ∃ v, x = .returned v ∧ w'.ownsRow base e size v n xs ∧ Kp none' W w') (h2 : ∀ p c, wpML P ops w0 C r (a.put o.dst (.slice p n c)) (fun W => A W ∧ W.ownsRow base e size (.slice p n c) n xs)) : wpML P ops w0 C ((o, some (rowR base e size n xs)) :: r) a A :=
  wpML_call hw h1 (fun W hk => (hc W hk).mono fun _ _ ⟨v, h1, h2, h3⟩ => ⟨v, h1, h2, own_shape h2, h3⟩) (by rintro v ⟨p, c, rfl⟩; exact h2 p c)
theorem wpML_alloc {w0 : World} {C : Act → (World → Prop) → Prop} {r : List (Oper × Option RS)} {o : Oper} {a : Act} {A : World → Prop} {z : List Value} {t : TypeId} {base : Nat} (hw : Region.wanted o (yielded ops a.tmps) = true) (hsz : base ≤ w0.heap.size) (h1 : ∀ W, (execOp a.eval o).run P W = .ok (.value (.pointer (some ⟨W.heap.size, 0, none⟩))) (W.alloc (.cells z.toArray t)))
    (h2 : ∀ b, wpML P ops w0 C r (a.put o.dst (.pointer (some ⟨b, 0, none⟩))) (fun W => A W ∧ (allocR base z t).R (.pointer (some ⟨b, 0, none⟩)) W)) : wpML P ops w0 C ((o, some (allocR base z t)) :: r) a A :=
  ⟨⟨hw, fun W hk => .inl ⟨_, _, h1 W, ⟨_, rfl, Nat.le_trans hsz hk.size, Blk.new W z t⟩, ⟨_, rfl⟩, (Kp.refl none' W).alloc _⟩⟩, by rintro v ⟨b, rfl⟩; exact h2 b⟩
end Go.Proofs.YtlaakhfgidjofaaGreatDoor
