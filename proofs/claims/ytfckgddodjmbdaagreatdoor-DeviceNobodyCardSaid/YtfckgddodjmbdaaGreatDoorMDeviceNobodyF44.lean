/- As KeptA; of the heads some, which only take a tuple apart, may come late, behind operations of the tail. Names no function of the program. -/
import Derived.Test.YtfckgddodjmbdaaGreatDoorMDeviceNobodyF35
import Derived.Test.YtfckgddodjmbdaaGreatDoorMDeviceNobodyF42
import Derived.Test.YtfckgddodjmbdaaGreatDoorMDeviceNobodyF38
import Derived.Test.YtfckgddodjmbdaaGreatDoorMDeviceNobodyF43
namespace Go.Proofs.YtfckgddodjmbdaaGreatDoor
set_option linter.unusedVariables false
set_option linter.unusedSimpArgs false
open Go Go.RowKit
variable {P : Program} {ops : Array Oper} {Q : Exit → Act → World → Prop} {md : Region.Mode}
theorem ever_extract {w0 : World} {o : Oper} {v : Value} {a : Act} (ho : ∃ x k, o.op = .extract x k) (h : EverK P ops w0 o v a) : Ever P ops o v a := by
  obtain ⟨x, k, ho⟩ := ho
  rcases h with ⟨hw, hv⟩ | h
  · refine .inl ⟨hw, fun w => .inl ?_⟩
    have hx := hv w0 (Kp.refl _ _)
    unfold execOp at hx ⊢
    simp only [ho, Instr.extract] at hx ⊢
    generalize a.eval x = y at hx ⊢
    cases y with
    | tuple vs =>
      simp only at hx ⊢
      cases hk : vs[k]? with
      | some u =>
        simp only [hk, Sem.run_bind, Sem.run_pure, Result.andThen_ok] at hx ⊢
        rcases hx with e | ⟨f, args, e, _⟩
        · cases e; rfl
        · cases e
      | none =>
        simp only [hk] at hx
        rcases hx with e | ⟨f, args, e, _⟩ <;> cases e
    | _ =>
      simp only at hx
      rcases hx with e | ⟨f, args, e, _⟩ <;> cases e
  · exact .inr h
def isExtract : Op → Bool
  | .extract _ _ => true
  | _ => false
def LateOk (md : Region.Mode) (ops : Array Oper) (n : Nat) (L : List Nat) : Prop :=
  (∀ i ∈ L, ∀ o, ops[i]? = some o → ∃ x k, o.op = .extract x k) ∧
  (∀ i ∈ L, ∀ o, ops[i]? = some o → ∀ j oj, ops[j]? = some oj → (n ≤ j ∨ j ∈ L) → j ≠ i → (∀ e ∈ oj.after, Region.binds md e = true → e.on ≠ i) → o.apart ops oj = true)
def lateB (md : Region.Mode) (ops : Array Oper) (n : Nat) (L : List Nat) : Bool :=
  L.all fun i => match ops[i]? with
    | none => true
    | some o => isExtract o.op && (List.range ops.size).all fun j => (decide (j < n) && !L.contains j) || decide (j = i) || Region.waitsFor md ops j i || match ops[j]? with | some oj => o.apart ops oj | none => true
theorem lateB_spec {n : Nat} {L : List Nat} (h : lateB md ops n L = true) : LateOk md ops n L := by
  refine ⟨fun i hi o ho => ?_, fun i hi o ho j oj hoj hjn hji hno => ?_⟩
  · have h1 := List.all_eq_true.1 h i hi
    simp only [ho, Bool.and_eq_true] at h1
    cases hop : o.op with
    | extract x k => exact ⟨x, k, rfl⟩
    | _ => rw [hop] at h1; cases h1.1
  · have h1 := List.all_eq_true.1 h i hi
    simp only [ho, Bool.and_eq_true] at h1
    have h2 := List.all_eq_true.1 h1.2 j (List.mem_range.2 (Array.getElem?_eq_some_iff.1 hoj).1)
    simp only [hoj, Bool.or_eq_true, Bool.and_eq_true, decide_eq_true_eq, Bool.not_eq_true'] at h2
    rcases h2 with ((h2 | h2) | h2) | h2
    · rcases hjn with h3 | h3
      · omega
      · have h5 : L.contains j = true := by simpa using h3
        rw [h2.2] at h5; cases h5
    · exact absurd h2 hji
    · obtain ⟨o', ho', e, he, hb, hon⟩ := Region.waitsFor_spec h2
      have : o' = oj := Option.some.inj (ho'.symm.trans hoj)
      subst this
      exact absurd hon (hno e he hb)
    · exact h2
def sinkL (md : Region.Mode) (ops : Array Oper) (L : List Nat) (n : Nat) : Bool :=
  (List.range n).all fun i => L.contains i || (List.range (n + 1)).any fun j => decide (i < j) && !L.contains j && Region.waitsFor md ops j i
theorem tail_waitsL {L : List Nat} {n : Nat} {listed : Array Bool} (hs : sinkL md ops L n = true) (hc : Region.chainB md ops n = true) (hn : n < ops.size) (inv : HeadInv md ops n listed) :
    ∀ (d i : Nat), n - i = d → i < n → i ∉ L → listed.getD i true = false → ∀ t, n ≤ t → t ∉ Region.ready md ops listed := by
  intro d
  induction d using Nat.strongRecOn with
  | _ d ih =>
    intro i hd hi hiL hun t ht hr
    obtain ⟨_, ot, hot, hall⟩ := mem_ready.1 hr
    have htlt : t < ops.size := (Array.getElem?_eq_some_iff.1 hot).1
    by_cases htn : t = n
    · subst htn
      have h1 := List.all_eq_true.1 hs i (List.mem_range.2 hi)
      rw [Bool.or_eq_true] at h1
      rcases h1 with h1 | h1
      · exact absurd (by simpa using h1) hiL
      · obtain ⟨j, hj, hj2⟩ := List.any_eq_true.1 h1
        simp only [Bool.and_eq_true, decide_eq_true_eq, Bool.not_eq_true'] at hj2
        have hjL : j ∉ L := fun hm => by have h5 : L.contains j = true := by simpa using hm
                                         rw [hj2.1.2] at h5; cases h5
        obtain ⟨oj, hoj, e, he, hb, hon⟩ := Region.waitsFor_spec hj2.2
        have hjle : j ≤ t := by have := List.mem_range.1 hj; omega
        by_cases hjt : j = t
        · subst hjt
          have : oj = ot := Option.some.inj (hoj.symm.trans hot)
          subst this
          have h2 := hall e he hb
          rw [hon, getD_both hun] at h2
          cases h2
        · cases hl : listed.getD j false with
          | true =>
            have h2 := inv.closed j oj hoj hl e he hb
            rw [hon, getD_both hun] at h2
            cases h2
          | false =>
            have hjs : j < listed.size := by rw [inv.size]; omega
            exact ih (t - j) (by omega) j rfl (by omega) hjL (getD_in hjs hl) t (Nat.le_refl _) hr
    · have h1 := List.all_eq_true.1 hc t (List.mem_range.2 htlt)
      simp only [Bool.or_eq_true, decide_eq_true_eq] at h1
      rcases h1 with h1 | h1
      · omega
      · obtain ⟨o', ho', e, he, hb, hon⟩ := Region.waitsFor_spec h1
        have : o' = ot := Option.some.inj (ho'.symm.trans hot)
        subst this
        have h2 := hall e he hb
        rw [hon, getD_both (inv.tail (t - 1) (by omega) (by omega))] at h2
        cases h2
theorem wpAny_keptL {w0 : World} {n g : Nat} {L : List Nat} {C : Act → Prop} (hsel : Region.noSelect ops = true) (hs : sinkL md ops L n = true) (hQ : ∀ c a d u w, Q (.panic c) (Act.put a d u) w → Q (.panic c) a w) (hL : LateOk md ops n L) (hc : Region.chainB md ops n = true) (hn : n < ops.size) (hd : depsB md ops = true) (hp : pairsB md ops n = true)
    (hC : ∀ listed a w, listed.size = ops.size → (∀ i, i < n → listed.getD i false = true) → (∀ t, n ≤ t → t < ops.size → listed.getD t true = false) → C a → Kp none' w0 w → wpAny P md ops Q g listed a w) :
    ∀ (m : Nat) (R : List Nat) (listed : Array Bool) (a : Act) (w : World), R.length = m → R.Pairwise (· < ·) → (∀ i ∈ R, i < n) → (∀ i, i < n → (listed.getD i true = false ↔ i ∈ R)) → HeadInv md ops n listed → Kp none' w0 w →
      wpKept P ops w0 C R a → wpAny P md ops Q (m + g) listed a w := by
  intro m
  induction m with
  | zero =>
    intro R listed a w hl _ _ hR inv hk h
    have : R = [] := List.eq_nil_of_length_eq_zero hl
    subst this
    rw [Nat.zero_add]
    exact hC listed a w inv.size (fun i hi => getD_true_of (by rw [inv.size]; omega) (fun h0 => by have := (hR i hi).1 h0; cases this)) inv.tail h hk
  | succ m ih =>
    intro R listed a w hl hpw hRn hR inv hk h
    obtain ⟨r0, R', rfl⟩ : ∃ r0 R', R = r0 :: R' := by cases R with | nil => simp at hl | cons r R' => exact ⟨_, _, rfl⟩
    have hr0 : r0 < n := hRn r0 List.mem_cons_self
    have hun0 : listed.getD r0 true = false := (hR r0 hr0).2 List.mem_cons_self
    rw [show m + 1 + g = (m + g) + 1 by omega]
    have hrd : r0 ∈ Region.ready md ops listed := by
        obtain ⟨o, ho⟩ : ∃ o, ops[r0]? = some o := ⟨_, Array.getElem?_eq_getElem (by omega)⟩
        refine mem_ready.2 ⟨hun0, o, ho, fun e he hb => ?_⟩
        have hlt := depsB_spec hd r0 o ho e he hb
        refine getD_true_of (by rw [inv.size]; omega) (fun h1 => ?_)
        have hm := (hR e.on (by omega)).1 h1
        rcases List.mem_cons.1 hm with h2 | h2
        · omega
        · have := (List.pairwise_cons.1 hpw).1 _ h2; omega
    by_cases hall : ∀ r ∈ r0 :: R', r ∈ L
    · obtain ⟨o, v, h0, h1, h2⟩ := h
      have hr0L := hall r0 List.mem_cons_self
      have hsz : r0 < listed.size := by rw [inv.size]; omega
      refine wpAny_ever h0 (Region.noSelect_spec hsel) hQ _ listed a w (fun j oj hoj hji hun2 hno => hL.2 r0 hr0L o h0 j oj hoj (by rcases Nat.lt_or_ge j n with h3 | h3; exact .inr (hall j ((hR j h3).1 hun2)); exact .inl h3) hji hno) hrd (ever_extract (hL.1 r0 hr0L o h0) h1)
        (ih R' _ _ w (by simpa using hl) (List.pairwise_cons.1 hpw).2 (fun j hj => hRn j (List.mem_cons_of_mem _ hj)) (fun j hj => ?_) (inv.set hrd hr0) hk h2)
      by_cases hji : r0 = j
      · subst hji
        have h1 : (listed.setIfInBounds r0 true).getD r0 true = true := by simp [hsz]
        rw [h1]
        exact ⟨fun h => (by cases h), fun h => by have := (List.pairwise_cons.1 hpw).1 _ h; omega⟩
      · rw [getD_set_ne true hji, hR j hj]
        exact ⟨fun h => by rcases List.mem_cons.1 h with h | h; exact absurd h.symm hji; exact h, fun h => List.mem_cons_of_mem _ h⟩
    obtain ⟨r1, hr1, hr1L⟩ : ∃ r1, r1 ∈ r0 :: R' ∧ r1 ∉ L := Classical.byContradiction (fun hc => hall (fun r hr => Classical.byContradiction (fun hn => hc ⟨r, hr, hn⟩)))
    have hr1n : r1 < n := hRn r1 hr1
    have hun1 : listed.getD r1 true = false := (hR r1 hr1n).2 hr1
    refine ⟨fun h0 => ?_, fun i hi => ?_⟩
    · rw [h0] at hrd; cases hrd
    · have hin : i < n := by
        rcases Nat.lt_or_ge i n with h1 | h1
        · exact h1
        · exact absurd hi (tail_waitsL hs hc hn inv _ r1 rfl hr1n hr1L hun1 i h1)
      obtain ⟨hun, oi, hoi, hall⟩ := mem_ready.1 hi
      have hm := (hR i hin).1 hun
      obtain ⟨pre, post, hpp⟩ := List.append_of_mem hm
      rw [hpp] at h hpw hR hRn hl
      have hpre : ∀ p ∈ pre, p < i := fun p hp => (List.pairwise_append.1 hpw).2.2 p hp i List.mem_cons_self
      have hpost : ∀ p ∈ post, i < p := fun p hp => (List.pairwise_cons.1 (List.pairwise_append.1 hpw).2.1).1 p hp
      obtain ⟨v, e1, e2⟩ := wpKept.out hoi (Region.noSelect_spec hsel) post pre a (fun p hp' op hop => pairsB_spec hp p i op oi (hpre p hp') hin hop hoi (fun e he hb heq => by
        have h1 := hall e he hb
        have h2 := (hR p (hRn p (List.mem_append_left _ hp'))).2 (List.mem_append_left _ hp')
        rw [heq, getD_both h2] at h1; cases h1)) h
      have hsub : (pre ++ post).Sublist (pre ++ i :: post) := List.Sublist.append_left (List.sublist_cons_self _ _) _
      refine e1.wpOp hoi hk (fun w' hk' => ih (pre ++ post) _ _ w' (by simp at hl ⊢; omega) (hpw.sublist hsub) (fun j hj => hRn j (hsub.subset hj)) (fun j hj => ?_) (inv.set hi hin) hk' e2)
      by_cases hji : i = j
      · subst hji
        have h1 : (listed.setIfInBounds i true).getD i true = true := by
          have : i < listed.size := by rw [inv.size]; omega
          simp [this]
        rw [h1]
        refine ⟨fun h => (by cases h), fun h => ?_⟩
        rcases List.mem_append.1 h with h | h
        · have := hpre _ h; omega
        · have := hpost _ h; omega
      · rw [getD_set_ne true hji, hR j hj]
        constructor
        · intro h
          rcases List.mem_append.1 h with h | h
          · exact List.mem_append_left _ h
          · rcases List.mem_cons.1 h with h | h
            · omega
            · exact List.mem_append_right _ h
        · intro h; exact hsub.subset h
theorem wpAny_keptAL {w0 : World} {n g s : Nat} {os : Oper} {z : List Value} {t : TypeId} {L : List Nat} {T : Act → World → Prop} (hsel : Region.noSelect ops = true) (hs : sinkL md ops L n = true) (hQ : ∀ c a d u w, Q (.panic c) (Act.put a d u) w → Q (.panic c) a w) (hL : LateOk md ops n L) (hsL : s ∉ L) (hc : Region.chainB md ops n = true) (hn : n < ops.size) (hd : depsB md ops = true) (hp : pairsB md ops n = true)
    (hsn : s < n) (hos : ops[s]? = some os) (hgd : ∀ l, Region.wanted os l = true) (hal : ∀ (a : Act) W, (execOp a.eval os).run P W = .ok (.value (.pointer (some ⟨W.heap.size, 0, none⟩))) (W.alloc (.cells z.toArray t)))
    (hap : ∀ i o, i < n → i ≠ s → ops[i]? = some o → o.apart ops os = true)
    (hC : ∀ listed a w, listed.size = ops.size → (∀ i, i < n → listed.getD i false = true) → (∀ t, n ≤ t → t < ops.size → listed.getD t true = false) → T a w → wpAny P md ops Q g listed a w) :
    ∀ (m : Nat) (R : List Nat) (listed : Array Bool) (a : Act) (w : World), R.length = m → R.Pairwise (· < ·) → (∀ i ∈ R, i < n ∧ i ≠ s) → (∀ i, i < n → (listed.getD i true = false ↔ (i ∈ R ∨ i = s))) → HeadInv md ops n listed → Kp none' w0 w →
      wpKept P ops w0 (fun a' => ∀ b W, w0.heap.size ≤ b → Blk W b z t → Kp none' w0 W → T (a'.put os.dst (.pointer (some ⟨b, 0, none⟩))) W) R a → wpAny P md ops Q (m + 1 + g) listed a w := by
  intro m
  induction m with
  | zero =>
    intro R listed a w hl hpw hRn hR inv hk h
    have hR0 : R = [] := List.eq_nil_of_length_eq_zero hl
    subst hR0
    rw [show 0 + 1 + g = g + 1 by omega]
    have huns : listed.getD s true = false := (hR s hsn).2 (.inr rfl)
    refine ⟨fun h0 => ?_, fun i hi => ?_⟩
    · have : s ∈ Region.ready md ops listed := by
        refine mem_ready.2 ⟨huns, os, hos, fun e he hb => ?_⟩
        have hlt := depsB_spec hd s os hos e he hb
        refine getD_true_of (by rw [inv.size]; omega) (fun h1 => ?_)
        rcases (hR e.on (by omega)).1 h1 with h2 | h2
        · cases h2
        · omega
      rw [h0] at this; cases this
    · have hin : i < n := by
        rcases Nat.lt_or_ge i n with h1 | h1
        · exact h1
        · exact absurd hi (tail_waitsL hs hc hn inv _ s rfl hsn hsL huns i h1)
      obtain ⟨hun, oi, hoi, hall⟩ := mem_ready.1 hi
      have his : i = s := by
        rcases (hR i hin).1 hun with h2 | h2
        · cases h2
        · exact h2
      subst his
      unfold Go.wpOp
      simp only [hos]
      rw [if_pos (hgd _)]
      refine .inl ?_
      unfold Oper.wp
      rw [hal]
      have hsz : i < listed.size := by rw [inv.size]; omega
      refine hC _ _ _ (by simp [inv.size]) (fun j hj => ?_) (fun t' ht ht' => ?_) (h w.heap.size _ hk.size (Blk.new w z t) (hk.alloc _))
      · by_cases hji : i = j
        · subst hji; simp [hsz]
        · refine getD_true_of (by simp [inv.size]; omega) (fun h1 => ?_)
          rw [getD_set_ne true hji] at h1
          rcases (hR j hj).1 h1 with h2 | h2
          · cases h2
          · omega
      · rw [getD_set_ne true (by omega)]; exact inv.tail t' ht ht'
  | succ m ih =>
    intro R listed a w hl hpw hRn hR inv hk h
    obtain ⟨r0, R', rfl⟩ : ∃ r0 R', R = r0 :: R' := by cases R with | nil => simp at hl | cons r R' => exact ⟨_, _, rfl⟩
    have hr0 := hRn r0 List.mem_cons_self
    have hun0 : listed.getD r0 true = false := (hR r0 hr0.1).2 (.inl List.mem_cons_self)
    have huns : listed.getD s true = false := (hR s hsn).2 (.inr rfl)
    rw [show m + 1 + 1 + g = (m + 1 + g) + 1 by omega]
    refine ⟨fun h0 => ?_, fun i hi => ?_⟩
    · by_cases hlt0 : s < r0
      · have : s ∈ Region.ready md ops listed := by
          refine mem_ready.2 ⟨huns, os, hos, fun e he hb => ?_⟩
          have hlt := depsB_spec hd s os hos e he hb
          refine getD_true_of (by rw [inv.size]; omega) (fun h1 => ?_)
          rcases (hR e.on (by omega)).1 h1 with h2 | h2
          · rcases List.mem_cons.1 h2 with h2 | h2
            · omega
            · have := (List.pairwise_cons.1 hpw).1 _ h2; omega
          · omega
        rw [h0] at this; cases this
      · have : r0 ∈ Region.ready md ops listed := by
          obtain ⟨o, ho⟩ : ∃ o, ops[r0]? = some o := ⟨_, Array.getElem?_eq_getElem (by omega)⟩
          refine mem_ready.2 ⟨hun0, o, ho, fun e he hb => ?_⟩
          have hlt := depsB_spec hd r0 o ho e he hb
          refine getD_true_of (by rw [inv.size]; omega) (fun h1 => ?_)
          rcases (hR e.on (by omega)).1 h1 with h2 | h2
          · rcases List.mem_cons.1 h2 with h2 | h2
            · omega
            · have := (List.pairwise_cons.1 hpw).1 _ h2; omega
          · have := hr0.2; omega
        rw [h0] at this; cases this
    · have hin : i < n := by
        rcases Nat.lt_or_ge i n with h1 | h1
        · exact h1
        · exact absurd hi (tail_waitsL hs hc hn inv _ s rfl hsn hsL huns i h1)
      obtain ⟨hun, oi, hoi, hall⟩ := mem_ready.1 hi
      by_cases his : i = s
      · subst his
        unfold Go.wpOp
        simp only [hos]
        rw [if_pos (hgd _)]
        refine .inl ?_
        unfold Oper.wp
        rw [hal]
        have hb := Blk.new w z t
        have hk1 : Kp none' w0 (w.alloc (.cells z.toArray t)) := hk.alloc _
        have h1 := wpKept.put (C := fun a' => ∀ W, Blk W w.heap.size z t → Kp none' w0 W → T a' W) hos (Region.noSelect_spec hsel) (.pointer (some ⟨w.heap.size, 0, none⟩)) (r0 :: R') a
          (fun p hp' op hop => hap p op (hRn p hp').1 (hRn p hp').2 hop) (wpKept.later (Kp.refl none' w0) (fun a' hc W h2 h3 => hc w.heap.size W hk.size h2 h3) _ _ h)
        have h2 := wpKept.later (w1 := w.alloc (.cells z.toArray t)) (C' := fun a' => ∀ W, Kp none' (w.alloc (.cells z.toArray t)) W → T a' W) hk1 (fun a' hc W hkW => hc W (hb.kp hkW (fun x => x)) (hk1.trans hkW)) _ _ h1
        have hsz : i < listed.size := by rw [inv.size]; omega
        have := wpAny_keptL (g := g) (L := L) hsel hs hQ hL hc hn hd hp (fun listed a w hs1 h1 h2 hcc hkk => hC listed a w hs1 h1 h2 (hcc w hkk)) (m + 1) (r0 :: R') (listed.setIfInBounds i true) _ _ hl hpw (fun j hj => (hRn j hj).1) (fun j hj => ?_) (inv.set hi hin) (Kp.refl none' _) h2
        · exact this
        · by_cases hji : i = j
          · subst hji
            have h3 : (listed.setIfInBounds i true).getD i true = true := by simp [hsz]
            rw [h3]
            exact ⟨fun h => (by cases h), fun h => absurd rfl (hRn _ h).2⟩
          · rw [getD_set_ne true hji, hR j hj]
            exact ⟨fun h => by rcases h with h | h; exact h; omega, fun h => .inl h⟩
      · have hm : i ∈ r0 :: R' := by
          rcases (hR i hin).1 hun with h2 | h2
          · exact h2
          · exact absurd h2 his
        obtain ⟨pre, post, hpp⟩ := List.append_of_mem hm
        rw [hpp] at h hpw hR hRn hl
        have hpre : ∀ p ∈ pre, p < i := fun p hp => (List.pairwise_append.1 hpw).2.2 p hp i List.mem_cons_self
        have hpost : ∀ p ∈ post, i < p := fun p hp => (List.pairwise_cons.1 (List.pairwise_append.1 hpw).2.1).1 p hp
        obtain ⟨v, e1, e2⟩ := wpKept.out hoi (Region.noSelect_spec hsel) post pre a (fun p hp' op hop => pairsB_spec hp p i op oi (hpre p hp') hin hop hoi (fun e he hb heq => by
          have h1 := hall e he hb
          have h2 := (hR p (hRn p (List.mem_append_left _ hp')).1).2 (.inl (List.mem_append_left _ hp'))
          rw [heq, getD_both h2] at h1; cases h1)) h
        have hsub : (pre ++ post).Sublist (pre ++ i :: post) := List.Sublist.append_left (List.sublist_cons_self _ _) _
        refine e1.wpOp hoi hk (fun w' hk' => ih (pre ++ post) _ _ w' (by simp at hl ⊢; omega) (hpw.sublist hsub) (fun j hj => hRn j (hsub.subset hj)) (fun j hj => ?_) (inv.set hi hin) hk' e2)
        by_cases hji : i = j
        · subst hji
          have h1 : (listed.setIfInBounds i true).getD i true = true := by
            have : i < listed.size := by rw [inv.size]; omega
            simp [this]
          rw [h1]
          refine ⟨fun h => (by cases h), fun h => ?_⟩
          rcases h with h | h
          · rcases List.mem_append.1 h with h | h
            · have := hpre _ h; omega
            · have := hpost _ h; omega
          · exact absurd h his
        · rw [getD_set_ne true hji, hR j hj]
          constructor
          · rintro (h | h)
            · rcases List.mem_append.1 h with h | h
              · exact .inl (List.mem_append_left _ h)
              · rcases List.mem_cons.1 h with h | h
                · omega
                · exact .inl (List.mem_append_right _ h)
            · exact .inr h
          · rintro (h | h)
            · exact .inl (hsub.subset h)
            · exact .inr h
def keptABL (md : Region.Mode) (ops : Array Oper) (L K : List Nat) (s n : Nat) : Bool :=
  Region.noSelect ops && decide (n < ops.size) && sinkL md ops L n && Region.chainB md ops n && depsB md ops && pairsB md ops n && sortedB K && K.all (fun k => decide (k < n) && decide (k ≠ s)) &&
  ((List.range n).all fun i => K.contains i || decide (i = s)) && decide (s < n) && Region.seqB md ops (ops.size - n) n (canonB ops n) && decide (K.length + 1 = n) &&
  ((List.range n).all fun i => decide (i = s) || match ops[i]?, ops[s]? with | some o, some os => o.apart ops os | _, _ => true) && lateB md ops n L && !L.contains s
theorem wp_region_keptAL {id : Nat} {a : Act} {w : World} {l : List Oper} (L K : List Nat) (s n : Nat) (z : List Value) (t : TypeId) {os : Oper} (hm : P.follows .mixedOrders = true) (hB : (keptABL .any l.toArray L K s n && K.all (fun k => decide (k < l.length))) = true)
    (hQ : ∀ c a d u w, Q (.panic c) (Act.put a d u) w → Q (.panic c) a w) (hos : l[s]? = some os) (hgd : os.guard = none) (hal : ∀ (a : Act) W, (execOp a.eval os).run P W = .ok (.value (.pointer (some ⟨W.heap.size, 0, none⟩))) (W.alloc (.cells z.toArray t)))
    (h : wpKL P l.toArray w (fun a' => ∀ b W, w.heap.size ≤ b → Blk W b z t → Kp none' w W → wpList P l.toArray Q (l.drop n) (a'.put os.dst (.pointer (some ⟨b, 0, none⟩))) W) (pick l K) a) : (Code.region id l.toArray true).wp P Q a w := by
  simp only [keptABL, Bool.and_eq_true, decide_eq_true_eq] at hB
  obtain ⟨⟨⟨⟨⟨⟨⟨⟨⟨⟨⟨⟨⟨⟨⟨b1, b2⟩, b3⟩, b4⟩, b5⟩, b6⟩, b7⟩, b8⟩, b9⟩, b10⟩, b11⟩, b12⟩, b13⟩, b14⟩, b15⟩, bK⟩ := hB
  have hsz : l.toArray.size = l.length := by simp
  have hos' : l.toArray[s]? = some os := by rw [List.getElem?_toArray]; exact hos
  refine wp_region_any hm ?_
  have inv0 : HeadInv .any l.toArray n (Array.replicate l.toArray.size false) := by
    refine ⟨by simp, fun j oj hj hl e he hb => ?_, fun t ht ht' => ?_⟩
    · have hj' : j < l.length := by have := (Array.getElem?_eq_some_iff.1 hj).1; simpa using this
      simp [hj'] at hl
    · have ht2 : t < l.length := by simpa using ht'
      simp [ht2]
  have hfin := wpAny_keptAL (P := P) (Q := Q) (md := .any) (ops := l.toArray) (w0 := w) (z := z) (t := t) (L := L) (g := l.toArray.size - n) (T := fun a' W => wpList P l.toArray Q (l.drop n) a' W) b1 b3 hQ (lateB_spec b14) (fun hm' => by (have h5 : L.contains s = true := by simpa using hm'); rw [h5] at b15; cases b15) b4 b2 b5 b6 b10 hos'
    (fun l' => by unfold Region.wanted; rw [hgd]) hal
    (fun i o hi hne hio => by
      have h1 := List.all_eq_true.1 b13 i (List.mem_range.2 hi)
      rw [Bool.or_eq_true] at h1
      rcases h1 with h1 | h1
      · exact absurd (of_decide_eq_true h1) hne
      · simpa [hio, hos'] using h1)
    (fun listed a'' w' hs h1 h2 hcc => by
      have hcan : listed = canonB l.toArray n := by
        apply Array.ext
        · simp [canonB, hs]
        · intro i hi1 hi2
          have hil : i < l.toArray.size := by rw [← hs]; exact hi1
          simp only [canonB, List.map_toArray, List.getElem_toArray, List.getElem_map, List.getElem_range]
          by_cases hin : i < n
          · have := h1 i hin; simp [hi1] at this; rw [this, decide_eq_true hin]
          · have := h2 i (by omega) hil; simp [hi1] at this; rw [this, decide_eq_false hin]
      subst hcan
      have hdl : (l.drop n).length = l.toArray.size - n := by simp
      have := wpAny_of_seq (P := P) (md := .any) (ops := l.toArray) (Q' := Q) (l.drop n) n (canonB l.toArray n) a'' w' (fun j => by simp [List.getElem?_drop]) (by rw [hdl]; exact b11) hcc
      rwa [hdl] at this) K.length K (Array.replicate l.toArray.size false) a w.drew rfl (sortedB_spec K b7) (fun i hi => by
        have := List.all_eq_true.1 b8 i hi
        simpa using this) (fun i hi => by
        have h1 := List.all_eq_true.1 b9 i (List.mem_range.2 hi)
        have hi2 : i < l.length := by omega
        simp [hi2] at h1 ⊢
        exact h1) inv0 (Kp.refl none' w).drew (kept_of_list K a bK h)
  rw [show K.length + 1 + (l.toArray.size - n) = l.toArray.size by omega] at hfin
  exact hfin
end Go.Proofs.YtfckgddodjmbdaaGreatDoor

namespace Go.Proofs.YtfckgddodjmbdaaGreatDoor
set_option linter.unusedVariables false
set_option linter.unusedSimpArgs false
open Go Go.RowKit Go.Shelf
theorem infoPx37 : (Tryz.prog.info? 88).map (·.size) = some 2 := by kernel_rfl
set_option maxRecDepth 100000 in
set_option maxHeartbeats 4000000 in
theorem dInYes {w : World} {d : DvR} (h : DvM w d) (s : ByteArray) (hs : s.size ≤ 100000) (he : takeE (bl s) = 0) (hd : (takeH (bl s)).d < 4294967296) (i : Nat) (hi : i < d.ls.length) (hbi : accX (d.T.best (takeH (bl s)).d none) = i) (hbu : accU (d.T.best (takeH (bl s)).d none) = true) (hq : d.ls[i].q.length < d.room) :
    Calls Tryz.prog 11 #[.pointer (some ⟨d.db, 0, none⟩), .string s] w fun e w' => e = .returned (.tuple #[.int .i64 i, .int .i64 0]) ∧ DvM w' { d with ls := d.ls.set i { d.ls[i] with q := d.ls[i].q ++ [s] } } ∧ Kp (fun b => b = d.ls[i].xc) w w' := by
  have HT := Lib.hid (fun W => hTakeOk s hs he W)
  have HF := Lib.hid (fun W (k : Kp none' w W) => ti.tFind W d.tb d.T d.n (h.tab.old k).blk (h.tab.old k).mem h.tab.wf (takeH (bl s)).d hd)
  rw [hbi, hbu] at HF
  obtain ⟨H, hH⟩ : ∃ H, takeH (bl s) = H := ⟨_, rfl⟩
  rw [hH] at HT HF
  obtain ⟨pxv, hpxv⟩ : ∃ pxv, accP (d.T.best H.d none) = pxv := ⟨_, rfl⟩
  rw [hpxv] at HF
  obtain ⟨px0, px1⟩ := pxv
  clear hH hbi hbu hd he hpxv
  have HD := Lib.hid h
  obtain ⟨g, sc, hv, hgt⟩ := own_shape1 h.row (by omega)
  have hrow := h.row
  rw [hv] at hrow
  have hcl := own_cell hrow i (u := .pointer (some ⟨d.ls[i].lb, 0, none⟩)) (by
    have := flat_get lnP 1 lnP_len d.ls i 0 (by decide)
    rw [Nat.mul_one, Nat.add_zero] at this
    rw [this, List.getElem?_eq_getElem hi]; rfl)
  have hl := h.ln _ (List.getElem_mem hi)
  have l1 := hl.top.cell 1 (v := .pointer (some ⟨d.ls[i].xb, 0, none⟩)) rfl
  have HL := Lib.hid hl
  have t0 : w.cell? ⟨d.db, 0, none⟩ = some d.v := h.top.cell 0 rfl
  have t1 : w.cell? ⟨d.db, 1, none⟩ = some (.pointer (some ⟨d.tb, 0, none⟩)) := h.top.cell 1 rfl
  rw [hv] at t0
  obtain ⟨lb, hlb⟩ : ∃ lb, d.ls[i].lb = lb := ⟨_, rfl⟩
  obtain ⟨xb, hxb⟩ : ∃ xb, d.ls[i].xb = xb := ⟨_, rfl⟩
  obtain ⟨db, hdb⟩ : ∃ db, d.db = db := ⟨_, rfl⟩
  obtain ⟨tb, htb⟩ : ∃ tb, d.tb = tb := ⟨_, rfl⟩
  obtain ⟨nl, hnl⟩ : ∃ nl, d.ls.length = nl := ⟨_, rfl⟩
  have hii : (i : Int) < nl := by omega
  have HXB := Lib.hid hxb
  have HDB := Lib.hid hdb
  rw [hlb] at hcl l1
  rw [hxb] at l1
  rw [hdb, htb] at t1
  rw [hdb, hnl] at t0
  rw [htb] at HF
  rw [hdb]
  have HQ := Lib.hid hq
  have HII := Lib.hid hi
  obtain ⟨ds, id, ttl, sr, dd, sp, dp⟩ := H
  simp only [enHd] at HT HF
  clear h hl hlb hxb hq hgt hdb htb hnl hrow hv
  refine calls_post ?_
  intro PP HP
  go_enter Tryz.func11, Tryz.ntmps11
  go_wp2_with fail
  refine (HT.out _).mono ?_
  rintro e w1 ⟨rfl, hk1⟩
  have HK1 := Lib.hid hk1
  have t1' := hk1.cell t1 (fun x => x)
  clear hk1
  go_upto_region 6 with fail
  have hk2 : Kp none' w1 (w1.alloc (.cells #[.int .u8 ds, .int .u16 id, .int .u8 ttl, .int .u32 sr, .int .u32 dd, .int .u16 sp, .int .u16 dp] 56)) := (Kp.refl none' w1).alloc _
  have hb2 := (Blk.new w1 [.int .u8 ds, .int .u16 id, .int .u8 ttl, .int .u32 sr, .int .u32 dd, .int .u16 sp, .int .u16 dp] 56).cell 4 rfl
  obtain ⟨W2, hW2⟩ : ∃ W2, w1.alloc (.cells #[.int .u8 ds, .int .u16 id, .int .u8 ttl, .int .u32 sr, .int .u32 dd, .int .u16 sp, .int .u16 dp] 56) = W2 := ⟨_, rfl⟩
  obtain ⟨hb, hhb⟩ : ∃ hb, w1.heap.size = hb := ⟨_, rfl⟩
  have hb2' : W2.cell? ⟨hb, 4, none⟩ = some (.int .u32 dd) := by rw [← hW2, ← hhb]; exact hb2
  rw [hW2] at hk2 ⊢
  rw [hhb]
  have HK2 := Lib.hid (HK1.out.trans hk2)
  have t12 := HK2.out.cell t1 (fun x => x)
  have HF2 := Lib.hid (fun W (k : Kp none' W2 W) => HF.out W (HK2.out.trans k))
  clear hk2 hb2 hW2 hhb t1 t1' HT HK1 HF
  refine wp_region_keptAL [9, 10] [0, 1, 2, 3, 4, 5, 6, 7, 8, 9, 10] 11 12 ([.int .u32 0, .int .i64 0]) 88 (by kernel_rfl) (by kernel_rfl) (fun c a d u w h => by cases d <;> exact h) rfl rfl (fun _ _ => by kernel_rfl) ?_
  simp only [pick, List.getElem?_cons_succ, List.getElem?_cons_zero, List.drop_succ_cons, List.drop_zero]
  show wpKL _ _ _ _ _ _
  repeat (first
    | (refine wpKL_op (by exact rfl) (by as_aux_lemma => intro W hK; have e0 := hK.cell t12 (fun x => x); have e1 := hK.cell hb2' (fun x => x); go_simp; exact rfl) ?_; simp only [Act.put, List.setIfInBounds_toArray, List.set_cons_succ, List.set_cons_zero])
    | (refine wpKL_off (by exact rfl) ?_; simp only [Act.put, List.setIfInBounds_toArray, List.set_cons_succ, List.set_cons_zero])
    | (refine wpKL_call (by exact rfl) (by as_aux_lemma => intro W; go_simp; exact ⟨rfl, rfl⟩) (by intro W hK; with_reducible first | exact HF2.out W hK) ?_; simp only [Act.put, List.setIfInBounds_toArray, List.set_cons_succ, List.set_cons_zero]))
  show ∀ b W, _ → _ → _ → wpList _ _ _ _ _ _
  simp only [Act.put, List.setIfInBounds_toArray, List.set_cons_succ, List.set_cons_zero]
  intro b3 W3 hb3 hB3 hK3
  have HB3 := Lib.hid hB3
  have HK3 := Lib.hid (HK2.out.trans hK3)
  have hge : w.heap.size ≤ b3 := Nat.le_trans HK2.out.size hb3
  clear hB3 hK3 hb3 HK2 t12 hb2' HF2
  go_wp2_with (refine wp_st_blk rfl 88 (.tmp 9) (.tmp 38) rfl HB3.out [.int .u32 px0, .int .i64 px1] rfl rfl rfl infoPx37 rfl ?_; intro W4 hb4 hk4; have HK4 : Hid (Kp none' w W4) := Lib.hid (HK3.out.then hk4 (fun i h1 h2 => by omega)); have s0 := HK4.out.cell t0 (fun x => x); have s1 := HK4.out.cell hcl (fun x => x); have s2 := HK4.out.cell l1 (fun x => x); clear hb4 hk4 HB3 HK3 t0 hcl l1)
  have hsd := mSend (HL.out.bx.old HK4.out) HQ.out s
  rw [HXB.out] at hsd
  refine hsd.mono ?_
  rintro e w5 ⟨rfl, hb5, hk5⟩
  have hll := HL.out.old HK4.out
  rw [← HXB.out] at hb5
  have hm : LnM w5 d.room { d.ls[i] with q := d.ls[i].q ++ [s] } :=
    { top := hll.top.kp hk5 hll.d2, po := hll.po.kp hk5 (fun b hb e => hll.d5 (by rw [show b = d.ls[i].xc from e] at hb; exact hb)) (fun b h1 h2 e => (hll.d6 b h1 h2).2.2 e), bx := hb5, nrf := hll.nrf, d1 := hll.d1, d2 := hll.d2, d3 := hll.d3, d4 := hll.d4, d5 := hll.d5, d6 := hll.d6 }
  have hdv := (HD.out.old HK4.out).upd HII.out { d.ls[i] with q := d.ls[i].q ++ [s] } hk5 (fun x _ e => .inr (.inr (.inl e))) hm rfl (fun x hx => .inl hx)
  rw [HDB.out] at hdv
  have HFIN := Lib.hid (HP.out (.returned (.tuple #[.int .i64 i, .int .i64 0])) w5 ⟨rfl, hdv, (HK4.out.mono (fun _ _ h => h.elim)).trans hk5⟩)
  clear hm hdv
  clear hsd hb5 hk5 hll HL HP HD HQ HXB s0 s1 s2 HII HK4
  go_wp2_with fail
  exact HFIN.out

theorem DvM.kpo {T : Nat → Prop} {w w' : World} {d : DvR} (h : DvM w d) (k : Kp T w w') (h1 : ∀ x, T x → d.thi ≤ x) (h2 : ∀ x, T x → d.v.ownBlock ≠ some x) (h3 : ∀ x, T x → ∀ l ∈ d.ls, ¬ l.far x) : DvM w' d := by
  have hlo := h.lo
  have hlh := h.lh
  exact { h with
    top := h.top.kp k (fun e => by have := h1 _ e; omega), row := own_kp h.row k (fun b e e2 => h2 b e2 e),
    tab := tabKp h.tab k (fun e => by have := h1 _ e; have := h.hi; omega) (fun b hb e => by have := h1 _ e; have := h.his b hb; omega),
    hsz := Nat.le_trans h.hsz k.size, ln := fun l hl => (h.ln l hl).kp k (fun x hx e => h3 x e l hl hx) }
def enOt (x : Nat × ByteArray) : List Value := [.int .i64 x.1, .string x.2]
theorem tOut : SlT Tryz.prog 41 99 (.agg #[.int .i64 0, .string ⟨#[]⟩]) 2 24 := ⟨Tryz.underlying41, by kernel_rfl, rfl, by decide⟩
theorem outBuild (i : Int) (s : ByteArray) (W : World) : (Instr.build 99 #[(0, .int .i64 i), (1, .string s)]).run Tryz.prog W = .ok (.agg #[.int .i64 i, .string s]) W := by kernel_rfl
theorem outSlice (i : Int) (s : ByteArray) (W : World) : (Instr.buildSlice 41 1 #[(0, .agg #[.int .i64 i, .string s])]).run Tryz.prog W = .ok (.slice (some ⟨W.heap.size, 0, none⟩) 1 1) (W.alloc (.cells #[.int .i64 i, .string s] 99)) := by kernel_rfl
structure SpI (w wr : World) (d : DvR) (i : Nat) (v : Value) (d' : DvR) : Prop where
  dv : DvM wr d'
  len : d'.ls.length = d.ls.length
  db : d'.db = d.db
  ba : d'.batch = d.batch
  thi : d'.thi = d.thi
  room : d'.room = d.room
  v_ : d'.v = d.v
  rest : ∀ j, i ≤ j → d'.ls[j]? = d.ls[j]?
  kp : Kp (fun x => d.thi ≤ x) w wr
  own : ∀ b, v.ownBlock = some b → d.thi ≤ b ∧ d.v.ownBlock ≠ some b ∧ ∀ l ∈ d'.ls, ¬ l.far b
theorem SpI.next {w wr w2 : World} {d d' : DvR} {i : Nat} {v : Value} {l : Ln} {f' : PoF} {p' : Po} {q' : List ByteArray} (h : SpI w wr d i v d') (hl : d.ls[i]? = some l) (hI : LsI wr w2 l d.room q' f' p') (hv : ∀ b, v.ownBlock = some b → b < wr.heap.size) :
    SpI w w2 d (i + 1) v { d' with ls := d'.ls.set i { l with f := f', p := p', q := q' } } ∧ (∀ b, v.ownBlock = some b → ¬ l.all b) := by
  have hl' : d'.ls[i]? = some l := by rw [h.rest i (Nat.le_refl _)]; exact hl
  obtain ⟨hi, hli⟩ := List.getElem?_eq_some_iff.1 hl'
  have hmem : l ∈ d'.ls := List.mem_of_getElem? hl'
  have hfar : ∀ x, Ln.far { l with f := f', p := p', q := q' } x → l.far x ∨ wr.heap.size ≤ x := fun x hx => by
    rcases hx with (e | e | e | e) | ⟨e2, e3⟩
    · exact .inl (.inl (.inl e))
    · exact .inl (.inl (.inr (.inl e)))
    · exact .inl (.inl (.inr (.inr (.inl e))))
    · rcases hI.nw x e with e2 | e2
      · exact .inl (.inl (.inr (.inr (.inr e2))))
      · exact .inr e2
    · exact .inl (.inr ⟨by rw [← hI.lo]; exact e2, by rw [← hI.hi]; exact e3⟩)
  have hdv := h.dv.upd hi { l with f := f', p := p', q := q' } hI.kp (fun x _ e => by rw [hli]; exact e) (by rw [h.room]; exact hI.ln) (by rw [hli]) (fun x hx => by rw [hli]; exact hfar x hx)
  refine ⟨⟨hdv, by show (d'.ls.set i _).length = _; rw [List.length_set]; exact h.len, h.db, h.ba, h.thi, h.room, h.v_, fun j hj => ?_, h.kp.then hI.kp (fun x hx e => ?_), fun b e => ?_⟩, fun b e e2 => (h.own b e).2.2 l hmem (.inl e2)⟩
  · show (d'.ls.set i _)[j]? = _
    rw [List.getElem?_set_ne (by omega)]
    exact h.rest j (by omega)
  · show d.thi ≤ x
    rw [← h.thi]
    exact (h.dv.at_ l hmem x (.inl e)).1
  · obtain ⟨h1, h2, h3⟩ := h.own b e
    refine ⟨h1, h2, fun m hm hx => ?_⟩
    rcases List.mem_or_eq_of_mem_set hm with hm | hm
    · exact h3 m hm hx
    · subst hm
      rcases hfar b hx with e2 | e2
      · exact h3 l hmem e2
      · have := hv b e; omega
theorem SpI.grow {w wr w2 : World} {d d' : DvR} {i g n cap : Nat} {v : Value} (h : SpI w wr d i v d') (wa : World) (ka : Kp none' wr wa) (hg : wa.grownBy w2 v.ownBlock) (hgg : v.ownBlock = some g ∨ g = wa.heap.size) : SpI w w2 d i (.slice (some ⟨g, 0, none⟩) n cap) d' := by
  have k2 : Kp (fun x => v.ownBlock = some x) wa w2 := (Kp.refl _ _).grown hg (fun b e => .inl e)
  have hthi := h.thi
  have hva := h.v_
  refine ⟨(h.dv.old ka).kpo k2 (fun x e => by rw [hthi]; exact (h.own x e).1) (fun x e => by rw [hva]; exact (h.own x e).2.1) (fun x e => (h.own x e).2.2), h.len, h.db, h.ba, h.thi, h.room, h.v_, h.rest,
    (h.kp.then ka (fun _ _ e => e.elim)).then k2 (fun x hx e => (h.own x e).1), fun b e => ?_⟩
  have e2 : g = b := by simpa [Value.ownBlock] using e
  subst e2
  rcases hgg with e3 | e3
  · exact h.own g e3
  · have hs := ka.size
    have h1 := h.dv.hsz
    refine ⟨by omega, fun e4 => ?_, fun l hl hx => ?_⟩
    · have := (own_block h.dv.row (by rw [hva]; exact e4)).2; omega
    · have := (h.dv.ln l hl).lt hx; omega
end Go.Proofs.YtfckgddodjmbdaaGreatDoor
