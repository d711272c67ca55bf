/- A region that draws its order, as in Kept; one of the heads is a store, into memory that no other head reads. Names no function of the program. -/
import Derived.Test.YtlaakhfgidjofaaGreatDoorMSnapNobodyF28
import Derived.Test.YtlaakhfgidjofaaGreatDoorMSnapNobodyF30
import Derived.Test.YtlaakhfgidjofaaGreatDoorMSnapNobodyF25
import Derived.Test.YtlaakhfgidjofaaGreatDoorMSnapNobodyF15
namespace Go.Proofs.YtlaakhfgidjofaaGreatDoor
set_option linter.unusedVariables false
set_option linter.unusedSimpArgs false
open Go Go.RowKit
variable {P : Program} {ops : Array Oper} {Q : Exit → Act → World → Prop} {md : Region.Mode}
def EverS (P : Program) (ops : Array Oper) (w1 w2 : World) (o : Oper) (v : Value) (a : Act) : Prop :=
  (Region.wanted o (yielded ops a.tmps) = true ∧ ∀ w, w = w1 ∨ w = w2 → (execOp a.eval o).run P w = .ok (.value v) w) ∨ (Region.wanted o (yielded ops a.tmps) = false ∧ v = undef)
theorem EverS.alike {w1 w2 : World} {o : Oper} {v : Value} {a a' : Act} (hy : EverS P ops w1 w2 o v a) (he : execOp a'.eval o = execOp a.eval o) (hw : Region.wanted o (yielded ops a'.tmps) = Region.wanted o (yielded ops a.tmps)) : EverS P ops w1 w2 o v a' := by
  unfold EverS at *; rw [he, hw]; exact hy
def StoS (P : Program) (ops : Array Oper) (w1 w2 : World) (o : Oper) (v : Value) (a : Act) : Prop :=
  Region.wanted o (yielded ops a.tmps) = true ∧ (execOp a.eval o).run P w1 = .ok .skip w2 ∧ v = undef
theorem StoS.alike {w1 w2 : World} {o : Oper} {v : Value} {a a' : Act} (hy : StoS P ops w1 w2 o v a) (he : execOp a'.eval o = execOp a.eval o) (hw : Region.wanted o (yielded ops a'.tmps) = Region.wanted o (yielded ops a.tmps)) : StoS P ops w1 w2 o v a' := by
  unfold StoS at *; rw [he, hw]; exact hy
def stepS (P : Program) (ops : Array Oper) (w1 w2 : World) (s i : Nat) (o : Oper) (v : Value) (a : Act) : Prop := if i = s then StoS P ops w1 w2 o v a else EverS P ops w1 w2 o v a
theorem stepS.alike {w1 w2 : World} {s i : Nat} {o : Oper} {v : Value} {a a' : Act} (hy : stepS P ops w1 w2 s i o v a) (he : execOp a'.eval o = execOp a.eval o) (hw : Region.wanted o (yielded ops a'.tmps) = Region.wanted o (yielded ops a.tmps)) : stepS P ops w1 w2 s i o v a' := by
  unfold stepS at *
  split
  · rename_i h; rw [if_pos h] at hy; exact hy.alike he hw
  · rename_i h; rw [if_neg h] at hy; exact hy.alike he hw
def wpS (P : Program) (ops : Array Oper) (w1 w2 : World) (s : Nat) (C : Act → Prop) : List Nat → Act → Prop
  | [], a => C a
  | i :: r, a => ∃ o v, ops[i]? = some o ∧ stepS P ops w1 w2 s i o v a ∧ wpS P ops w1 w2 s C r (a.put o.dst v)
theorem wpS.out {w1 w2 : World} {s : Nat} {C : Act → Prop} {i : Nat} {o : Oper} (hi : ops[i]? = some o) (hsel : ∀ (j : Nat) (o : Oper) cs b, ops[j]? = some o → o.op ≠ .select cs b) (post : List Nat) : ∀ (pre : List Nat) (a : Act),
    (∀ p ∈ pre, ∀ op, ops[p]? = some op → op.apart ops o = true) → wpS P ops w1 w2 s C (pre ++ i :: post) a → ∃ v, stepS P ops w1 w2 s i o v a ∧ wpS P ops w1 w2 s C (pre ++ post) (a.put o.dst v)
  | [], a, _, h => by
    obtain ⟨o', v, h1, h2, h3⟩ := h
    have : o' = o := Option.some.inj (h1.symm.trans hi)
    subst this
    exact ⟨v, h2, h3⟩
  | p :: pre, a, hap, h => by
    obtain ⟨op, vp, h1, h2, h3⟩ := h
    obtain ⟨a1, a2, a3⟩ := Oper.apart_spec (hap p List.mem_cons_self op h1)
    have hso := fun cs b => hsel i o cs b hi
    have hsp := fun cs b => hsel p op cs b h1
    obtain ⟨v, f1, f2⟩ := wpS.out hi hsel post pre _ (fun q hq => hap q (List.mem_cons_of_mem _ hq)) h3
    refine ⟨v, f1.alike (execOp_put o hso a op.dst vp a1).symm (wanted_put o a op.dst vp a1).symm, op, vp, h1, h2.alike (execOp_put op hsp a o.dst v a3) (wanted_put op a o.dst v a3), ?_⟩
    rw [← Act.put_comm a vp v a2]
    exact f2
theorem wpAny_keptS {w1 w2 : World} {n g s : Nat} {C : Act → Prop} (hsn : s < n) (hsel : Region.noSelect ops = true) (hs : sinkE md ops [] n = true) (hc : Region.chainB md ops n = true) (hn : n < ops.size) (hd : depsB md ops = true) (hp : pairsB md ops n = true)
    (hC : ∀ listed a, listed.size = ops.size → (∀ i, i < n → listed.getD i false = true) → (∀ t, n ≤ t → t < ops.size → listed.getD t true = false) → C a → wpAny P md ops Q g listed a w2) :
    ∀ (m : Nat) (R : List Nat) (listed : Array Bool) (a : Act) (w : World), R.length = m → R.Pairwise (· < ·) → (∀ i ∈ R, i < n) → (∀ i, i < n → (listed.getD i true = false ↔ i ∈ R)) → HeadInv md ops n listed → (s ∈ R → w = w1) → (s ∉ R → w = w2) →
      wpS P ops w1 w2 s C R a → wpAny P md ops Q (m + g) listed a w := by
  intro m
  induction m with
  | zero =>
    intro R listed a w hl _ _ hR inv _ hw2 h
    have : R = [] := List.eq_nil_of_length_eq_zero hl
    subst this
    rw [Nat.zero_add, hw2 (by simp)]
    exact hC listed a inv.size (fun i hi => getD_true_of (by rw [inv.size]; omega) (fun h0 => by have := (hR i hi).1 h0; cases this)) inv.tail h
  | succ m ih =>
    intro R listed a w hl hpw hRn hR inv hw1 hw2 h
    obtain ⟨r0, R', rfl⟩ : ∃ r0 R', R = r0 :: R' := by cases R with | nil => simp at hl | cons r R' => exact ⟨_, _, rfl⟩
    have hr0 : r0 < n := hRn r0 List.mem_cons_self
    have hun0 : listed.getD r0 true = false := (hR r0 hr0).2 List.mem_cons_self
    rw [show m + 1 + g = (m + g) + 1 by omega]
    refine ⟨fun h0 => ?_, fun i hi => ?_⟩
    · have : r0 ∈ Region.ready md ops listed := by
        obtain ⟨o, ho⟩ : ∃ o, ops[r0]? = some o := ⟨_, Array.getElem?_eq_getElem (by omega)⟩
        refine mem_ready.2 ⟨hun0, o, ho, fun e he hb => ?_⟩
        have hlt := depsB_spec hd r0 o ho e he hb
        refine getD_true_of (by rw [inv.size]; omega) (fun h1 => ?_)
        have hm := (hR e.on (by omega)).1 h1
        rcases List.mem_cons.1 hm with h2 | h2
        · omega
        · have := (List.pairwise_cons.1 hpw).1 _ h2; omega
      rw [h0] at this; cases this
    · have hin : i < n := by
        rcases Nat.lt_or_ge i n with h1 | h1
        · exact h1
        · exact absurd hi (tail_waitsE hs hc hn inv (fun e he => by cases he) _ r0 rfl hr0 hun0 i h1)
      obtain ⟨hun, oi, hoi, hall⟩ := mem_ready.1 hi
      have hm := (hR i hin).1 hun
      obtain ⟨pre, post, hpp⟩ := List.append_of_mem hm
      rw [hpp] at h hpw hR hRn hl hw1 hw2
      have hpre : ∀ p ∈ pre, p < i := fun p hp => (List.pairwise_append.1 hpw).2.2 p hp i List.mem_cons_self
      have hpost : ∀ p ∈ post, i < p := fun p hp => (List.pairwise_cons.1 (List.pairwise_append.1 hpw).2.1).1 p hp
      obtain ⟨v, e1, e2⟩ := wpS.out hoi (Region.noSelect_spec hsel) post pre a (fun p hp' op hop => pairsB_spec hp p i op oi (hpre p hp') hin hop hoi (fun e he hb heq => by
        have h1 := hall e he hb
        have h2 := (hR p (hRn p (List.mem_append_left _ hp'))).2 (List.mem_append_left _ hp')
        rw [heq, getD_both h2] at h1; cases h1)) h
      have hsub : (pre ++ post).Sublist (pre ++ i :: post) := List.Sublist.append_left (List.sublist_cons_self _ _) _
      have hni : i ∉ pre ++ post := fun h => by
        rcases List.mem_append.1 h with h | h
        · have := hpre _ h; omega
        · have := hpost _ h; omega
      have hlist : ∀ j, j < n → ((listed.setIfInBounds i true).getD j true = false ↔ j ∈ pre ++ post) := fun j hj => by
        by_cases hji : i = j
        · subst hji
          have h1 : (listed.setIfInBounds i true).getD i true = true := by
            have : i < listed.size := by rw [inv.size]; omega
            simp [this]
          rw [h1]
          exact ⟨fun h => (by cases h), fun h => absurd h hni⟩
        · rw [getD_set_ne true hji, hR j hj]
          constructor
          · intro h
            rcases List.mem_append.1 h with h | h
            · exact List.mem_append_left _ h
            · rcases List.mem_cons.1 h with h | h
              · omega
              · exact List.mem_append_right _ h
          · intro h; exact hsub.subset h
      have hgo : ∀ a' w', (s ∈ pre ++ post → w' = w1) → (s ∉ pre ++ post → w' = w2) → wpS P ops w1 w2 s C (pre ++ post) a' → wpAny P md ops Q (m + g) (listed.setIfInBounds i true) a' w' := fun a' w' k1 k2 h' =>
        ih (pre ++ post) _ a' w' (by simp at hl ⊢; omega) (hpw.sublist hsub) (fun j hj => hRn j (hsub.subset hj)) hlist (inv.set hi hin) k1 k2 h'
      have hmem : ∀ (_ : i ≠ s), (s ∈ pre ++ post ↔ s ∈ pre ++ i :: post) := fun hne => by
        simp only [List.mem_append, List.mem_cons]
        constructor
        · rintro (h | h)
          · exact .inl h
          · exact .inr (.inr h)
        · rintro (h | h | h)
          · exact .inl h
          · exact absurd h.symm hne
          · exact .inr h
      unfold Go.wpOp
      simp only [hoi]
      by_cases his : i = s
      · subst his
        unfold stepS at e1
        rw [if_pos rfl] at e1
        have hw : w = w1 := hw1 (by simp)
        subst hw
        rw [if_pos e1.1]
        refine .inl ?_
        unfold Oper.wp
        rw [e1.2.1]
        rw [e1.2.2] at e2
        exact hgo _ _ (fun h => absurd h hni) (fun _ => rfl) e2
      · unfold stepS at e1
        rw [if_neg his] at e1
        have k1 : s ∈ pre ++ post → w = w1 := fun h => hw1 ((hmem his).1 h)
        have k2 : s ∉ pre ++ post → w = w2 := fun h => hw2 (fun h' => h ((hmem his).2 h'))
        rcases e1 with ⟨hw, hv⟩ | ⟨hw, rfl⟩
        · rw [if_pos hw]
          refine .inl ?_
          unfold Oper.wp
          rw [hv w (by by_cases hx : s ∈ pre ++ post; exact .inl (k1 hx); exact .inr (k2 hx))]
          exact hgo _ _ k1 k2 e2
        · rw [if_neg (by rw [hw]; simp)]
          exact hgo _ _ k1 k2 e2
def pickS (l : List Oper) (s : Nat) : List Nat → List (Oper × Bool)
  | [] => []
  | k :: r => match l[k]? with
    | some o => (o, k == s) :: pickS l s r
    | none => pickS l s r
def wpSL (P : Program) (ops : Array Oper) (w1 w2 : World) (C : Act → Prop) : List (Oper × Bool) → Act → Prop
  | [], a => C a
  | (o, true) :: r, a => ∃ v, StoS P ops w1 w2 o v a ∧ wpSL P ops w1 w2 C r (a.put o.dst v)
  | (o, false) :: r, a => ∃ v, EverS P ops w1 w2 o v a ∧ wpSL P ops w1 w2 C r (a.put o.dst v)
theorem wpS_of_list {w1 w2 : World} {s : Nat} {C : Act → Prop} {l : List Oper} : ∀ (K : List Nat) (a : Act), K.all (fun k => decide (k < l.length)) = true → wpSL P l.toArray w1 w2 C (pickS l s K) a → wpS P l.toArray w1 w2 s C K a
  | [], a, _, h => h
  | k :: K, a, hb, h => by
    simp only [List.all_cons, Bool.and_eq_true, decide_eq_true_eq] at hb
    have hk : l[k]? = some l[k] := List.getElem?_eq_getElem hb.1
    simp only [pickS, hk] at h
    have hk' : l.toArray[k]? = some l[k] := by rw [List.getElem?_toArray]; exact hk
    cases e : (k == s) with
    | true =>
      rw [e] at h
      obtain ⟨v, h1, h2⟩ := h
      exact ⟨l[k], v, hk', by unfold stepS; rw [if_pos (by simpa using e)]; exact h1, wpS_of_list K _ hb.2 h2⟩
    | false =>
      rw [e] at h
      obtain ⟨v, h1, h2⟩ := h
      exact ⟨l[k], v, hk', by unfold stepS; rw [if_neg (by simpa using e)]; exact h1, wpS_of_list K _ hb.2 h2⟩
theorem wp_region_keptS {id : Nat} {a : Act} {w w2 : World} {l : List Oper} (s : Nat) (K : List Nat) (n : Nat) (hm : P.follows .mixedOrders = true) (hB : (keptB .any l.toArray [] K n && K.all (fun k => decide (k < l.length)) && (K.contains s && decide (s < n))) = true)
    (h : wpSL P l.toArray w.drew w2 (fun a' => wpList P l.toArray Q (l.drop n) a' w2) (pickS l s K) a) : (Code.region id l.toArray true).wp P Q a w := by
  simp only [Bool.and_eq_true] at hB
  obtain ⟨⟨hB, hK⟩, hsK, hsn⟩ := hB
  have h' := wpS_of_list K a hK h
  simp only [keptB, Bool.and_eq_true, decide_eq_true_eq] at hB
  obtain ⟨⟨⟨⟨⟨⟨⟨⟨⟨⟨⟨⟨⟨⟨⟨b1, b2⟩, b3⟩, b4⟩, b5⟩, b6⟩, b7⟩, b8⟩, b9⟩, b10⟩, b11⟩, b12⟩, b13⟩, b14⟩, b15⟩, b16⟩ := hB
  have hsz : l.toArray.size = l.length := by simp
  refine wp_region_any hm ?_
  have inv0 : HeadInv .any l.toArray n (listE l.toArray []) := by
    refine ⟨b12, fun j oj hj hl e he hb => ?_, fun t ht ht' => ?_⟩
    · have h1 := List.all_eq_true.1 b14 j (List.mem_range.2 (Array.getElem?_eq_some_iff.1 hj).1)
      simp only [hj, hl, Bool.not_true, Bool.false_or] at h1
      have h2 := Array.all_eq_true_iff_forall_mem.1 h1 e he
      simpa [hb] using h2
    · have h1 := List.all_eq_true.1 b13 t (List.mem_range.2 ht')
      rw [decide_eq_false (by omega), Bool.false_or] at h1
      simpa using h1
  have hfin := wpAny_keptS (P := P) (md := .any) (ops := l.toArray) (Q := Q) (w1 := w.drew) (w2 := w2) (n := n) (g := l.toArray.size - n) (s := s) (C := fun a' => wpList P l.toArray Q (l.drop n) a' w2)
    (by simpa using hsn) b1 b3 b4 b2 b5 b6 (fun listed a'' hs h1 h2 hcc => by
      have hcan : listed = canonB l.toArray n := by
        apply Array.ext
        · simp [canonB, hs]
        · intro i hi1 hi2
          have hil : i < l.toArray.size := by rw [← hs]; exact hi1
          simp only [canonB, List.map_toArray, List.getElem_toArray, List.getElem_map, List.getElem_range]
          by_cases hin : i < n
          · have := h1 i hin; simp [hi1] at this; rw [this, decide_eq_true hin]
          · have := h2 i (by omega) hil; simp [hi1] at this; rw [this, decide_eq_false hin]
      subst hcan
      have hdl : (l.drop n).length = l.toArray.size - n := by simp
      have := wpAny_of_seq (P := P) (md := .any) (ops := l.toArray) (Q' := Q) (l.drop n) n (canonB l.toArray n) a'' w2 (fun j => by simp [List.getElem?_drop]) (by rw [hdl]; exact b15) hcc
      rwa [hdl] at this) K.length K (listE l.toArray []) a w.drew rfl (sortedB_spec K b8) (fun i hi => by simpa using List.all_eq_true.1 b9 i hi) (fun i hi => by
        have h1 := List.all_eq_true.1 b10 i (List.mem_range.2 hi)
        rw [beq_iff_eq] at h1
        rw [h1]; simp) inv0 (fun _ => rfl) (fun hx => absurd (by simpa using hsK) hx) h'
  have hKn : K.length = n := by simpa using b16
  rw [hKn, show n + (l.toArray.size - n) = l.toArray.size by omega] at hfin
  exact hfin
theorem wpSL_op {w1 w2 : World} {C : Act → Prop} {r : List (Oper × Bool)} {o : Oper} {a : Act} {v : Value} (hw : Region.wanted o (yielded ops a.tmps) = true) (h1 : ∀ w, w = w1 ∨ w = w2 → (execOp a.eval o).run P w = .ok (.value v) w) (h2 : wpSL P ops w1 w2 C r (a.put o.dst v)) : wpSL P ops w1 w2 C ((o, false) :: r) a :=
  ⟨v, .inl ⟨hw, h1⟩, h2⟩
theorem wpSL_store {w1 w2 : World} {C : Act → Prop} {r : List (Oper × Bool)} {o : Oper} {a : Act} (hw : Region.wanted o (yielded ops a.tmps) = true) (h1 : (execOp a.eval o).run P w1 = .ok .skip w2) (h2 : wpSL P ops w1 w2 C r (a.put o.dst undef)) : wpSL P ops w1 w2 C ((o, true) :: r) a :=
  ⟨undef, ⟨hw, h1, rfl⟩, h2⟩
end Go.Proofs.YtlaakhfgidjofaaGreatDoor

namespace Go.Proofs.YtlaakhfgidjofaaGreatDoor
set_option linter.unusedVariables false
set_option linter.unusedSimpArgs false
open Go Go.RowKit Go.Shelf
theorem newH1 (c : CfR) (hc : c.ok) (hE : chk c = 0) (hbk : c.back = 1) (hpk : 1 ≤ c.packets ∧ c.packets ≤ 4096) (v : Value) (w : World) (h : Sl w v c.flows.length 5 (c.flows.flatMap enFl)) :
    Calls Tryz.prog 15 #[.agg (enC c v).toArray] w fun e w' => ∃ f, e = .returned (.tuple #[.pointer (some ⟨f.sb, 0, none⟩), .int .i64 0]) ∧ ShM w' f (shNewS c (.hp 0 [])) ∧ (∀ b, f.all b → w.heap.size ≤ b) ∧ Kp none' w w' :=
  shNew c hc hE v w h (.hp 0 []) rfl trivial (fun W _ => (madeH c v W hbk hpk.1 hpk.2).mono fun e w' ⟨b, F, h1, h2, h3, h4⟩ => ⟨hpV b, F, h1, ⟨b, rfl, h2⟩, h3, h4⟩)
theorem infoA32o : (Tryz.prog.info? 26).map (·.size) = some 32 := by kernel_rfl
theorem load_atS {w1 w2 : World} {ty : TypeId} {o : Oper} {x : Operand} {a : Act} {b off : Nat} {v : Value} (ho : o.op = .load ty x) (hx : a.eval x = .pointer (some ⟨b, off, none⟩))
    (h : ∀ W, W = w1 ∨ W = w2 → (Instr.loadAt ty (.pointer (some ⟨b, off, none⟩))).run Tryz.prog W = .ok v W) : ∀ W, W = w1 ∨ W = w2 → (execOp a.eval o).run Tryz.prog W = .ok (.value v) W := fun W hK => by
  have h2 := h W hK
  unfold execOp
  simp only [ho, hx, Sem.run_bind, Sem.run_pure, Result.andThen_ok, h2]
theorem cellLt {w : World} {b o : Nat} {v : Value} (h : w.cell? ⟨b, o, none⟩ = some v) : b < w.heap.size := by
  rcases Nat.lt_or_ge b w.heap.size with h1 | h1
  · exact h1
  · simp [World.cell?, Array.getElem?_eq_none h1] at h
set_option maxRecDepth 100000 in
set_option maxHeartbeats 4000000 in
theorem aLoad0 (c : CfR) (hc : c.ok) (hE : chk c = 0) (hbk : c.back = 1) (hpk : 1 ≤ c.packets ∧ c.packets ≤ 4096) (hfl : c.flows.length ≤ 64) (v : Value) (s : StS) (ok : s.ok) (hq : s.qs = [[]]) (hmay : mayL c s = true) (htl : s.tags.length = c.flows.length) (vt vb vq : Value) (vs : List Value) (w : World)
    (hs : Sl w v c.flows.length 5 (c.flows.flatMap enFl)) (hm : StM w s vt vb vq vs) :
    Calls Tryz.prog 17 #[.agg (enC c v).toArray, .agg (stC s.now s.tok s.virt s.ref vt vb vq).toArray] w fun e w' => (∃ b, e = .returned (.tuple #[.pointer (some ⟨b, 0, none⟩), .int .i64 0])) ∧ Kp none' w w' := by
  have hN := fun W (k : Kp none' w W) => newH1 c hc hE hbk hpk v W (hs.old k)
  have hM := fun W (k : Kp none' w W) => aMay c hc hpk hfl (by omega) v s ok (by rw [hq]; simp) (by rw [hq]; simp) vt vb vq vs W (hs.old k) (hm.old k)
  rw [hmay] at hM
  have HM := Lib.hid hm
  have HT := hm.t; have HQ := hm.q; have HQS := hm.qs
  have o1 := ok.now; have o2 := ok.tok; have o3 := ok.virt; have o4 := ok.len; have o5 := ok.tags
  unfold u64 at o1 o2 o3
  rw [hq] at HQ HQS
  obtain ⟨qp, qc, rfl⟩ := QS.one HQS
  replace HQ : Sl w vq 1 1 [.slice qp 0 qc] := HQ
  obtain ⟨ap, vc, rfl, hcq⟩ := HQ.is
  obtain ⟨qb, qo, rfl, hq0⟩ := hcq 0 _ rfl
  rw [Nat.add_zero] at hq0
  obtain ⟨fa, fc, rfl⟩ : ∃ fa fc, v = .slice fa c.flows.length fc := by obtain ⟨_, _, fa, fc, rfl, _⟩ := hs; exact ⟨_, _, rfl⟩
  obtain ⟨ta, tc, rfl⟩ : ∃ ta tc, vt = .slice ta s.tags.length tc := by obtain ⟨_, _, ta, tc, rfl, _⟩ := hm.t; exact ⟨_, _, rfl⟩
  refine calls_post ?_
  intro PP HP
  obtain ⟨cc, hcc⟩ : ∃ cc, enC c (.slice fa c.flows.length fc) = cc := ⟨_, rfl⟩
  obtain ⟨cs, hcs⟩ : ∃ cs, stC s.now s.tok s.virt s.ref (.slice ta s.tags.length tc) vb (.slice (some ⟨qb, qo, none⟩) 1 vc) = cs := ⟨_, rfl⟩
  have h0 : cs[0]? = some (.int .u64 s.now) := by rw [← hcs]; rfl
  have h1 : cs[1]? = some (.int .u64 s.tok) := by rw [← hcs]; rfl
  have h2 : cs[2]? = some (.int .u64 s.virt) := by rw [← hcs]; rfl
  have h35 : cs[35]? = some (.slice ta s.tags.length tc) := by rw [← hcs]; exact st_35 _ _ _ _ o4 _ _ _
  have h37 : cs[37]? = some (.slice (some ⟨qb, qo, none⟩) 1 vc) := by rw [← hcs]; exact st_37 _ _ _ _ o4 _ _ _
  have href : ∀ j v, (n8s s.ref)[j]? = some v → cs[3 + j]? = some v := fun j v hv => by
    have hj := (List.getElem?_eq_some_iff.1 hv).1
    rw [← hcs]; unfold stC
    rw [List.getElem?_append_right (by simp), List.getElem?_append_left (by simpa using hj)]
    simpa using hv
  have hi : (Tryz.prog.info? 30).map (·.size) = some cs.length := by rw [← hcs, stC_len _ _ _ _ o4]; exact infoSt
  have hic : (Tryz.prog.info? 25).map (·.size) = some cc.length := by rw [← hcc]; exact infoCf
  have hwt := fun W sb hb cs' (h1 : Blk W sb cs' 97) (h5 : cs'[5]? = some (hpV hb)) (k : Kp none' w W) => aWait0 h1 h5 s hq _ _ _ _ (HM.out.old k) o4
  rw [hcs] at hM hwt
  rw [hcc] at hM hN
  rw [hcs, hcc]
  have HC := Lib.hid ((Blk.new w cc 25).alloc (.cells cs.toArray 30))
  have HB : Hid (Blk ((w.alloc (.cells cc.toArray 25)).alloc (.cells cs.toArray 30)) (w.heap.size + 1) cs 30) := by
    have := Blk.new (w.alloc (.cells cc.toArray 25)) cs 30
    rw [World.size_alloc] at this; exact this
  have hk0 : Kp none' w ((w.alloc (.cells cc.toArray 25)).alloc (.cells cs.toArray 30)) := ((Kp.refl none' w).alloc _).alloc _
  have HN := Lib.hid hN; have HMy := Lib.hid hM; have HW := Lib.hid hwt; have HI := Lib.hid hi; have HIc := Lib.hid hic
  have HTl := Lib.hid htl; have HRef := Lib.hid href; have HT := Lib.hid HT; have HO5 := Lib.hid o5
  have hszz : ((w.alloc (.cells cc.toArray 25)).alloc (.cells cs.toArray 30)).heap.size = w.heap.size + 2 := by simp
  have HK := Lib.hid hk0
  have HCf := Lib.hid (show (shNewS c (.hp 0 [])).r.fl = c.flows from rfl)
  have HFl := Lib.hid hfl
  clear hN hM hwt hi hic htl href o5 HM HQ HQS hcq hm hs hcs hcc hk0 hmay
  go_enter Tryz.func17, Tryz.ntmps17
  go_upto_region 1 with fail
  generalize (w.alloc (.cells cc.toArray 25)).alloc (.cells cs.toArray 30) = w0 at *
  go_wp2_with (refine wp_get_rowG (by exact rfl) 25 (.tmp 2) rfl HC.out _ rfl Tryz.underlying25 rfl HIc.out ?_)
  refine (HN.out w0 HK.out).mono ?_
  rintro e w1 ⟨f, rfl, hsh, hfr, k1⟩
  have HSh := Lib.hid hsh
  have HFr := Lib.hid hfr
  have HC1 := Lib.hid (HC.out.kp k1 (fun x => x))
  have HB1 := Lib.hid (HB.out.kp k1 (fun x => x))
  have HK1 := Lib.hid (HK.out.trans k1)
  clear hsh hfr k1 HC HB HK HN
  go_wp2_with (first
    | (refine wp_get_rowG (by exact rfl) 25 (.tmp 2) rfl HC1.out _ rfl Tryz.underlying25 rfl HIc.out ?_)
    | (refine wp_get_rowG (by exact rfl) 30 (.tmp 3) rfl HB1.out _ rfl Tryz.underlying30 rfl HI.out ?_))
  refine (HMy.out w1 HK1.out).mono ?_
  rintro e w2 ⟨rfl, k2⟩
  have HSh2 := Lib.hid (HSh.out.old k2)
  have HB2 := Lib.hid (HB1.out.kp k2 (fun x => x))
  have HK2 := Lib.hid (HK1.out.trans k2)
  clear k2 HSh HC1 HB1 HMy
  go_upto_region 6 with fail
  have hsh := HSh2.out
  obtain ⟨hb, hfv, _⟩ := hsh.back
  have hbig : w0.heap.size ≤ f.sb := HFr.out _ (.inl rfl)
  obtain ⟨scs, hscs⟩ : ∃ scs, shC (shNewS c (.hp 0 [])) f = scs := ⟨_, rfl⟩
  have htop := hsh.top
  rw [hscs] at htop
  have t1 : scs[1]? = some (.pointer (some ⟨f.rb, 0, none⟩)) := by rw [← hscs]; rfl
  have t4 : scs[4]? = some (.int .u64 c.burst) := by rw [← hscs]; rfl
  have t5 : scs[5]? = some (hpV hb) := by rw [← hscs, ← hfv]; rfl
  have t6 : scs[6]? = some (.int .u64 0) := by rw [← hscs]; rfl
  have tl : scs.length = 39 := by rw [← hscs]; rfl
  have kd : Kp none' w2 w2.drew := (Kp.refl none' w2).drew
  have htop3 := htop.kp kd (fun x => x)
  have hB3 := HB2.out.kp kd (fun x => x)
  have hrk3 := hsh.ranks.old kd
  have hB4 := hB3.setNe (a := ⟨f.sb, 6, none⟩) (by show w.heap.size + 1 ≠ f.sb; omega) (.int .u64 s.now)
  have HBW : Hid (∀ W, W = w2.drew ∨ W = w2.drew.setCell ⟨f.sb, 6, none⟩ (.int .u64 s.now) → Blk W (w.heap.size + 1) cs 30) := fun W h => by
    rcases h with rfl | rfl
    · exact hB3
    · exact hB4
  have HLS : Hid (∀ W, W = w2.drew ∨ W = w2.drew.setCell ⟨f.sb, 6, none⟩ (.int .u64 s.now) → (Instr.loadAt 26 (.pointer (some ⟨w.heap.size + 1, 3, none⟩))).run Tryz.prog W = .ok (.agg (n8s s.ref).toArray) W) := fun W h =>
    run_loadAt_mid W _ 3 26 (n8s s.ref) _ (fun j v hv => (HBW.out W h).cell (3 + j) (HRef.out j v hv)) Tryz.underlying26 rfl (by rw [n8s_len, o4]; exact infoA32o)
  have c6 := htop3.cell 6 t6
  have f6 := htop3.fz 6
  have HT4 := Lib.hid (htop3.set 6 (.int .u64 s.now))
  have HR4 := Lib.hid (hrk3.kp (T := fun b => b = f.sb) ((Kp.refl (fun b => b = f.sb) w2.drew).set (p := ⟨f.sb, 6, none⟩) (.inl rfl) (.int .u64 s.now)) (fun b hb e => hsh.sr (e ▸ hb)))
  have HK4 : Hid (Kp none' w (w2.drew.setCell ⟨f.sb, 6, none⟩ (.int .u64 s.now))) := (HK2.out.trans kd).set (p := ⟨f.sb, 6, none⟩) (.inr (by have := HK2.out.size; show w.heap.size ≤ f.sb; omega)) _
  have HSR := Lib.hid hsh.sr
  have HFr2 := Lib.hid (fun b (h : f.Fr b) => HFr.out b (.inr (.inr (.inl h))))
  have hB4' := Lib.hid hB4
  have H0 := Lib.hid h0
  clear hsh hfv htop htop3 hB3 hB4 hrk3 kd HSh2 HB2 HK2 hscs HFr
  refine wp_region_keptS (w2 := w2.drew.setCell ⟨f.sb, 6, none⟩ (.int .u64 s.now)) 8 [0, 1, 2, 3, 4, 5, 6, 7, 8, 9, 10] 11 (by kernel_rfl) (by kernel_rfl) ?_
  simp only [pickS, List.getElem?_cons_succ, List.getElem?_cons_zero, List.drop_succ_cons, List.drop_zero]
  show wpSL _ _ _ _ _ _ _
  generalize w2.drew = w3 at *
  repeat (first
    | (refine wpSL_op (by exact rfl) (by as_aux_lemma => intro W hK; have e0 := (HBW.out W hK).cell 0 H0.out; go_simp; exact rfl) ?_; simp only [Act.put, List.setIfInBounds_toArray, List.set_cons_succ, List.set_cons_zero])
    | (refine wpSL_op (by exact rfl) (load_atS rfl rfl HLS.out) ?_; simp only [Act.put, List.setIfInBounds_toArray, List.set_cons_succ, List.set_cons_zero])
    | (refine wpSL_store (by exact rfl) (by as_aux_lemma => go_simp) ?_; simp only [Act.put, List.setIfInBounds_toArray, List.set_cons_succ, List.set_cons_zero]))
  show wpList _ _ _ _ _ _
  generalize w3.setCell ⟨f.sb, 6, none⟩ (.int .u64 s.now) = w4 at *
  refine wp_set_mid rfl 26 (.tmp 35) (.tmp 31) rfl HT4.out 7 (n8s s.ref) rfl rfl (by rw [n8s_len, o4]; exact infoA32o) (by rw [n8s_len, o4, List.length_set, tl]; exact Nat.le_refl _) (n8s_one _) ?_
  intro W5 hb5 hot5 hk5
  obtain ⟨s5, hs5⟩ : ∃ s5, setFlat (scs.set 6 (.int .u64 s.now)) 7 (n8s s.ref) = s5 := ⟨_, rfl⟩
  have hg5 : ∀ i, i < 6 → s5[i]? = scs[i]? := fun i hi => by
    rw [← hs5, setFlat_get _ _ _ _ (by rw [n8s_len, o4, List.length_set, tl]; exact Nat.le_refl _), if_neg (by omega), List.getElem?_set_ne (by omega)]
  rw [hs5] at hb5
  have u1 := (hg5 1 (by omega)).trans t1
  have u4 := (hg5 4 (by omega)).trans t4
  have u5 := (hg5 5 (by omega)).trans t5
  have HB5 := Lib.hid (hot5 _ _ _ hB4'.out (by omega))
  have k45 : Kp (fun b => b = f.sb) w4 W5 := hk5 _ _ (Kp.refl _ _) (.inl rfl)
  have HR5 := Lib.hid (HR4.out.kp k45 (fun b hb e => HSR.out (e ▸ hb)))
  have hszw : w.heap.size ≤ f.sb := by omega
  have HK5 := Lib.hid (HK4.out.then k45 (fun i hi e => by omega))
  have HS5 := Lib.hid hb5
  have x4 := hb5.cell 4 u4
  have f4 := hb5.fz 4
  have y1 := HB5.out.cell 1 h1
  clear hb5 hot5 hk5 k45 HR4 HK4 HT4 hB4' HBW HLS c6 f6 hg5 hs5 t1 t4 t5 t6 tl h0 H0
  go_upto_region 8 with fail
  have k56 : Kp (fun b => b = f.sb) W5 (W5.setCell ⟨f.sb, 4, none⟩ (.int .u64 s.tok)) := (Kp.refl (fun b => b = f.sb) W5).set (p := ⟨f.sb, 4, none⟩) (.inl rfl) _
  have HS6 := Lib.hid (HS5.out.set 4 (.int .u64 s.tok))
  have HB6 := Lib.hid (HB5.out.kp k56 (fun e => by omega))
  have HR6 := Lib.hid (HR5.out.kp k56 (fun b hb e => HSR.out (e ▸ hb)))
  have HK6 := Lib.hid (HK5.out.then k56 (fun i hi e => by omega))
  have HU1 : Hid ((s5.set 4 (.int .u64 s.tok))[1]? = some (.pointer (some ⟨f.rb, 0, none⟩))) := by show _ = _; rw [List.getElem?_set_ne (by omega)]; exact u1
  have HU5 : Hid ((s5.set 4 (.int .u64 s.tok))[5]? = some (hpV hb)) := by show _ = _; rw [List.getElem?_set_ne (by omega)]; exact u5
  have c1 := HS6.out.cell 1 HU1.out
  have d2 := HB6.out.cell 2 h2
  have d35 := HB6.out.cell 35 h35
  clear k56 HS5 HB5 HR5 HK5 u1 u4 u5 x4 f4 y1
  generalize W5.setCell ⟨f.sb, 4, none⟩ (.int .u64 s.tok) = W6 at *
  refine wp_region_kept2 [] [0, 1, 2, 3, 4, 5, 6, 7] 8 (by kernel_rfl) (by kernel_rfl) (fun c a d u w h => by cases d <;> exact h) ?_
  simp only [pick, List.getElem?_cons_succ, List.getElem?_cons_zero, List.drop_succ_cons, List.drop_zero]
  show wpKL _ _ _ _ _ _
  repeat (first
    | (refine wpKL_op (by exact rfl) (by as_aux_lemma => intro W hK; have e0 := hK.cell c1 (fun x => x); have e1 := hK.cell d2 (fun x => x); have e2 := hK.cell d35 (fun x => x); go_simp; exact rfl) ?_; simp only [Act.put, List.setIfInBounds_toArray, List.set_cons_succ, List.set_cons_zero])
    | (refine wpKL_off (by exact rfl) ?_; simp only [Act.put, List.setIfInBounds_toArray, List.set_cons_succ, List.set_cons_zero]))
  show ∀ W, _ → wpList _ _ _ _ _ _
  intro W7 hK7
  have HS7 := Lib.hid (HS6.out.kp hK7 (fun x => x))
  have HB7 := Lib.hid (HB6.out.kp hK7 (fun x => x))
  have HR7 := Lib.hid (HR6.out.old hK7)
  have HK7 := Lib.hid (HK6.out.trans hK7)
  clear hK7 HS6 HB6 HR6 HK6 c1 d2 d35
  have hfew : 1 ≤ c.flows.length ∧ c.flows.length ≤ 64 := (RMem.ok HR7.out).few
  have hT7 : Sl W7 (.slice ta s.tags.length tc) s.tags.length 1 (n8s s.tags) := HT.out.old HK7.out
  have hlt7 : ∀ z, (Value.slice ta s.tags.length tc).ownBlock = some z → z < w.heap.size := fun z hz => by
    obtain ⟨ao, cap, e, hcc⟩ := HT.out.is
    injection e with e1 _ _
    subst e1
    obtain ⟨b, off, e2, hc2⟩ := hcc 0 _ (n8s_get s.tags 0 (by rw [HTl.out]; exact hfew.1))
    subst e2
    have := cellLt hc2
    have hz' : z = b := by simpa [Value.ownBlock] using hz.symm
    omega
  have HLy := Lib.hid (kLay HR7.out s.virt o3 s.tags (by rw [HTl.out]; rfl) HO5.out _ hT7 (fun z hz hF => by have h1 := hlt7 z hz; have h2 := HFr2.out z hF; omega))
  clear hT7 hlt7 hfew
  go_wp2_with fail
  refine HLy.out.mono ?_
  rintro e W8 ⟨rfl, _, k8⟩
  have HS8 := Lib.hid (HS7.out.kp k8 (fun e => HSR.out e))
  have HB8 := Lib.hid (HB7.out.kp k8 (fun e => by have := HFr2.out _ e; omega))
  have HK8 := Lib.hid (HK7.out.then k8 (fun i hi e => by have := HFr2.out _ e; omega))
  clear k8 HS7 HB7 HK7 HLy HR7
  go_wp2_with (refine wp_get_rowG (by exact rfl) 30 (.tmp 3) rfl HB8.out _ rfl Tryz.underlying30 rfl HI.out ?_)
  refine (HW.out W8 _ _ _ HS8.out HU5.out HK8.out).mono ?_
  rintro e W9 ⟨rfl, k9⟩
  have HB9 := Lib.hid (HB8.out.kp k9 (fun x => x))
  have HK9 := Lib.hid (HK8.out.trans k9)
  clear k9 HS8 HB8 HK8
  have d37 := HB9.out.cell 37 h37
  have q0 := HK9.out.cell hq0 (fun x => x)
  go_wp2_with fail
  refine wp_loop_rounds 2 ?_
  rw [rounds_succ]
  go_wp2_with fail
  refine wp_loop_rounds 1 ?_
  rw [rounds_succ]
  go_wp2_with fail
  rw [rounds_succ]
  go_wp2_with fail
  exact HP.out _ _ ⟨⟨_, rfl⟩, HK9.out⟩
end Go.Proofs.YtlaakhfgidjofaaGreatDoor

namespace Go.Proofs.YtlaakhfgidjofaaGreatDoor
set_option linter.unusedVariables false
set_option linter.unusedSimpArgs false
open Go.RowKit Go.Shelf
set_option maxRecDepth 100000 in
set_option maxHeartbeats 1000000 in
theorem aOpen (l : List UInt8) (hl : l.length ≤ 800000) (w : World) : Calls Tryz.prog 29 #[.string (tx (sealL l))] w fun e w' => e = .returned (.tuple #[.string (tx l), .bool true]) ∧ Kp none' w w' := by
  obtain ⟨s, hs⟩ : ∃ s, tx (sealL l) = s := ⟨_, rfl⟩
  have hsz : s.size = l.length + 4 := by rw [← hs, ← bl_len, bl_tx, seal_len]
  have hx : s.extract 0 (s.size - 4) = tx l := by
    refine str_ext ?_
    rw [bl_cut, hsz, ← hs, bl_tx, bl_tx]
    simp [sealL]
  have hn : ((s.size : Int) - 4).toNat = s.size - 4 := by omega
  have hsn : (s.size : Int) - 4 = ((s.size - 4 : Nat) : Int) := by omega
  have H1 := sSeal (tx l) (by rw [← bl_len, bl_tx]; omega)
  rw [bl_tx, hs] at H1
  have H1 := Lib.hid H1
  have h4 : 4 ≤ s.size := by omega
  have hmx : s.size ≤ 900000 := by omega
  rw [hs]
  clear hs hsz
  go_enter Tryz.func29, Tryz.ntmps29
  have h2 : (s.toList == s.toList) = true := by simp
  go_wp2_with fail
  refine (H1.out _).mono ?_
  rintro e w1 ⟨rfl, k1⟩
  go_wp2_with fail
  go_ret2
  exact ⟨rfl, k1⟩
theorem aOpen0 (w : World) : Calls Tryz.prog 29 #[.string ⟨#[]⟩] w fun e w' => e = .returned (.tuple #[.string ⟨#[]⟩, .bool false]) ∧ Kp none' w w' := by
  go_enter Tryz.func29, Tryz.ntmps29
  go_wp2
  go_ret2
  exact ⟨rfl, Kp.refl _ _⟩
end Go.Proofs.YtlaakhfgidjofaaGreatDoor
