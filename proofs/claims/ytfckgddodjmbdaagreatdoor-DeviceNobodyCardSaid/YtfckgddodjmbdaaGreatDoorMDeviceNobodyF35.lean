/- A region that draws its order, as in Kept, with one operation among the heads that makes a block (the block of a variable), which may come at any time. Names no function of the program. -/
import Derived.Test.YtfckgddodjmbdaaGreatDoorMDeviceNobodyF2
import Derived.Deep.MidRow
import Derived.Test.YtfckgddodjmbdaaGreatDoorMDeviceNobodyF34
import Derived.Deep.Cut
namespace Go.Proofs.YtfckgddodjmbdaaGreatDoor
set_option linter.unusedVariables false
set_option linter.unusedSimpArgs false
open Go Go.RowKit
variable {P : Program} {ops : Array Oper} {Q : Exit → Act → World → Prop} {md : Region.Mode}
theorem EverK.later {w0 w1 : World} {o : Oper} {v : Value} {a : Act} (hy : EverK P ops w0 o v a) (hk : Kp none' w0 w1) : EverK P ops w1 o v a := by
  rcases hy with ⟨hw, hv⟩ | h
  · exact .inl ⟨hw, fun w k => hv w (hk.trans k)⟩
  · exact .inr h
theorem wpKept.later {w0 w1 : World} {C C' : Act → Prop} (hk : Kp none' w0 w1) (hC : ∀ a, C a → C' a) : ∀ (R : List Nat) (a : Act), wpKept P ops w0 C R a → wpKept P ops w1 C' R a
  | [], a, h => hC a h
  | _ :: R, _, ⟨o, v, h0, h1, h2⟩ => ⟨o, v, h0, h1.later hk, wpKept.later hk hC R _ h2⟩
theorem wpKept.put {w0 : World} {C : Act → Prop} {s : Nat} {os : Oper} (hos : ops[s]? = some os) (hsel : ∀ (j : Nat) (o : Oper) cs b, ops[j]? = some o → o.op ≠ .select cs b) (v : Value) : ∀ (R : List Nat) (a : Act),
    (∀ p ∈ R, ∀ op, ops[p]? = some op → op.apart ops os = true) → wpKept P ops w0 (fun a' => C (a'.put os.dst v)) R a → wpKept P ops w0 C R (a.put os.dst v)
  | [], _, _, h => h
  | p :: R, a, hap, ⟨op, vp, h1, h2, h3⟩ => by
    obtain ⟨a1, a2, a3⟩ := Oper.apart_spec (hap p List.mem_cons_self op h1)
    have hsp := fun cs b => hsel p op cs b h1
    refine ⟨op, vp, h1, h2.alike (execOp_put op hsp a os.dst v a3) (wanted_put op a os.dst v a3), ?_⟩
    have := wpKept.put hos hsel v R _ (fun q hq => hap q (List.mem_cons_of_mem _ hq)) h3
    rw [Act.put_comm a vp v a2] at this
    exact this
theorem wpAny_keptA {w0 : World} {n g s : Nat} {os : Oper} {z : List Value} {t : TypeId} {E : List Nat} {T : Act → World → Prop} (hsel : Region.noSelect ops = true) (hs : sinkE md ops E n = true) (hc : Region.chainB md ops n = true) (hn : n < ops.size) (hd : depsB md ops = true) (hp : pairsB md ops n = true)
    (hsn : s < n) (hos : ops[s]? = some os) (hgd : ∀ l, Region.wanted os l = true) (hal : ∀ (a : Act) W, (execOp a.eval os).run P W = .ok (.value (.pointer (some ⟨W.heap.size, 0, none⟩))) (W.alloc (.cells z.toArray t)))
    (hap : ∀ i o, i < n → i ≠ s → ops[i]? = some o → o.apart ops os = true)
    (hC : ∀ listed a w, listed.size = ops.size → (∀ i, i < n → listed.getD i false = true) → (∀ t, n ≤ t → t < ops.size → listed.getD t true = false) → T a w → wpAny P md ops Q g listed a w) :
    ∀ (m : Nat) (R : List Nat) (listed : Array Bool) (a : Act) (w : World), R.length = m → R.Pairwise (· < ·) → (∀ i ∈ R, i < n ∧ i ≠ s) → (∀ i, i < n → (listed.getD i true = false ↔ (i ∈ R ∨ i = s))) → (∀ e ∈ E, listed.getD e false = true) → HeadInv md ops n listed → Kp none' w0 w →
      wpKept P ops w0 (fun a' => ∀ b W, w0.heap.size ≤ b → Blk W b z t → Kp none' w0 W → T (a'.put os.dst (.pointer (some ⟨b, 0, none⟩))) W) R a → wpAny P md ops Q (m + 1 + g) listed a w := by
  intro m
  induction m with
  | zero =>
    intro R listed a w hl hpw hRn hR hE inv hk h
    have hR0 : R = [] := List.eq_nil_of_length_eq_zero hl
    subst hR0
    rw [show 0 + 1 + g = g + 1 by omega]
    have huns : listed.getD s true = false := (hR s hsn).2 (.inr rfl)
    refine ⟨fun h0 => ?_, fun i hi => ?_⟩
    · have : s ∈ Region.ready md ops listed := by
        refine mem_ready.2 ⟨huns, os, hos, fun e he hb => ?_⟩
        have hlt := depsB_spec hd s os hos e he hb
        refine getD_true_of (by rw [inv.size]; omega) (fun h1 => ?_)
        rcases (hR e.on (by omega)).1 h1 with h2 | h2
        · cases h2
        · omega
      rw [h0] at this; cases this
    · have hin : i < n := by
        rcases Nat.lt_or_ge i n with h1 | h1
        · exact h1
        · exact absurd hi (tail_waitsE hs hc hn inv hE _ s rfl hsn huns i h1)
      obtain ⟨hun, oi, hoi, hall⟩ := mem_ready.1 hi
      have his : i = s := by
        rcases (hR i hin).1 hun with h2 | h2
        · cases h2
        · exact h2
      subst his
      unfold Go.wpOp
      simp only [hos]
      rw [if_pos (hgd _)]
      refine .inl ?_
      unfold Oper.wp
      rw [hal]
      have hsz : i < listed.size := by rw [inv.size]; omega
      refine hC _ _ _ (by simp [inv.size]) (fun j hj => ?_) (fun t' ht ht' => ?_) (h w.heap.size _ hk.size (Blk.new w z t) (hk.alloc _))
      · by_cases hji : i = j
        · subst hji; simp [hsz]
        · refine getD_true_of (by simp [inv.size]; omega) (fun h1 => ?_)
          rw [getD_set_ne true hji] at h1
          rcases (hR j hj).1 h1 with h2 | h2
          · cases h2
          · omega
      · rw [getD_set_ne true (by omega)]; exact inv.tail t' ht ht'
  | succ m ih =>
    intro R listed a w hl hpw hRn hR hE inv hk h
    obtain ⟨r0, R', rfl⟩ : ∃ r0 R', R = r0 :: R' := by cases R with | nil => simp at hl | cons r R' => exact ⟨_, _, rfl⟩
    have hr0 := hRn r0 List.mem_cons_self
    have hun0 : listed.getD r0 true = false := (hR r0 hr0.1).2 (.inl List.mem_cons_self)
    have huns : listed.getD s true = false := (hR s hsn).2 (.inr rfl)
    rw [show m + 1 + 1 + g = (m + 1 + g) + 1 by omega]
    refine ⟨fun h0 => ?_, fun i hi => ?_⟩
    · by_cases hlt0 : s < r0
      · have : s ∈ Region.ready md ops listed := by
          refine mem_ready.2 ⟨huns, os, hos, fun e he hb => ?_⟩
          have hlt := depsB_spec hd s os hos e he hb
          refine getD_true_of (by rw [inv.size]; omega) (fun h1 => ?_)
          rcases (hR e.on (by omega)).1 h1 with h2 | h2
          · rcases List.mem_cons.1 h2 with h2 | h2
            · omega
            · have := (List.pairwise_cons.1 hpw).1 _ h2; omega
          · omega
        rw [h0] at this; cases this
      · have : r0 ∈ Region.ready md ops listed := by
          obtain ⟨o, ho⟩ : ∃ o, ops[r0]? = some o := ⟨_, Array.getElem?_eq_getElem (by omega)⟩
          refine mem_ready.2 ⟨hun0, o, ho, fun e he hb => ?_⟩
          have hlt := depsB_spec hd r0 o ho e he hb
          refine getD_true_of (by rw [inv.size]; omega) (fun h1 => ?_)
          rcases (hR e.on (by omega)).1 h1 with h2 | h2
          · rcases List.mem_cons.1 h2 with h2 | h2
            · omega
            · have := (List.pairwise_cons.1 hpw).1 _ h2; omega
          · have := hr0.2; omega
        rw [h0] at this; cases this
    · have hin : i < n := by
        rcases Nat.lt_or_ge i n with h1 | h1
        · exact h1
        · exact absurd hi (tail_waitsE hs hc hn inv hE _ r0 rfl hr0.1 hun0 i h1)
      obtain ⟨hun, oi, hoi, hall⟩ := mem_ready.1 hi
      by_cases his : i = s
      · subst his
        unfold Go.wpOp
        simp only [hos]
        rw [if_pos (hgd _)]
        refine .inl ?_
        unfold Oper.wp
        rw [hal]
        have hb := Blk.new w z t
        have hk1 : Kp none' w0 (w.alloc (.cells z.toArray t)) := hk.alloc _
        have h1 := wpKept.put (C := fun a' => ∀ W, Blk W w.heap.size z t → Kp none' w0 W → T a' W) hos (Region.noSelect_spec hsel) (.pointer (some ⟨w.heap.size, 0, none⟩)) (r0 :: R') a
          (fun p hp' op hop => hap p op (hRn p hp').1 (hRn p hp').2 hop) (wpKept.later (Kp.refl none' w0) (fun a' hc W h2 h3 => hc w.heap.size W hk.size h2 h3) _ _ h)
        have h2 := wpKept.later (w1 := w.alloc (.cells z.toArray t)) (C' := fun a' => ∀ W, Kp none' (w.alloc (.cells z.toArray t)) W → T a' W) hk1 (fun a' hc W hkW => hc W (hb.kp hkW (fun x => x)) (hk1.trans hkW)) _ _ h1
        have hsz : i < listed.size := by rw [inv.size]; omega
        have := wpAny_kept (g := g) hsel hs hc hn hd hp (fun listed a w hs1 h1 h2 hcc hkk => hC listed a w hs1 h1 h2 (hcc w hkk)) (m + 1) (r0 :: R') (listed.setIfInBounds i true) _ _ hl hpw (fun j hj => (hRn j hj).1) (fun j hj => ?_) (fun e he => getD_set_true (hE e he)) (inv.set hi hin) (Kp.refl none' _) h2
        · exact this
        · by_cases hji : i = j
          · subst hji
            have h3 : (listed.setIfInBounds i true).getD i true = true := by simp [hsz]
            rw [h3]
            exact ⟨fun h => (by cases h), fun h => absurd rfl (hRn _ h).2⟩
          · rw [getD_set_ne true hji, hR j hj]
            exact ⟨fun h => by rcases h with h | h; exact h; omega, fun h => .inl h⟩
      · have hm : i ∈ r0 :: R' := by
          rcases (hR i hin).1 hun with h2 | h2
          · exact h2
          · exact absurd h2 his
        obtain ⟨pre, post, hpp⟩ := List.append_of_mem hm
        rw [hpp] at h hpw hR hRn hl
        have hpre : ∀ p ∈ pre, p < i := fun p hp => (List.pairwise_append.1 hpw).2.2 p hp i List.mem_cons_self
        have hpost : ∀ p ∈ post, i < p := fun p hp => (List.pairwise_cons.1 (List.pairwise_append.1 hpw).2.1).1 p hp
        obtain ⟨v, e1, e2⟩ := wpKept.out hoi (Region.noSelect_spec hsel) post pre a (fun p hp' op hop => pairsB_spec hp p i op oi (hpre p hp') hin hop hoi (fun e he hb heq => by
          have h1 := hall e he hb
          have h2 := (hR p (hRn p (List.mem_append_left _ hp')).1).2 (.inl (List.mem_append_left _ hp'))
          rw [heq, getD_both h2] at h1; cases h1)) h
        have hsub : (pre ++ post).Sublist (pre ++ i :: post) := List.Sublist.append_left (List.sublist_cons_self _ _) _
        refine e1.wpOp hoi hk (fun w' hk' => ih (pre ++ post) _ _ w' (by simp at hl ⊢; omega) (hpw.sublist hsub) (fun j hj => hRn j (hsub.subset hj)) (fun j hj => ?_) (fun e he => getD_set_true (hE e he)) (inv.set hi hin) hk' e2)
        by_cases hji : i = j
        · subst hji
          have h1 : (listed.setIfInBounds i true).getD i true = true := by
            have : i < listed.size := by rw [inv.size]; omega
            simp [this]
          rw [h1]
          refine ⟨fun h => (by cases h), fun h => ?_⟩
          rcases h with h | h
          · rcases List.mem_append.1 h with h | h
            · have := hpre _ h; omega
            · have := hpost _ h; omega
          · exact absurd h his
        · rw [getD_set_ne true hji, hR j hj]
          constructor
          · rintro (h | h)
            · rcases List.mem_append.1 h with h | h
              · exact .inl (List.mem_append_left _ h)
              · rcases List.mem_cons.1 h with h | h
                · omega
                · exact .inl (List.mem_append_right _ h)
            · exact .inr h
          · rintro (h | h)
            · exact .inl (hsub.subset h)
            · exact .inr h
theorem wpKL_build {w0 : World} {C : Act → Prop} {r : List Oper} {o : Oper} {a : Act} (hw : Region.wanted o (yielded ops a.tmps) = true) (t : TypeId) (parts : Array (Nat × Operand)) (ho : o.op = .build t parts) (v : Value)
    (h1 : ∀ W, (Instr.build t (parts.map fun (i, x) => (i, a.eval x))).run P W = .ok v W) (h2 : wpKL P ops w0 C r (a.put o.dst v)) : wpKL P ops w0 C (o :: r) a :=
  ⟨v, .inl ⟨hw, fun W _ => .inl (by unfold execOp; simp only [ho, Sem.run_bind, h1, Result.andThen_ok, Sem.run_pure])⟩, h2⟩
theorem load_blk {w0 : World} {b : Nat} {cs : List Value} {t : TypeId} (h : Blk w0 b cs t) {ty : TypeId} (d : TypeDesc) (hu : P.underlying ty = some d) (hd : d.isRow = true) (hi : (P.info? ty).map (·.size) = some cs.length)
    {o : Oper} {x : Operand} {a : Act} (ho : o.op = .load ty x) (hx : a.eval x = .pointer (some ⟨b, 0, none⟩)) : ∀ W, Kp none' w0 W → (execOp a.eval o).run P W = .ok (.value (.agg cs.toArray)) W := fun W hK => by
  have h2 := run_loadAt_mid W b 0 ty cs d (fun j v hv => by rw [Nat.zero_add]; exact (h.kp hK (fun x => x)).cell j hv) hu hd hi
  unfold execOp
  simp only [ho, hx, Sem.run_bind, Sem.run_pure, Result.andThen_ok, h2]
def keptAB (md : Region.Mode) (ops : Array Oper) (K : List Nat) (s n : Nat) : Bool :=
  Region.noSelect ops && decide (n < ops.size) && sinkE md ops [] n && Region.chainB md ops n && depsB md ops && pairsB md ops n && sortedB K && K.all (fun k => decide (k < n) && decide (k ≠ s)) &&
  ((List.range n).all fun i => K.contains i || decide (i = s)) && decide (s < n) && Region.seqB md ops (ops.size - n) n (canonB ops n) && decide (K.length + 1 = n) &&
  ((List.range n).all fun i => decide (i = s) || match ops[i]?, ops[s]? with | some o, some os => o.apart ops os | _, _ => true)
theorem wp_region_keptA {id : Nat} {a : Act} {w : World} {l : List Oper} (K : List Nat) (s n : Nat) (z : List Value) (t : TypeId) {os : Oper} (hm : P.follows .mixedOrders = true) (hB : (keptAB .any l.toArray K s n && K.all (fun k => decide (k < l.length))) = true)
    (hos : l[s]? = some os) (hgd : os.guard = none) (hal : ∀ (a : Act) W, (execOp a.eval os).run P W = .ok (.value (.pointer (some ⟨W.heap.size, 0, none⟩))) (W.alloc (.cells z.toArray t)))
    (h : wpKL P l.toArray w (fun a' => ∀ b W, w.heap.size ≤ b → Blk W b z t → Kp none' w W → wpList P l.toArray Q (l.drop n) (a'.put os.dst (.pointer (some ⟨b, 0, none⟩))) W) (pick l K) a) : (Code.region id l.toArray true).wp P Q a w := by
  simp only [keptAB, Bool.and_eq_true, decide_eq_true_eq] at hB
  obtain ⟨⟨⟨⟨⟨⟨⟨⟨⟨⟨⟨⟨⟨b1, b2⟩, b3⟩, b4⟩, b5⟩, b6⟩, b7⟩, b8⟩, b9⟩, b10⟩, b11⟩, b12⟩, b13⟩, bK⟩ := hB
  have hsz : l.toArray.size = l.length := by simp
  have hos' : l.toArray[s]? = some os := by rw [List.getElem?_toArray]; exact hos
  refine wp_region_any hm ?_
  have inv0 : HeadInv .any l.toArray n (Array.replicate l.toArray.size false) := by
    refine ⟨by simp, fun j oj hj hl e he hb => ?_, fun t ht ht' => ?_⟩
    · have hj' : j < l.length := by have := (Array.getElem?_eq_some_iff.1 hj).1; simpa using this
      simp [hj'] at hl
    · have ht2 : t < l.length := by simpa using ht'
      simp [ht2]
  have hfin := wpAny_keptA (P := P) (Q := Q) (md := .any) (ops := l.toArray) (w0 := w) (z := z) (t := t) (E := []) (g := l.toArray.size - n) (T := fun a' W => wpList P l.toArray Q (l.drop n) a' W) b1 b3 b4 b2 b5 b6 b10 hos'
    (fun l' => by unfold Region.wanted; rw [hgd]) hal
    (fun i o hi hne hio => by
      have h1 := List.all_eq_true.1 b13 i (List.mem_range.2 hi)
      rw [Bool.or_eq_true] at h1
      rcases h1 with h1 | h1
      · exact absurd (of_decide_eq_true h1) hne
      · simpa [hio, hos'] using h1)
    (fun listed a'' w' hs h1 h2 hcc => by
      have hcan : listed = canonB l.toArray n := by
        apply Array.ext
        · simp [canonB, hs]
        · intro i hi1 hi2
          have hil : i < l.toArray.size := by rw [← hs]; exact hi1
          simp only [canonB, List.map_toArray, List.getElem_toArray, List.getElem_map, List.getElem_range]
          by_cases hin : i < n
          · have := h1 i hin; simp [hi1] at this; rw [this, decide_eq_true hin]
          · have := h2 i (by omega) hil; simp [hi1] at this; rw [this, decide_eq_false hin]
      subst hcan
      have hdl : (l.drop n).length = l.toArray.size - n := by simp
      have := wpAny_of_seq (P := P) (md := .any) (ops := l.toArray) (Q' := Q) (l.drop n) n (canonB l.toArray n) a'' w' (fun j => by simp [List.getElem?_drop]) (by rw [hdl]; exact b11) hcc
      rwa [hdl] at this) K.length K (Array.replicate l.toArray.size false) a w.drew rfl (sortedB_spec K b7) (fun i hi => by
        have := List.all_eq_true.1 b8 i hi
        simpa using this) (fun i hi => by
        have h1 := List.all_eq_true.1 b9 i (List.mem_range.2 hi)
        have hi2 : i < l.length := by omega
        simp [hi2] at h1 ⊢
        exact h1) (fun e he => by cases he) inv0 (Kp.refl none' w).drew (kept_of_list K a bK h)
  rw [show K.length + 1 + (l.toArray.size - n) = l.toArray.size by omega] at hfin
  exact hfin
end Go.Proofs.YtfckgddodjmbdaaGreatDoor

namespace Go.Proofs.YtfckgddodjmbdaaGreatDoor
set_option linter.unusedVariables false
set_option linter.unusedSimpArgs false
open Go Go.RowKit Go.Shelf
set_option maxRecDepth 100000 in
set_option maxHeartbeats 2000000 in
theorem hTakeOk (s : ByteArray) (hs : s.size ≤ 100000) (he : takeE (bl s) = 0) (w : World) : Calls Tryz.prog 18 #[.string s] w fun e w' => e = .returned (.tuple #[.agg (enHd (takeH (bl s))).toArray, .string (s.extract 28 s.size), .int .i64 0]) ∧ Kp none' w w' := by
  obtain ⟨h28, hfo, hsu⟩ := take_parts he
  rw [bl_len] at h28
  have HB0 := Lib.hid (Blk.new w (enHd hdZ) 56)
  have HK0 := Lib.hid ((Kp.refl none' w).alloc (.cells (enHd hdZ).toArray 56))
  have hi : ¬ (s.size : Int) < 28 := by omega
  have HF := Lib.hid (fun W => hForm s (by omega) (by omega) W)
  rw [hfo] at HF
  have HH : Hid (∀ W, Calls Tryz.prog 37 #[.string s, .int .i64 10] W fun e w' => e = .returned (.int .u16 (hf (bl s) 10 : Nat)) ∧ Kp none' W w') := Lib.hid (fun W => hHalf s 10 (by omega) (by omega) W)
  have HH4 : Hid (∀ W, Calls Tryz.prog 37 #[.string s, .int .i64 4] W fun e w' => e = .returned (.int .u16 (hf (bl s) 4 : Nat)) ∧ Kp none' W w') := Lib.hid (fun W => hHalf s 4 (by omega) (by omega) W)
  have HH20 : Hid (∀ W, Calls Tryz.prog 37 #[.string s, .int .i64 20] W fun e w' => e = .returned (.int .u16 (hf (bl s) 20 : Nat)) ∧ Kp none' W w') := Lib.hid (fun W => hHalf s 20 (by omega) (by omega) W)
  have HH22 : Hid (∀ W, Calls Tryz.prog 37 #[.string s, .int .i64 22] W fun e w' => e = .returned (.int .u16 (hf (bl s) 22 : Nat)) ∧ Kp none' W w') := Lib.hid (fun W => hHalf s 22 (by omega) (by omega) W)
  have HW12 : Hid (∀ W, Calls Tryz.prog 39 #[.string s, .int .i64 12] W fun e w' => e = .returned (.int .u32 (wd (bl s) 12 : Nat)) ∧ Kp none' W w') := Lib.hid (fun W => hWord s 12 (by omega) (by omega) W)
  have HW16 : Hid (∀ W, Calls Tryz.prog 39 #[.string s, .int .i64 16] W fun e w' => e = .returned (.int .u32 (wd (bl s) 16 : Nat)) ∧ Kp none' W w') := Lib.hid (fun W => hWord s 16 (by omega) (by omega) W)
  have HTK : Hid (takeH (bl s) = ⟨s[1].toNat / 4, hf (bl s) 4, s[8].toNat, wd (bl s) 12, wd (bl s) 16, hf (bl s) 20, hf (bl s) 22⟩) := by
    show _ = _
    unfold takeH
    rw [gd s 1 (by omega), gd s 8 (by omega)]
  have hcl := fun W => hClone (s.extract 28 s.size) (by rw [← bl_len, bl_cut, List.length_take, List.length_drop, bl_len]; omega) W
  have HC := Lib.hid hcl
  have hts := top_str s
  have hsz : (s.extract 0 10).size = 10 := by rw [← bl_len, bl_cut, List.length_take, List.length_drop, bl_len]; omega
  have hsz2 : (s.extract 12 20).size = 8 := by rw [← bl_len, bl_cut, List.length_take, List.length_drop, bl_len]; omega
  have x1 := cat_run (P := Tryz.prog) (s.extract 0 10) ⟨#[0, 0]⟩ (by rw [hsz]; show 10 + 2 ≤ _; decide)
  have hsz3 : (s.extract 0 10 ++ ⟨#[0, 0]⟩ : ByteArray).size = 12 := by rw [← bl_len, bl_app, List.length_append, bl_len, hsz]; rfl
  have x2 := cat_run (P := Tryz.prog) (s.extract 0 10 ++ ⟨#[0, 0]⟩) (s.extract 12 20) (by rw [hsz3, hsz2]; decide)
  obtain ⟨T, hT⟩ : ∃ T, s.extract 0 10 ++ ⟨#[0, 0]⟩ ++ s.extract 12 20 = T := ⟨_, rfl⟩
  rw [hT] at hts x2
  have hTs : T.size = 20 := by rw [← hT, ← bl_len, bl_app, List.length_append, bl_len, bl_len, hsz3, hsz2]
  have hin := fun W => hInet T (by omega) W
  rw [hts, ← hsu] at hin
  have HN := Lib.hid (fun W => calls_same (hin W))
  have g1 := UInt8.toNat_lt s[1]
  have g8 := UInt8.toNat_lt s[8]
  have z1 : (1 : Int) < s.size := by omega
  have z8 : (8 : Int) < s.size := by omega
  rw [HTK.out]
  obtain ⟨n1, e1⟩ : ∃ n1, s[1].toNat = n1 := ⟨_, rfl⟩
  obtain ⟨n8, e8⟩ : ∃ n8, s[8].toNat = n8 := ⟨_, rfl⟩
  rw [e1] at g1 ⊢
  rw [e8] at g8 ⊢
  have m1 : ((n1 / 4 : Nat) : Int) = (n1 : Int) / 4 := by omega
  have b10 : (10 : Int) ≤ s.size := by omega
  have b20 : (20 : Int) ≤ s.size := by omega
  have b28 : (28 : Int) ≤ s.size := by omega
  generalize hf (bl s) 10 = p at *
  generalize hf (bl s) 4 = p4 at *
  generalize hf (bl s) 20 = p20 at *
  generalize hf (bl s) 22 = p22 at *
  generalize wd (bl s) 12 = p12 at *
  generalize wd (bl s) 16 = p16 at *
  have HB9 : Hid (∀ (W : World), Blk (W.alloc (.cells #[.int .u8 ((n1 : Int) / 4), .int .u16 p4, .int .u8 n8, .int .u32 p12, .int .u32 p16, .int .u16 p20, .int .u16 p22] 56)) W.heap.size [.int .u8 ((n1 : Int) / 4), .int .u16 p4, .int .u8 n8, .int .u32 p12, .int .u32 p16, .int .u16 p20, .int .u16 p22] 56) := Lib.hid (fun W => Blk.new W [.int .u8 ((n1 : Int) / 4), .int .u16 p4, .int .u8 n8, .int .u32 p12, .int .u32 p16, .int .u16 p20, .int .u16 p22] 56)
  clear he hfo hsu hts hsz hsz2 hsz3 hT hTs hin hcl HTK
  go_enter Tryz.func18, Tryz.ntmps18
  go_wp2_with fail
  refine (HF.out _).mono ?_
  rintro e w1 ⟨rfl, hk1⟩
  have HK1 := Lib.hid (HK0.out.trans hk1)
  have HB1 := Lib.hid (HB0.out.kp hk1 (fun x => x))
  clear hk1 HB0 HK0
  go_wp2_with fail
  refine wp_region_kept2 [] [0, 1, 2, 3, 4, 5, 6, 7, 8] 9 (by kernel_rfl) (by kernel_rfl) (fun c a d u w h => by cases d <;> exact h) ?_
  simp only [pick, List.getElem?_cons_succ, List.getElem?_cons_zero, List.drop_succ_cons, List.drop_zero]
  show wpKL _ _ _ _ _ _
  repeat (first
    | (refine wpKL_op (by exact rfl) (by as_aux_lemma => intro W hK; go_simp; exact rfl) ?_; simp only [Act.put, List.setIfInBounds_toArray, List.set_cons_succ, List.set_cons_zero])
    | (refine wpKL_off (by exact rfl) ?_; simp only [Act.put, List.setIfInBounds_toArray, List.set_cons_succ, List.set_cons_zero])
    | (refine wpKL_call (by exact rfl) (by as_aux_lemma => intro W; go_simp; exact ⟨rfl, rfl⟩) (by intro W hK; with_reducible first | exact HH.out W | exact HN.out W) ?_; simp only [Act.put, List.setIfInBounds_toArray, List.set_cons_succ, List.set_cons_zero]))
  show ∀ W, _ → wpList _ _ _ _ _ _
  intro W2 hK2
  have HK2 := Lib.hid (HK1.out.trans hK2)
  have HB2 := Lib.hid (HB1.out.kp hK2 (fun x => x))
  clear hK2 HK1 HB1
  go_wp2_with fail
  refine wp_region_keptA [0, 1, 2, 3, 4, 5, 6, 7, 8, 9, 10, 11, 12, 13, 14, 15] 16 17 (enHd hdZ) 56 (by kernel_rfl) (by kernel_rfl) rfl rfl (fun _ _ => by kernel_rfl) ?_
  simp only [pick, List.getElem?_cons_succ, List.getElem?_cons_zero, List.drop_succ_cons, List.drop_zero]
  show wpKL _ _ _ _ _ _
  repeat (first
    | (refine wpKL_build (by exact rfl) 56 _ rfl (.agg #[.int .u8 ((n1 : Int) / 4), .int .u16 p4, .int .u8 n8, .int .u32 p12, .int .u32 p16, .int .u16 p20, .int .u16 p22]) (fun _ => by kernel_rfl) ?_; simp only [Act.put, List.setIfInBounds_toArray, List.set_cons_succ, List.set_cons_zero])
    | (refine wpKL_op (by exact rfl) (by as_aux_lemma => intro W hK; go_simp; exact rfl) ?_; simp only [Act.put, List.setIfInBounds_toArray, List.set_cons_succ, List.set_cons_zero])
    | (refine wpKL_off (by exact rfl) ?_; simp only [Act.put, List.setIfInBounds_toArray, List.set_cons_succ, List.set_cons_zero])
    | (refine wpKL_call (by exact rfl) (by as_aux_lemma => intro W; go_simp; exact ⟨rfl, rfl⟩) (by intro W hK; with_reducible first | exact HH4.out W | exact HW12.out W | exact HW16.out W | exact HH20.out W | exact HH22.out W) ?_; simp only [Act.put, List.setIfInBounds_toArray, List.set_cons_succ, List.set_cons_zero]))
  show ∀ b W, _ → _ → _ → wpList _ _ _ _ _ _
  simp only [Act.put, List.setIfInBounds_toArray, List.set_cons_succ, List.set_cons_zero]
  intro b3 W3 hb3 hB3 hK3
  have HB3 := Lib.hid hB3
  have HK3 := Lib.hid (HK2.out.trans hK3)
  have HR3 := Lib.hid (HB2.out.kp hK3 (fun x => x))
  have hne : w.heap.size ≠ b3 := by have := HB2.out.lt; omega
  have hle : w.heap.size ≤ b3 := by have := HK2.out.size; omega
  clear hB3 hK3 hb3 HK2 HB2
  go_wp2_with (refine wp_st_blk rfl 56 (.tmp 5) (.tmp 43) rfl HB3.out [.int .u8 ((n1 : Int) / 4), .int .u16 p4, .int .u8 n8, .int .u32 p12, .int .u32 p16, .int .u16 p20, .int .u16 p22] rfl rfl rfl infoHd rfl ?_; intro W4 hb4 hk4; have HB4 := Lib.hid hb4; have HR4 := Lib.hid (HR3.out.kp hk4 hne); have HK4 : Hid (Kp none' w W4) := Lib.hid (HK3.out.then hk4 (fun i h1 h2 => by omega)); clear hb4 hk4 HB3 HR3 HK3)
  refine wp_region_kept2 [] [0, 1, 2, 3] 4 (by kernel_rfl) (by kernel_rfl) (fun c a d u w h => by cases d <;> exact h) ?_
  simp only [pick, List.getElem?_cons_succ, List.getElem?_cons_zero, List.drop_succ_cons, List.drop_zero]
  show wpKL _ _ _ _ _ _
  repeat (first
    | (refine wpKL_op (by exact rfl) (load_blk HB4.out _ Tryz.underlying56 rfl infoHd rfl rfl) ?_; simp only [Act.put, List.setIfInBounds_toArray, List.set_cons_succ, List.set_cons_zero])
    | (refine wpKL_op (by exact rfl) (by as_aux_lemma => intro W hK; go_simp; exact rfl) ?_; simp only [Act.put, List.setIfInBounds_toArray, List.set_cons_succ, List.set_cons_zero])
    | (refine wpKL_off (by exact rfl) ?_; simp only [Act.put, List.setIfInBounds_toArray, List.set_cons_succ, List.set_cons_zero])
    | (refine wpKL_call (by exact rfl) (by as_aux_lemma => intro W; go_simp; exact ⟨rfl, rfl⟩) (by intro W hK; with_reducible first | exact HC.out W) ?_; simp only [Act.put, List.setIfInBounds_toArray, List.set_cons_succ, List.set_cons_zero]))
  show ∀ W, _ → wpList _ _ _ _ _ _
  intro W5 hK5
  have HK5 := Lib.hid (HK4.out.trans hK5)
  have HR5 := Lib.hid (HR4.out.kp hK5 (fun x => x))
  clear hK5 HK4 HR4 HB4
  go_wp2_with (refine wp_st_blk rfl 56 (.tmp 2) (.tmp 44) rfl HR5.out [.int .u8 ((n1 : Int) / 4), .int .u16 p4, .int .u8 n8, .int .u32 p12, .int .u32 p16, .int .u16 p20, .int .u16 p22] rfl rfl rfl infoHd rfl ?_; intro W6 hb6 hk6; have HB6 := Lib.hid hb6; have HK6 : Hid (Kp none' w W6) := Lib.hid (HK5.out.then hk6 (fun i h1 h2 => by omega)); clear hb6 hk6 HR5 HK5)
  refine ret_cell3 (by exact rfl) HB6.out _ Tryz.underlying56 rfl infoHd (by exact rfl) ⟨?_, HK6.out⟩
  simp only [enHd, m1]
  rfl

theorem ex_size (s : ByteArray) (a b : Nat) : (s.extract a b).size = min b s.size - a := by rw [← bl_len, bl_cut, List.length_take, List.length_drop, bl_len]; omega
theorem cut_str (s : ByteArray) (k x : Nat) : bl (s.extract 0 k ++ tx (hvL [x]) ++ s.extract (k + 2) s.size) = cutAt (bl s) k x := by
  rw [bl_app, bl_app, bl_cut, bl_cut, bl_tx]
  unfold cutAt
  rw [List.drop_zero, List.append_assoc, List.take_of_length_le (l := List.drop (k + 2) (bl s)) (by rw [List.length_drop, bl_len]; omega)]
  simp [hvL]
theorem one16 (w : World) (x : Nat) : Sl (w.alloc (.cells #[.int .u16 (x : Int)] 54)) (.slice (some ⟨w.heap.size, 0, none⟩) 1 1) [x].length 1 (u16c [x]) :=
  ⟨rfl, by show (1 : Nat) ≤ _; omega, _, _, rfl, fun i u hu => ⟨_, 0, rfl, by rw [Nat.zero_add]; exact (Blk.new w (u16c [x]) 54).cell i hu⟩⟩
set_option maxRecDepth 100000 in
set_option maxHeartbeats 400000 in
theorem hWith (s : ByteArray) (k x : Nat) (hs : s.size ≤ 100000) (h28 : 28 ≤ s.size) (hk : k + 2 ≤ 28) (hx : x < 65536) (w : World) : Calls Tryz.prog 42 #[.string s, .int .i64 k, .int .u16 x] w fun e w' => e = .returned (.string (tx (withL (bl s) k x))) ∧ Kp none' w w' := by
  have HH10 : Hid (∀ W, Calls Tryz.prog 37 #[.string s, .int .i64 10] W fun e w' => e = .returned (.int .u16 (hf (bl s) 10 : Nat)) ∧ Kp none' W w') := Lib.hid (fun W => hHalf s 10 (by omega) (by omega) W)
  have HHK := Lib.hid (fun W => hHalf s k (by omega) (by omega) W)
  have HU := Lib.hid (fun W => calls_same (hUpd (hf (bl s) 10) (hf (bl s) k) x (hf_lt _ _) (hf_lt _ _) hx W))
  have htop0 : updN (hf (bl s) 10) (hf (bl s) k) x < 65536 := by unfold updN; omega
  have hcs := cut_str s k x
  have hz1 : (s.extract 0 k).size = k := by rw [ex_size]; omega
  have hz2 : (tx (hvL [x])).size = 2 := by rw [tx_size, hv_len]; rfl
  have hz3 : (s.extract (k + 2) s.size).size = s.size - (k + 2) := by rw [ex_size]; omega
  have x1 := cat_run (P := Tryz.prog) (s.extract 0 k) (tx (hvL [x])) (by omega)
  have hz4 : (s.extract 0 k ++ tx (hvL [x])).size = k + 2 := by rw [← bl_len, bl_app, List.length_append, bl_len, bl_len]; omega
  have x2 := cat_run (P := Tryz.prog) (s.extract 0 k ++ tx (hvL [x])) (s.extract (k + 2) s.size) (by omega)
  obtain ⟨T, hT⟩ : ∃ T, s.extract 0 k ++ tx (hvL [x]) ++ s.extract (k + 2) s.size = T := ⟨_, rfl⟩
  rw [hT] at hcs x2
  have hTs : T.size = s.size := by rw [← hT, ← bl_len, bl_app, List.length_append, bl_len, bl_len]; omega
  have htop := htop0
  obtain ⟨y, hy⟩ : ∃ y, updN (hf (bl s) 10) (hf (bl s) k) x = y := ⟨_, rfl⟩
  rw [hy] at htop
  have hcs2 := cut_str T 10 y
  rw [hcs, ← hy] at hcs2
  have hy1 : (T.extract 0 10).size = 10 := by rw [ex_size]; omega
  have hy2 : (tx (hvL [y])).size = 2 := by rw [tx_size, hv_len]; rfl
  have hy3 : (T.extract 12 T.size).size = T.size - 12 := by rw [ex_size]; omega
  have y1 := cat_run (P := Tryz.prog) (T.extract 0 10) (tx (hvL [y])) (by omega)
  have hy4 : (T.extract 0 10 ++ tx (hvL [y])).size = 12 := by rw [← bl_len, bl_app, List.length_append, bl_len, bl_len]; omega
  have y2 := cat_run (P := Tryz.prog) (T.extract 0 10 ++ tx (hvL [y])) (T.extract 12 T.size) (by omega)
  have HX : Hid (∀ W v, Sl W v 1 1 (u16c [x]) → Calls Tryz.prog 59 #[v] W fun e w' => e = .returned (.string (tx (hvL [x]))) ∧ Kp none' W w') := Lib.hid (fun W v h => hHalves [x] (fun n hn => by simp at hn; omega) (Nat.zero_lt_one) (by show 1 ≤ _; omega) v W h)
  have HY : Hid (∀ W v, Sl W v 1 1 (u16c [y]) → Calls Tryz.prog 59 #[v] W fun e w' => e = .returned (.string (tx (hvL [y]))) ∧ Kp none' W w') := Lib.hid (fun W v h => hHalves [y] (fun n hn => by simp at hn; omega) (Nat.zero_lt_one) (by show 1 ≤ _; omega) v W h)
  rw [hy] at HU
  have HRES : Hid (tx (withL (bl s) k x) = T.extract 0 10 ++ tx (hvL [y]) ++ T.extract 12 T.size) := by
    show _ = _
    apply str_ext
    have := hcs2
    rw [hy] at this
    rw [bl_tx]
    unfold withL
    rw [hy]
    exact this.symm
  rw [HRES.out]
  have b2 : (k : Int) + 2 ≤ s.size := by omega
  have b3 : (k : Int) ≤ s.size := by omega
  have b4 : IntKind.i64.wrap ((k : Int) + 2) = (k : Int) + 2 := IntWalk.i64_in _ (by omega)
  have b5 : ((k : Int) + 2).toNat = k + 2 := by omega
  have b10 : (10 : Int) ≤ T.size := by omega
  have b12 : (12 : Int) ≤ T.size := by omega
  clear HRES hcs2 hcs hT hTs hz1 hz2 hz3 hz4 hy1 hy2 hy3 hy4 hy
  go_enter Tryz.func42, Tryz.ntmps42
  go_wp2_with fail
  refine (HH10.out _).mono ?_
  rintro e w1 ⟨rfl, hk1⟩
  have HK1 := Lib.hid hk1
  clear hk1
  go_wp2_with fail
  refine (HHK.out _).mono ?_
  rintro e w2 ⟨rfl, hk2⟩
  have HK2 := Lib.hid (HK1.out.trans hk2)
  clear hk2 HK1
  go_wp2_with fail
  refine (HU.out _).mono ?_
  rintro e w3 ⟨rfl, hk3⟩
  have HK3 := Lib.hid (HK2.out.trans hk3)
  clear hk3 HK2
  go_wp2_with fail
  go_cut [0] from 15 (fun s0 wc => s0 = .string T ∧ Hid (Kp none' w wc))
  case first =>
    go_region_with (go_at_call 59; refine (HX.out _ _ (by first | exact one16 _ x | exact (one16 _ x).old (Kp.drew (Kp.refl _ _)))).mono ?_; rintro e w4 ⟨rfl, hk4⟩; have HK4 := Lib.hid (((HK3.out.alloc (.cells #[.int .u16 (x : Int)] 54)).drew).trans hk4); clear hk4)
    all_goals
      go_wp2_with fail
      go_meet
      case rel => exact ⟨rfl, HK4⟩
  case rest =>
    obtain ⟨rfl, HK5⟩ := hcut
    clear HK3
    go_wp2_with fail
    go_region_with (go_at_call 59; refine (HY.out _ _ (by first | exact one16 _ y | exact (one16 _ y).old (Kp.drew (Kp.refl _ _)))).mono ?_; rintro e w4 ⟨rfl, hk4⟩; have HK4 := Lib.hid (((HK5.out.alloc (.cells #[.int .u16 (y : Int)] 54)).drew).trans hk4); clear hk4)
    all_goals
      go_wp2
      go_ret
      exact ⟨rfl, HK4.out⟩

theorem hop_ok {l : List UInt8} (h : hopE l = 0) : takeE l = 0 ∧ 2 ≤ (l.getD 8 0).toNat := by
  unfold hopE at h
  split at h
  · rename_i h1; exact absurd h h1
  · rename_i h1
    have h1 : takeE l = 0 := Decidable.of_not_not h1
    split at h
    · cases h
    · exact ⟨h1, by omega⟩
set_option maxRecDepth 100000 in
set_option maxHeartbeats 1000000 in
theorem hHopOk (s : ByteArray) (hs : s.size ≤ 100000) (he : hopE (bl s) = 0) (w : World) : Calls Tryz.prog 20 #[.string s] w fun e w' => e = .returned (.tuple #[.string (tx (hopL (bl s))), .int .i64 0]) ∧ Kp none' w w' := by
  obtain ⟨h0, h2⟩ := hop_ok he
  have h28 : 28 ≤ s.size := by have := (take_parts h0).1; rwa [bl_len] at this
  have h8 : (bl s).getD 8 0 = s[8] := gd s 8 (by omega)
  rw [h8] at h2
  have HT := Lib.hid (fun W => hTakeOk s hs h0 W)
  have ht8 : (takeH (bl s)).ttl = s[8].toNat := by unfold takeH; rw [h8]
  have hge : 512 ≤ hf (bl s) 8 := by unfold hf; rw [gd s 8 (by omega)]; omega
  have hlt := hf_lt (bl s) 8
  have HH : Hid (∀ W, Calls Tryz.prog 37 #[.string s, .int .i64 8] W fun e w' => e = .returned (.int .u16 (hf (bl s) 8 : Nat)) ∧ Kp none' W w') := Lib.hid (fun W => hHalf s 8 (by omega) (by omega) W)
  have hwi := fun W => hWith s 8 (hf (bl s) 8 - 256) hs h28 (by omega) (by omega) W
  rw [show ((hf (bl s) 8 - 256 : Nat) : Int) = ((hf (bl s) 8 : Nat) : Int) - 256 by omega] at hwi
  have HWI : Hid (∀ W, Calls Tryz.prog 42 #[.string s, .int .i64 8, .int .u16 (((hf (bl s) 8 : Nat) : Int) - 256)] W fun e w' => e = .returned (.string (tx (hopL (bl s)))) ∧ Kp none' W w') := Lib.hid hwi
  obtain ⟨T, hT⟩ : ∃ T, tx (hopL (bl s)) = T := ⟨_, rfl⟩
  rw [hT] at HWI ⊢
  obtain ⟨H, hH⟩ : ∃ H, takeH (bl s) = H := ⟨_, rfl⟩
  rw [hH] at HT ht8
  have hi2 : ¬ (H.ttl : Int) < 2 := by rw [ht8]; omega
  obtain ⟨n, hn⟩ : ∃ n, hf (bl s) 8 = n := ⟨_, rfl⟩
  rw [hn] at HH HWI hge hlt
  clear he h2 ht8 hH h8 h0 hwi hT hn
  go_enter Tryz.func20, Tryz.ntmps20
  go_wp2_with fail
  refine (HT.out _).mono ?_
  rintro e w1 ⟨rfl, hk1⟩
  have HK1 := Lib.hid (hk1.alloc (.cells (enHd H).toArray 56))
  clear hk1
  simp only [enHd] at *
  go_wp2_with fail
  refine (HH.out _).mono ?_
  rintro e w2 ⟨rfl, hk2⟩
  have HK2 := Lib.hid (HK1.out.trans hk2)
  clear hk2
  go_wp2_with fail
  refine (HWI.out _).mono ?_
  rintro e w3 ⟨rfl, hk3⟩
  have HK3 := Lib.hid (HK2.out.trans hk3)
  clear hk3
  go_wp2_with fail
  go_ret2
  exact ⟨rfl, HK3.out⟩
end Go.Proofs.YtfckgddodjmbdaaGreatDoor
