/- The plain law of FairWaits, a map keyed by packets, queues. -/
import Derived.Test.YthjapdjglifopaaFairP
import Derived.Test.YthjapdjglifopaaTrOfP
import Derived.Test.YthjapdjglifopaaOwn
import Derived.MapKept
import Derived.WideKeyRuns
import Derived.Laws.StructEq
import Derived.Deep.AppendSrc
namespace Go.Proofs.Ythjapdjglifopaa
set_option linter.unusedVariables false
set_option linter.unusedSimpArgs false

abbrev Pk := Nat × Nat × Nat
def pkQ (q : RpR) : Pk := (q.flow, q.id, q.len)
/-- May the reply at a place be told as the one that let this packet in? -/
def mayT (l : List RpR) (told : List Bool) (p : Pk) (k : Nat) : Bool := letsB (l.getD k default) && decide (pkQ (l.getD k default) = p) && !told.getD k false
def firstT (l : List RpR) (told : List Bool) (p : Pk) (i : Nat) : Option Nat := (List.range i).find? (mayT l told p)
structure WS where
  told : List Bool
  out : List (Pk × Nat × Nat)
def stepW (x : List OpR) (l : List RpR) (s : WS) (i : Nat) : WS :=
  match goesB (l.getD i default) with
  | false => ⟨s.told ++ [false], s.out⟩
  | true => match firstT l s.told (pkQ (l.getD i default)) i with
    | none => ⟨s.told ++ [false], s.out⟩
    | some k => ⟨(s.told ++ [false]).set k true, s.out ++ [(pkQ (l.getD i default), nowF (x.take k), nowF (x.take i))]⟩
def wS (x : List OpR) (l : List RpR) : Nat → WS
  | 0 => ⟨[], []⟩
  | i + 1 => stepW x l (wS x l i) i
theorem wS_len (x : List OpR) (l : List RpR) (i : Nat) : (wS x l i).told.length = i := by
  induction i with
  | zero => rfl
  | succ i ih =>
    show (stepW x l (wS x l i) i).told.length = _
    unfold stepW
    split
    · simp [ih]
    · split <;> simp [ih]
theorem wS_out (x : List OpR) (l : List RpR) (i : Nat) : (wS x l i).out.length ≤ i := by
  induction i with
  | zero => exact Nat.le_refl _
  | succ i ih =>
    show (stepW x l (wS x l i) i).out.length ≤ _
    unfold stepW
    split
    · exact Nat.le_succ_of_le ih
    · split
      · exact Nat.le_succ_of_le ih
      · simp; exact ih
/-- The times that wait of a packet. -/
def qOf (x : List OpR) (l : List RpR) (told : List Bool) (i : Nat) (p : Pk) : List Nat := ((List.range i).filter (mayT l told p)).map (fun k => nowF (x.take k))
theorem qOf_len (x : List OpR) (l : List RpR) (told : List Bool) (i : Nat) (p : Pk) : (qOf x l told i p).length ≤ i := by
  unfold qOf; rw [List.length_map]; exact Nat.le_trans (List.length_filter_le _ _) (by simp)
theorem may_old {l : List RpR} {told : List Bool} {p : Pk} {k : Nat} {b : Bool} (h : k < told.length) : mayT l (told ++ [b]) p k = mayT l told p k := by
  have e : (told ++ [b]).getD k false = told.getD k false := by simp [List.getD, List.getElem?_append_left h]
  unfold mayT
  rw [e]
theorem may_new {l : List RpR} {told : List Bool} {p : Pk} : mayT l (told ++ [false]) p told.length = (letsB (l.getD told.length default) && decide (pkQ (l.getD told.length default) = p)) := by
  unfold mayT
  rw [List.getD_eq_getElem?_getD (l := told ++ [false]), List.getElem?_append_right (Nat.le_refl _), Nat.sub_self]
  simp
theorem filter_range {f g : Nat → Bool} {i : Nat} (h : ∀ k, k < i → f k = g k) : (List.range i).filter f = (List.range i).filter g :=
  List.filter_congr fun k hk => h k (List.mem_range.1 hk)
/-- One reply more, nothing told. -/
theorem q_more {x : List OpR} {l : List RpR} {told : List Bool} {i : Nat} (hi : told.length = i) (p : Pk) : qOf x l (told ++ [false]) (i + 1) p = qOf x l told i p ++ (match letsB (l.getD i default) && decide (pkQ (l.getD i default) = p) with | true => [nowF (x.take i)] | false => []) := by
  subst hi
  unfold qOf
  rw [List.range_succ, List.filter_append, List.map_append, filter_range (fun k hk => may_old hk)]
  congr 1
  have := may_new (l := l) (told := told) (p := p)
  cases hb : letsB (l.getD told.length default) && decide (pkQ (l.getD told.length default) = p) with
  | true => rw [hb] at this; simp [this]
  | false => rw [hb] at this; simp [this]
theorem filter_first {f : Nat → Bool} {k : Nat} (hk : f k = true) (hlow : ∀ j, j < k → f j = false) : ∀ i, k < i → (List.range i).filter f = k :: (List.range i).filter (fun j => f j && decide (j ≠ k)) := by
  intro i
  induction i with
  | zero => intro h; omega
  | succ i ih =>
    intro h
    rw [List.range_succ, List.filter_append, List.filter_append]
    rcases Nat.lt_or_ge k i with h1 | h1
    · rw [ih h1, List.cons_append]
      congr 2
      have hne : ¬ i = k := by omega
      simp [List.filter_cons, hne]
    · have : k = i := by omega
      subst this
      have e1 : (List.range k).filter f = [] := List.filter_eq_nil_iff.2 fun j hj => by rw [hlow j (List.mem_range.1 hj)]; decide
      have e2 : (List.range k).filter (fun j => f j && decide (j ≠ k)) = [] := List.filter_eq_nil_iff.2 fun j hj => by rw [hlow j (List.mem_range.1 hj)]; simp
      rw [e1, e2]
      simp [List.filter_cons, hk]
theorem first_some {l : List RpR} {told : List Bool} {p : Pk} {i k : Nat} (h : firstT l told p i = some k) : k < i ∧ mayT l told p k = true ∧ ∀ j, j < k → mayT l told p j = false := by
  unfold firstT at h
  rw [List.find?_range_eq_some] at h
  simp only [List.mem_range, Bool.not_eq_eq_eq_not, Bool.not_true] at h
  exact ⟨h.2.1, h.1, h.2.2⟩
theorem first_none {l : List RpR} {told : List Bool} {p : Pk} {i : Nat} (h : firstT l told p i = none) (x : List OpR) : qOf x l told i p = [] := by
  unfold firstT at h
  unfold qOf
  rw [List.map_eq_nil_iff, List.filter_eq_nil_iff]
  intro k hk
  simp only [List.find?_range_eq_none] at h
  have := h k (List.mem_range.1 hk)
  simpa using this
theorem may_told {l : List RpR} {told : List Bool} {p q : Pk} {k j : Nat} (hk : mayT l told p k = true) (hkl : k < told.length) : mayT l (told.set k true) q j = (mayT l told q j && decide (j ≠ k)) := by
  unfold mayT
  by_cases e : j = k
  · subst e
    rw [List.getD_eq_getElem?_getD (l := told.set j true), List.getElem?_set_self hkl]
    simp
  · rw [List.getD_eq_getElem?_getD (l := told.set k true), List.getElem?_set_ne (fun h => e h.symm), List.getD_eq_getElem?_getD (l := told)]
    simp [e]
/-- One is told: the first of its packet's times goes; the others' stay. -/
theorem q_told {x : List OpR} {l : List RpR} {told : List Bool} {p : Pk} {i k : Nat} (hi : told.length = i) (hg : letsB (l.getD i default) = false) (h : firstT l told p i = some k) :
    (qOf x l told i p = nowF (x.take k) :: qOf x l ((told ++ [false]).set k true) (i + 1) p) ∧ ∀ q, q ≠ p → qOf x l ((told ++ [false]).set k true) (i + 1) q = qOf x l told i q := by
  obtain ⟨h1, h2, h3⟩ := first_some h
  have e0 : ∀ q, qOf x l ((told ++ [false]).set k true) (i + 1) q = ((List.range i).filter (fun j => mayT l told q j && decide (j ≠ k))).map (fun k => nowF (x.take k)) := fun q => by
    unfold qOf
    have hkl : k < (told ++ [false]).length := by rw [List.length_append, hi]; omega
    have hmk : mayT l (told ++ [false]) p k = true := by rw [may_old (by omega)]; exact h2
    rw [List.range_succ, List.filter_append]
    have e1 : (List.range i).filter (mayT l ((told ++ [false]).set k true) q) = (List.range i).filter (fun j => mayT l told q j && decide (j ≠ k)) :=
      filter_range fun j hj => by rw [may_told hmk hkl, may_old (by omega)]
    have e2 : [i].filter (mayT l ((told ++ [false]).set k true) q) = [] := by
      have : mayT l ((told ++ [false]).set k true) q i = false := by
        rw [may_told hmk hkl]
        have := may_new (l := l) (told := told) (p := q)
        rw [hi, hg] at this
        rw [this]; rfl
      simp [List.filter_cons, this]
    rw [e1, e2, List.append_nil]
  refine ⟨?_, fun q hq => ?_⟩
  · rw [e0]
    unfold qOf
    rw [filter_first h2 h3 i h1]; rfl
  · rw [e0]
    unfold qOf
    congr 1
    refine filter_range fun j hj => ?_
    by_cases e : j = k
    · subst e
      have : mayT l told q j = false := by
        unfold mayT at h2 ⊢
        simp only [Bool.and_eq_true, decide_eq_true_eq] at h2
        rw [h2.1.2]
        have : decide (p = q) = false := decide_eq_false (fun e => hq e.symm)
        rw [this]; simp
      rw [this]; rfl
    · simp [e]
/-- All that waited, and left. -/
def outW (x : List OpR) (l : List RpR) : List (Pk × Nat × Nat) := (wS x l (min x.length l.length)).out
end Go.Proofs.Ythjapdjglifopaa
namespace Go.Proofs.Ythjapdjglifopaa
set_option linter.unusedVariables false
set_option linter.unusedSimpArgs false
open Go Go.RowKit

def enP (p : Pk) : Value := .agg #[.int .u32 p.1, .int .u32 p.2.1, .int .u64 p.2.2]
theorem eqPk (p q : Pk) (w : World) : (Op.equal 45 (enP p) (enP q)).run Try.prog w = .ok (decide (p = q)) w := by
  obtain ⟨a, b, c⟩ := p
  obtain ⟨d, e, f⟩ := q
  show (Op.equalIn 10000 45 (.agg #[.int .u32 a, .int .u32 b, .int .u64 c]) (.agg #[.int .u32 d, .int .u32 e, .int .u64 f])).run Try.prog w = _
  obtain ⟨R, hR⟩ : ∃ R, decide ((a, b, c) = (d, e, f)) = R := ⟨_, rfl⟩
  rw [hR]
  go_simp
  by_cases h : (a, b, c) = (d, e, f)
  · cases h
    rw [← hR]; simp
  · rw [← hR, decide_eq_false h]
    split
    · split
      · split
        · exact absurd (Prod.ext (by simp; omega) (Prod.ext (by simp; omega) (by simp; omega))) h
        · rfl
      · rfl
    · rfl
theorem chkInt {t : TypeId} {k k' : IntKind} (h : Try.prog.underlying t = some (.int k)) (n : Int) (b : Bool) (d : Nat) (w : World) : (Instr.checkKey b (d + 1) t (.int k' n)).run Try.prog w = .ok () w := by
  unfold Instr.checkKey
  simp [run_underlying h]
theorem chkPk (p : Pk) (b : Bool) (w : World) : (Instr.checkKey b 10000 45 (enP p)).run Try.prog w = .ok () w := by
  unfold Instr.checkKey
  unfold enP
  simp [run_underlying Try.underlying45, part, chkInt Try.underlying43, chkInt Try.underlying30]

/-- The map in a block holds these. -/
def MapK (w : World) (mb : Nat) (K : List (Pk × Value)) : Prop := ∃ (es : Array MapEntry) (clock : Nat), w.heap[mb]? = some (.map es clock) ∧ es.toList.map (fun e => (e.key, e.val)) = K.map (fun x => (enP x.1, x.2)) ∧ (K.map (·.1)).Nodup
theorem MapK.kp {S : Nat → Prop} {w w' : World} {mb : Nat} {K : List (Pk × Value)} (h : MapK w mb K) (k : Kp S w w') (hs : ¬ S mb) : MapK w' mb K := by
  obtain ⟨es, clock, hb, h1, h2⟩ := h
  exact ⟨es, clock, (k.block mb (Array.getElem?_eq_some_iff.1 hb).1 hs).trans hb, h1, h2⟩
def getK : List (Pk × Value) → Pk → Option Value
  | [], _ => none
  | x :: K, p => if p = x.1 then some x.2 else getK K p
def findK (p : Pk) : List (Pk × Value) → Nat → Option (Nat × Value)
  | [], _ => none
  | x :: K, i => if p = x.1 then some (i, x.2) else findK p K (i + 1)
theorem find_raw (p : Pk) (w : World) : ∀ (es : List MapEntry) (K : List (Pk × Value)) (i : Nat), es.map (fun e => (e.key, e.val)) = K.map (fun x => (enP x.1, x.2)) →
    (Instr.findAsking 45 (enP p) es i).run Try.prog w = .ok (findK p K i) w
  | [], K, i, h => by
    have : K = [] := by simpa using h.symm
    subst this; simp [Instr.findAsking, findK]
  | e :: es, [], i, h => by simp at h
  | e :: es, x :: K, i, h => by
    simp only [List.map_cons, List.cons.injEq, Prod.mk.injEq] at h
    obtain ⟨⟨h1, h2⟩, h3⟩ := h
    unfold Instr.findAsking
    simp only [Sem.run_bind, h1, eqPk, Result.andThen_ok]
    unfold findK
    by_cases hp : p = x.1
    · simp [hp, h2]
    · simp only [decide_eq_false hp, if_neg hp]
      exact find_raw p w es K (i + 1) h3
theorem find_get (p : Pk) : ∀ (K : List (Pk × Value)) (i : Nat), (findK p K i).map (·.2) = getK K p
  | [], _ => rfl
  | x :: K, i => by
    unfold findK getK
    split
    · rfl
    · exact find_get p K (i + 1)
theorem find_some {p : Pk} {v : Value} {j : Nat} : ∀ {K : List (Pk × Value)} {i : Nat}, findK p K i = some (j, v) → ∃ m, j = i + m ∧ K[m]? = some (p, v) ∧ ∀ m', m' < m → ∀ x, K[m']? = some x → x.1 ≠ p
  | [], i, h => by cases h
  | x :: K, i, h => by
    unfold findK at h
    split at h
    · rename_i e
      cases h
      exact ⟨0, rfl, by rw [e]; rfl, fun m' hm => by omega⟩
    · rename_i e
      obtain ⟨m, h1, h2, h3⟩ := find_some h
      refine ⟨m + 1, by omega, by simpa using h2, fun m' hm y hy => ?_⟩
      cases m' with
      | zero => simp at hy; subst hy; exact fun h => e h.symm
      | succ m' => exact h3 m' (by omega) y (by simpa using hy)
theorem find_none {p : Pk} : ∀ {K : List (Pk × Value)} {i : Nat}, findK p K i = none → ∀ x ∈ K, x.1 ≠ p
  | [], i, _, x, hx => by cases hx
  | y :: K, i, h, x, hx => by
    unfold findK at h
    split at h
    · cases h
    · rename_i e
      rcases List.mem_cons.1 hx with rfl | hx
      · exact fun h => e h.symm
      · exact find_none h x hx
theorem get_set {p : Pk} {v u : Value} (q : Pk) : ∀ {K : List (Pk × Value)} {m : Nat}, K[m]? = some (p, u) → (∀ m', m' < m → ∀ x, K[m']? = some x → x.1 ≠ p) → getK (K.set m (p, v)) q = if q = p then some v else getK K q
  | [], m, h, _ => by simp at h
  | x :: K, 0, h, _ => by
    simp at h; subst h
    simp only [List.set_cons_zero, getK]
    split <;> rfl
  | x :: K, m + 1, h, hl => by
    simp only [List.set_cons_succ, getK]
    have hx := hl 0 (by omega) x rfl
    rw [get_set q (by simpa using h) (fun m' hm y hy => hl (m' + 1) (by omega) y (by simpa using hy))]
    by_cases e : q = x.1
    · rw [if_pos e, if_neg (by rw [e]; exact hx), if_pos e]
    · rw [if_neg e, if_neg e]
theorem get_none {p : Pk} : ∀ {K : List (Pk × Value)}, (∀ x ∈ K, x.1 ≠ p) → getK K p = none
  | [], _ => rfl
  | x :: K, h => by
    unfold getK
    rw [if_neg (fun e => h x (by simp) e.symm)]
    exact get_none (fun y hy => h y (by simp [hy]))
theorem get_push {p : Pk} {v : Value} (q : Pk) : ∀ {K : List (Pk × Value)}, (∀ x ∈ K, x.1 ≠ p) → getK (K ++ [(p, v)]) q = if q = p then some v else getK K q
  | [], _ => by simp only [List.nil_append, getK]
  | x :: K, h => by
    simp only [List.cons_append, getK]
    rw [get_push q (fun y hy => h y (by simp [hy]))]
    by_cases e : q = x.1
    · rw [if_pos e, if_neg (by rw [e]; exact h x (by simp)), if_pos e]
    · rw [if_neg e, if_neg e]
theorem get_erase {p : Pk} {u : Value} (q : Pk) : ∀ {K : List (Pk × Value)} {m : Nat}, K[m]? = some (p, u) → (K.map (·.1)).Nodup → getK (K.eraseIdx m) q = if q = p then none else getK K q
  | [], m, h, _ => by simp at h
  | x :: K, 0, h, hn => by
    simp at h; subst h
    simp only [List.eraseIdx_cons_zero, getK]
    by_cases e : q = p
    · rw [if_pos e]
      subst e
      refine get_none fun y hy e2 => ?_
      simp only [List.map_cons, List.nodup_cons] at hn
      exact hn.1 (List.mem_map.2 ⟨y, hy, e2⟩)
    · rw [if_neg e, if_neg e]
  | x :: K, m + 1, h, hn => by
    simp only [List.eraseIdx_cons_succ, getK]
    simp only [List.map_cons, List.nodup_cons] at hn
    have h' : K[m]? = some (p, u) := by simpa using h
    rw [get_erase q h' hn.2]
    have hx : x.1 ≠ p := fun e => hn.1 (List.mem_map.2 ⟨(p, u), List.mem_of_getElem? h', e.symm⟩)
    by_cases e : q = x.1
    · rw [if_pos e, if_neg (by rw [e]; exact hx), if_pos e]
    · rw [if_neg e, if_neg e]
theorem erase_map {α β : Type} (f : α → β) : ∀ (l : List α) (j : Nat), (l.eraseIdx j).map f = (l.map f).eraseIdx j
  | [], _ => by simp
  | _ :: _, 0 => by simp
  | a :: r, j + 1 => by simp [erase_map f r j]
theorem findEq (w : World) (x : Value) (es : List MapEntry) : (Instr.findKey 45 x es).run Try.prog w = (Instr.findAsking 45 x es).run Try.prog w := run_findKey_eq w (by rw [Try.underlying45]) x es
set_option maxRecDepth 100000 in
theorem run_lookK {w : World} {mb : Nat} {K : List (Pk × Value)} (h : MapK w mb K) (p : Pk) : (Instr.lookup 98 (.map (some mb)) (enP p) false).run Try.prog w = .ok ((getK K p).getD (.slice none 0 0)) w := by
  obtain ⟨es, clock, hb, h1, h2⟩ := h
  have hf := find_raw p w es.toList K 0 h1
  have hz : (zeroValue 99).run Try.prog w = .ok (.slice none 0 0) w := Try.zeroValue99 w
  have hg := find_get p K 0
  cases hx : findK p K 0 with
  | none =>
    rw [hx] at hf hg
    simp at hg
    rw [← hg]
    simp [Instr.lookup, run_underlying Try.underlying98, MapKept.run_getObj_map hb, chkPk, findEq, hf, hz, Result.andThen]
  | some r =>
    rw [hx] at hf hg
    simp at hg
    rw [← hg]
    simp [Instr.lookup, run_underlying Try.underlying98, MapKept.run_getObj_map hb, chkPk, findEq, hf, Result.andThen]
theorem kp_setMap (w : World) (mb : Nat) (o : Obj) : Kp (fun b => b = mb) w { w with heap := w.heap.setIfInBounds mb o } := by
  refine ⟨rfl, rfl, rfl, by simp, fun k hk hne => ?_⟩
  have : mb ≠ k := fun e => hne e.symm
  simp [Array.getElem?_setIfInBounds, this]
theorem staysK (p : Pk) (w : World) : (Instr.keyThatStays (enP p) (enP p)).run Try.prog w = .ok (enP p) w := by
  have : Instr.sameBits 10000 (enP p) (enP p) = true := by simp [Instr.sameBits, enP]
  simp [Instr.keyThatStays, this]
set_option maxRecDepth 100000 in
theorem run_putK {w : World} {mb : Nat} {K : List (Pk × Value)} (h : MapK w mb K) (p : Pk) (v : Value) : ∃ w' K', (Instr.mapUpdate 98 (.map (some mb)) (enP p) v).run Try.prog w = .ok () w' ∧ MapK w' mb K' ∧ (∀ q, getK K' q = if q = p then some v else getK K q) ∧ Kp (fun b => b = mb) w w' := by
  obtain ⟨es, clock, hb, h1, h2⟩ := h
  have hlt := (Array.getElem?_eq_some_iff.1 hb).1
  have hf := find_raw p w es.toList K 0 h1
  cases hx : findK p K 0 with
  | none =>
    rw [hx] at hf
    have hno := find_none hx
    refine ⟨_, K ++ [(p, v)], ?_, ⟨es.push { key := enP p, val := v, born := clock }, clock + 1, ?_, ?_, ?_⟩, fun q => get_push q hno, kp_setMap w mb (.map (es.push { key := enP p, val := v, born := clock }) (clock + 1))⟩
    · simp [Instr.mapUpdate, run_underlying Try.underlying98, MapKept.run_getObj_map hb, chkPk, findEq, hf, Result.andThen, MapKept.run_setObj_map _ hb]
    · simp [Array.getElem?_setIfInBounds, hlt]
    · simp [h1]
    · rw [List.map_append, List.nodup_append]
      refine ⟨h2, by simp, fun a ha b hb => ?_⟩
      obtain ⟨x, hx2, rfl⟩ := List.mem_map.1 ha
      simp at hb; subst hb
      exact hno x hx2
  | some r =>
    obtain ⟨j, u⟩ := r
    rw [hx] at hf
    obtain ⟨m, hm, hk, hl⟩ := find_some hx
    rw [Nat.zero_add] at hm
    subst hm
    have hkey : (es[j]?).map (·.key) = some (enP p) := by
      have h3 : (es.toList.map (fun e => (e.key, e.val)))[j]? = some (enP p, u) := by rw [h1, List.getElem?_map, hk]; rfl
      rw [List.getElem?_map, Array.getElem?_toList] at h3
      cases he : es[j]? with
      | none => rw [he] at h3; cases h3
      | some e => rw [he] at h3; simp at h3; simp [h3.1]
    refine ⟨_, K.set j (p, v), ?_, ⟨es.modify j fun e => { e with key := enP p, val := v }, clock, ?_, ?_, ?_⟩, fun q => get_set q hk hl, kp_setMap w mb (.map (es.modify j fun e => { e with key := enP p, val := v }) clock)⟩
    · simp [Instr.mapUpdate, run_underlying Try.underlying98, MapKept.run_getObj_map hb, chkPk, findEq, hf, hkey, staysK, Result.andThen, MapKept.run_setObj_map _ hb]
    · simp [Array.getElem?_setIfInBounds, hlt]
    · apply List.ext_getElem?
      intro i
      have h3 := congrArg (fun l => l[i]?) h1
      simp only [List.getElem?_map, Array.getElem?_toList] at h3 ⊢
      rw [Array.getElem?_modify, List.getElem?_set]
      by_cases e : j = i
      · subst e
        have hjl : j < K.length := (List.getElem?_eq_some_iff.1 hk).1
        cases he : es[j]? with
        | none => rw [he] at hkey; cases hkey
        | some x => simp [hjl]
      · simp only [if_neg e]; exact h3
    · have : (K.set j (p, v)).map (·.1) = K.map (·.1) := by
        rw [List.map_set]
        apply List.ext_getElem?
        intro i
        rw [List.getElem?_set]
        by_cases e : j = i
        · subst e
          have hjl : j < K.length := (List.getElem?_eq_some_iff.1 hk).1
          have hkj := (List.getElem?_eq_some_iff.1 hk).2
          rw [if_pos rfl]
          simp [hjl, hkj]
        · rw [if_neg e]
      rw [this]; exact h2
set_option maxRecDepth 100000 in
theorem run_delK {w : World} {mb : Nat} {K : List (Pk × Value)} (h : MapK w mb K) (p : Pk) (ty : TypeId) : ∃ w' K', (Builtin.delete_ #[98, 45] ty #[.map (some mb), enP p]).run Try.prog w = .ok (.tuple #[]) w' ∧ MapK w' mb K' ∧ (∀ q, getK K' q = if q = p then none else getK K q) ∧ Kp (fun b => b = mb) w w' := by
  obtain ⟨es, clock, hb, h1, h2⟩ := h
  have hlt := (Array.getElem?_eq_some_iff.1 hb).1
  have hf := find_raw p w es.toList K 0 h1
  cases hx : findK p K 0 with
  | none =>
    rw [hx] at hf
    have hno := find_none hx
    refine ⟨_, K, ?_, ⟨es, clock, ?_, h1, h2⟩, fun q => ?_, kp_setMap w mb (.map es clock)⟩
    · simp [Builtin.delete_, run_underlying Try.underlying98, MapKept.run_getObj_map hb, chkPk, findEq, hf, Result.andThen, MapKept.run_setObj_map _ hb]
    · simp [Array.getElem?_setIfInBounds, hlt]
    · by_cases e : q = p
      · rw [if_pos e, e]; exact get_none hno
      · rw [if_neg e]
  | some r =>
    obtain ⟨j, u⟩ := r
    rw [hx] at hf
    obtain ⟨m, hm, hk, hl⟩ := find_some hx
    rw [Nat.zero_add] at hm
    subst hm
    refine ⟨_, K.eraseIdx j, ?_, ⟨es.eraseIdxIfInBounds j, clock, ?_, ?_, ?_⟩, fun q => get_erase q hk h2, kp_setMap w mb (.map (es.eraseIdxIfInBounds j) clock)⟩
    · simp [Builtin.delete_, run_underlying Try.underlying98, MapKept.run_getObj_map hb, chkPk, findEq, hf, Result.andThen, MapKept.run_setObj_map _ hb]
    · simp [Array.getElem?_setIfInBounds, hlt]
    · have e1 : (es.eraseIdxIfInBounds j).toList = es.toList.eraseIdx j := by simp
      rw [e1, erase_map, h1, erase_map]
    · rw [erase_map]
      exact h2.sublist (List.eraseIdx_sublist _ _)
end Go.Proofs.Ythjapdjglifopaa
namespace Go.Proofs.Ythjapdjglifopaa
set_option linter.unusedVariables false
set_option linter.unusedSimpArgs false
open Go Go.RowKit

def eN (x : Nat) : Value := .int .u64 x
/-- A slice of the call's own, wherever it begins in its row. -/
def RowAt (w : World) (base : Nat) (v : Value) (xs : List Nat) : Prop := ∃ (g off cap : Nat) (cs : List Value), v = .slice (some ⟨g, off, none⟩) xs.length cap ∧ base ≤ g ∧ Blk w g cs 30 ∧ off + cap = cs.length ∧ xs.length ≤ cap ∧ ∀ (i x : Nat), xs[i]? = some x → cs[off + i]? = some (eN x)
theorem RowAt.kp {S : Nat → Prop} {w w' : World} {base : Nat} {v : Value} {xs : List Nat} (h : RowAt w base v xs) (k : Kp S w w') (hs : ∀ b, v.ownBlock = some b → ¬ S b) : RowAt w' base v xs := by
  obtain ⟨g, off, cap, cs, rfl, hg, hb, r⟩ := h
  exact ⟨g, off, cap, cs, rfl, hg, hb.kp k (hs g rfl), r⟩
theorem RowAt.blk {w : World} {base : Nat} {v : Value} {xs : List Nat} (h : RowAt w base v xs) : ∃ g, v.ownBlock = some g ∧ base ≤ g ∧ g < w.heap.size ∧ ∃ cs, Blk w g cs 30 := by
  obtain ⟨g, off, cap, cs, rfl, hg, hb, r⟩ := h
  exact ⟨g, rfl, hg, hb.lt, cs, hb⟩
theorem RowAt.grown {w w' : World} {base : Nat} {v : Value} {xs : List Nat} {row : Option Nat} (h : RowAt w base v xs) (hg : w.grownBy w' row) (hne : v.ownBlock ≠ row) : RowAt w' base v xs := by
  obtain ⟨g, off, cap, cs, rfl, hb0, hb, r⟩ := h
  exact ⟨g, off, cap, cs, rfl, hb0, hb.grown hg hne, r⟩
theorem tQ64 : SlT Try.prog 99 30 (.int .u64 0) 1 8 := ⟨Try.underlying99, by kernel_rfl, rfl, by decide⟩
theorem setCells_one (w : World) (g o : Nat) (v : Value) : w.setCells g o [v] = w.setCell ⟨g, o, none⟩ v := by simp [World.setCells]
theorem cells_get {xs : List Nat} {i : Nat} {u : Value} (h : (xs.map eN)[i]? = some u) : ∃ x, xs[i]? = some x ∧ u = eN x := by
  rw [List.getElem?_map] at h
  cases hx : xs[i]? with
  | none => rw [hx] at h; cases h
  | some x => rw [hx] at h; exact ⟨x, rfl, by simpa using h.symm⟩
/-- append(s, x), s such a slice, or none. -/
theorem run_appQ {w : World} {base : Nat} {v : Value} {xs : List Nat} (x : Nat) (h : (v = .slice none 0 0 ∧ xs = []) ∨ RowAt w base v xs) (hl : xs.length ≤ 1000000) (hbase : base ≤ w.heap.size) {b c : Nat} (hb : w.cell? ⟨b, 0, none⟩ = some (eN x)) (ty : TypeId) :
    ∃ v' w', (Builtin.append_ #[99, 99] ty #[v, .slice (some ⟨b, 0, none⟩) 1 c]).run Try.prog w = .ok v' w' ∧ RowAt w' base v' (xs ++ [x]) ∧ w.grownBy w' v.ownBlock ∧ (v'.ownBlock = v.ownBlock ∨ v'.ownBlock = some w.heap.size) := by
  obtain ⟨i, hi, hz, hs, hby⟩ := info_parts tQ64.info
  have hsrc : Src Try.prog i.size 99 (.slice (some ⟨b, 0, none⟩) 1 c) 1 [eN x] w := by
    rw [hs]
    refine Src.ofSlice w (e' := 30) Try.underlying99 ⟨b, 0, none⟩ 1 c [eN x] rfl (fun j u hu => ?_) (fun u hu => ?_)
    · cases j with
      | zero => simp at hu; subst hu; exact hb
      | succ j => simp at hu
    · simp at hu; subst hu; rfl
  have fits : ∀ n cap, cap < n + 1 → n ≤ 1000000 → Builtin.nextslicecap (n + 1) cap * i.bytes ≤ 281474976710656 := fun n cap h1 h2 => by rw [hby]; exact growslice_fits h1 (by omega)
  have newRow : ∀ (cap : Nat), cap < xs.length + 1 → ∀ (row : Option Nat),
      RowAt (w.drew.alloc (.cells ((xs.map eN ++ [eN x]).toArray ++ Builtin.zeroCells (Value.int .u64 0).cells (grownCap w (xs.length + 1) cap 30 - (xs.length + 1))) 30)) base (.slice (some ⟨w.heap.size, 0, none⟩) (xs.length + 1) (grownCap w (xs.length + 1) cap 30)) (xs ++ [x]) ∧
      w.grownBy (w.drew.alloc (.cells ((xs.map eN ++ [eN x]).toArray ++ Builtin.zeroCells (Value.int .u64 0).cells (grownCap w (xs.length + 1) cap 30 - (xs.length + 1))) 30)) row := fun cap hc row => by
    have hge := grownCap_ge w (xs.length + 1) cap 30
    obtain ⟨Z, hZ⟩ : ∃ Z, ((xs.map eN ++ [eN x]).toArray ++ Builtin.zeroCells (Value.int .u64 0).cells (grownCap w (xs.length + 1) cap 30 - (xs.length + 1))) = Z := ⟨_, rfl⟩
    have hsz : Z.size = grownCap w (xs.length + 1) cap 30 := by
      rw [← hZ, Array.size_append, size_zeroCells]
      simp [Value.cells]; omega
    have hget : ∀ (i y : Nat), (xs ++ [x])[i]? = some y → Z.toList[0 + i]? = some (eN y) := fun i y hy => by
      rw [← hZ, Nat.zero_add]
      have hlt := (List.getElem?_eq_some_iff.1 hy).1
      have e : (xs.map eN ++ [eN x]) = (xs ++ [x]).map eN := by simp
      rw [e, Array.toList_append, List.getElem?_append_left (by simpa using hlt)]
      simp only
      rw [List.getElem?_map, hy]; rfl
    rw [hZ]
    refine ⟨⟨w.heap.size, 0, grownCap w (xs.length + 1) cap 30, Z.toList, by simp, hbase, ?_, by simp [hsz], by simpa using hge, hget⟩, ⟨rfl, rfl, rfl, by simp, fun k hk _ => ((Kp.refl none' w).drew.alloc _).block k hk (fun x => x)⟩⟩
    exact Blk.new w.drew Z.toList 30
  rcases h with ⟨rfl, rfl⟩ | ⟨g, off, cap, cs, rfl, hg, hblk, hcs, hlen, hget⟩
  · have hr := run_append_grow_src w 99 99 ty 30 i _ Try.underlying99 hi hz none 0 0 [] (run_firstCells_none w.drew i.size 0 0 0) _ 1 _ hsrc (by omega) (by omega) (fits 0 0 (by omega) (by omega))
    obtain ⟨h1, h2⟩ := newRow 0 (by simp) none
    exact ⟨_, _, hr, h1, h2, .inr rfl⟩
  · by_cases hroom : xs.length + 1 ≤ cap
    · have hr := run_append_room_src w 99 99 ty 30 i Try.underlying99 hi g off xs.length cap _ 1 _ hsrc hroom (fun j hj => by
          simp at hj; subst hj
          rw [hs, Nat.mul_one, Nat.add_zero]
          rw [hblk.cell (off + xs.length) (List.getElem?_eq_getElem (by omega))]; rfl) (fun j hj => hblk.fz _)
      rw [hs, Nat.mul_one, setCells_one] at hr
      refine ⟨_, _, hr, ⟨g, off, cap, cs.set (off + xs.length) (eN x), by simp, hg, hblk.set _ _, by rw [List.length_set]; exact hcs, by simpa using hroom, fun i y hy => ?_⟩, ?_, .inl rfl⟩
      · rcases Nat.lt_or_ge i xs.length with h1 | h1
        · rw [List.getElem?_append_left h1] at hy
          rw [List.getElem?_set_ne (by omega)]
          exact hget i y hy
        · rw [List.getElem?_append_right h1] at hy
          have hi0 : i = xs.length := by
            have := (List.getElem?_eq_some_iff.1 hy).1
            simp at this; omega
          subst hi0
          simp at hy; subst hy
          rw [List.getElem?_set_self (by omega)]
      · have k := (Kp.refl (fun b => b = g) w).set (p := ⟨g, off + xs.length, none⟩) (.inl rfl) (eN x)
        exact ⟨k.os, k.tape, k.output, k.size, fun q hq hne => k.block q hq (fun e => hne (by rw [e]; rfl))⟩
    · have hold : (Builtin.firstCells i.size xs.length (.slice (some ⟨g, off, none⟩) xs.length cap)).run Try.prog w.drew = .ok (xs.map eN).toArray w.drew := by
        rw [hs]
        refine run_firstCells_some w.drew 1 xs.length ⟨g, off, none⟩ xs.length cap (xs.map eN) (by simp) (fun j u hu => ?_)
        obtain ⟨y, hy, rfl⟩ := cells_get hu
        have e : (⟨g, off, none⟩ : Addr).add j = ⟨g, off + j, none⟩ := by unfold Addr.add; split <;> simp_all
        rw [e]
        exact hblk.drew.cell _ (hget j y hy)
      have hr := run_append_grow_src w 99 99 ty 30 i _ Try.underlying99 hi hz (some ⟨g, off, none⟩) xs.length cap (xs.map eN) hold _ 1 _ hsrc (by omega) (by omega) (fits xs.length cap (by omega) hl)
      obtain ⟨h1, h2⟩ := newRow cap (by omega) (some g)
      exact ⟨_, _, hr, h1, h2, .inr rfl⟩
/-- The first one cut off. -/
theorem RowAt.cut {w : World} {base g off n cap : Nat} {x : Nat} {xs : List Nat} (h : RowAt w base (.slice (some ⟨g, off, none⟩) n cap) (x :: xs)) : n = xs.length + 1 ∧ w.cell? ⟨g, off, none⟩ = some (eN x) ∧ xs.length + 1 ≤ cap ∧ RowAt w base (.slice (some ⟨g, off + 1, none⟩) xs.length (cap - 1)) xs := by
  obtain ⟨g', off', cap', cs, e, hg, hb, h1, h2, h3⟩ := h
  injection e with e1 e2 e3
  cases e1
  subst e3
  have h2' : xs.length + 1 ≤ cap := h2
  refine ⟨e2, ?_, h2', g, off + 1, cap - 1, cs, rfl, hg, hb, by omega, by omega, fun i y hy => ?_⟩
  · have := h3 0 x rfl
    exact hb.cell off this
  · have := h3 (i + 1) y (by simpa using hy)
    rw [show off + 1 + i = off + (i + 1) by omega]; exact this
/-- The map of queues. -/
structure Qs (w : World) (base mb : Nat) (Q : Pk → List Nat) (K : List (Pk × Value)) : Prop where
  map : MapK w mb K
  mlow : base ≤ mb
  no : ∀ p, getK K p = none → Q p = []
  yes : ∀ p v, getK K p = some v → Q p ≠ [] ∧ RowAt w base v (Q p)
  apart : ∀ p q v u, p ≠ q → getK K p = some v → getK K q = some u → v.ownBlock ≠ u.ownBlock
theorem MapK.ne {w : World} {mb g : Nat} {K : List (Pk × Value)} {cs : List Value} {t : TypeId} (h : MapK w mb K) (hb : Blk w g cs t) : g ≠ mb := by
  rintro rfl
  obtain ⟨es, clock, h1, _⟩ := h
  have := h1.symm.trans hb.is
  cases this
theorem Qs.kp {S : Nat → Prop} {w w' : World} {base mb : Nat} {Q : Pk → List Nat} {K : List (Pk × Value)} (h : Qs w base mb Q K) (k : Kp S w w') (h1 : ¬ S mb) (h2 : ∀ p v b, getK K p = some v → v.ownBlock = some b → ¬ S b) : Qs w' base mb Q K :=
  ⟨h.map.kp k h1, h.mlow, h.no, fun p v hp => ⟨(h.yes p v hp).1, (h.yes p v hp).2.kp k (fun b hb => h2 p v b hp hb)⟩, h.apart⟩
theorem Qs.old {w w' : World} {base mb : Nat} {Q : Pk → List Nat} {K : List (Pk × Value)} (h : Qs w base mb Q K) (k : Kp none' w w') : Qs w' base mb Q K := h.kp k (fun x => x) (fun _ _ _ _ _ x => x)
/-- What a look-up gives. -/
theorem Qs.from_ {w : World} {base mb : Nat} {Q : Pk → List Nat} {K : List (Pk × Value)} (h : Qs w base mb Q K) (p : Pk) : ((getK K p).getD (.slice none 0 0) = .slice none 0 0 ∧ Q p = []) ∨ (RowAt w base ((getK K p).getD (.slice none 0 0)) (Q p) ∧ Q p ≠ []) := by
  cases hp : getK K p with
  | none => exact .inl ⟨rfl, h.no p hp⟩
  | some v => exact .inr ⟨(h.yes p v hp).2, (h.yes p v hp).1⟩
/-- Behind since[p] = v. -/
theorem Qs.put {w w2 : World} {base mb : Nat} {Q : Pk → List Nat} {K K' : List (Pk × Value)} {p : Pk} {v : Value} {ys : List Nat} (h : Qs w base mb Q K)
    (hm : MapK w2 mb K') (hk : ∀ q, getK K' q = if q = p then some v else getK K q) (hk2 : Kp (fun b => b = mb ∨ ((getK K p).getD (.slice none 0 0)).ownBlock = some b ∨ w.heap.size ≤ b) w w2) (hr : RowAt w2 base v ys) (hy : ys ≠ []) (ho : v.ownBlock = ((getK K p).getD (.slice none 0 0)).ownBlock ∨ ∃ b, v.ownBlock = some b ∧ w.heap.size ≤ b) :
    Qs w2 base mb (fun q => if q = p then ys else Q q) K' := by
  have hsep : ∀ q u b, q ≠ p → getK K q = some u → u.ownBlock = some b → b ≠ mb ∧ ((getK K p).getD (.slice none 0 0)).ownBlock ≠ some b ∧ b < w.heap.size := fun q u b hq hu hb => by
    obtain ⟨g, h1, _, h3, cs, h4⟩ := (h.yes q u hu).2.blk
    rw [h1] at hb
    cases hb
    refine ⟨h.map.ne h4, fun e => ?_, h3⟩
    cases hp : getK K p with
    | none => rw [hp] at e; cases e
    | some v0 =>
      rw [hp] at e
      exact h.apart q p u v0 hq hu hp (h1.trans e.symm)
  refine ⟨hm, h.mlow, fun q hq => ?_, fun q u hq => ?_, fun q1 q2 u1 u2 hne hu1 hu2 => ?_⟩
  · rw [hk] at hq
    split at hq
    · cases hq
    · rename_i e; rw [if_neg e]; exact h.no q hq
  · rw [hk] at hq
    split at hq
    · rename_i e
      cases hq
      simp only [if_pos e]
      exact ⟨hy, hr⟩
    · rename_i e
      simp only [if_neg e]
      refine ⟨(h.yes q u hq).1, (h.yes q u hq).2.kp hk2 (fun b hb hS => ?_)⟩
      obtain ⟨s1, s2, s3⟩ := hsep q u b e hq hb
      rcases hS with hS | hS | hS
      · exact s1 hS
      · exact s2 hS
      · omega
  · have aux : ∀ q u, q ≠ p → getK K q = some u → v.ownBlock ≠ u.ownBlock := fun q u hq hu e => by
      obtain ⟨g, g1, _⟩ := (h.yes q u hu).2.blk
      obtain ⟨s1, s2, s3⟩ := hsep q u g hq hu g1
      rcases ho with ho | ⟨b, ho, hb⟩
      · exact s2 (ho.symm.trans (e.trans g1))
      · rw [ho, g1] at e
        cases e
        omega
    rw [hk] at hu1 hu2
    by_cases e1 : q1 = p
    · rw [if_pos e1] at hu1
      cases hu1
      have e2 : q2 ≠ p := fun e2 => hne (e1.trans e2.symm)
      rw [if_neg e2] at hu2
      exact aux q2 u2 e2 hu2
    · rw [if_neg e1] at hu1
      by_cases e2 : q2 = p
      · rw [if_pos e2] at hu2
        cases hu2
        exact fun e => aux q1 u1 e1 hu1 e.symm
      · rw [if_neg e2] at hu2
        exact h.apart q1 q2 u1 u2 hne hu1 hu2
/-- Behind delete(since, p). -/
theorem Qs.del {w w2 : World} {base mb : Nat} {Q : Pk → List Nat} {K K' : List (Pk × Value)} {p : Pk} (h : Qs w base mb Q K)
    (hm : MapK w2 mb K') (hk : ∀ q, getK K' q = if q = p then none else getK K q) (hk2 : Kp (fun b => b = mb) w w2) : Qs w2 base mb (fun q => if q = p then [] else Q q) K' := by
  refine ⟨hm, h.mlow, fun q hq => ?_, fun q u hq => ?_, fun q1 q2 u1 u2 hne hu1 hu2 => ?_⟩
  · rw [hk] at hq
    split at hq
    · rename_i e; rw [if_pos e]
    · rename_i e; rw [if_neg e]; exact h.no q hq
  · rw [hk] at hq
    split at hq
    · cases hq
    · rename_i e
      simp only [if_neg e]
      refine ⟨(h.yes q u hq).1, (h.yes q u hq).2.kp hk2 (fun b hb hS => ?_)⟩
      obtain ⟨g, h1, _, _, cs, h4⟩ := (h.yes q u hq).2.blk
      rw [h1] at hb
      cases hb
      exact h.map.ne h4 hS
  · rw [hk] at hu1 hu2
    split at hu1
    · cases hu1
    · split at hu2
      · cases hu2
      · exact h.apart q1 q2 u1 u2 hne hu1 hu2
end Go.Proofs.Ythjapdjglifopaa
