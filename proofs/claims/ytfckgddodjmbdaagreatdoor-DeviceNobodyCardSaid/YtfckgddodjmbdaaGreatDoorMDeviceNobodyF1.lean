/- An owned row whose things lie flat: one of them written; rows of unlike things lie apart. Names no function of the program. -/
import Derived.Test.YtfckgddodjmbdaaGreatDoorMDeviceNobodyF0
import Derived.Maps.AppendAt
import Derived.Lib.Strings
import Derived.Test.YtfckgddodjmbdaaGreatDoorShelf
import Derived.Laws.Tables
import Derived.Deep.MidRow
import Derived.StillTail
namespace Go.Proofs.YtfckgddodjmbdaaGreatDoor
set_option linter.unusedVariables false
set_option linter.unusedSimpArgs false
open Go.RowKit
theorem own_shape1 {w : World} {base : Nat} {e : TypeId} {size : Nat} {v : Value} {n : Nat} {xs : List Value} (h : w.ownsRow base e size v n xs) (hn : 0 < n) : ∃ g cap, v = .slice (some ⟨g, 0, none⟩) n cap ∧ base ≤ g := by
  rcases h.2 with ⟨_, h⟩ | ⟨g, cap, cur, hv, hg, _⟩
  · omega
  · exact ⟨g, cap, hv, hg⟩
theorem own_cell {w : World} {base : Nat} {e : TypeId} {size : Nat} {n g cap : Nat} {xs : List Value} (h : w.ownsRow base e size (.slice (some ⟨g, 0, none⟩) n cap) n xs) (i : Nat) {u : Value} (hu : xs[i]? = some u) : w.cell? ⟨g, i, none⟩ = some u := by
  obtain ⟨ao, cap', hv, hc⟩ := (own_sl h).is
  obtain ⟨b, off, e1, h1⟩ := hc i u hu
  cases hv
  cases e1
  rw [Nat.zero_add] at h1; exact h1
theorem own_fz {w : World} {base : Nat} {e : TypeId} {size : Nat} {n g cap : Nat} {xs : List Value} (h : w.ownsRow base e size (.slice (some ⟨g, 0, none⟩) n cap) n xs) (i : Nat) : w.frozen? ⟨g, i, none⟩ = false := by
  rcases h.2 with ⟨h, _⟩ | ⟨g', cap', cur, hv, _, hh, _⟩
  · cases h
  · cases hv; simp [World.frozen?, hh]
theorem own_set {w : World} {base : Nat} {e : TypeId} {size : Nat} {n g cap : Nat} {xs : List Value} (h : w.ownsRow base e size (.slice (some ⟨g, 0, none⟩) n cap) n xs) (j : Nat) (u : Value) : (w.setCell ⟨g, j, none⟩ u).ownsRow base e size (.slice (some ⟨g, 0, none⟩) n cap) n (xs.set j u) := (h.stored j u).1
theorem own_setNe {w : World} {base : Nat} {e : TypeId} {size : Nat} {v : Value} {n : Nat} {xs : List Value} (h : w.ownsRow base e size v n xs) {a : Addr} (hne : ∀ b, v.ownBlock = some b → b ≠ a.block) (u : Value) : (w.setCell a u).ownsRow base e size v n xs := by
  refine ⟨h.1, ?_⟩
  rcases h.2 with h | ⟨g, cap, cur, rfl, hg, hh, r⟩
  · exact .inl h
  · exact .inr ⟨g, cap, cur, rfl, hg, (Below.heap_setCell _ _ _ _ (hne g rfl)).trans hh, r⟩
theorem own_type {w : World} {base : Nat} {e : TypeId} {size : Nat} {v : Value} {n : Nat} {xs : List Value} (h : w.ownsRow base e size v n xs) {b : Nat} (hb : v.ownBlock = some b) : ∃ cur, w.heap[b]? = some (.cells cur e (0, 0)) := by
  rcases h.2 with ⟨rfl, _⟩ | ⟨g, cap, cur, rfl, hg, hh, r⟩
  · cases hb
  · cases hb; exact ⟨cur, hh⟩
theorem own_ne_blk {w : World} {base : Nat} {e : TypeId} {size : Nat} {v : Value} {n : Nat} {xs : List Value} (h : w.ownsRow base e size v n xs) {b : Nat} {cs : List Value} {t : TypeId} (hb : Blk w b cs t) (ht : t ≠ e) : v.ownBlock ≠ some b := fun hv => by
  obtain ⟨cur, hh⟩ := own_type h hv
  have := hb.is.symm.trans hh
  simp at this; exact ht this.2
theorem own_ne_own {w : World} {base base' : Nat} {e e' : TypeId} {size size' : Nat} {v v' : Value} {n n' : Nat} {xs xs' : List Value} (h : w.ownsRow base e size v n xs) (h' : w.ownsRow base' e' size' v' n' xs') (ht : e ≠ e') : ∀ b, v.ownBlock = some b → v'.ownBlock ≠ some b := fun b hv hv' => by
  obtain ⟨cur, hh⟩ := own_type h hv
  obtain ⟨cur', hh'⟩ := own_type h' hv'
  have := hh.symm.trans hh'
  simp at this; exact ht this.2
theorem blk_ne {w : World} {b b' : Nat} {cs cs' : List Value} {t t' : TypeId} (h : Blk w b cs t) (h' : Blk w b' cs' t') (ht : t ≠ t') : b ≠ b' := fun e => by subst e; exact ht (h.inj h').2
def setFlat (l : List Value) (o : Nat) : List Value → List Value
  | [] => l
  | v :: r => setFlat (l.set o v) (o + 1) r
theorem setFlat_get (vs : List Value) : ∀ (l : List Value) (o i : Nat), o + vs.length ≤ l.length → (setFlat l o vs)[i]? = if o ≤ i ∧ i < o + vs.length then vs[i - o]? else l[i]? := by
  induction vs with
  | nil => intro l o i _; simp [setFlat]; intro h1 h2; omega
  | cons v r ih =>
    intro l o i h
    simp only [List.length_cons] at h
    rw [setFlat, ih _ _ _ (by simp; omega)]
    by_cases h1 : o + 1 ≤ i ∧ i < o + 1 + r.length
    · rw [if_pos h1, if_pos ⟨by omega, by simp; omega⟩]
      rw [show i - o = (i - (o + 1)) + 1 by omega]; simp
    · rw [if_neg h1]
      by_cases h2 : i = o
      · subst h2; rw [if_pos ⟨by omega, by simp⟩, List.getElem?_set_self (by omega)]; simp
      · rw [if_neg (by simp; omega), List.getElem?_set_ne (fun e => h2 e.symm)]
theorem flat_set {α : Type} (en : α → List Value) (sz : Nat) (hl : ∀ a, (en a).length = sz) (l : List α) (j : Nat) (a : α) (hj : j < l.length) : (l.set j a).flatMap en = setFlat (l.flatMap en) (j * sz) (en a) := by
  apply List.ext_getElem?
  intro i
  have hlen := flat_len en sz hl l
  have hjs : j * sz + sz ≤ l.length * sz := by rw [← Nat.succ_mul]; exact Nat.mul_le_mul_right _ hj
  rw [setFlat_get _ _ _ _ (by rw [hlen, hl]; exact hjs), hl]
  by_cases hs : sz = 0
  · subst hs
    have h0 : ∀ m : List α, m.flatMap en = [] := fun m => List.eq_nil_of_length_eq_zero (by rw [flat_len en 0 hl m]; simp)
    rw [h0, h0]; simp
  · have hr : i % sz < sz := Nat.mod_lt _ (by omega)
    have hdm : i / sz * sz + i % sz = i := by rw [Nat.mul_comm]; exact Nat.div_add_mod i sz
    have h1 := flat_get en sz hl (l.set j a) (i / sz) (i % sz) hr
    have h2 := flat_get en sz hl l (i / sz) (i % sz) hr
    rw [hdm] at h1 h2
    rw [h1, h2]
    by_cases e : i / sz = j
    · have c1 : j * sz ≤ i ∧ i < j * sz + sz := by rw [← e]; omega
      rw [if_pos c1, e, List.getElem?_set_self hj]
      have : i - j * sz = i % sz := by rw [← e]; omega
      rw [this]; rfl
    · rw [if_neg, List.getElem?_set_ne (fun z => e z.symm)]
      rintro ⟨a1, a2⟩
      apply e
      have b1 : i / sz < j + 1 := (Nat.div_lt_iff_lt_mul (by omega)).2 (by rw [Nat.succ_mul]; exact a2)
      have b2 : j ≤ i / sz := (Nat.le_div_iff_mul_le (by omega)).2 a1
      omega
theorem wp_app1_at {P : Program} {t e : TypeId} {z : Value} {size bytes : Nat} (T : SlT P t e z size bytes) {ops : Array Oper} {rest : List Oper} {o : Oper} {a : Act} {Q : Exit → Act → World → Prop} {w : World} (s x : Operand)
    (hgd : o.guard = none) (ho : o.op = .call { callee := .builtin .append, args := #[s, x], argTypes := #[t, t] }) (base : Nat) {v : Value} {n : Nat} {xs : List Value} (hown : w.ownsRow base e size v n xs)
    {b c : Nat} (news : List Value) (hs : a.eval s = v) (hx : a.eval x = .slice (some ⟨b, 0, none⟩) 1 c) (hl : news.length = size) {fr : Nat × Nat} (hblk : w.heap[b]? = some (.cells news.toArray e fr)) (h1 : news.all (·.oneCell') = true)
    (hbytes : (n + 1) * bytes ≤ 140737488355328) (h63 : n < 9223372036854775807) (hbase : base ≤ w.heap.size)
    (h : ∀ g cap w', w'.ownsRow base e size (.slice (some ⟨g, 0, none⟩) (n + 1) cap) (n + 1) (xs ++ news) → w.grownBy w' v.ownBlock → v.ownBlock = some g ∨ g = w.heap.size → wpList P ops Q rest (a.put o.dst (.slice (some ⟨g, 0, none⟩) (n + 1) cap)) w') : wpList P ops Q (o :: rest) a w := by
  obtain ⟨i, hi, hz0, hz1, hz2⟩ := info_parts T.info
  refine wpList_append_own_at w hgd s x t ho base e i z size bytes T.ht hi hz0 hz1 hz2 T.hz T.pos v n xs hs hown ⟨b, 0, none⟩ 1 c news hx (by simpa using hl) ?_ (by simpa using h1) (by unfold maxLen; omega) hbytes hbase ?_
  · intro j u hu
    have e : (⟨b, 0, none⟩ : Addr).add j = ⟨b, j, none⟩ := by unfold Addr.add; split <;> simp_all
    rw [e]; simp [World.cell?, hblk, hu]
  · intro v' w' hown' hg hnil hat
    rcases hown'.2 with ⟨_, h0⟩ | ⟨g, cap, cur, rfl, _⟩
    · omega
    · exact h g cap w' hown' hg (by rcases hat with e | e; (exact .inl (e.symm.trans rfl)); exact .inr (by simpa [Value.ownBlock] using e))
theorem wp_appN {P : Program} {t e : TypeId} {z : Value} {size bytes : Nat} (T : SlT P t e z size bytes) {ops : Array Oper} {rest : List Oper} {o : Oper} {a : Act} {Q : Exit → Act → World → Prop} {w : World} (s x : Operand)
    (hgd : o.guard = none) (ho : o.op = .call { callee := .builtin .append, args := #[s, x], argTypes := #[t, t] }) (base : Nat) {v : Value} {n : Nat} {xs : List Value} (hown : w.ownsRow base e size v n xs)
    {b off m c : Nat} (news : List Value) (hs : a.eval s = v) (hx : a.eval x = .slice (some ⟨b, off, none⟩) m c) (hl : news.length = m * size) (hnews : ∀ j u, news[j]? = some u → w.cell? ⟨b, off + j, none⟩ = some u) (h1 : news.all (·.oneCell') = true)
    (hbytes : (n + m) * bytes ≤ 140737488355328) (h63 : n + m ≤ 9223372036854775807) (hbase : base ≤ w.heap.size)
    (h : ∀ v' w', w'.ownsRow base e size v' (n + m) (xs ++ news) → w.grownBy w' v.ownBlock → wpList P ops Q rest (a.put o.dst v') w') : wpList P ops Q (o :: rest) a w := by
  obtain ⟨i, hi, hz0, hz1, hz2⟩ := info_parts T.info
  refine wpList_append_own w hgd s x t ho base e i z size bytes T.ht hi hz0 hz1 hz2 T.hz T.pos v n xs hs hown ⟨b, off, none⟩ m c news hx hl ?_ (by simpa using h1) (by unfold maxLen; omega) hbytes hbase (fun v' w' a1 a2 _ => h v' w' a1 a2)
  intro j u hu
  have e : (⟨b, off, none⟩ : Addr).add j = ⟨b, off + j, none⟩ := by unfold Addr.add; split <;> simp_all
  rw [e]; exact hnews j u hu

def bl (s : ByteArray) : List UInt8 := s.data.toList
theorem bl_len (s : ByteArray) : (bl s).length = s.size := by simp [bl]
theorem bl_get (s : ByteArray) (k : Nat) (h : k < s.size) : (bl s)[k]'(by rw [bl_len]; exact h) = s[k] := rfl
theorem str_ext {a b : ByteArray} (h : bl a = bl b) : a = b := by
  cases a; cases b; simp [bl] at h; rw [h]
def tx (l : List UInt8) : ByteArray := ⟨l.toArray⟩
theorem bl_tx (l : List UInt8) : bl (tx l) = l := by simp [bl, tx]
theorem tx_bl (s : ByteArray) : tx (bl s) = s := str_ext (bl_tx _)
theorem tx_size (l : List UInt8) : (tx l).size = l.length := by rw [← bl_len, bl_tx]
theorem bl_cut (s : ByteArray) (a b : Nat) : bl (s.extract a b) = ((bl s).drop a).take (b - a) := Lib.extract_data s a b
end Go.Proofs.YtfckgddodjmbdaaGreatDoor

namespace Go.Proofs.YtfckgddodjmbdaaGreatDoor
set_option linter.unusedVariables false
set_option linter.unusedSimpArgs false
open Go Go.RowKit Go.Shelf
structure Pk where
  flow : Nat
  id : Nat
  len : Nat
def enP (p : Pk) : List Value := [.int .u32 p.flow, .int .u32 p.id, .int .u64 p.len]
def enE (e : En Pk) : List Value := [.int .u64 e.rank, .int .u64 e.came] ++ enP e.x
theorem enE_len (e : En Pk) : (enE e).length = 5 := rfl
set_option maxHeartbeats 1000000 in
theorem hAhead (a b : En Pk) (w : World) : Calls Tryz.prog 191 #[.agg (enE a).toArray, .agg (enE b).toArray] w fun e w' => e = .returned (.bool (ahd a b)) ∧ Kp none' w w' := by
  obtain ⟨ra, ca, ⟨fa, ia, la⟩⟩ := a
  obtain ⟨rb, cb, ⟨fb, ib, lb⟩⟩ := b
  show Calls Tryz.prog 191 #[.agg #[.int .u64 (ra : Int), .int .u64 (ca : Int), .int .u32 (fa : Int), .int .u32 (ia : Int), .int .u64 (la : Int)], .agg #[.int .u64 (rb : Int), .int .u64 (cb : Int), .int .u32 (fb : Int), .int .u32 (ib : Int), .int .u64 (lb : Int)]] w _
  by_cases h1 : ra < rb
  · have HA : Hid (ahd (⟨ra, ca, ⟨fa, ia, la⟩⟩ : En Pk) ⟨rb, cb, ⟨fb, ib, lb⟩⟩ = true) := by show _ = _; simp [ahd, h1]
    have h1' : (ra : Int) < rb := by omega
    go_enter Tryz.func191, Tryz.ntmps191
    go_wp2
    go_ret
    exact ⟨by rw [HA.out]; rfl, ((Kp.refl _ _).alloc _).alloc _⟩
  · have h1' : ¬ (ra : Int) < rb := by omega
    by_cases h2 : ra = rb
    · subst h2
      by_cases h3 : ca < cb
      · have HA : Hid (ahd (⟨ra, ca, ⟨fa, ia, la⟩⟩ : En Pk) ⟨ra, cb, ⟨fb, ib, lb⟩⟩ = true) := by show _ = _; simp [ahd, h3]
        have h3' : (ca : Int) < cb := by omega
        go_enter Tryz.func191, Tryz.ntmps191
        go_wp2
        go_ret
        exact ⟨by rw [HA.out]; rfl, ((Kp.refl _ _).alloc _).alloc _⟩
      · have HA : Hid (ahd (⟨ra, ca, ⟨fa, ia, la⟩⟩ : En Pk) ⟨ra, cb, ⟨fb, ib, lb⟩⟩ = false) := by show _ = _; simp [ahd, h3]
        have h3' : ¬ (ca : Int) < cb := by omega
        go_enter Tryz.func191, Tryz.ntmps191
        go_wp2
        go_ret
        exact ⟨by rw [HA.out]; rfl, ((Kp.refl _ _).alloc _).alloc _⟩
    · have HA : Hid (ahd (⟨ra, ca, ⟨fa, ia, la⟩⟩ : En Pk) ⟨rb, cb, ⟨fb, ib, lb⟩⟩ = false) := by show _ = _; simp [ahd, h1, h2]
      have h2' : ((ra : Int) == rb) = false := by simp; omega
      go_enter Tryz.func191, Tryz.ntmps191
      go_wp2
      go_ret
      exact ⟨by rw [HA.out]; rfl, ((Kp.refl _ _).alloc _).alloc _⟩
end Go.Proofs.YtfckgddodjmbdaaGreatDoor

namespace Go.Proofs.YtfckgddodjmbdaaGreatDoor
set_option linter.unusedVariables false
set_option linter.unusedSimpArgs false
open Go Go.RowKit
theorem kpSetRow {S : Nat → Prop} {a w : World} (h : Kp S a w) {g : Nat} (hg : S g ∨ a.heap.size ≤ g) (cs : Array Value) : Kp S a (w.setRow g cs) :=
  ⟨h.os, h.tape, h.output, by rw [size_setRow]; exact h.size, fun i hi hs => (setRow_other w g i cs (fun e => by subst e; rcases hg with hg | hg; (exact hs hg); omega)).trans (h.block i hi hs)⟩
theorem blkSetRow {w : World} {g : Nat} {old cs : List Value} {t : TypeId} (h : Blk w g old t) : Blk (w.setRow g cs.toArray) g cs t := ⟨setRow_heap w g _ _ t _ h.is⟩
theorem blkSetRowNe {w : World} {g b : Nat} {cs : List Value} {t : TypeId} (h : Blk w b cs t) (hne : b ≠ g) (x : Array Value) : Blk (w.setRow g x) b cs t := ⟨(setRow_other w g b x hne).trans h.is⟩
theorem oneAll {cs : List Value} (h : ∀ v ∈ cs, v.oneCell' = true) : cs.toArray.all (·.oneCell') = true := by
  rw [Array.all_eq_true_iff_forall_mem]; intro x hx; exact h x (by simpa using hx)
theorem wp_set_row {P : Program} {ops : Array Oper} {rest : List Oper} {o : Oper} {a : Act} {Q : Exit → Act → World → Prop} (hgd : o.guard = none) (ty : TypeId) (x y : Operand) (ho : o.op = .store ty x y) {w : World} {g : Nat} {old : List Value} {t : TypeId} (hb : Blk w g old t) (cs : List Value)
    (hx : a.eval x = .pointer (some ⟨g, 0, none⟩)) (hy : a.eval y = .agg cs.toArray) (hi : (P.info? ty).map (·.size) = some cs.length) (hold : old.length = cs.length) (h1 : ∀ v ∈ cs, v.oneCell' = true)
    (h : ∀ W2, Blk W2 g cs t → (∀ b cs' t', Blk w b cs' t' → b ≠ g → Blk W2 b cs' t') → (∀ (S : Nat → Prop) a, Kp S a w → (S g ∨ a.heap.size ≤ g) → Kp S a W2) → wpList P ops Q rest (a.put o.dst undef) W2) : wpList P ops Q (o :: rest) a w :=
  wpList_store_row hgd ty x y ho g cs.toArray hx hy t old.toArray hb.is (by rw [List.size_toArray]; exact hi) (by rw [List.size_toArray, List.size_toArray]; exact hold) (oneAll h1)
    (h _ (blkSetRow hb) (fun _ _ _ k hne => blkSetRowNe k hne _) (fun _ _ k hg => kpSetRow k hg _))
theorem wp_get_row {P : Program} {ops : Array Oper} {rest : List Oper} {o : Oper} {a : Act} {w : World} {Q : Exit → Act → World → Prop} (hgd : o.guard = none) (ty : TypeId) (x : Operand) (ho : o.op = .load ty x) {g : Nat} {cs : List Value} {t : TypeId} (hb : Blk w g cs t) (d : TypeDesc)
    (hx : a.eval x = .pointer (some ⟨g, 0, none⟩)) (hu : P.underlying ty = some d) (hd : (match d with | .struct _ | .array _ _ => true | _ => false) = true) (hi : (P.info? ty).map (·.size) = some cs.length)
    (h : wpList P ops Q rest (a.put o.dst (.agg cs.toArray)) w) : wpList P ops Q (o :: rest) a w :=
  wpList_load_row hgd ty x ho g hx t cs.toArray (0, 0) d hb.is hu hd (by rw [List.size_toArray]; exact hi) h
theorem blk_setCells {g : Nat} {t : TypeId} : ∀ (vs : List Value) (o : Nat) (w : World) (old : List Value), Blk w g old t → Blk (w.setCells g o vs) g (setFlat old o vs) t
  | [], _, _, _, h => h
  | v :: r, o, _, _, h => blk_setCells r (o + 1) _ _ (h.set o v)
theorem blk_setCellsNe {g b : Nat} {cs : List Value} {t : TypeId} (hne : b ≠ g) : ∀ (vs : List Value) (o : Nat) (w : World), Blk w b cs t → Blk (w.setCells g o vs) b cs t
  | [], _, _, h => h
  | v :: r, o, _, h => blk_setCellsNe hne r (o + 1) _ (h.setNe (a := ⟨g, o, none⟩) hne v)
theorem kp_setCells {S : Nat → Prop} {a : World} {g : Nat} (hg : S g ∨ a.heap.size ≤ g) : ∀ (vs : List Value) (o : Nat) (w : World), Kp S a w → Kp S a (w.setCells g o vs)
  | [], _, _, h => h
  | v :: r, o, _, h => kp_setCells hg r (o + 1) _ (h.set (p := ⟨g, o, none⟩) hg v)
theorem wp_set_mid {P : Program} {ops : Array Oper} {rest : List Oper} {op : Oper} {a : Act} {Q : Exit → Act → World → Prop} (hgd : op.guard = none) (ty : TypeId) (x y : Operand) (ho : op.op = .store ty x y) {w : World} {g : Nat} {old : List Value} {t : TypeId} (hb : Blk w g old t) (o : Nat) (cs : List Value)
    (hx : a.eval x = .pointer (some ⟨g, o, none⟩)) (hy : a.eval y = .agg cs.toArray) (hi : (P.info? ty).map (·.size) = some cs.length) (hin : o + cs.length ≤ old.length) (h1 : ∀ v ∈ cs, v.oneCell' = true)
    (h : ∀ W2, Blk W2 g (setFlat old o cs) t → (∀ b cs' t', Blk w b cs' t' → b ≠ g → Blk W2 b cs' t') → (∀ (S : Nat → Prop) a, Kp S a w → (S g ∨ a.heap.size ≤ g) → Kp S a W2) → wpList P ops Q rest (a.put op.dst undef) W2) : wpList P ops Q (op :: rest) a w := by
  refine wpList_store_mid hgd ty x y ho g o cs.toArray hx hy ?_ (by rw [List.size_toArray]; exact hi) (oneAll h1) ?_
  · intro j hj
    rw [List.size_toArray] at hj
    refine ⟨?_, hb.fz _⟩
    rw [hb.cell (o + j) (List.getElem?_eq_getElem (show o + j < old.length by omega))]; rfl
  · exact h _ (blk_setCells _ _ _ _ hb) (fun _ _ _ k hne => blk_setCellsNe hne _ _ _ k) (fun _ _ k hg => kp_setCells hg _ _ _ k)
theorem wp_built {P : Program} {ops : Array Oper} {rest : List Oper} {o : Oper} {a : Act} {w : World} {Q : Exit → Act → World → Prop} (hgd : o.guard = none) (t : TypeId) (parts : Array (Nat × Operand)) (ho : o.op = .build t parts) (v : Value)
    (h1 : (Instr.build t (parts.map fun (i, x) => (i, a.eval x))).run P w = .ok v w) (h : wpList P ops Q rest (a.put o.dst v) w) : wpList P ops Q (o :: rest) a w :=
  wpList_plain hgd fun _ hK => by
    unfold Oper.wp execOp
    simp only [ho, Sem.run_bind, h1, Result.andThen_ok, Sem.run_pure]
    exact hK _ _ h
theorem ret_row {P : Program} {f : Func} {s : Tmp} {ty : TypeId} (hf : f.results = #[.cell s ty]) {R : Ending → World → Prop} {W : World} {g : Nat} {cs : List Value} {t : TypeId} {T : Array Value} (hb : Blk W g cs t) (d : TypeDesc) (hu : P.underlying ty = some d) (hd : (match d with | .struct _ | .array _ _ => true | _ => false) = true)
    (hi : (P.info? ty).map (·.size) = some cs.length) (h2 : T.getD s undef = .pointer (some ⟨g, 0, none⟩)) (hR : R (.returned (.agg cs.toArray)) W) : bodyPost P f R Exit.ret { tmps := T, defers := [] } W :=
  bodyPost_ret (v := .agg cs.toArray) (results_cell_row hf T W g t cs.toArray (0, 0) d h2 hb.is hu hd (by rw [List.size_toArray]; exact hi)) rfl hR
theorem ret_row2 {P : Program} {f : Func} {s u : Tmp} {ty : TypeId} (hf : f.results = #[.cell s ty, .tmp u]) {R : Ending → World → Prop} {W : World} {g : Nat} {cs : List Value} {t : TypeId} {T : Array Value} (hb : Blk W g cs t) (d : TypeDesc) (hu : P.underlying ty = some d) (hd : (match d with | .struct _ | .array _ _ => true | _ => false) = true)
    (hi : (P.info? ty).map (·.size) = some cs.length) (h2 : T.getD s undef = .pointer (some ⟨g, 0, none⟩)) (hR : R (.returned (.tuple #[.agg cs.toArray, T.getD u undef])) W) : bodyPost P f R Exit.ret { tmps := T, defers := [] } W := by
  refine bodyPost_ret (v := .tuple #[.agg cs.toArray, T.getD u undef]) ?_ rfl hR
  have h2' : T[s]?.getD undef = .pointer (some ⟨g, 0, none⟩) := by simpa using h2
  simp [results, hf, h2', asAddr, run_loadVar_row W g t ty cs.toArray (0, 0) d hb.is hu hd (by rw [List.size_toArray]; exact hi)]

def Ever (P : Program) (ops : Array Oper) (o : Oper) (v : Value) (a : Act) : Prop :=
  (Region.wanted o (yielded ops a.tmps) = true ∧ ∀ w, (execOp a.eval o).run P w = .ok (.value v) w ∨ ∃ f args, (execOp a.eval o).run P w = .ok (.enter f args) w ∧ Calls P f args w fun e w' => e = .returned v ∧ w = w') ∨
  (Region.wanted o (yielded ops a.tmps) = false ∧ v = undef)
variable {P : Program} {ops : Array Oper} {Q : Exit → Act → World → Prop} {md : Region.Mode}
theorem Ever.wpOp {i : Nat} {o : Oper} {v : Value} {a : Act} (hi : ops[i]? = some o) (hy : Ever P ops o v a) {K : Act → World → Prop} {w : World} (h : K (a.put o.dst v) w) : Go.wpOp P ops Q i K a w := by
  unfold Go.wpOp
  simp only [hi]
  rcases hy with ⟨hw, hv⟩ | ⟨hw, rfl⟩
  · rw [if_pos hw]
    refine .inl ?_
    unfold Oper.wp
    rcases hv w with e | ⟨f, args, e, hc⟩
    · rw [e]; exact h
    · rw [e]
      refine Calls.mono hc fun x w' hx => ?_
      obtain ⟨rfl, rfl⟩ := hx
      exact h
  · rw [if_neg (by rw [hw]; simp)]; exact h
theorem Ever.alike {o : Oper} {v : Value} {a a' : Act} (hy : Ever P ops o v a) (he : execOp a'.eval o = execOp a.eval o) (hw : Region.wanted o (yielded ops a'.tmps) = Region.wanted o (yielded ops a.tmps)) : Ever P ops o v a' := by
  unfold Ever at *; rw [he, hw]; exact hy
theorem Ever.swap {j : Nat} {oi oj : Oper} {v : Value} (hj : ops[j]? = some oj) (hap : oi.apart ops oj = true) (hsi : ∀ cs b, oi.op ≠ .select cs b) (hsj : ∀ cs b, oj.op ≠ .select cs b)
    (hQ : ∀ c a d u w, Q (.panic c) (Act.put a d u) w → Q (.panic c) a w) {K : Act → World → Prop} {a : Act} {w : World} (hy : Ever P ops oi v a) (h : Go.wpOp P ops Q j K (a.put oi.dst v) w) :
    Go.wpOp P ops Q j (fun a' w' => Ever P ops oi v a' ∧ K (a'.put oi.dst v) w') a w := by
  obtain ⟨h1, h2, h3⟩ := Oper.apart_spec hap
  have stays : ∀ (b : Act), Ever P ops oi v b → ∀ u, Ever P ops oi v (b.put oj.dst u) := fun b hb u => hb.alike (execOp_put oi hsi b oj.dst u h3) (wanted_put oi b oj.dst u h3)
  have staysD : ∀ d, Ever P ops oi v { a with defers := d :: a.defers } := fun d => hy.alike rfl rfl
  unfold Go.wpOp at *
  simp only [hj] at *
  rw [wanted_put oj a oi.dst v h1] at h
  by_cases hw : Region.wanted oj (yielded ops a.tmps) = true
  · rw [if_pos hw] at h ⊢
    rcases h with h | ⟨g1, g2⟩
    · refine .inl ?_
      unfold Oper.wp at *
      rw [execOp_put oj hsj a oi.dst v h1] at h
      generalize (execOp a.eval oj).run P w = r at *
      match r, h with
      | .ok (.value u) w', h => exact ⟨stays a hy u, by rw [← Act.put_comm a v u h2]; exact h⟩
      | .ok .skip w', h => exact ⟨stays a hy _, by rw [← Act.put_comm a v undef h2]; exact h⟩
      | .ok (.defer d) w', h => exact ⟨stays _ (staysD d) _, by rw [← Act.put_comm _ v undef h2, ← Act.put_defers]; exact h⟩
      | .ok (.row row args) w', h => exact Rows.mono h fun u w'' he => ⟨stays a hy u, by rw [← Act.put_comm a v u h2]; exact he⟩
      | .ok (.enter f args) w', h =>
        refine Calls.mono h fun e w'' he => ?_
        match e, he with
        | .returned u, he => exact ⟨stays a hy u, by rw [← Act.put_comm a v u h2]; exact he⟩
        | .panicked c, he => exact hQ _ _ _ _ _ he
        | .outgrown, he => exact he
      | .halt (.panic u) w', h => exact hQ _ _ _ _ _ h
    · exact .inr ⟨by unfold Oper.asks at *; rw [execOp_put oj hsj a oi.dst v h1] at g1; exact g1, g2⟩
  · rw [if_neg hw] at h ⊢
    exact ⟨stays a hy _, by rw [← Act.put_comm a v undef h2]; exact h⟩
theorem listed_on {listed : Array Bool} {i : Nat} (h0 : listed.getD i true = false) (h1 : listed.getD i false = true) : False := by
  rcases Nat.lt_or_ge i listed.size with h | h
  · simp [h] at h0 h1; rw [h0] at h1; cases h1
  · simp [Array.getElem?_eq_none h] at h1
theorem wpAny_ever {i : Nat} {oi : Oper} {v : Value} (hi : ops[i]? = some oi) (hsel : ∀ (j : Nat) (o : Oper) cs b, ops[j]? = some o → o.op ≠ .select cs b) (hQ : ∀ c a d u w, Q (.panic c) (Act.put a d u) w → Q (.panic c) a w) :
    ∀ (fuel : Nat) (listed : Array Bool) (a : Act) (w : World),
      (∀ j oj, ops[j]? = some oj → j ≠ i → listed.getD j true = false → (∀ e ∈ oj.after, Region.binds md e = true → e.on ≠ i) → oi.apart ops oj = true) →
      i ∈ Region.ready md ops listed → Ever P ops oi v a → wpAny P md ops Q fuel (listed.setIfInBounds i true) (a.put oi.dst v) w → wpAny P md ops Q (fuel + 1) listed a w
  | 0, listed, a, w, _, hr, hy, H => by
    refine ⟨fun h => (by rw [h] at hr; cases hr), fun j hj => ?_⟩
    by_cases hji : j = i
    · subst hji; exact hy.wpOp hi H
    · have := ready_mono hj hji
      rw [H.1] at this; cases this
  | fuel + 1, listed, a, w, hfree, hr, hy, H => by
    refine ⟨fun h => (by rw [h] at hr; cases hr), fun j hj => ?_⟩
    by_cases hji : j = i
    · subst hji; exact hy.wpOp hi H
    · have h1 := H.2 j (ready_mono hj hji)
      obtain ⟨hjun, oj, hoj, hall⟩ := mem_ready.1 hj
      have hnot : ∀ e ∈ oj.after, Region.binds md e = true → e.on ≠ i := fun e he hb heq => listed_on (mem_ready.1 hr).1 (heq ▸ hall e he hb)
      have h2 := Ever.swap hoj (hfree j oj hoj hji hjun hnot) (fun cs b => hsel i oi cs b hi) (fun cs b => hsel j oj cs b hoj) hQ hy h1
      refine wpOp_mono (fun a' w' h3 => wpAny_ever hi hsel hQ fuel (listed.setIfInBounds j true) a' w' (fun k ok hk hki hun hno => hfree k ok hk hki ?_ hno) (ready_mono hr (Ne.symm hji)) h3.1 ?_) h2
      · by_cases hjk : j = k
        · subst hjk; exact hjun
        · rwa [getD_set_ne true hjk] at hun
      · rw [Array.setIfInBounds_comm _ _ hji]; exact h3.2
def wpHeads (P : Program) (ops : Array Oper) (C : Act → Prop) : List Oper → Act → Prop
  | [], a => C a
  | o :: rest, a => ∃ v, Ever P ops o v a ∧ wpHeads P ops C rest (a.put o.dst v)
theorem wpHeads_op {C : Act → Prop} {o : Oper} {rest : List Oper} {a : Act} {v : Value} (hw : Region.wanted o (yielded ops a.tmps) = true) (h1 : ∀ W, (execOp a.eval o).run P W = .ok (.value v) W) (h2 : wpHeads P ops C rest (a.put o.dst v)) : wpHeads P ops C (o :: rest) a :=
  ⟨v, .inl ⟨hw, fun W => .inl (h1 W)⟩, h2⟩
theorem wpHeads_off {C : Act → Prop} {o : Oper} {rest : List Oper} {a : Act} (hw : Region.wanted o (yielded ops a.tmps) = false) (h2 : wpHeads P ops C rest (a.put o.dst undef)) : wpHeads P ops C (o :: rest) a :=
  ⟨undef, .inr ⟨hw, rfl⟩, h2⟩
end Go.Proofs.YtfckgddodjmbdaaGreatDoor
