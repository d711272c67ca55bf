/- An owned row whose things lie flat: one of them written; rows of unlike things lie apart. Names no function of the program. -/
import Derived.Test.YtacgabagfdlpeaaGreatDoorOpen
import Derived.Maps.AppendAt
namespace Go.Proofs.YtacgabagfdlpeaaGreatDoor
set_option linter.unusedVariables false
set_option linter.unusedSimpArgs false
open Go.RowKit

theorem own_shape1 {w : World} {base : Nat} {e : TypeId} {size : Nat} {v : Value} {n : Nat} {xs : List Value} (h : w.ownsRow base e size v n xs) (hn : 0 < n) : ∃ g cap, v = .slice (some ⟨g, 0, none⟩) n cap ∧ base ≤ g := by
  rcases h.2 with ⟨_, h⟩ | ⟨g, cap, cur, hv, hg, _⟩
  · omega
  · exact ⟨g, cap, hv, hg⟩
theorem own_cell {w : World} {base : Nat} {e : TypeId} {size : Nat} {n g cap : Nat} {xs : List Value} (h : w.ownsRow base e size (.slice (some ⟨g, 0, none⟩) n cap) n xs) (i : Nat) {u : Value} (hu : xs[i]? = some u) : w.cell? ⟨g, i, none⟩ = some u := by
  obtain ⟨ao, cap', hv, hc⟩ := (own_sl h).is
  obtain ⟨b, off, e1, h1⟩ := hc i u hu
  cases hv
  cases e1
  rw [Nat.zero_add] at h1; exact h1
theorem own_fz {w : World} {base : Nat} {e : TypeId} {size : Nat} {n g cap : Nat} {xs : List Value} (h : w.ownsRow base e size (.slice (some ⟨g, 0, none⟩) n cap) n xs) (i : Nat) : w.frozen? ⟨g, i, none⟩ = false := by
  rcases h.2 with ⟨h, _⟩ | ⟨g', cap', cur, hv, _, hh, _⟩
  · cases h
  · cases hv; simp [World.frozen?, hh]
theorem own_set {w : World} {base : Nat} {e : TypeId} {size : Nat} {n g cap : Nat} {xs : List Value} (h : w.ownsRow base e size (.slice (some ⟨g, 0, none⟩) n cap) n xs) (j : Nat) (u : Value) : (w.setCell ⟨g, j, none⟩ u).ownsRow base e size (.slice (some ⟨g, 0, none⟩) n cap) n (xs.set j u) := (h.stored j u).1
theorem own_setNe {w : World} {base : Nat} {e : TypeId} {size : Nat} {v : Value} {n : Nat} {xs : List Value} (h : w.ownsRow base e size v n xs) {a : Addr} (hne : ∀ b, v.ownBlock = some b → b ≠ a.block) (u : Value) : (w.setCell a u).ownsRow base e size v n xs := by
  refine ⟨h.1, ?_⟩
  rcases h.2 with h | ⟨g, cap, cur, rfl, hg, hh, r⟩
  · exact .inl h
  · exact .inr ⟨g, cap, cur, rfl, hg, (Below.heap_setCell _ _ _ _ (hne g rfl)).trans hh, r⟩
/-- What lies in the block of an owned row. -/
theorem own_type {w : World} {base : Nat} {e : TypeId} {size : Nat} {v : Value} {n : Nat} {xs : List Value} (h : w.ownsRow base e size v n xs) {b : Nat} (hb : v.ownBlock = some b) : ∃ cur, w.heap[b]? = some (.cells cur e (0, 0)) := by
  rcases h.2 with ⟨rfl, _⟩ | ⟨g, cap, cur, rfl, hg, hh, r⟩
  · cases hb
  · cases hb; exact ⟨cur, hh⟩
theorem own_ne_blk {w : World} {base : Nat} {e : TypeId} {size : Nat} {v : Value} {n : Nat} {xs : List Value} (h : w.ownsRow base e size v n xs) {b : Nat} {cs : List Value} {t : TypeId} (hb : Blk w b cs t) (ht : t ≠ e) : v.ownBlock ≠ some b := fun hv => by
  obtain ⟨cur, hh⟩ := own_type h hv
  have := hb.is.symm.trans hh
  simp at this; exact ht this.2
theorem own_ne_own {w : World} {base base' : Nat} {e e' : TypeId} {size size' : Nat} {v v' : Value} {n n' : Nat} {xs xs' : List Value} (h : w.ownsRow base e size v n xs) (h' : w.ownsRow base' e' size' v' n' xs') (ht : e ≠ e') : ∀ b, v.ownBlock = some b → v'.ownBlock ≠ some b := fun b hv hv' => by
  obtain ⟨cur, hh⟩ := own_type h hv
  obtain ⟨cur', hh'⟩ := own_type h' hv'
  have := hh.symm.trans hh'
  simp at this; exact ht this.2
theorem blk_ne {w : World} {b b' : Nat} {cs cs' : List Value} {t t' : TypeId} (h : Blk w b cs t) (h' : Blk w b' cs' t') (ht : t ≠ t') : b ≠ b' := fun e => by subst e; exact ht (h.inj h').2

/-- The j-th of the flat things turned, cell by cell. -/
def setFlat (l : List Value) (o : Nat) : List Value → List Value
  | [] => l
  | v :: r => setFlat (l.set o v) (o + 1) r
theorem setFlat_len (vs : List Value) : ∀ (l : List Value) (o : Nat), (setFlat l o vs).length = l.length := by
  induction vs with
  | nil => intro l o; rfl
  | cons v r ih => intro l o; simp [setFlat, ih]
theorem setFlat_get (vs : List Value) : ∀ (l : List Value) (o i : Nat), o + vs.length ≤ l.length → (setFlat l o vs)[i]? = if o ≤ i ∧ i < o + vs.length then vs[i - o]? else l[i]? := by
  induction vs with
  | nil => intro l o i _; simp [setFlat]; intro h1 h2; omega
  | cons v r ih =>
    intro l o i h
    simp only [List.length_cons] at h
    rw [setFlat, ih _ _ _ (by simp; omega)]
    by_cases h1 : o + 1 ≤ i ∧ i < o + 1 + r.length
    · rw [if_pos h1, if_pos ⟨by omega, by simp; omega⟩]
      rw [show i - o = (i - (o + 1)) + 1 by omega]; simp
    · rw [if_neg h1]
      by_cases h2 : i = o
      · subst h2; rw [if_pos ⟨by omega, by simp⟩, List.getElem?_set_self (by omega)]; simp
      · rw [if_neg (by simp; omega), List.getElem?_set_ne (fun e => h2 e.symm)]
theorem flat_set {α : Type} (en : α → List Value) (sz : Nat) (hl : ∀ a, (en a).length = sz) (l : List α) (j : Nat) (a : α) (hj : j < l.length) : (l.set j a).flatMap en = setFlat (l.flatMap en) (j * sz) (en a) := by
  apply List.ext_getElem?
  intro i
  have hlen := flat_len en sz hl l
  have hjs : j * sz + sz ≤ l.length * sz := by rw [← Nat.succ_mul]; exact Nat.mul_le_mul_right _ hj
  rw [setFlat_get _ _ _ _ (by rw [hlen, hl]; exact hjs), hl]
  by_cases hs : sz = 0
  · subst hs
    have h0 : ∀ m : List α, m.flatMap en = [] := fun m => List.eq_nil_of_length_eq_zero (by rw [flat_len en 0 hl m]; simp)
    rw [h0, h0]; simp
  · have hr : i % sz < sz := Nat.mod_lt _ (by omega)
    have hdm : i / sz * sz + i % sz = i := by rw [Nat.mul_comm]; exact Nat.div_add_mod i sz
    have h1 := flat_get en sz hl (l.set j a) (i / sz) (i % sz) hr
    have h2 := flat_get en sz hl l (i / sz) (i % sz) hr
    rw [hdm] at h1 h2
    rw [h1, h2]
    by_cases e : i / sz = j
    · have c1 : j * sz ≤ i ∧ i < j * sz + sz := by rw [← e]; omega
      rw [if_pos c1, e, List.getElem?_set_self hj]
      have : i - j * sz = i % sz := by rw [← e]; omega
      rw [this]; rfl
    · rw [if_neg, List.getElem?_set_ne (fun z => e z.symm)]
      rintro ⟨a1, a2⟩
      apply e
      have b1 : i / sz < j + 1 := (Nat.div_lt_iff_lt_mul (by omega)).2 (by rw [Nat.succ_mul]; exact a2)
      have b2 : j ≤ i / sz := (Nat.le_div_iff_mul_le (by omega)).2 a1
      omega
/-- One cell of the j-th of the flat things turned. -/
theorem flat_set1 {α : Type} (en : α → List Value) (sz : Nat) (hl : ∀ a, (en a).length = sz) (l : List α) (i : Nat) (a c : α) (j : Nat) (v : Value) (hj : j < sz) (hi : l[i]? = some c) (ha : en a = (en c).set j v) : (l.set i a).flatMap en = (l.flatMap en).set (i * sz + j) v := by
  have hil := (List.getElem?_eq_some_iff.1 hi).1
  have hlen := flat_len en sz hl l
  have hjs : i * sz + sz ≤ l.length * sz := by rw [← Nat.succ_mul]; exact Nat.mul_le_mul_right _ hil
  rw [flat_set en sz hl l i a hil]
  apply List.ext_getElem?
  intro k
  rw [setFlat_get _ _ _ _ (by rw [hlen, hl]; exact hjs), hl]
  by_cases h1 : i * sz ≤ k ∧ k < i * sz + sz
  · rw [if_pos h1, ha]
    obtain ⟨m, rfl⟩ : ∃ m, k = i * sz + m := ⟨k - i * sz, by omega⟩
    rw [Nat.add_sub_cancel_left]
    by_cases h2 : m = j
    · subst h2
      rw [List.getElem?_set_self (by rw [hl]; omega), List.getElem?_set_self (by omega)]
    · rw [List.getElem?_set_ne (fun e => h2 e.symm), List.getElem?_set_ne (by omega), flat_get en sz hl l i m (by omega), hi]; rfl
  · rw [if_neg h1, List.getElem?_set_ne (by omega)]

/-- 'append(s, x)', x one thing that lies in block b; where the row lies then. -/
theorem wp_app1_at {P : Program} {t e : TypeId} {z : Value} {size bytes : Nat} (T : SlT P t e z size bytes) {ops : Array Oper} {rest : List Oper} {o : Oper} {a : Act} {Q : Exit → Act → World → Prop} {w : World} (s x : Operand)
    (hgd : o.guard = none) (ho : o.op = .call { callee := .builtin .append, args := #[s, x], argTypes := #[t, t] }) (base : Nat) {v : Value} {n : Nat} {xs : List Value} (hown : w.ownsRow base e size v n xs)
    {b c : Nat} (news : List Value) (hs : a.eval s = v) (hx : a.eval x = .slice (some ⟨b, 0, none⟩) 1 c) (hl : news.length = size) {fr : Nat × Nat} (hblk : w.heap[b]? = some (.cells news.toArray e fr)) (h1 : news.all (·.oneCell') = true)
    (hbytes : (n + 1) * bytes ≤ 140737488355328) (h63 : n < 9223372036854775807) (hbase : base ≤ w.heap.size)
    (h : ∀ g cap w', w'.ownsRow base e size (.slice (some ⟨g, 0, none⟩) (n + 1) cap) (n + 1) (xs ++ news) → w.grownBy w' v.ownBlock → v.ownBlock = some g ∨ g = w.heap.size → wpList P ops Q rest (a.put o.dst (.slice (some ⟨g, 0, none⟩) (n + 1) cap)) w') : wpList P ops Q (o :: rest) a w := by
  obtain ⟨i, hi, hz0, hz1, hz2⟩ := info_parts T.info
  refine wpList_append_own_at w hgd s x t ho base e i z size bytes T.ht hi hz0 hz1 hz2 T.hz T.pos v n xs hs hown ⟨b, 0, none⟩ 1 c news hx (by simpa using hl) ?_ (by simpa using h1) (by unfold maxLen; omega) hbytes hbase ?_
  · intro j u hu
    have e : (⟨b, 0, none⟩ : Addr).add j = ⟨b, j, none⟩ := by unfold Addr.add; split <;> simp_all
    rw [e]; simp [World.cell?, hblk, hu]
  · intro v' w' hown' hg hnil hat
    rcases hown'.2 with ⟨_, h0⟩ | ⟨g, cap, cur, rfl, _⟩
    · omega
    · exact h g cap w' hown' hg (by rcases hat with e | e; (exact .inl (e.symm.trans rfl)); exact .inr (by simpa [Value.ownBlock] using e))

/-- 'append(s, x..)', x things that can be read. -/
theorem wp_appN {P : Program} {t e : TypeId} {z : Value} {size bytes : Nat} (T : SlT P t e z size bytes) {ops : Array Oper} {rest : List Oper} {o : Oper} {a : Act} {Q : Exit → Act → World → Prop} {w : World} (s x : Operand)
    (hgd : o.guard = none) (ho : o.op = .call { callee := .builtin .append, args := #[s, x], argTypes := #[t, t] }) (base : Nat) {v : Value} {n : Nat} {xs : List Value} (hown : w.ownsRow base e size v n xs)
    {b off m c : Nat} (news : List Value) (hs : a.eval s = v) (hx : a.eval x = .slice (some ⟨b, off, none⟩) m c) (hl : news.length = m * size) (hnews : ∀ j u, news[j]? = some u → w.cell? ⟨b, off + j, none⟩ = some u) (h1 : news.all (·.oneCell') = true)
    (hbytes : (n + m) * bytes ≤ 140737488355328) (h63 : n + m ≤ 9223372036854775807) (hbase : base ≤ w.heap.size)
    (h : ∀ v' w', w'.ownsRow base e size v' (n + m) (xs ++ news) → w.grownBy w' v.ownBlock → wpList P ops Q rest (a.put o.dst v') w') : wpList P ops Q (o :: rest) a w := by
  obtain ⟨i, hi, hz0, hz1, hz2⟩ := info_parts T.info
  refine wpList_append_own w hgd s x t ho base e i z size bytes T.ht hi hz0 hz1 hz2 T.hz T.pos v n xs hs hown ⟨b, off, none⟩ m c news hx hl ?_ (by simpa using h1) (by unfold maxLen; omega) hbytes hbase (fun v' w' a1 a2 _ => h v' w' a1 a2)
  intro j u hu
  have e : (⟨b, off, none⟩ : Addr).add j = ⟨b, off + j, none⟩ := by unfold Addr.add; split <;> simp_all
  rw [e]; exact hnews j u hu
/-- A row of one-cell things cut short. -/
theorem own_cut {w : World} {base : Nat} {e : TypeId} {n g cap : Nat} {xs : List Value} (h : w.ownsRow base e 1 (.slice (some ⟨g, 0, none⟩) n cap) n xs) (k : Nat) (hk : k ≤ n) : w.ownsRow base e 1 (.slice (some ⟨g, 0, none⟩) k cap) k (xs.take k) := by
  refine ⟨by simp [h.1]; omega, ?_⟩
  rcases h.2 with ⟨h, _⟩ | ⟨g', cap', cur, hv, hg, hh, h1, h2, h3, h4⟩
  · cases h
  · cases hv
    refine .inr ⟨g, cap, cur, rfl, hg, hh, by omega, h2, h3, ?_⟩
    rw [← h4]; simp [List.take_take, Nat.min_eq_left hk]

end Go.Proofs.YtacgabagfdlpeaaGreatDoor
