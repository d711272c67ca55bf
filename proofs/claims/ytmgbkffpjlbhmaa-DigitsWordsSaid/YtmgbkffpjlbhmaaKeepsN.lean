/- The number of a handle: a remainder of an unsigned number. -/
import Derived.Test.YtmgbkffpjlbhmaaOwn
import Derived.Laws.AppendOwnNone
namespace Go.Proofs.Ytmgbkffpjlbhmaa
set_option linter.unusedVariables false
set_option linter.unusedSimpArgs false
open Go.RowKit
theorem umod (x : Int) (n : Nat) (hn : 0 < n) (hb : n ≤ 4096) : ∃ k : Nat, k < n ∧ wrap64 ((IntKind.u64.wrap x).tmod (n : Int)) = k := by
  have h0 : 0 ≤ IntKind.u64.wrap x := by rw [IntKind.wrap_u64]; omega
  obtain ⟨X, hX⟩ : ∃ X : Nat, IntKind.u64.wrap x = X := ⟨(IntKind.u64.wrap x).toNat, by omega⟩
  rw [hX]
  refine ⟨X % n, Nat.mod_lt _ hn, ?_⟩
  have e : ((X : Int).tmod n) = ((X % n : Nat) : Int) := by rw [Int.tmod_eq_emod_of_nonneg (by omega)]; simp
  rw [e]
  have := Nat.mod_lt X hn
  have h : IntKind.i64.wrap ((X % n : Nat) : Int) = ((X % n : Nat) : Int) := by rw [IntKind.wrap_i64]; omega
  first | exact h | (unfold wrap64; omega)

/-- 'append(s, x..)', x an owned row, nil or not. -/
theorem wp_appO {P : Program} {t e : TypeId} {z : Value} {size bytes : Nat} (T : SlT P t e z size bytes) {ops : Array Oper} {rest : List Oper} {o : Oper} {a : Act} {Q : Exit → Act → World → Prop} {w : World} (s x : Operand)
    (hgd : o.guard = none) (ho : o.op = .call { callee := .builtin .append, args := #[s, x], argTypes := #[t, t] }) (base : Nat) {v : Value} {n : Nat} {xs : List Value} (hown : w.ownsRow base e size v n xs)
    {base2 m : Nat} {vx : Value} (news : List Value) (hs : a.eval s = v) (hx : a.eval x = vx) (hox : w.ownsRow base2 e size vx m news) (h1 : ∀ u ∈ news, u.oneCell' = true)
    (hbytes : (n + m) * bytes ≤ 140737488355328) (h63 : n + m ≤ maxLen) (hbase : base ≤ w.heap.size)
    (h : ∀ v' w', w'.ownsRow base e size v' (n + m) (xs ++ news) → w.grownBy w' v.ownBlock → wpList P ops Q rest (a.put o.dst v') w') : wpList P ops Q (o :: rest) a w := by
  obtain ⟨i, hi, hz0, hz1, hz2⟩ := info_parts T.info
  rcases hox.2 with ⟨rfl, rfl⟩ | ⟨g, cap, cur, rfl, hg, hh, hn, hm, hsz, ht⟩
  · have e0 : news = [] := by simpa using hox.1
    subst e0
    exact wpList_append_own_none hgd s x t ho base e i size T.ht hi v n xs hs hown hx (h v w (by simpa using hown) (World.grownBy.refl w _))
  · refine wpList_append_own w hgd s x t ho base e i z size bytes T.ht hi hz0 hz1 hz2 T.hz T.pos v n xs hs hown ⟨g, 0, none⟩ m cap news hx hox.1 ?_ h1 h63 hbytes hbase (fun v' w' a1 a2 _ => h v' w' a1 a2)
    intro j u hu
    have e1 : (⟨g, 0, none⟩ : Addr).add j = ⟨g, j, none⟩ := by unfold Addr.add; split <;> simp_all
    rw [e1]; exact own_cell hox j hu
end Go.Proofs.Ytmgbkffpjlbhmaa
