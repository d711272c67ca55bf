/- 'append(s, x...)', x any slice that reads as cells, a nil one too. Names no function of the program. -/
import Derived.Test.YtacgabagfdlpeaaGreatDoorOwn
namespace Go.Proofs.YtacgabagfdlpeaaGreatDoor
set_option linter.unusedVariables false
set_option linter.unusedSimpArgs false
open Go Go.RowKit
theorem run_append_nilarg {P : Program} (w : World) (t ty e : TypeId) (i : TypeInfo) (ht : P.underlying t = some (.slice e)) (hi : P.info? e = some i) (base : Option Addr) (n cap c : Nat) (hn : n ≤ cap) : (Builtin.append_ #[t, t] ty #[.slice base n cap, .slice none 0 c]).run P w = .ok (.slice base n cap) w := by
  cases base with
  | none => simp [Builtin.append_, run_underlying ht, sizeOf, typeInfo, hi, Builtin.lenOf, Builtin.firstCells, hn]
  | some a => simp [Builtin.append_, run_underlying ht, sizeOf, typeInfo, hi, Builtin.lenOf, Builtin.firstCells, hn, storeCells]
theorem wp_appSl {P : Program} {t e : TypeId} {z : Value} {size bytes : Nat} (T : SlT P t e z size bytes) {ops : Array Oper} {rest : List Oper} {o : Oper} {a : Act} {Q : Exit → Act → World → Prop} {w : World} (s x : Operand)
    (hgd : o.guard = none) (ho : o.op = .call { callee := .builtin .append, args := #[s, x], argTypes := #[t, t] }) (base : Nat) {v : Value} {n : Nat} {xs : List Value} (hown : w.ownsRow base e size v n xs)
    {v2 : Value} {m : Nat} {news : List Value} (hs : a.eval s = v) (hx : a.eval x = v2) (hsl : Sl w v2 m size news) (h1 : news.all (·.oneCell') = true)
    (hbytes : (n + m) * bytes ≤ 140737488355328) (h63 : n + m ≤ 9223372036854775807) (hbase : base ≤ w.heap.size)
    (h : ∀ v' w', w'.ownsRow base e size v' (n + m) (xs ++ news) → w.grownBy w' v.ownBlock → wpList P ops Q rest (a.put o.dst v') w') : wpList P ops Q (o :: rest) a w := by
  obtain ⟨i, hi, hz0, hz1, hz2⟩ := info_parts T.info
  obtain ⟨ao, c, rfl, hc⟩ := hsl.is
  cases ao with
  | some ad =>
    refine wpList_append_own w hgd s x t ho base e i z size bytes T.ht hi hz0 hz1 hz2 T.hz T.pos v n xs hs hown ad m c news hx hsl.len ?_ (by simpa using h1) (by unfold maxLen; omega) hbytes hbase (fun v' w' a1 a2 _ => h v' w' a1 a2)
    intro j u hu
    obtain ⟨b, off, e1, h2⟩ := hc j u hu
    injection e1 with e1
    subst e1
    have e : (⟨b, off, none⟩ : Addr).add j = ⟨b, off + j, none⟩ := by unfold Addr.add; split <;> simp_all
    rw [e]; exact h2
  | none =>
    have hn : news = [] := by
      cases news with
      | nil => rfl
      | cons u r => obtain ⟨_, _, e1, _⟩ := hc 0 u rfl; cases e1
    subst hn
    have hm : m = 0 := by
      have h1 := hsl.len
      rw [List.length_nil] at h1
      rcases Nat.mul_eq_zero.1 h1.symm with h2 | h2
      · exact h2
      · have := T.pos; omega
    subst hm
    obtain ⟨bo, cap, rfl⟩ := own_shape hown
    have hcap : n ≤ cap := by
      rcases hown.2 with ⟨h0, hn⟩ | ⟨g, cap', cur, hv, _, _, h2, _⟩
      · omega
      · injection hv with _ _ h3; omega
    have hr := run_append_nilarg (P := P) w t o.type e i T.ht hi bo n cap c hcap
    refine wpList_plain hgd fun K hK => ?_
    unfold Oper.wp execOp
    simp only [ho, resolve, invoke, builtin, Sem.run_bind, Sem.run_pure, Result.andThen_ok, List.map_toArray, List.map_cons, List.map_nil, hs, hx, hr]
    exact hK _ _ (h _ _ (by simpa using hown) ⟨rfl, rfl, rfl, Nat.le_refl _, fun _ _ _ => rfl⟩)
end Go.Proofs.YtacgabagfdlpeaaGreatDoor
