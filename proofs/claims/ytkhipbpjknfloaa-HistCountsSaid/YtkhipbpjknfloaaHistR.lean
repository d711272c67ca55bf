/- Layer 38: Rows. -/
import Derived.Test.YtkhipbpjknfloaaHistC
import Derived.Maps.OwnIn
namespace Go.Proofs.Ytkhipbpjknfloaa
set_option linter.unusedVariables false
set_option linter.unusedSimpArgs false
open Go.RowKit Go.Maps Go.Shelf
attribute [local go_sem] Oper.semAt_some
/-- 'append(s, x)' within a round, and where the row lies then. -/
theorem wpIn_app1_at {F : Fence} {nn : Nat} {P : Program} {t e : TypeId} {z : Value} {size bytes : Nat} (T : SlT P t e z size bytes) {ops : Array Oper} {rest : List Oper} {o : Oper} {a : Act} {Q : Exit → Act → World → Prop} {w : World} (s x : Operand)
    (hgd : o.guard = none) (ho : o.op = .call { callee := .builtin .append, args := #[s, x], argTypes := #[t, t] }) (base : Nat) {v : Value} {n : Nat} {xs : List Value} (hown : w.ownsRow base e size v n xs)
    {b c : Nat} (news : List Value) (hs : a.eval s = v) (hx : a.eval x = .slice (some ⟨b, 0, none⟩) 1 c) (hl : news.length = size) {fr : Nat × Nat} (hblk : w.heap[b]? = some (.cells news.toArray e fr)) (h1 : news.all (·.oneCell') = true)
    (hbytes : (n + 1) * bytes ≤ 140737488355328) (h63 : n < 9223372036854775807) (hbase : base ≤ w.heap.size)
    (h : ∀ g cap w', w'.ownsRow base e size (.slice (some ⟨g, 0, none⟩) (n + 1) cap) (n + 1) (xs ++ news) → w.grownBy w' v.ownBlock → v.ownBlock = some g ∨ g = w.heap.size → wpListIn F nn P ops Q rest (a.put o.dst (.slice (some ⟨g, 0, none⟩) (n + 1) cap)) w') : wpListIn F nn P ops Q (o :: rest) a w := by
  obtain ⟨i, hi, hz0, hz1, hz2⟩ := info_parts T.info
  refine wpListIn_append_own_at w hgd s x t ho base e i z size bytes T.ht hi hz0 hz1 hz2 T.hz T.pos v n xs hs hown ⟨b, 0, none⟩ 1 c news hx (by simpa using hl) ?_ (by simpa using h1) (by unfold maxLen; omega) hbytes hbase ?_
  · intro j u hu
    have e : (⟨b, 0, none⟩ : Addr).add j = ⟨b, j, none⟩ := by unfold Addr.add; split <;> simp_all
    rw [e]; simp [World.cell?, hblk, hu]
  · intro v' w' hown' hg hnil hat
    rcases hown'.2 with ⟨_, h0⟩ | ⟨g, cap, cur, rfl, _⟩
    · omega
    · exact h g cap w' hown' hg (by rcases hat with e | e; (exact .inl (e.symm.trans rfl)); exact .inr (by simpa [Value.ownBlock] using e))
theorem tRw : SlT Try.prog 66 73 (.agg #[.int .u64 0, .int .u64 0, .int .u64 0]) 3 24 := ⟨Try.underlying66, by kernel_rfl, rfl, by decide⟩
/-- What the loop of Rows keeps: the variable, and the slice in it. -/
def RwI (ob B0 : Nat) (pre : List RwN) (F : Nat → Prop) (W : World) : Prop := ∃ v, Blk W ob [v] 66 ∧ W.ownsRow B0 73 3 v pre.length (pre.flatMap enRw) ∧ F = fun b => b = ob ∨ v.ownBlock = some b
set_option maxRecDepth 100000 in
set_option maxHeartbeats 2000000 in
theorem hRows {w : World} {B0 hb f : Nat} {l : List Ad} (h : Hs w B0 hb f l) (hf : f ≤ 8) (hl : l.length ≤ 1000000) (hl64 : ∀ e ∈ l, e.1 < 18446744073709551616) :
    Calls Try.prog 33 #[.pointer (some ⟨hb, 0, none⟩)] w fun e w' => ∃ v, e = .returned v ∧ w'.ownsRow w.heap.size 73 3 v (rowsN f l).length ((rowsN f l).flatMap enRw) ∧ Kp none' w w' := by
  obtain ⟨mb, n, D, hm, _, _⟩ := h
  have hhl := hm.top.top.lt
  have hml := hm.own.lt
  refine (callsIn_wide (n := 0)).1 ?_
  refine callsIn_of_wp_marks Try.func33 rfl trivial ?_ rfl
  simp only [Try.ntmps33, List.size_toArray, List.length_cons, List.length_nil, Nat.reduceAdd, Nat.reduceSub, Array.replicate_succ, Array.replicate_zero, List.push_toArray, List.append_toArray, List.nil_append, List.cons_append]
  have HW := Lib.hid (hWalk (hm.old ((Kp.refl none' w).alloc (.cells #[.slice none 0 0] 66))) hf hl hl64)
  have hb0 := Blk.new w [.slice none 0 0] 66
  have hrl : (rowsN f l).length ≤ 1000000 := by unfold rowsN; rw [List.length_map]; exact Nat.le_trans (ks_len f l) hl
  gi_wp2
  refine wp_rangeF (first := #[.pointer (some ⟨hb, 0, none⟩)]) (captured := #[]) rfl (enters_of Try.func56 (by kernel_rfl) rfl) HW.out (fun _ => rfl)
    (RwI w.heap.size (w.heap.size + 1)) (fun _ _ _ _ => False) (fun pre F A B ⟨v, h1, h2, h3⟩ k => ⟨v, h1.nc k.nc, own_nc h2 k.nc, h3⟩) (fun _ _ _ _ _ h _ => h)
    (fun b => b = w.heap.size) (by intro b hb; subst hb; simp) (by rintro b (rfl | rfl) <;> (constructor; omega; simp; omega)) ⟨_, hb0, World.ownsRow_nil _ _ _ _, by funext b; simp [Value.ownBlock]⟩
    (fun r a1 W => ∃ p, a1 = { tmps := #[.pointer (some ⟨hb, 0, none⟩), undef, .slice none 0 0, .pointer (some ⟨w.heap.size, 0, none⟩), .pointer (some ⟨p, 0, none⟩), .pointer (some ⟨hb, 0, none⟩), .func (.func 56) #[.pointer (some ⟨hb, 0, none⟩)] #[], .agg #[.int .u64 r.1, .int .u64 r.2.1, .int .u64 r.2.2], undef, undef, undef, undef, undef], defers := [] } ∧ Blk W p (enRw r) 73)
    (fun r a A B h k => by obtain ⟨p, h1, h2⟩ := h; exact ⟨p, h1, h2.nc k.nc⟩) ?assign ?body ?done (fun _ _ _ _ _ h => h.elim)
  case assign =>
    intro lp r W K hz hK
    gi_wp2
    exact hK _ _ ⟨_, rfl, Blk.new W (enRw r) _⟩ ((Kp.refl _ _).alloc _)
  case body =>
    rintro lp pre F r post a1 W hx ⟨v, hb1, hown, rfl⟩ ⟨p, rfl, hp⟩ hkp hFs
    have hlen : pre.length < 1000000 := by
      have := congrArg List.length hx; simp at this; omega
    have c0 := hb1.cell 0 rfl
    have q0 := hp.cell 0 rfl
    have q1 := hp.cell 1 rfl
    have q2 := hp.cell 2 rfl
    have hlt := hb1.lt
    have hsz := hkp.size
    simp [World.size_alloc] at hsz
    have HB := Lib.hid hb1; have HO := Lib.hid hown; have HKP := Lib.hid hkp
    clear hb1 hown hkp hp hx hFs
    gi_wp2_with (gi_at_builtin; refine wpIn_app1_at tRw (.tmp 8) (.tmp 10) rfl rfl (w.heap.size + 1) (HO.out.alloc _) (enRw r) rfl rfl rfl (heap_new _ _) rfl (by omega) (by omega) (by simp; omega) ?_)
    intro g cap w1 hown1 hgrow hat
    have hblk1 := (HB.out.alloc (.cells (enRw r).toArray 73)).grown hgrow (fun e => by have := (own_block HO.out e.symm).1; omega)
    have d0 := hblk1.cell 0 rfl
    have f0 := hblk1.fz 0
    have hko := (KeepsOthers.alloc W (.cells (enRw r).toArray 73)).trans (own_cells (HO.out.alloc (.cells (enRw r).toArray 73)) hgrow)
    have hkf : Kp (fun b => b = w.heap.size ∨ v.ownBlock = some b) W w1 := ((Kp.refl _ W).alloc (.cells (enRw r).toArray 73)).grown hgrow (fun k e => .inl (.inr e))
    have hgn : ∀ b, (Value.slice (some ⟨g, 0, none⟩) (pre.length + 1) cap).ownBlock = some b → v.ownBlock = some b ∨ W.heap.size ≤ b := by
      intro b hbg
      simp only [Value.ownBlock, Option.some.injEq] at hbg
      subst hbg
      rcases hat with h | h
      · exact .inl h
      · exact .inr (by rw [h]; simp)
    gi_wp2
    refine ⟨_, ⟨_, hblk1.set 0 _, ?_, rfl⟩, hkf.set (p := ⟨w.heap.size, 0, none⟩) (.inl (.inl rfl)) _, fun b hb => ?_, KeepsOthers.kf (hko.trans (KeepsOthers.setCell _ _ _))⟩
    · have h2 := ownsRow_setCell_below hown1 (a := ⟨w.heap.size, 0, none⟩) (show w.heap.size < w.heap.size + 1 by omega) (.slice (some ⟨g, 0, none⟩) (pre.length + 1) cap)
      rw [List.flatMap_append]
      simpa using h2
    · rcases hb with hb | hb
      · exact .inl (.inl hb)
      · rcases hgn b hb with h | h
        · exact .inl (.inr h)
        · exact .inr h
  case done =>
    rintro D F W ⟨v, hblk, hown, _⟩ hkp hD hK
    have c0 := hblk.cell 0 rfl
    gi_wp2
    refine ⟨by simp, .inl ⟨_, _, rfl, run_takeDeferred hK, ?_⟩⟩
    refine ⟨_, results_tmp rfl _ _ _, v, rfl, own_nc (own_base hown (by omega)) (NC.put _ hK rfl), ?_⟩
    have hk2 : Kp (fun b => w.heap.size ≤ b) w (W.putObj D (.deferred none)) := (((Kp.refl _ _).alloc _).then hkp (fun b hb h => by subst h; exact Nat.le_refl _)).put (.inl (by simp at hD; omega)) _
    exact hk2.mono (fun b hb h => by omega)
end Go.Proofs.Ytkhipbpjknfloaa
