/- Layer 38: Count and Rows. -/
import Derived.Test.YtkhipbpjknfloaaHistM
import Derived.Test.YtkhipbpjknfloaaOwn
namespace Go.Proofs.Ytkhipbpjknfloaa
set_option linter.unusedVariables false
set_option linter.unusedSimpArgs false
open Go.RowKit Go.Maps Go.Shelf
attribute [local go_sem] Oper.semAt_some
def sumR (rs : List RwN) : Nat := rs.foldl (fun c r => satN c r.2.2) 0
theorem sumR_snoc (rs : List RwN) (r : RwN) : sumR (rs ++ [r]) = satN (sumR rs) r.2.2 := by unfold sumR; rw [List.foldl_append]; rfl
theorem sumR_lt (rs : List RwN) : sumR rs < 18446744073709551616 := by
  induction rs using snoc_ind with
  | h0 => decide
  | h1 l e ih => rw [sumR_snoc]; exact satN_lt _ _
theorem row_cnt {f : Nat} {l : List Ad} {r : RwN} (h : r ∈ rowsN f l) : r.2.2 < 18446744073709551616 := by
  unfold rowsN at h
  obtain ⟨b, _, rfl⟩ := List.mem_map.1 h
  exact cnt_lt _ _ _
set_option maxRecDepth 100000 in
set_option maxHeartbeats 2000000 in
theorem hCount {w : World} {B0 hb f : Nat} {l : List Ad} (h : Hs w B0 hb f l) (hf : f ≤ 8) (hl : l.length ≤ 1000000) (hl64 : ∀ e ∈ l, e.1 < 18446744073709551616) :
    Calls Try.prog 37 #[.pointer (some ⟨hb, 0, none⟩)] w fun e w' => e = .returned (.int .u64 (sumR (rowsN f l))) ∧ Kp none' w w' := by
  obtain ⟨mb, n, D, hm, _, _⟩ := h
  have hhl := hm.top.top.lt
  have hml := hm.own.lt
  refine (callsIn_wide (n := 0)).1 ?_
  refine callsIn_of_wp_marks Try.func37 rfl trivial ?_ rfl
  simp only [Try.ntmps37, List.size_toArray, List.length_cons, List.length_nil, Nat.reduceAdd, Nat.reduceSub, Array.replicate_succ, Array.replicate_zero, List.push_toArray, List.append_toArray, List.nil_append, List.cons_append]
  have HW := Lib.hid (hWalk (hm.old ((Kp.refl none' w).alloc (.cells #[.int .u64 0] 35))) hf hl hl64)
  have hb0 := Blk.new w [.int .u64 0] 35
  gi_wp2
  refine wp_rangeF (first := #[.pointer (some ⟨hb, 0, none⟩)]) (captured := #[]) rfl (enters_of Try.func56 (by kernel_rfl) rfl) HW.out (fun _ => rfl)
    (fun pre F W => Blk W w.heap.size [.int .u64 (sumR pre)] 35 ∧ F w.heap.size) (fun _ _ _ _ => False) (fun pre F A B h k => ⟨h.1.nc k.nc, h.2⟩) (fun _ _ _ _ _ h _ => h)
    (fun b => b = w.heap.size) (by intro b hb; subst hb; simp) (by rintro b (rfl | rfl) <;> (constructor; omega; simp; omega)) ⟨hb0, rfl⟩
    (fun r a1 W => ∃ p, Blk W p (enRw r) 73 ∧ a1 = { tmps := #[.pointer (some ⟨hb, 0, none⟩), undef, .int .u64 0, .pointer (some ⟨w.heap.size, 0, none⟩), .pointer (some ⟨p, 0, none⟩), .pointer (some ⟨hb, 0, none⟩), .func (.func 56) #[.pointer (some ⟨hb, 0, none⟩)] #[], .agg #[.int .u64 r.1, .int .u64 r.2.1, .int .u64 r.2.2], undef, undef, undef, undef, undef], defers := [] })
    (fun r a A B h k => by obtain ⟨p, h1, h2⟩ := h; exact ⟨p, h1.nc k.nc, h2⟩) ?assign ?body ?done (fun _ _ _ _ _ h => h.elim)
  case assign =>
    intro lp r W K hz hK
    gi_wp2
    exact hK _ _ ⟨_, Blk.new W (enRw r) _, rfl⟩ ((Kp.refl _ _).alloc _)
  case body =>
    rintro lp pre F r post a1 W hx ⟨hb1, hFn⟩ ⟨p, hp, rfl⟩ hkp hFs
    have c0 := hb1.cell 0 rfl
    have fz := hb1.fz 0
    have c2 := hp.cell 2 rfl
    have hrc : r.2.2 < 18446744073709551616 := row_cnt (by rw [hx]; simp)
    have HA := Lib.hid (sAdd (sumR pre) r.2.2 (sumR_lt _) hrc W)
    have HB := Lib.hid hb1
    have HS := Lib.hid (sumR_snoc pre r)
    clear hb1 hp hx
    gi_wp2
    refine ⟨trivial, rfl, (CallsIn.inRound lp (callsIn_wide.2 HA.out)).mono ?_⟩
    rintro e w' ⟨rfl, rfl⟩
    gi_wp2
    have hset := HB.out.set 0 (.int .u64 (satN (sumR pre) r.2.2 : Nat))
    refine ⟨F, ⟨?_, hFn⟩, (Kp.refl _ _).set (p := ⟨w.heap.size, 0, none⟩) (.inl hFn) _, fun b h => .inl h, KeepsOthers.kf (KeepsOthers.setCell _ _ _)⟩
    rw [HS.out]
    exact hset
  case done =>
    rintro D F W ⟨hb1, _⟩ hkp hD hK
    have c0 := hb1.cell 0 rfl
    gi_wp2
    refine ⟨by simp, .inl ⟨_, _, rfl, run_takeDeferred hK, ?_⟩⟩
    refine ⟨_, results_tmp rfl _ _ _, rfl, ?_⟩
    have hk2 : Kp (fun b => w.heap.size ≤ b) w (W.putObj D (.deferred none)) := (((Kp.refl _ _).alloc _).then hkp (fun b hb h => by subst h; exact Nat.le_refl _)).put (.inl (by simp at hD; omega)) _
    exact hk2.mono (fun b hb h => by omega)
end Go.Proofs.Ytkhipbpjknfloaa
