/- What Take, Give, Append and Pop of package pool do, at things of kind string. -/
import Derived.Test.YtoiiofcpohoeaaaPoolWString
namespace Go.Proofs.Ytoiiofcpohoeaaa.poolString
open Go.RowKit Go.Proofs.Ytoiiofcpohoeaaa

/-- A call that turns the pool into S'. -/
def PStep (w w' : World) (B0 p bq : Nat) (vc : Value) (S' : PS Th) : Prop :=
  ∃ vc', PMem w' B0 p bq vc' S' ∧ Kp (PF p bq vc) w w'
theorem PMem.same {w : World} {B0 p bq : Nat} {vc : Value} {S : PS Th} (h : PMem w B0 p bq vc S) : PStep w w B0 p bq vc S := ⟨vc, h, Kp.refl _ _⟩

theorem PMem.ne {w : World} {B0 p bq : Nat} {vc : Value} {S : PS Th} (h : PMem w B0 p bq vc S) : p ≠ bq ∧ vc.ownBlock ≠ some p ∧ vc.ownBlock ≠ some bq :=
  ⟨blk_ne h.top h.queues (by decide), own_ne_blk h.cells h.top (by decide), own_ne_blk h.cells h.queues (by decide)⟩
theorem PMem.setFree {w : World} {B0 p bq : Nat} {vc : Value} {S : PS Th} (h : PMem w B0 p bq vc S) (f : Int) : PMem (w.setCell ⟨p, 3, none⟩ (.int .i32 f)) B0 p bq vc { S with free := f } :=
  ⟨h.top.set 3 _, own_setNe h.cells (fun b hb e => h.ne.2.1 (by rw [hb, e])) _, h.queues.setNe h.ne.1.symm _, h.b0⟩
theorem PMem.setN {w : World} {B0 p bq : Nat} {vc : Value} {S : PS Th} (h : PMem w B0 p bq vc S) (n : Int) : PMem (w.setCell ⟨p, 4, none⟩ (.int .i64 n)) B0 p bq vc { S with n := n } :=
  ⟨h.top.set 4 _, own_setNe h.cells (fun b hb e => h.ne.2.1 (by rw [hb, e])) _, h.queues.setNe h.ne.1.symm _, h.b0⟩
theorem PMem.setC1 {w : World} {B0 p bq g m cap : Nat} {S : PS Th} (h : PMem w B0 p bq (.slice (some ⟨g, 0, none⟩) m cap) S) (i : Nat) (c c' : PC Th) (j : Nat) (v : Value) (hj : j < 4) (hi : S.cs[i]? = some c) (ha : enC c' = (enC c).set j v) :
    PMem (w.setCell ⟨g, i * 4 + j, none⟩ v) B0 p bq (.slice (some ⟨g, 0, none⟩) m cap) { S with cs := S.cs.set i c' } := by
  obtain ⟨n1, n2, n3⟩ := h.ne
  have hm : m = S.cs.length := by obtain ⟨_, _, e⟩ := own_shape h.cells; cases e; rfl
  subst hm
  refine ⟨h.top.setNe (fun e => n2 (by rw [e]; rfl)) _, ?_, h.queues.setNe (fun e => n3 (by rw [e]; rfl)) _, h.b0⟩
  simp only [List.length_set]
  rw [flat_set1 enC 4 enC_len S.cs i c' c j v hj hi ha]
  exact own_set h.cells _ _
theorem PMem.setC {w : World} {B0 p bq g m cap : Nat} {S : PS Th} (h : PMem w B0 p bq (.slice (some ⟨g, 0, none⟩) m cap) S) (i : Nat) (c : PC Th) (hi : i < S.cs.length) :
    PMem ((((w.setCell ⟨g, i * 4, none⟩ (en c.x)).setCell ⟨g, i * 4 + 1, none⟩ (.int .i32 c.next)).setCell ⟨g, i * 4 + 2, none⟩ (.bool c.taken)).setCell ⟨g, i * 4 + 3, none⟩ (.bool c.queued)) B0 p bq (.slice (some ⟨g, 0, none⟩) m cap) { S with cs := S.cs.set i c } := by
  have h1 := h.setC1 i S.cs[i] { S.cs[i] with x := c.x } 0 (en c.x) (by omega) (by simp [hi]) rfl
  have h2 := h1.setC1 i { S.cs[i] with x := c.x } { c with taken := S.cs[i].taken, queued := S.cs[i].queued } 1 (.int .i32 c.next) (by omega) (by simp [hi]) rfl
  have h3 := h2.setC1 i { c with taken := S.cs[i].taken, queued := S.cs[i].queued } { c with queued := S.cs[i].queued } 2 (.bool c.taken) (by omega) (by simp [hi]) rfl
  have h4 := h3.setC1 i { c with queued := S.cs[i].queued } c 3 (.bool c.queued) (by omega) (by simp [hi]) rfl
  simp only [List.set_set] at h4
  exact h4
theorem PMem.setE {w : World} {B0 p bq : Nat} {vc : Value} {S : PS Th} (h : PMem w B0 p bq vc S) (i : Nat) (c c' : Int × Int) (j : Nat) (v : Value) (hj : j < 2) (hi : S.qs[i]? = some c) (ha : enE c' = (enE c).set j v) :
    PMem (w.setCell ⟨bq, i * 2 + j, none⟩ v) B0 p bq vc { S with qs := S.qs.set i c' } := by
  obtain ⟨n1, n2, n3⟩ := h.ne
  refine ⟨?_, own_setNe h.cells (fun b hb e => n3 (by rw [hb, e])) _, ?_, h.b0⟩
  · simp only [List.length_set]; exact h.top.setNe n1 _
  · show Blk _ bq ((S.qs.set i c').flatMap enE) _
    rw [flat_set1 enE 2 enE_len S.qs i c' c j v hj hi ha]
    exact h.queues.set _ _
theorem PMem.drew {w : World} {B0 p bq : Nat} {vc : Value} {S : PS Th} (h : PMem w B0 p bq vc S) : PMem w.drew B0 p bq vc S := h.old (Kp.refl _ _).drew

set_option maxHeartbeats 1000000 in
theorem pGive (w : World) (B0 p bq : Nat) (vc : Value) (S : PS Th) (h : PMem w B0 p bq vc S) (k : Int) (hl : S.cs.length ≤ 4096) (hb : B0 ≤ w.heap.size) (hn : -4096 ≤ S.n ∧ S.n ≤ 4096) (hf : -4096 ≤ S.free ∧ S.free ≤ 4096) :
    Calls Try.prog 23 #[.pointer (some ⟨p, 0, none⟩), .int .i64 k] w fun e w' => e = .returned (.tuple #[en (S.give zx k).2.1, .int .i64 (S.give zx k).2.2]) ∧ PStep w w' B0 p bq vc (S.give zx k).1 := by
  have c0 := h.top.cell 0 rfl
  have c3 := h.top.cell 3 rfl
  have c4 := h.top.cell 4 rfl
  have HT := Lib.hid (pTaken w B0 p bq vc S h k hl)
  unfold PS.give
  cases e : tk S k with
  | none =>
    rw [e] at HT
    have HS := Lib.hid h.same
    clear h c0 c3 c4
    go_enter Try.func23, Try.ntmps23
    go_wp2_with (go_at_call 32; refine (HT.out).mono ?_; rintro e w' ⟨rfl, rfl⟩)
    go_ret2
    exact ⟨rfl, HS.out⟩
  | some c =>
    rw [e] at HT
    obtain ⟨h0, h1, hc, _⟩ := tk_some e
    obtain ⟨i, rfl⟩ : ∃ i : Nat, k = i := ⟨k.toNat, by omega⟩
    obtain ⟨g, cap, hv, hg, ce, _, _, cq⟩ := h.cell i c hc
    subst hv
    by_cases hq : c.queued = true
    · have HS := Lib.hid h.same
      simp only [hq, if_true] at cq ⊢
      clear h e hc hq
      generalize hN : S.cs.length = N at *
      clear hN
      go_enter Try.func23, Try.ntmps23
      go_wp2_with (go_at_call 32; refine (HT.out).mono ?_; rintro e w' ⟨rfl, rfl⟩)
      go_ret2
      exact ⟨rfl, HS.out⟩
    · simp only [Bool.not_eq_true] at hq
      simp only [hq] at cq ⊢
      have hne : p ≠ g := fun e => own_ne_blk h.cells h.top (by decide) (by rw [e]; rfl)
      have fz := fun j => own_fz h.cells j
      have fp := fun j => h.top.fz j
      have HM := Lib.hid h
      clear h e hc hq
      generalize hN : S.cs.length = N at *
      go_enter Try.func23, Try.ntmps23
      go_wp2_with (go_at_call 32; refine (HT.out).mono ?_; rintro e w' ⟨rfl, rfl⟩)
      go_region
      go_wp2
      go_ret2
      refine ⟨rfl, _, ((((HM.out).setC i ⟨zx, S.free, false, false⟩ (by omega)).setFree i).setN (S.n - 1)).drew, ?_⟩
      have hg' : PF p bq (.slice (some ⟨g, 0, none⟩) N cap) g := .inr (.inr rfl)
      have hp' : PF p bq (.slice (some ⟨g, 0, none⟩) N cap) p := .inl rfl
      exact (((((((Kp.refl _ _).set (.inl hg') _).set (.inl hg') _).set (.inl hg') _).set (.inl hg') _).set (.inl hp') _).set (.inl hp') _).drew

end Go.Proofs.Ytoiiofcpohoeaaa.poolString
