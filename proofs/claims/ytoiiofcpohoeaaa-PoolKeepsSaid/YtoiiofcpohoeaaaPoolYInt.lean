/- What Take and New of package pool do, at things of kind int. -/
import Derived.Test.YtoiiofcpohoeaaaPoolXInt
import Derived.Test.YtoiiofcpohoeaaaPoolQ
namespace Go.Proofs.Ytoiiofcpohoeaaa.poolInt
open Go.RowKit Go.Proofs.Ytoiiofcpohoeaaa

def zv : Value := .agg #[.int .i64 0, .int .i32 0, .bool false, .bool false]
theorem tc : SlT Try.prog 60 70 zv 4 16 := ⟨Try.underlying60, by kernel_rfl, rfl, by decide⟩

/-- One more cell at the row's end. -/
theorem PMem.grow {w Z w1 : World} {B0 p bq g cap m : Nat} {vc : Value} {S : PS Th} (h : PMem w B0 p bq vc S) (hz : Kp none' w Z) (c : PC Th) (hm : S.cs.length = m)
    (hown : w1.ownsRow B0 70 4 (.slice (some ⟨g, 0, none⟩) (m + 1) cap) (m + 1) (S.cs.flatMap enC ++ enC c)) (hg : Z.grownBy w1 vc.ownBlock) :
    PMem (w1.setCell ⟨p, 0, none⟩ (.slice (some ⟨g, 0, none⟩) (m + 1) cap)) B0 p bq (.slice (some ⟨g, 0, none⟩) (m + 1) cap) { S with cs := S.cs ++ [c] } := by
  subst hm
  obtain ⟨n1, n2, n3⟩ := h.ne
  have ht := (h.top.kp hz id).grown hg (fun e => n2 e.symm)
  have hq := (h.queues.kp hz id).grown hg (fun e => n3 e.symm)
  have hgp := own_ne_blk hown ht (by decide)
  refine ⟨ht.set 0 _, ?_, hq.setNe n1.symm _, h.b0⟩
  have e : (S.cs ++ [c]).flatMap enC = S.cs.flatMap enC ++ enC c := by simp
  simp only [List.length_append, List.length_cons, List.length_nil, Nat.zero_add]
  rw [e]
  exact own_setNe hown (fun b hb e => hgp (by rw [hb, e])) _

theorem PMem.after {w Z w1 : World} {B0 p bq g cap m : Nat} {vc : Value} {S : PS Th} (h : PMem w B0 p bq vc S) (hz : Kp none' w Z) (c : PC Th) (hm : S.cs.length = m)
    (hown : w1.ownsRow B0 70 4 (.slice (some ⟨g, 0, none⟩) (m + 1) cap) (m + 1) (S.cs.flatMap enC ++ enC c)) (hg : Z.grownBy w1 vc.ownBlock) :
    Blk w1 p [vc, .slice (some ⟨bq, 0, none⟩) S.qs.length S.qs.length, .int .i64 S.most, .int .i32 S.free, .int .i64 S.n] 62 ∧ p ≠ g ∧ (∀ j, w1.frozen? ⟨g, j, none⟩ = false) ∧
      w1.cell? ⟨g, m * 4, none⟩ = some (en c.x) ∧ w1.cell? ⟨g, m * 4 + 1, none⟩ = some (.int .i32 c.next) ∧ w1.cell? ⟨g, m * 4 + 2, none⟩ = some (.bool c.taken) ∧ w1.cell? ⟨g, m * 4 + 3, none⟩ = some (.bool c.queued) := by
  subst hm
  have ht := (h.top.kp hz id).grown hg (fun e => h.ne.2.1 e.symm)
  have hh : ∀ k u, (enC c)[k]? = some u → w1.cell? ⟨g, S.cs.length * 4 + k, none⟩ = some u := fun k u hu => by
    refine own_cell hown _ ?_
    rw [List.getElem?_append_right (by rw [flat_len enC 4 enC_len]; omega), flat_len enC 4 enC_len, Nat.add_sub_cancel_left]
    exact hu
  exact ⟨ht, fun e => own_ne_blk hown ht (by decide) (by rw [e]; rfl), own_fz hown, hh 0 _ rfl, hh 1 _ rfl, hh 2 _ rfl, hh 3 _ rfl⟩

set_option maxHeartbeats 1000000 in
theorem pTake (w : World) (B0 p bq : Nat) (vc : Value) (S : PS Th) (x : Th) (h : PMem w B0 p bq vc S) (hl : S.cs.length ≤ 4096) (hb : B0 ≤ w.heap.size) (hn : -4096 ≤ S.n ∧ S.n ≤ 4096) (hm : -4096 ≤ S.most ∧ S.most ≤ 4096)
    (hf : S.free = -1 ∨ (0 ≤ S.free ∧ S.free < S.cs.length)) :
    Calls Try.prog 17 #[.pointer (some ⟨p, 0, none⟩), en x] w fun e w' => e = .returned (.tuple #[.int .i64 (S.take x).2.1, .bool (S.take x).2.2]) ∧ PStep w w' B0 p bq vc (S.take x).1 := by
  have c0 := h.top.cell 0 rfl
  have c2 := h.top.cell 2 rfl
  have c3 := h.top.cell 3 rfl
  have c4 := h.top.cell 4 rfl
  have fp := fun j => h.top.fz j
  unfold PS.take
  by_cases h1 : S.most ≤ S.n
  · rw [if_pos h1]
    have HS := Lib.hid h
    clear h
    go_enter Try.func17, Try.ntmps17
    go_wp2
    go_quiet (fail)
    go_wp2
    go_ret2
    exact ⟨rfl, vc, HS.out.old (kp_drewN ⟨_, rfl⟩), kp_drewN ⟨_, rfl⟩⟩
  · rw [if_neg h1]
    by_cases h2 : S.free = -1
    · rw [if_pos h2]
      obtain ⟨ao, cap, rfl⟩ := own_shape h.cells
      rw [h2] at c3
      have H2 := Lib.hid h2; clear h2 hf
      have hM := Lib.hid h
      have hC := Lib.hid h.cells
      clear h
      generalize hN : S.cs.length = N at c0 hl hC hM ⊢
      go_enter Try.func17, Try.ntmps17
      go_wp2
      go_quiet (fail)
      go_wp2_with (at_builtin; refine wp_app1_at tc (.tmp 36) (.tmp 38) rfl rfl B0 ((own_kp (S := none') hC.out (kp_drewN ⟨_, rfl⟩) (fun _ _ h => h)).alloc _) (enC ⟨zx, 0, false, false⟩) rfl rfl rfl (heap_new _ _) rfl (by omega) (by omega) (by simp; omega) ?_; intro g cap' w1 hown hgrow hat; obtain ⟨hT, hpg, fg, g0, g1, g2, g3⟩ := hM.out.after ((kp_drewN ⟨_, rfl⟩).alloc _) ⟨zx, 0, false, false⟩ hN hown hgrow; have d0 := hT.cell 0 rfl; have d3 := hT.cell 3 rfl; have d4 := hT.cell 4 rfl; have fp1 := fun j => hT.fz j; have HO := Lib.hid hown; have HG := Lib.hid hgrow; clear hown hgrow)
      have hB : B0 ≤ g := (own_block HO.out rfl).1
      have hK : Kp (PF p bq (.slice ao N cap)) w w1 := (((Kp.refl _ _).drewN _).alloc _).grown HG.out (fun k e => .inl (.inr (.inr e)))
      have hgn : PF p bq (.slice ao N cap) g ∨ w.heap.size ≤ g := by
        rcases hat with e | e
        · exact .inl (.inr (.inr e))
        · exact .inr (by rw [e]; simp)
      have hp' : PF p bq (.slice ao N cap) p := .inl rfl
      have hst := ((hM.out.grow ((kp_drewN ⟨_, rfl⟩).alloc _) ⟨zx, 0, false, false⟩ hN HO.out HG.out).setC N ⟨x, -1, true, false⟩ (by simp [hN])).setN (S.n + 1)
      have hset : (S.cs ++ [(⟨zx, 0, false, false⟩ : PC Th)]).set N ⟨x, -1, true, false⟩ = S.cs ++ [(⟨x, -1, true, false⟩ : PC Th)] := by subst hN; simp
      simp only [hset] at hst
      go_ret2
      exact ⟨rfl, _, hst, (((((hK.set (.inl hp') _).set hgn _).set hgn _).set hgn _).set hgn _).set (.inl hp') _⟩
    · rw [if_neg h2]
      have hfr : 0 ≤ S.free ∧ S.free < S.cs.length := by rcases hf with h | h; exact absurd h h2; exact h
      obtain ⟨i, hi⟩ : ∃ i : Nat, S.free = i := ⟨S.free.toNat, by omega⟩
      have hil : i < S.cs.length := by omega
      have hne : (S.free == -1) = false := by simpa using h2
      rw [hi] at hne c3
      obtain ⟨g, cap, rfl, hg, ce0, ce1, ce2, ce3⟩ := h.cell i S.cs[i] (by simp [hil])
      have hpg : p ≠ g := fun e => own_ne_blk h.cells h.top (by decide) (by rw [e]; rfl)
      have fg := fun j => own_fz h.cells j
      have hM := Lib.hid h
      have hnx : Hid (nx S.cs S.free.toNat = S.cs[i].next) := by unfold Hid nx; rw [hi]; simp [hil]
      clear h hf hfr h2
      generalize S.cs[i].next = fn at *
      generalize S.cs[i].x = fx at *
      generalize S.cs[i].taken = ft at *
      generalize S.cs[i].queued = fq at *
      generalize hN : S.cs.length = N at c0 hl hM hil ⊢
      go_enter Try.func17, Try.ntmps17
      go_wp2
      go_quiet (fail)
      go_wp2
      go_ret2
      have hst := (((hM.out.old (kp_drewN ⟨nq, rfl⟩)).setFree fn).setC i ⟨x, -1, true, false⟩ (by simpa [hN] using hil)).setN (S.n + 1)
      rw [hnx.out, hi]
      have hg' : PF p bq (.slice (some ⟨g, 0, none⟩) N cap) g := .inr (.inr rfl)
      have hp' : PF p bq (.slice (some ⟨g, 0, none⟩) N cap) p := .inl rfl
      exact ⟨rfl, _, hst, (((((((Kp.refl _ _).drewN _).set (.inl hp') _).set (.inl hg') _).set (.inl hg') _).set (.inl hg') _).set (.inl hg') _).set (.inl hp') _⟩

end Go.Proofs.Ytoiiofcpohoeaaa.poolInt
