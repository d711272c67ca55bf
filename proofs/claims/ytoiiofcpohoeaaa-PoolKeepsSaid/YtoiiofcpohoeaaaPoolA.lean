/- What Append, Pop and walk of package pool do, at numbers. -/
import Derived.Test.YtoiiofcpohoeaaaPoolU
import Derived.Sort.QuietIn
namespace Go.Proofs.Ytoiiofcpohoeaaa
open Go.RowKit Go.Shelf
set_option linter.unusedVariables false
attribute [local go_sem] Oper.semAt_some

/-- A queue's ends are taken handles that stand in a queue. -/
theorem Rel.ends {α : Type} {S : PS α} {R : RP α} (h : Rel S R) {q : Nat} {hd tl : Int} (hq : S.qs[q]? = some (hd, tl)) :
    (hd = -1 ∧ tl = -1 ∧ R.q q = []) ∨ ∃ c d, tk S hd = some c ∧ c.queued = true ∧ tk S tl = some d ∧ d.queued = true := by
  obtain ⟨h1, h2⟩ := h.queue q hd tl hq
  have h3 := h1.head
  cases hl : R.q q with
  | nil => left; rw [hl] at h2 h3; exact ⟨h3, h2, rfl⟩
  | cons z r =>
    right
    have hz : hd ∈ R.q q := by rw [h3, hl]; simp
    have ht : tl ∈ R.q q := by
      rw [h2, hl, List.getLast?_eq_some_getLast (by simp)]
      exact List.getLast_mem _
    have a1 := h.qtaken _ (q_in hz)
    have a2 := h.qtaken _ (q_in ht)
    obtain ⟨c, hc⟩ := Option.isSome_iff_exists.1 a1
    obtain ⟨d, hd'⟩ := Option.isSome_iff_exists.1 a2
    exact ⟨c, d, hc, (h.queued _ c hc).2 (q_in hz), hd', (h.queued _ d hd').2 (q_in ht)⟩
theorem Rel.heads {α : Type} {S : PS α} {R : RP α} (h : Rel S R) : ∀ x ∈ S.qs, -1 ≤ x.1 ∧ x.1 ≤ 4096 := by
  intro x hx
  obtain ⟨i, hi⟩ := List.getElem?_of_mem hx
  obtain ⟨hd, tl⟩ := x
  have h0 := h.room
  have h1 := h.most1.2
  rcases h.ends hi with ⟨rfl, _⟩ | ⟨c, d, e1, _⟩
  · simp
  · have := tk_some e1; simp only; omega
theorem Rel.len {α : Type} {S : PS α} {R : RP α} (h : Rel S R) : S.cs.length ≤ 4096 := by
  have h0 := h.room
  have h1 := h.most1.2
  omega

namespace poolInt

set_option maxHeartbeats 2000000 in
theorem pAppend (w : World) (B0 p bq : Nat) (vc : Value) (S : PS Th) (R : RP Th) (h : PMem w B0 p bq vc S) (hR : Rel S R) (q k : Int) (hqs : S.qs.length ≤ 262144) :
    Calls Try.prog 19 #[.pointer (some ⟨p, 0, none⟩), .int .i64 q, .int .i64 k] w fun e w' => e = .returned (.int .i64 (S.append q k).2) ∧ PStep w w' B0 p bq vc (S.append q k).1 := by
  have c0 := h.top.cell 0 rfl
  have c1 := h.top.cell 1 rfl
  have hl := hR.len
  have HH := Lib.hid (pHas w B0 p bq vc S h q hqs)
  have HT := Lib.hid (pTaken w B0 p bq vc S h k hl)
  by_cases h1 : 0 ≤ q ∧ q < S.qs.length
  · have hh : hasq S.qs.length q = true := by simp [hasq]; omega
    rw [hh] at HH
    cases hk : tk S k with
    | none =>
      rw [hk] at HT
      have hS : S.append q k = (S, 7) := by unfold PS.append; rw [if_neg (by omega), hk]
      rw [hS]
      have HS := Lib.hid h.same
      clear h hR hS hk h1
      generalize S.qs.length = n at *
      generalize S.cs.length = m at *
      go_enter Try.func19, Try.ntmps19
      go_wp2_with (first | (go_at_call 30; refine (HH.out).mono ?_; rintro e w' ⟨rfl, rfl⟩) | (go_at_call 29; refine (HT.out).mono ?_; rintro e w' ⟨rfl, rfl⟩))
      go_ret
      exact ⟨rfl, HS.out⟩
    | some c =>
      rw [hk] at HT
      obtain ⟨k0, k1, hc, _⟩ := tk_some hk
      obtain ⟨i, rfl⟩ : ∃ i : Nat, k = i := ⟨k.toNat, by omega⟩
      simp only [Int.toNat_natCast] at hc
      obtain ⟨j, rfl⟩ : ∃ j : Nat, q = j := ⟨q.toNat, by omega⟩
      obtain ⟨g, cap, rfl, hg, ce0, ce1, ce2, ce3⟩ := h.cell i c hc
      by_cases hcq : c.queued = true
      · have hS : S.append j i = (S, 8) := by unfold PS.append; rw [if_neg (by omega), hk]; simp [hcq]
        rw [hS]
        have HS := Lib.hid h.same
        rw [hcq] at ce3
        clear h hR hS hk h1 hcq
        generalize S.qs.length = n at *
        generalize S.cs.length = m at *
        go_enter Try.func19, Try.ntmps19
        go_wp2_with (first | (go_at_call 30; refine (HH.out).mono ?_; rintro e w' ⟨rfl, rfl⟩) | (go_at_call 29; refine (HT.out).mono ?_; rintro e w' ⟨rfl, rfl⟩))
        go_ret
        exact ⟨rfl, HS.out⟩
      · simp only [Bool.not_eq_true] at hcq
        have hj : j < S.qs.length := by omega
        have hi : i < S.cs.length := by omega
        obtain ⟨hd, tl, hq⟩ : ∃ hd tl, S.qs[j]? = some (hd, tl) := ⟨_, _, (List.getElem?_eq_some_iff.2 ⟨hj, rfl⟩)⟩
        obtain ⟨e0, e1⟩ := h.end j hd tl hq
        obtain ⟨n1, n2, n3⟩ := h.ne
        have hgp : p ≠ g := fun e => n2 (by rw [e]; rfl)
        have hgq : bq ≠ g := fun e => n3 (by rw [e]; rfl)
        have fg := fun j => own_fz h.cells j
        have fq := fun j => h.queues.fz j
        have hM := Lib.hid h
        rw [hcq] at ce3
        have hpg : PF p bq (.slice (some ⟨g, 0, none⟩) S.cs.length cap) g := .inr (.inr rfl)
        have hpq : PF p bq (.slice (some ⟨g, 0, none⟩) S.cs.length cap) bq := .inr (.inl rfl)
        have hst1 := ((hM.out.setC1 i c { c with next := -1 } 1 (.int .i32 (-1)) (by omega) hc rfl).setC1 i { c with next := -1 } { c with next := -1, queued := true } 3 (.bool true) (by omega) (by simp [hi]) rfl)
        have hkp1 := (((Kp.refl (PF p bq (.slice (some ⟨g, 0, none⟩) S.cs.length cap)) w).set (p := ⟨g, i * 4 + 1, none⟩) (.inl hpg) (.int .i32 (-1))).set (p := ⟨g, i * 4 + 3, none⟩) (.inl hpg) (.bool true))
        simp only [List.set_set] at hst1
        have hsq : setQ S.cs i (-1) true = S.cs.set i { c with next := -1, queued := true } := by unfold setQ; rw [hc]
        by_cases h2 : hd = -1
        · subst h2
          have hS : S.append j i = ({ S with cs := setQ S.cs i (-1) true, qs := S.qs.set j (i, i) }, 0) := by
            unfold PS.append; rw [if_neg (by omega), hk]; simp [hcq, hq]
          rw [hS, hsq]
          have hst := ((hst1.setE j (-1, tl) ((i : Int), tl) 0 (.int .i32 i) (by omega) hq rfl).setE j ((i : Int), tl) ((i : Int), (i : Int)) 1 (.int .i32 i) (by omega) (by simp [hj]) rfl)
          have hkp := ((hkp1.set (p := ⟨bq, j * 2 + 0, none⟩) (.inl hpq) (.int .i32 i)).set (p := ⟨bq, j * 2 + 1, none⟩) (.inl hpq) (.int .i32 i))
          simp only [List.set_set, Nat.add_zero] at hst hkp
          have HST := Lib.hid hst
          have HKP := Lib.hid hkp
          clear h hR hS hk h1 hcq hst hkp hst1 hkp1 hsq hpg hpq hq hc n1 n2 n3 hM
          generalize S.qs.length = n at *
          generalize S.cs.length = m at *
          go_enter Try.func19, Try.ntmps19
          go_wp2_with (first | (go_at_call 30; refine (HH.out).mono ?_; rintro e w' ⟨rfl, rfl⟩) | (go_at_call 29; refine (HT.out).mono ?_; rintro e w' ⟨rfl, rfl⟩))
          go_region
          go_wp2
          go_ret
          exact ⟨rfl, _, HST.out.drew, HKP.out.drew⟩
        · have h2' : (hd == -1) = false := by simpa using h2
          rcases hR.ends hq with ⟨e, _⟩ | ⟨_, d, _, _, ht, hdq⟩
          · exact absurd e h2
          obtain ⟨t0, t1, td, _⟩ := tk_some ht
          obtain ⟨t, rfl⟩ : ∃ t : Nat, tl = t := ⟨tl.toNat, by omega⟩
          have hti : t ≠ i := fun e => by subst e; rw [hk] at ht; cases ht; rw [hcq] at hdq; cases hdq
          have htl : t < S.cs.length := by omega
          simp only [Int.toNat_natCast] at td
          obtain ⟨g', cap', e', hg', te0, te1, te2, te3⟩ := h.cell t d td
          obtain ⟨rfl, rfl⟩ : g = g' ∧ cap = cap' := by cases e'; exact ⟨rfl, rfl⟩
          clear e' hg'
          have hsn : setNx (setQ S.cs i (-1) true) t i = (S.cs.set i { c with next := -1, queued := true }).set t { d with next := i } := by
            rw [hsq]; unfold setNx; rw [List.getElem?_set_ne (fun e => hti e.symm), td]
          have hS : S.append j i = ({ S with cs := setNx (setQ S.cs i (-1) true) t i, qs := S.qs.set j (hd, i) }, 0) := by
            unfold PS.append; rw [if_neg (by omega), hk]; simp [hcq, hq, h2]
          rw [hS, hsn]
          have hst := ((hst1.setC1 t d { d with next := i } 1 (.int .i32 i) (by omega) (by simp only; rw [List.getElem?_set_ne (fun e => hti e.symm)]; exact td) rfl).setE j (hd, (t : Int)) (hd, (i : Int)) 1 (.int .i32 i) (by omega) hq rfl)
          have hkp := ((hkp1.set (p := ⟨g, t * 4 + 1, none⟩) (.inl hpg) (.int .i32 i)).set (p := ⟨bq, j * 2 + 1, none⟩) (.inl hpq) (.int .i32 i))
          have HST := Lib.hid hst
          have HKP := Lib.hid hkp
          clear h hR hS hk h1 hcq hst hkp hst1 hkp1 hsq hsn hpg hpq hq hc n1 n2 n3 hM ht hdq td h2
          generalize S.qs.length = n at *
          generalize S.cs.length = m at *
          go_enter Try.func19, Try.ntmps19
          go_wp2_with (first | (go_at_call 30; refine (HH.out).mono ?_; rintro e w' ⟨rfl, rfl⟩) | (go_at_call 29; refine (HT.out).mono ?_; rintro e w' ⟨rfl, rfl⟩))
          go_region
          go_wp2
          go_region
          go_wp2
          go_ret
          exact ⟨rfl, _, HST.out.drew.drew, HKP.out.drew.drew⟩
  · have hh : hasq S.qs.length q = false := by simp [hasq]; omega
    rw [hh] at HH
    have hS : S.append q k = (S, 6) := by unfold PS.append; rw [if_pos h1]
    rw [hS]
    have HS := Lib.hid h.same
    clear h hR hS
    generalize S.qs.length = n at *
    generalize S.cs.length = m at *
    go_enter Try.func19, Try.ntmps19
    go_wp2_with (go_at_call 30; refine (HH.out).mono ?_; rintro e w' ⟨rfl, rfl⟩)
    go_ret
    exact ⟨rfl, HS.out⟩

end poolInt
end Go.Proofs.Ytoiiofcpohoeaaa
