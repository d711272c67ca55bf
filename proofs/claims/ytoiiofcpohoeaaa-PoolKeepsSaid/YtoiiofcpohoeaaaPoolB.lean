/- What Pop and walk of package pool do, at numbers. -/
import Derived.Test.YtoiiofcpohoeaaaPoolA
namespace Go.Proofs.Ytoiiofcpohoeaaa
open Go.RowKit Go.Shelf
set_option linter.unusedVariables false
attribute [local go_sem] Oper.semAt_some
namespace poolInt

theorem headq_none {S : PS Th} {q : Int} (h : hdq S q = -1) : headq S q = (0, false) := by unfold headq; rw [if_pos h]
theorem headq_some {S : PS Th} {q : Int} (h : ¬ hdq S q = -1) : headq S q = (hdq S q, true) := by unfold headq; rw [if_neg h]

set_option maxHeartbeats 2000000 in
theorem pPop (w : World) (B0 p bq : Nat) (vc : Value) (S : PS Th) (R : RP Th) (h : PMem w B0 p bq vc S) (hR : Rel S R) (q : Int) (hqs : S.qs.length ≤ 262144) :
    Calls Try.prog 20 #[.pointer (some ⟨p, 0, none⟩), .int .i64 q] w fun e w' => e = .returned (.tuple #[.int .i64 (S.pop q).2.1, .bool (S.pop q).2.2]) ∧ PStep w w' B0 p bq vc (S.pop q).1 := by
  have c0 := h.top.cell 0 rfl
  have c1 := h.top.cell 1 rfl
  have hl := hR.len
  have HD := Lib.hid (pHead w B0 p bq vc S h q hqs hR.heads)
  by_cases h0 : hdq S q = -1
  · rw [headq_none h0] at HD
    have hS : S.pop q = (S, 0, false) := by
      unfold PS.pop
      unfold hdq at h0
      by_cases h1 : 0 ≤ q ∧ q < S.qs.length
      · rw [if_neg (by omega)]
        rw [if_pos h1] at h0
        cases e : S.qs[q.toNat]? with
        | none => rfl
        | some x => obtain ⟨a, b⟩ := x; rw [e] at h0; simp only at h0 ⊢; rw [if_pos h0]
      · rw [if_pos h1]
    rw [hS]
    have HS := Lib.hid h.same
    clear h hR hS h0
    generalize S.qs.length = n at *
    generalize S.cs.length = m at *
    go_enter Try.func20, Try.ntmps20
    go_wp2_with (go_at_call 14; refine (HD.out).mono ?_; rintro e w' ⟨rfl, rfl⟩)
    go_ret2
    exact ⟨rfl, HS.out⟩
  · rw [headq_some h0] at HD
    have h1 : 0 ≤ q ∧ q < S.qs.length := by
      unfold hdq at h0
      by_cases h1 : 0 ≤ q ∧ q < S.qs.length
      · exact h1
      · rw [if_neg h1] at h0; exact absurd rfl h0
    obtain ⟨j, rfl⟩ : ∃ j : Nat, q = j := ⟨q.toNat, by omega⟩
    have hj : j < S.qs.length := by omega
    obtain ⟨hd, tl, hq⟩ : ∃ hd tl, S.qs[j]? = some (hd, tl) := ⟨_, _, (List.getElem?_eq_some_iff.2 ⟨hj, rfl⟩)⟩
    have hdd : hdq S j = hd := by unfold hdq; rw [if_pos h1]; simp [hq]
    rw [hdd] at HD h0
    rcases hR.ends hq with ⟨e, _⟩ | ⟨c, _, hk, hcq, _, _⟩
    · exact absurd e h0
    obtain ⟨k0, k1, hc, _⟩ := tk_some hk
    obtain ⟨i, rfl⟩ : ∃ i : Nat, hd = i := ⟨hd.toNat, by omega⟩
    simp only [Int.toNat_natCast] at hc
    have hi : i < S.cs.length := by omega
    obtain ⟨e0, e1⟩ := h.end j i tl hq
    obtain ⟨g, cap, rfl, hg, ce0, ce1, ce2, ce3⟩ := h.cell i c hc
    obtain ⟨n1, n2, n3⟩ := h.ne
    have hpb : p ≠ bq := n1
    have hgp : p ≠ g := fun e => n2 (by rw [e]; rfl)
    have hgq : bq ≠ g := fun e => n3 (by rw [e]; rfl)
    have fg := fun j => own_fz h.cells j
    have fq := fun j => h.queues.fz j
    have hM := Lib.hid h
    have hpg : PF p bq (.slice (some ⟨g, 0, none⟩) S.cs.length cap) g := .inr (.inr rfl)
    have hpq : PF p bq (.slice (some ⟨g, 0, none⟩) S.cs.length cap) bq := .inr (.inl rfl)
    have hnx : nx S.cs i = c.next := by unfold nx; rw [hc]
    have hsq : setQ S.cs i (-1) false = S.cs.set i { c with next := -1, queued := false } := by unfold setQ; rw [hc]
    have hst1 := (hM.out.setE j ((i : Int), tl) (c.next, tl) 0 (.int .i32 c.next) (by omega) hq rfl)
    have hkp1 := ((Kp.refl (PF p bq (.slice (some ⟨g, 0, none⟩) S.cs.length cap)) w).set (p := ⟨bq, j * 2 + 0, none⟩) (.inl hpq) (.int .i32 c.next))
    by_cases h2 : c.next = -1
    · have hS : S.pop j = ({ S with cs := S.cs.set i { c with next := -1, queued := false }, qs := S.qs.set j (-1, -1) }, (i : Int), true) := by
        unfold PS.pop; rw [if_neg (by omega)]; simp [hq, hnx, h2, hsq]
      rw [hS]
      have hst := ((hst1.setE j (c.next, tl) (c.next, -1) 1 (.int .i32 (-1)) (by omega) (by simp [hj]) rfl).setC1 i c { c with next := -1 } 1 (.int .i32 (-1)) (by omega) hc rfl).setC1 i { c with next := -1 } { c with next := -1, queued := false } 3 (.bool false) (by omega) (by simp [hi]) rfl
      have hkp := (((hkp1.set (p := ⟨bq, j * 2 + 1, none⟩) (.inl hpq) (.int .i32 (-1))).set (p := ⟨g, i * 4 + 1, none⟩) (.inl hpg) (.int .i32 (-1))).set (p := ⟨g, i * 4 + 3, none⟩) (.inl hpg) (.bool false))
      simp only [List.set_set, Nat.add_zero, h2] at hst hkp
      rw [h2] at ce1
      have HST := Lib.hid hst
      have HKP := Lib.hid hkp
      clear h hR hS hk h1 hcq hst hkp hst1 hkp1 hsq hpg hpq hq hc n1 n2 n3 hM hnx h2 hdd h0
      generalize S.qs.length = n at *
      generalize S.cs.length = m at *
      go_enter Try.func20, Try.ntmps20
      go_wp2_with (go_at_call 14; refine (HD.out).mono ?_; rintro e w' ⟨rfl, rfl⟩)
      go_region
      go_wp2
      go_ret2
      exact ⟨rfl, _, HST.out.drew, HKP.out.drew⟩
    · have hS : S.pop j = ({ S with cs := S.cs.set i { c with next := -1, queued := false }, qs := S.qs.set j (c.next, tl) }, (i : Int), true) := by
        unfold PS.pop; rw [if_neg (by omega)]; simp [hq, hnx, h2, hsq]
      have h2' : (c.next == -1) = false := by simpa using h2
      rw [hS]
      have hst := (hst1.setC1 i c { c with next := -1 } 1 (.int .i32 (-1)) (by omega) hc rfl).setC1 i { c with next := -1 } { c with next := -1, queued := false } 3 (.bool false) (by omega) (by simp [hi]) rfl
      have hkp := ((hkp1.set (p := ⟨g, i * 4 + 1, none⟩) (.inl hpg) (.int .i32 (-1))).set (p := ⟨g, i * 4 + 3, none⟩) (.inl hpg) (.bool false))
      simp only [List.set_set, Nat.add_zero] at hst hkp
      have HST := Lib.hid hst
      have HKP := Lib.hid hkp
      clear h hR hS hk h1 hcq hst hkp hst1 hkp1 hsq hpg hpq hq hc n1 n2 n3 hM hnx h2 hdd h0
      generalize S.qs.length = n at *
      generalize S.cs.length = m at *
      go_enter Try.func20, Try.ntmps20
      go_wp2_with (go_at_call 14; refine (HD.out).mono ?_; rintro e w' ⟨rfl, rfl⟩)
      go_region
      go_wp2
      go_ret2
      exact ⟨rfl, _, HST.out.drew, HKP.out.drew⟩

/-- What follows in a chain. -/
theorem Chain.next {f : Nat → Int} : ∀ {pre : List Int} {a x : Int} {post : List Int}, Chain f a (pre ++ x :: post) → f x.toNat = post.head?.getD (-1)
  | [], _, _, _, h => Chain.head h.2.2
  | _ :: _, _, _, _, h => Chain.next h.2.2

def qmeas (l : List Int) (v : Value) : Nat := l.length - l.idxOf (intOf v)
theorem qm_in (pre post : List Int) (x : Int) (hn : (pre ++ x :: post).Nodup) : qmeas (pre ++ x :: post) (.int .i32 x) = post.length + 1 := by
  have hx : x ∉ pre := fun h => (List.nodup_append.1 hn).2.2 x h x (by simp) rfl
  unfold qmeas
  simp only [intOf]
  rw [List.idxOf_append, if_neg hx]
  simp
theorem qm_next (pre post : List Int) (x : Int) (hn : (pre ++ x :: post).Nodup) (h0 : ∀ z ∈ pre ++ x :: post, 0 ≤ z) : qmeas (pre ++ x :: post) (.int .i32 (post.head?.getD (-1))) < qmeas (pre ++ x :: post) (.int .i32 x) := by
  rw [qm_in pre post x hn]
  cases post with
  | nil =>
    have : (-1 : Int) ∉ pre ++ [x] := fun h => by have := h0 _ h; omega
    unfold qmeas
    simp only [intOf, List.head?_nil, Option.getD_none]
    rw [List.idxOf_eq_length this]; simp
  | cons y r =>
    have := qm_in (pre ++ [x]) r y (by simpa using hn)
    simp only [List.append_assoc, List.cons_append, List.nil_append] at this
    simp only [List.head?_cons, Option.getD_some]
    rw [this]; simp

set_option maxRecDepth 100000 in
set_option maxHeartbeats 2000000 in
theorem wWalk (w : World) (B0 p bq : Nat) (vc : Value) (S : PS Th) (R : RP Th) (h : PMem w B0 p bq vc S) (hR : Rel S R) (j : Nat) (hj : j < S.qs.length) (hqs : S.qs.length ≤ 262144) :
    Tells Try.prog 34 (fun y => #[] ++ #[y] ++ #[.pointer (some ⟨w.heap.size + 1, 0, none⟩), .pointer (some ⟨w.heap.size + 2, 0, none⟩)]) (fun x : Int => #[.int .i64 x]) (R.q j) (QS w) (qw w (some ⟨p, 0, none⟩) j) := by
  have hlt : ∀ b, PF p bq vc b → b < w.heap.size := fun b hb => by
    rcases hb with rfl | rfl | hb
    · exact h.top.lt
    · exact h.queues.lt
    · exact (own_block h.cells hb).2
  have hold : Kp none' w (qw w (some ⟨p, 0, none⟩) j) := (((Kp.refl _ _).alloc _).alloc _).alloc _
  have hpm : ∀ W, Kp (QS w) (qw w (some ⟨p, 0, none⟩) j) W → PMem W B0 p bq vc S := fun W hk => (h.old hold).kp hk (fun b hb hs => by have := hlt b hb; rcases hs with hs | hs <;> omega)
  intro l J W hkp hJ hY h0
  have hbx : ∀ W, Kp (QS w) (qw w (some ⟨p, 0, none⟩) j) W → Blk W (w.heap.size + 1) [.pointer (some ⟨p, 0, none⟩)] 24 ∧ Blk W (w.heap.size + 2) [.int .i64 j] 3 := fun W hkp => by
    constructor
    · have h1 := (Blk.new (w.alloc (.cells #[.slice none 0 0] 32)) [.pointer (some ⟨p, 0, none⟩)] 24).alloc (.cells #[.int .i64 j] 3)
      simp only [World.size_alloc] at h1
      exact h1.kp hkp (fun h => by rcases h with h | h <;> omega)
    · have h1 := Blk.new ((w.alloc (.cells #[.slice none 0 0] 32)).alloc (.cells #[.pointer (some ⟨p, 0, none⟩)] 24)) [.int .i64 j] 3
      simp only [World.size_alloc] at h1
      exact h1.kp hkp (fun h => by rcases h with h | h <;> omega)
  have b1 := (hbx W hkp).1.cell 0 rfl
  have b2 := (hbx W hkp).2.cell 0 rfl
  have hh := pHas W B0 p bq vc S (hpm W hkp) j hqs
  have ht : hasq S.qs.length j = true := by simp [hasq]; omega
  rw [ht] at hh
  have HH := Lib.hid hh
  obtain ⟨hd, tl, hq⟩ : ∃ hd tl, S.qs[j]? = some (hd, tl) := ⟨_, _, (List.getElem?_eq_some_iff.2 ⟨hj, rfl⟩)⟩
  obtain ⟨e0, _⟩ := (hpm W hkp).end j hd tl hq
  have c1 := (hpm W hkp).top.cell 1 rfl
  have hch := (hR.queue j hd tl hq).1
  have hhd : hd = (R.q j).head?.getD (-1) := hch.head
  have hnd : (R.q j).Nodup := by
    unfold RP.q
    exact ((List.filter_sublist).map _).nodup hR.qnodup
  have hrg : ∀ z ∈ R.q j, ∃ c, S.cs[z.toNat]? = some c ∧ 0 ≤ z ∧ z < S.cs.length := fun z hz => by
    obtain ⟨c, hc⟩ := Option.isSome_iff_exists.1 (hR.qtaken z (q_in hz))
    obtain ⟨a1, a2, a3, _⟩ := tk_some hc
    exact ⟨c, a3, a1, a2⟩
  have hl := hR.len
  have HX := Lib.hid hbx
  have HM := Lib.hid hpm
  have HY := Lib.hid hY
  have HJ := Lib.hid hJ
  have HC := Lib.hid hch
  have HD := Lib.hid hhd
  have HN := Lib.hid hnd
  have HR := Lib.hid hrg
  clear hbx hpm hY hJ hch hhd hnd hrg hh h hR hq hold hlt
  generalize hql : R.q j = ql at *
  clear hql
  refine callsIn_of_wp Try.func34 rfl trivial ?_ rfl
  simp only [Try.ntmps34, List.size_toArray, List.length_cons, List.length_nil, Nat.reduceAdd, Nat.reduceSub, Array.replicate_succ, Array.replicate_zero, List.push_toArray, List.append_toArray, List.nil_append, List.cons_append]
  gi_wp2_with (refine ⟨trivial, rfl, ?_⟩; gi_at_call 30; refine (callsIn_wide.2 HH.out).mono ?_; rintro e w' ⟨rfl, rfl⟩)
  gi_quiet (fail)
  gi_wp2
  gi_loopw [4] (fun s4 wr => ∃ (pre post : List Int) (x : Int), Hid (ql = pre ++ post) ∧ s4 = .int .i32 x ∧ Hid (x = post.head?.getD (-1)) ∧ Hid (J pre wr) ∧ Hid (Kp (QS w) (qw w (some ⟨p, 0, none⟩) j) wr)) (fun s4 _ => qmeas ql s4)
  case atStart => exact ⟨[], ql, _, rfl, rfl, HD.out, HJ.out _ _ _ h0 ((Kp.refl _ _).drewN _), hkp.drewN _⟩
  case round =>
    obtain ⟨pre, post, x, hm, rfl, hx, hj1, hk1⟩ := hrel
    cases post with
    | nil =>
      obtain rfl : x = -1 := hx.out
      clear hx
      gi_wp2
      go_end0
      have := hm.out
      rw [List.append_nil] at this
      exact ⟨⟨_, rfl⟩, by rw [this]; exact hj1.out, hk1.out⟩
    | cons y post =>
      obtain rfl : x = y := hx.out
      clear hx
      obtain ⟨c, hc, x0, x1⟩ := HR.out x (by rw [hm.out]; simp)
      obtain ⟨z, rfl⟩ : ∃ z : Nat, x = z := ⟨x.toNat, by omega⟩
      have hz : ((z : Int) != -1) = true := by simp
      obtain ⟨f1, t1, a1, d1, hy1, hR1⟩ := HY.out pre z post wr hm.out hj1.out hk1.out
      have HRR := Lib.hid hR1
      clear hR1
      gi_wp2
      refine ⟨rfl, (HRR.out).mono ?_⟩
      rintro e W1 ⟨rfl, hJ1, hk2⟩
      have p1 := (HX.out W1 hk2).1.cell 0 rfl
      have c0 := (HM.out W1 hk2).top.cell 0 rfl
      simp only [Int.toNat_natCast] at hc
      obtain ⟨g, cap, rfl, hg, ce0, ce1, ce2, ce3⟩ := (HM.out W1 hk2).cell z c hc
      have hnx : c.next = post.head?.getD (-1) := by
        have h1 := HC.out
        rw [hm.out] at h1
        have h2 := Chain.next h1
        rw [← h2]; unfold nx; simp only [Int.toNat_natCast]; rw [hc]
      rw [hnx] at ce1
      have hme : qmeas ql (.int .i32 (post.head?.getD (-1))) < qmeas ql (.int .i32 (z : Int)) := by
        have h1 := HN.out
        have h2 := HR.out
        rw [hm.out] at h1 h2 ⊢
        exact qm_next pre post z h1 (fun y hy => (h2 y hy).choose_spec.2.1)
      have HME := Lib.hid hme
      have hj2 := Lib.hid hJ1
      have hkk := Lib.hid hk2
      have HI := Lib.hid hc
      clear hme hnx hJ1 hk2 hc hy1
      generalize hr : post.head?.getD (-1) = r at *
      have HRE := Lib.hid hr
      clear hr
      generalize S.cs.length = m at *
      gi_wp2
      go_roundw
      case rel => exact ⟨pre ++ [(z : Int)], post, r, by rw [hm.out]; simp [Hid], rfl, HRE.out.symm, hj2.out, hkk.out⟩
      case measure => exact HME.out

end poolInt
end Go.Proofs.Ytoiiofcpohoeaaa
