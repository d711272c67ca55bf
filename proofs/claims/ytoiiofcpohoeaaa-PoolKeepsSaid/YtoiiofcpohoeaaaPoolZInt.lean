/- What has, Head, Append and Pop of package pool do, at things of kind int. -/
import Derived.Test.YtoiiofcpohoeaaaPoolXInt
import Derived.Test.YtoiiofcpohoeaaaPoolQ
namespace Go.Proofs.Ytoiiofcpohoeaaa.poolInt
open Go.RowKit Go.Proofs.Ytoiiofcpohoeaaa

set_option maxHeartbeats 400000 in
theorem pGet (w : World) (B0 p bq : Nat) (vc : Value) (S : PS Th) (h : PMem w B0 p bq vc S) (k : Int) (hl : S.cs.length ≤ 4096) :
    Calls Try.prog 11 #[.pointer (some ⟨p, 0, none⟩), .int .i64 k] w fun e w' => e = .returned (.tuple #[en (((tk S k).map (·.x)).getD zx), .bool (tk S k).isSome]) ∧ w = w' := by
  have c0 := h.top.cell 0 rfl
  have HT := Lib.hid (pTaken w B0 p bq vc S h k hl)
  cases e : tk S k with
  | none =>
    rw [e] at HT
    clear h c0
    go_enter Try.func11, Try.ntmps11
    go_wp2_with (go_at_call 29; refine (HT.out).mono ?_; rintro e w' ⟨rfl, rfl⟩)
    go_ret2
    exact ⟨rfl, rfl⟩
  | some c =>
    rw [e] at HT
    obtain ⟨h0, h1, hc, _⟩ := tk_some e
    obtain ⟨i, rfl⟩ : ∃ i : Nat, k = i := ⟨k.toNat, by omega⟩
    obtain ⟨g, cap, rfl, hg, c3, _, _, _⟩ := h.cell i c hc
    clear h e hc
    generalize hN : S.cs.length = N at *
    clear hN
    go_enter Try.func11, Try.ntmps11
    go_wp2_with (go_at_call 29; refine (HT.out).mono ?_; rintro e w' ⟨rfl, rfl⟩)
    go_ret2
    exact ⟨rfl, rfl⟩

def hasq (n : Nat) (q : Int) : Bool := decide (0 ≤ q ∧ q < (n : Int))
set_option maxHeartbeats 400000 in
theorem pHas (w : World) (B0 p bq : Nat) (vc : Value) (S : PS Th) (h : PMem w B0 p bq vc S) (q : Int) (hq : S.qs.length ≤ 262144) :
    Calls Try.prog 30 #[.pointer (some ⟨p, 0, none⟩), .int .i64 q] w fun e w' => e = .returned (.bool (hasq S.qs.length q)) ∧ w = w' := by
  have c1 := h.top.cell 1 rfl
  clear h
  generalize S.qs.length = n at *
  by_cases h1 : q < 0
  · have HF : Hid (hasq n q = false) := by simp [Hid, hasq]; omega
    go_enter Try.func30, Try.ntmps30
    go_wp2
    go_ret
    exact ⟨ret_bool HF.out.symm, rfl⟩
  · by_cases h2 : q < n
    · have HF : Hid (hasq n q = true) := by simp [Hid, hasq]; omega
      go_enter Try.func30, Try.ntmps30
      go_wp2
      go_ret
      exact ⟨ret_bool HF.out.symm, rfl⟩
    · have HF : Hid (hasq n q = false) := by simp [Hid, hasq]; omega
      go_enter Try.func30, Try.ntmps30
      go_wp2
      go_ret
      exact ⟨ret_bool HF.out.symm, rfl⟩

/-- A queue's first handle. -/
def hdq (S : PS Th) (q : Int) : Int := if 0 ≤ q ∧ q < S.qs.length then match S.qs[q.toNat]? with | some (h, _) => h | none => -1 else -1
def headq (S : PS Th) (q : Int) : Int × Bool := if hdq S q = -1 then (0, false) else (hdq S q, true)

theorem PMem.end {w : World} {B0 p bq : Nat} {vc : Value} {S : PS Th} (h : PMem w B0 p bq vc S) (i : Nat) (hd tl : Int) (hi : S.qs[i]? = some (hd, tl)) :
    w.cell? ⟨bq, i * 2, none⟩ = some (.int .i32 hd) ∧ w.cell? ⟨bq, i * 2 + 1, none⟩ = some (.int .i32 tl) := by
  have hh : ∀ k u, k < 2 → (enE (hd, tl))[k]? = some u → w.cell? ⟨bq, i * 2 + k, none⟩ = some u := fun k u hk hu => by
    refine h.queues.cell _ ?_
    rw [flat_get enE 2 enE_len _ _ _ hk, hi]; exact hu
  exact ⟨hh 0 _ (by omega) rfl, hh 1 _ (by omega) rfl⟩

set_option maxHeartbeats 400000 in
theorem pHead (w : World) (B0 p bq : Nat) (vc : Value) (S : PS Th) (h : PMem w B0 p bq vc S) (q : Int) (hq : S.qs.length ≤ 262144) (hr : ∀ x ∈ S.qs, -1 ≤ x.1 ∧ x.1 ≤ 4096) :
    Calls Try.prog 14 #[.pointer (some ⟨p, 0, none⟩), .int .i64 q] w fun e w' => e = .returned (.tuple #[.int .i64 (headq S q).1, .bool (headq S q).2]) ∧ w = w' := by
  have c1 := h.top.cell 1 rfl
  have HH := Lib.hid (pHas w B0 p bq vc S h q hq)
  by_cases h1 : 0 ≤ q ∧ q < S.qs.length
  · obtain ⟨i, rfl⟩ : ∃ i : Nat, q = i := ⟨q.toNat, by omega⟩
    have hi : i < S.qs.length := by omega
    obtain ⟨hd, tl, e⟩ : ∃ hd tl, S.qs[i]? = some (hd, tl) := ⟨_, _, (List.getElem?_eq_some_iff.2 ⟨hi, rfl⟩)⟩
    obtain ⟨e0, e1⟩ := h.end i hd tl e
    have hdr := hr (hd, tl) (List.mem_of_getElem? e)
    simp only at hdr
    have HF : Hid (hdq S i = hd) := by unfold Hid hdq; rw [if_pos h1]; simp [e]
    have HT : Hid (hasq S.qs.length i = true) := by simp [Hid, hasq]; omega
    rw [HT.out] at HH
    clear h hr e h1
    generalize S.qs.length = n at *
    by_cases h2 : hd = -1
    · subst h2
      have HF2 : Hid (headq S i = (0, false)) := by unfold Hid headq; rw [if_pos HF.out]
      go_enter Try.func14, Try.ntmps14
      go_wp2_with (go_at_call 30; refine (HH.out).mono ?_; rintro e w' ⟨rfl, rfl⟩)
      go_ret2
      exact ⟨by rw [HF2.out]; rfl, rfl⟩
    · have h2' : (hd == -1) = false := by simpa using h2
      have HF2 : Hid (headq S i = (hd, true)) := by unfold Hid headq; rw [HF.out, if_neg h2]
      go_enter Try.func14, Try.ntmps14
      go_wp2_with (go_at_call 30; refine (HH.out).mono ?_; rintro e w' ⟨rfl, rfl⟩)
      go_ret2
      exact ⟨by rw [HF2.out]; rfl, rfl⟩
  · have HT : Hid (hasq S.qs.length q = false) := by simp [Hid, hasq]; omega
    have HF2 : Hid (headq S q = (0, false)) := by unfold Hid headq hdq; rw [if_neg h1, if_pos rfl]
    rw [HT.out] at HH
    clear h hr
    generalize S.qs.length = n at *
    go_enter Try.func14, Try.ntmps14
    go_wp2_with (go_at_call 30; refine (HH.out).mono ?_; rintro e w' ⟨rfl, rfl⟩)
    go_ret2
    exact ⟨by rw [HF2.out]; rfl, rfl⟩

end Go.Proofs.Ytoiiofcpohoeaaa.poolInt
