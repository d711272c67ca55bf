/- What the functions of package pool compute, at things of kind string: each walked once. -/
import Derived.Test.YtoiiofcpohoeaaaPoolQ
import Derived.Test.YtoiiofcpohoeaaaOwn
import Derived.BigQuiet
import Derived.Deep.QuietTactic
import Derived.Test.YtoiiofcpohoeaaaProg
namespace Go.Proofs.Ytoiiofcpohoeaaa.poolString
open Go.RowKit Go.Proofs.Ytoiiofcpohoeaaa

abbrev Th := ByteArray
abbrev en (x : Th) : Value := .string x
def zx : Th := ByteArray.empty
def enC (c : PC Th) : List Value := [en c.x, .int .i32 c.next, .bool c.taken, .bool c.queued]
theorem enC_len (c : PC Th) : (enC c).length = 4 := rfl
def enE (p : Int × Int) : List Value := [.int .i32 p.1, .int .i32 p.2]
theorem enE_len (p : Int × Int) : (enE p).length = 2 := rfl

structure PMem (w : World) (B0 p bq : Nat) (vc : Value) (S : PS Th) : Prop where
  top : Blk w p [vc, .slice (some ⟨bq, 0, none⟩) S.qs.length S.qs.length, .int .i64 S.most, .int .i32 S.free, .int .i64 S.n] 78
  cells : w.ownsRow B0 80 4 vc S.cs.length (S.cs.flatMap enC)
  queues : Blk w bq (S.qs.flatMap enE) 64
  b0 : B0 ≤ p ∧ B0 ≤ bq

/-- The blocks of a pool. -/
def PF (p bq : Nat) (vc : Value) : Nat → Prop := fun b => b = p ∨ b = bq ∨ vc.ownBlock = some b
theorem PMem.kp {S' : Nat → Prop} {w w' : World} {B0 p bq : Nat} {vc : Value} {S : PS Th} (h : PMem w B0 p bq vc S) (K : Kp S' w w') (hs : ∀ b, PF p bq vc b → ¬ S' b) : PMem w' B0 p bq vc S :=
  ⟨h.top.kp K (hs _ (.inl rfl)), own_kp h.cells K (fun b hb => hs b (.inr (.inr hb))), h.queues.kp K (hs _ (.inr (.inl rfl))), h.b0⟩
theorem PMem.old {w w' : World} {B0 p bq : Nat} {vc : Value} {S : PS Th} (h : PMem w B0 p bq vc S) (K : Kp none' w w') : PMem w' B0 p bq vc S := h.kp K (fun _ _ h => h)
theorem PMem.new {w : World} {B0 p bq : Nat} {vc : Value} {S : PS Th} (h : PMem w B0 p bq vc S) {b : Nat} (hb : PF p bq vc b) : B0 ≤ b := by
  rcases hb with rfl | rfl | hb
  · exact h.b0.1
  · exact h.b0.2
  · exact (own_block h.cells hb).1

/-- A step of a pool that is new since w. -/
theorem PMem.thru {w w1 w2 : World} {p bq : Nat} {vc : Value} {S : PS Th} (h : PMem w1 w.heap.size p bq vc S) (k : Kp none' w w1) (K : Kp (PF p bq vc) w1 w2) : Kp none' w w2 :=
  k.then K (fun b hb hf => by have := h.new hf; omega)

set_option maxHeartbeats 400000 in
theorem pLen (w : World) (B0 p bq : Nat) (vc : Value) (S : PS Th) (h : PMem w B0 p bq vc S) : Calls Try.prog 24 #[.pointer (some ⟨p, 0, none⟩)] w fun e w' => e = .returned (.int .i64 S.n) ∧ w = w' := by
  have c := h.top.cell 4 rfl
  clear h
  go_enter Try.func24, Try.ntmps24
  go_wp2
  go_ret
  exact ⟨rfl, rfl⟩

/-- The cell of a handle, as the walks read it. -/
theorem PMem.cell {w : World} {B0 p bq : Nat} {vc : Value} {S : PS Th} (h : PMem w B0 p bq vc S) (i : Nat) (c : PC Th) (hc : S.cs[i]? = some c) : ∃ g cap, vc = .slice (some ⟨g, 0, none⟩) S.cs.length cap ∧ B0 ≤ g ∧
    w.cell? ⟨g, i * 4, none⟩ = some (en c.x) ∧ w.cell? ⟨g, i * 4 + 1, none⟩ = some (.int .i32 c.next) ∧ w.cell? ⟨g, i * 4 + 2, none⟩ = some (.bool c.taken) ∧ w.cell? ⟨g, i * 4 + 3, none⟩ = some (.bool c.queued) := by
  have hi : i < S.cs.length := (List.getElem?_eq_some_iff.1 hc).1
  obtain ⟨g, cap, rfl, hg⟩ := own_shape1 h.cells (by omega)
  have hh : ∀ k u, (enC c)[k]? = some u → w.cell? ⟨g, i * 4 + k, none⟩ = some u := fun k u hu => by
    refine own_cell h.cells _ ?_
    rw [flat_get enC 4 enC_len _ _ _ (by have := (List.getElem?_eq_some_iff.1 hu).1; simpa [enC] using this), hc]
    exact hu
  exact ⟨g, cap, rfl, hg, hh 0 _ rfl, hh 1 _ rfl, hh 2 _ rfl, hh 3 _ rfl⟩

set_option maxHeartbeats 1000000 in
theorem pTaken (w : World) (B0 p bq : Nat) (vc : Value) (S : PS Th) (h : PMem w B0 p bq vc S) (k : Int) (hl : S.cs.length ≤ 4096) :
    Calls Try.prog 32 #[.pointer (some ⟨p, 0, none⟩), .int .i64 k] w fun e w' => e = .returned (.bool (tk S k).isSome) ∧ w = w' := by
  have c0 := h.top.cell 0 rfl
  by_cases hk : k < 0
  · have HF : Hid ((tk S k).isSome = false) := by unfold Hid tk; rw [if_neg (by omega)]; rfl
    clear h c0
    go_enter Try.func32, Try.ntmps32
    go_wp2
    go_ret
    exact ⟨ret_bool HF.out.symm, rfl⟩
  · obtain ⟨i, rfl⟩ : ∃ i : Nat, k = i := ⟨k.toNat, by omega⟩
    by_cases hi : i < S.cs.length
    · obtain ⟨g, cap, hv, hg, _, _, c2, _⟩ := h.cell i S.cs[i] (by simp [hi])
      have HF : Hid ((tk S i).isSome = S.cs[i].taken) := by
        unfold Hid tk; rw [if_pos (by omega)]; simp [hi, Option.isSome_filter]
      subst hv
      clear h
      generalize S.cs[i].taken = tb at *
      generalize S.cs[i].x = tx at *
      generalize S.cs[i].next = tn at *
      generalize S.cs[i].queued = tq at *
      generalize hN : S.cs.length = N at *
      clear hN
      go_enter Try.func32, Try.ntmps32
      go_wp2
      go_ret
      exact ⟨ret_bool HF.out.symm, rfl⟩
    · obtain ⟨ao, cap, hv⟩ := own_shape h.cells
      have HF : Hid ((tk S i).isSome = false) := by unfold Hid tk; rw [if_pos (by omega)]; simp only [Int.toNat_natCast]; rw [List.getElem?_eq_none (by omega)]; rfl
      subst hv
      clear h
      generalize hN : S.cs.length = N at *
      clear hN
      go_enter Try.func32, Try.ntmps32
      go_wp2
      go_ret
      exact ⟨ret_bool HF.out.symm, rfl⟩

end Go.Proofs.Ytoiiofcpohoeaaa.poolString
