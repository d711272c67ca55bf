/- Walks of layer 1, the document's: wide numbers taken away. -/
import Derived.Test.YthjapdjglifopaaWideN
namespace Go.Proofs.Ythjapdjglifopaa
set_option linter.unusedVariables false
set_option linter.unusedSimpArgs false
open Go.RowKit Go.Shelf

set_option maxRecDepth 100000 in
set_option maxHeartbeats 8000000 in
theorem rMinus (a0 a1 a2 a3 b0 b1 b2 b3 : Nat) (k0 c0 k1 c1 k2 c2 k3 c3 : Nat) (w : World)
    (f0 : k0 ≤ 1) (f1 : k1 ≤ 1) (f2 : k2 ≤ 1) (f3 : k3 ≤ 1)
    (Q0 : Hid (((a0 : Int) + 4294967296 - b0) / 4294967296 = k0 ∧ ((a0 : Int) + 4294967296 - b0) % 4294967296 = c0))
    (Q1 : Hid (((a1 : Int) + 4294967296 - b1 - (1 - (k0 : Int))) / 4294967296 = k1 ∧ ((a1 : Int) + 4294967296 - b1 - (1 - (k0 : Int))) % 4294967296 = c1))
    (Q2 : Hid (((a2 : Int) + 4294967296 - b2 - (1 - (k1 : Int))) / 4294967296 = k2 ∧ ((a2 : Int) + 4294967296 - b2 - (1 - (k1 : Int))) % 4294967296 = c2))
    (Q3 : Hid (((a3 : Int) + 4294967296 - b3 - (1 - (k2 : Int))) / 4294967296 = k3 ∧ ((a3 : Int) + 4294967296 - b3 - (1 - (k2 : Int))) % 4294967296 = c3))
    (ha0 : a0 < 4294967296) (ha1 : a1 < 4294967296) (ha2 : a2 < 4294967296) (ha3 : a3 < 4294967296) (hb0 : b0 < 4294967296) (hb1 : b1 < 4294967296) (hb2 : b2 < 4294967296) (hb3 : b3 < 4294967296) :
    Calls Try.prog 47 #[.agg (wq a0 a1 a2 a3).toArray, .agg (wq b0 b1 b2 b3).toArray] w fun e w' => e = .returned (.agg (wq c0 c1 c2 c3).toArray) ∧ Kp none' w w' := by
  unfold wq
  go_enter Try.func47, Try.ntmps47
  go_wp2
  refine wp_loop_rounds 5 ?_
  rw [rounds_succ]
  go_wp2
  go_quiet (fail)
  go_wp2
  simp only [Q0.out.1, Q0.out.2]
  rw [rounds_succ]
  go_wp2
  go_quiet (fail)
  go_wp2
  simp only [Q1.out.1, Q1.out.2]
  rw [rounds_succ]
  go_wp2
  go_quiet (fail)
  go_wp2
  simp only [Q2.out.1, Q2.out.2]
  rw [rounds_succ]
  go_wp2
  go_quiet (fail)
  go_wp2
  simp only [Q3.out.1, Q3.out.2]
  rw [rounds_succ]
  go_wp2
  have B0 : Blk ((((w.alloc (.cells (wq a0 a1 a2 a3).toArray 93)).alloc (.cells (wq b0 b1 b2 b3).toArray 93)).alloc (.cells (wq 0 0 0 0).toArray 93)).alloc (.cells (wq 0 0 0 0).toArray 93)) (w.heap.size + 1 + 1) (wq 0 0 0 0) 93 := by
    have := (Blk.new ((w.alloc (.cells (wq a0 a1 a2 a3).toArray 93)).alloc (.cells (wq b0 b1 b2 b3).toArray 93)) (wq 0 0 0 0) 93).alloc (.cells (wq 0 0 0 0).toArray 93)
    simpa only [World.size_alloc] using this
  have K0 := ((((Kp.refl none' w).alloc (.cells (wq a0 a1 a2 a3).toArray 93)).alloc (.cells (wq b0 b1 b2 b3).toArray 93)).alloc (.cells (wq 0 0 0 0).toArray 93)).alloc (.cells (wq 0 0 0 0).toArray 93)
  exact wRet Try.results47 ((((((((((((B0.drewN _).setNe (a := ⟨w.heap.size + 1 + 1 + 1, 0, none⟩) (by simp) _).drewN _).setNe (a := ⟨w.heap.size + 1 + 1 + 1, 1, none⟩) (by simp) _).drewN _).setNe (a := ⟨w.heap.size + 1 + 1 + 1, 2, none⟩) (by simp) _).drewN _).setNe (a := ⟨w.heap.size + 1 + 1 + 1, 3, none⟩) (by simp) _).set 0 _).set 1 _).set 2 _).set 3 _) ((((((((((((K0.drewN _).set (p := ⟨w.heap.size + 1 + 1 + 1, 0, none⟩) (Or.inr (by simp only; omega)) _).drewN _).set (p := ⟨w.heap.size + 1 + 1 + 1, 1, none⟩) (Or.inr (by simp only; omega)) _).drewN _).set (p := ⟨w.heap.size + 1 + 1 + 1, 2, none⟩) (Or.inr (by simp only; omega)) _).drewN _).set (p := ⟨w.heap.size + 1 + 1 + 1, 3, none⟩) (Or.inr (by simp only; omega)) _).set (p := ⟨w.heap.size + 1 + 1, 0, none⟩) (Or.inr (by simp only; omega)) _).set (p := ⟨w.heap.size + 1 + 1, 1, none⟩) (Or.inr (by simp only; omega)) _).set (p := ⟨w.heap.size + 1 + 1, 2, none⟩) (Or.inr (by simp only; omega)) _).set (p := ⟨w.heap.size + 1 + 1, 3, none⟩) (Or.inr (by simp only; omega)) _) rfl
end Go.Proofs.Ythjapdjglifopaa
