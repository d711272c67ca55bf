/- A table that nobody made; FlowNobody's walk (layer 15). -/
import Derived.Test.YtkhipbpjknfloaaFlowL
import Derived.Test.YtkhipbpjknfloaaFlowTInt
namespace Go.Proofs.Ytkhipbpjknfloaa
set_option linter.unusedVariables false
set_option linter.unusedSimpArgs false
open Go.RowKit
namespace flowInt
set_option maxHeartbeats 1000000 in
theorem nGet (id : Nat) (w : World) : Calls Try.prog 15 #[.pointer none, .int .u32 id] w fun e w' => e = .returned (.tuple #[.int .i64 0, .bool false]) ∧ Kp none' w w' := by
  go_enter Try.func15, Try.ntmps15
  go_wp2_with fail
  refine wp_region_kept2 [] [0, 1, 2, 3, 4, 5, 6, 7, 8, 9, 10, 11, 12, 13, 14] 15 (by kernel_rfl) (by kernel_rfl) (fun c a d u w h => by cases d <;> exact h) ?_
  simp only [pick, List.getElem?_cons_succ, List.getElem?_cons_zero, List.drop_succ_cons, List.drop_zero]
  show wpKL _ _ _ _ _ _
  repeat (first
    | (refine wpKL_op (by exact rfl) (by as_aux_lemma => intro W hK; go_simp; exact rfl) ?_; simp only [Act.put, List.setIfInBounds_toArray, List.set_cons_succ, List.set_cons_zero])
    | (refine wpKL_off (by exact rfl) ?_; simp only [Act.put, List.setIfInBounds_toArray, List.set_cons_succ, List.set_cons_zero])
    | (refine wpKL_call (by exact rfl) (by as_aux_lemma => intro W; go_simp; exact ⟨rfl, rfl⟩) (by intro W hK; with_reducible first | exact calls_same (fMadeNil W)) ?_; simp only [Act.put, List.setIfInBounds_toArray, List.set_cons_succ, List.set_cons_zero]))
  show ∀ W, _ → wpList _ _ _ _ _ _
  intro W2 hK2
  have HK2 := Lib.hid hK2
  clear hK2
  go_wp2_with fail
  go_ret2
  exact ⟨rfl, HK2.out⟩
set_option maxHeartbeats 1000000 in
theorem nDrop (id : Nat) (w : World) : Calls Try.prog 14 #[.pointer none, .int .u32 id] w fun e w' => e = .returned (.tuple #[.int .i64 0, .bool false]) ∧ Kp none' w w' := by
  go_enter Try.func14, Try.ntmps14
  go_wp2_with (go_at_call 15; refine (nGet _ _).mono ?_; rintro e w1 ⟨rfl, k1⟩; have K1 := Lib.hid k1; clear k1)
  go_ret2
  exact ⟨rfl, K1.out⟩
set_option maxHeartbeats 1000000 in
theorem nIDs (w : World) : Calls Try.prog 29 #[.pointer none] w fun e w' => e = .returned (.slice none 0 0) ∧ w = w' := by
  go_enter Try.func29, Try.ntmps29
  go_wp2
  go_ret
  exact ⟨rfl, rfl⟩
set_option maxHeartbeats 1000000 in
theorem nLen (w : World) : Calls Try.prog 28 #[.pointer none] w fun e w' => e = .returned (.int .i64 0) ∧ w = w' := by
  go_enter Try.func28, Try.ntmps28
  go_wp2
  go_ret
  exact ⟨rfl, rfl⟩
set_option maxHeartbeats 1000000 in
theorem nEach (f : Value) (w : World) : Calls Try.prog 25 #[.pointer none, f] w fun e w' => e = .returned (.tuple #[]) ∧ w = w' := by
  go_enter Try.func25, Try.ntmps25
  go_wp2_with (go_at_call 29; refine (nIDs _).mono ?_; rintro e w1 ⟨rfl, rfl⟩)
  go_loopw [11] (fun i0 wr => i0 = .int .i64 0 ∧ w = wr) (fun _ _ => 0)
  case atStart => exact ⟨rfl, rfl⟩
  case round =>
    obtain ⟨rfl, rfl⟩ := hrel
    go_wp2
    go_end0
    exact ⟨rfl, rfl⟩
set_option maxHeartbeats 1000000 in
theorem nPut (id : Nat) (x : Int) (w : World) : Calls Try.prog 13 #[.pointer none, .int .u32 id, .int .i64 x] w fun e w' => e = .returned (.int .i64 10) ∧ w = w' := by
  go_enter Try.func13, Try.ntmps13
  go_wp2_with (go_at_call 43; refine (fMadeNil _).mono ?_; rintro e w1 ⟨rfl, rfl⟩)
  go_ret
  exact ⟨rfl, rfl⟩
set_option maxHeartbeats 1000000 in
theorem nSet (id : Nat) (x : Int) (w : World) : Calls Try.prog 27 #[.pointer none, .int .u32 id, .int .i64 x] w fun e w' => e = .returned (.bool false) ∧ Kp none' w w' := by
  go_enter Try.func27, Try.ntmps27
  go_wp2_with fail
  refine wp_region_kept2 [] [0, 1, 2, 3, 4, 5, 6, 7, 8, 9, 10, 11, 12, 13, 14] 15 (by kernel_rfl) (by kernel_rfl) (fun c a d u w h => by cases d <;> exact h) ?_
  simp only [pick, List.getElem?_cons_succ, List.getElem?_cons_zero, List.drop_succ_cons, List.drop_zero]
  show wpKL _ _ _ _ _ _
  repeat (first
    | (refine wpKL_op (by exact rfl) (by as_aux_lemma => intro W hK; go_simp; exact rfl) ?_; simp only [Act.put, List.setIfInBounds_toArray, List.set_cons_succ, List.set_cons_zero])
    | (refine wpKL_off (by exact rfl) ?_; simp only [Act.put, List.setIfInBounds_toArray, List.set_cons_succ, List.set_cons_zero])
    | (refine wpKL_call (by exact rfl) (by as_aux_lemma => intro W; go_simp; exact ⟨rfl, rfl⟩) (by intro W hK; with_reducible first | exact calls_same (fMadeNil W)) ?_; simp only [Act.put, List.setIfInBounds_toArray, List.set_cons_succ, List.set_cons_zero]))
  show ∀ W, _ → wpList _ _ _ _ _ _
  intro W2 hK2
  have HK2 := Lib.hid hK2
  clear hK2
  go_wp2_with fail
  go_ret
  exact ⟨rfl, HK2.out⟩
end flowInt
open flowInt
set_option maxRecDepth 100000 in
set_option maxHeartbeats 4000000 in
theorem nobody15 (id : Nat) (x : Int) (w : World) : Calls Try.prog 6 #[.int .u32 id, .int .i64 x] w fun e w' => e = .returned (.bool true) ∧ Kp none' w w' := by
  go_enter Try.func6, Try.ntmps6
  go_wp2_with fail
  refine (nGet id w).mono ?_
  rintro e w1 ⟨rfl, k1⟩
  have K1 := Lib.hid k1
  clear k1
  go_wp2_with fail
  refine (nDrop id w1).mono ?_
  rintro e w2 ⟨rfl, k2⟩
  have K2 := Lib.hid (K1.out.trans k2)
  clear k2 K1
  have hb := Blk.new w2 [.int .i64 0] 3
  have K3 := Lib.hid (K2.out.alloc (.cells #[.int .i64 0] 3))
  have HB := Lib.hid hb
  clear hb
  go_wp2_with fail
  refine (nEach _ _).mono ?_
  rintro e w3 ⟨rfl, e3⟩
  have hb3 : Blk w3 w2.heap.size [.int .i64 0] 3 := by rw [← e3]; exact HB.out
  have K4 : Hid (Kp none' w w3) := by rw [← e3]; exact K3.out
  have HB3 := Lib.hid hb3
  clear hb3 e3 HB K3
  go_wp2_with fail
  refine (nPut id x w3).mono ?_
  rintro e w4 ⟨rfl, rfl⟩
  go_wp2_with fail
  refine (nSet id x w3).mono ?_
  rintro e w5 ⟨rfl, k5⟩
  have K5 := Lib.hid (K4.out.trans k5)
  have HB5 := Lib.hid (HB3.out.kp k5 (fun x => x))
  have c5 := HB5.out.cell 0 rfl
  clear k5 K4 HB3
  go_wp2_with fail
  refine (nLen w5).mono ?_
  rintro e w6 ⟨rfl, rfl⟩
  go_wp2_with fail
  refine (nIDs w5).mono ?_
  rintro e w7 ⟨rfl, rfl⟩
  go_wp2_with fail
  refine (lives15 w5).mono ?_
  rintro e w8 ⟨rfl, k8⟩
  have K8 := Lib.hid (K5.out.trans k8)
  clear k8
  go_wp2
  go_ret
  exact ⟨rfl, K8.out⟩
end Go.Proofs.Ytkhipbpjknfloaa
