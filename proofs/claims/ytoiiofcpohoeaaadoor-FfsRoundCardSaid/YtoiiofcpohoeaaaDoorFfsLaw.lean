/- The laws of layer 8, walked: the example, FfsNobody. -/
import Derived.Test.YtoiiofcpohoeaaaDoorFfsS
namespace Go.Proofs.YtoiiofcpohoeaaaDoor
open Go.RowKit Go.Shelf
attribute [local go_sem] Oper.semAt_some

theorem fl1 : fromL [3, 70] 4 = (70, true) := by decide
theorem fl2 : fromL [3, 70] 71 = (3, true) := by decide

set_option maxHeartbeats 2000000 in
theorem lives08 (w : World) (hT : Tab w) : Calls Tryd.prog 7 #[] w fun e w' => e = .returned (.bool true) ∧ Kp none' w w' := by
  go_enter Tryd.func7, Tryd.ntmps7
  go_wp2_with fail
  refine (sNew 2 w (by decide) (by decide)).mono ?_
  rintro e w1 ⟨p, bl, B, rfl, h1, hp, hk1⟩
  have hb0 : 0 < w.heap.size := World.block_lt_of_cell? w ⟨0, 0, none⟩ (hT 0 (by decide))
  have hT1 := hT.kp hk1 id
  have H1 := Lib.hid h1; clear h1
  go_wp2_with fail
  refine (sPut p 2 bl B [] 3 w1 H1.out (by decide) (by decide)).mono ?_
  rintro e w2 ⟨rfl, h2, hk2⟩
  have H2 : Hid (SR w2 p 2 bl B [3]) := h2; clear h2
  have e1 : putB 2 [] 3 = true := by decide
  rw [e1]
  go_wp2_with fail
  refine (sPut p 2 bl B [3] 70 w2 H2.out (by decide) (by decide)).mono ?_
  rintro e w3 ⟨rfl, h3, hk3⟩
  have H3 : Hid (SR w3 p 2 bl B [3, 70]) := h3; clear h3
  have e2 : putB 2 [3] 70 = true := by decide
  rw [e2]
  go_wp2_with fail
  refine (sPut p 2 bl B [3, 70] 70 w3 H3.out (by decide) (by decide)).mono ?_
  rintro e w4 ⟨rfl, h4, hk4⟩
  have H4 : Hid (SR w4 p 2 bl B [3, 70]) := h4; clear h4
  have e3 : putB 2 [3, 70] 70 = false := by decide
  rw [e3]
  have hkk : Kp none' w w4 := (((hk1.then hk2 (fun b hb hf => by have := hp b hf; omega)).then hk3 (fun b hb hf => by have := hp b hf; omega)).then hk4 (fun b hb hf => by have := hp b hf; omega))
  have HK := Lib.hid hkk
  have hT4 := Lib.hid (hT.kp hkk id)
  clear hk1 hk2 hk3 hk4 hkk hT1
  go_wp2_with fail
  refine (sFrom p 2 bl B [3, 70] 4 w4 H4.out (by decide) hT4.out (by omega)).mono ?_
  rintro e w5 ⟨rfl, rfl⟩
  rw [fl1]
  go_wp2_with fail
  refine (sFrom p 2 bl B [3, 70] 71 w4 H4.out (by decide) hT4.out (by omega)).mono ?_
  rintro e w5 ⟨rfl, rfl⟩
  rw [fl2]
  go_wp2_with fail
  refine (sLen p 2 bl B [3, 70] w4 H4.out).mono ?_
  rintro e w5 ⟨rfl, rfl⟩
  go_wp2
  go_ret
  exact ⟨rfl, HK.out⟩

set_option maxHeartbeats 1000000 in
theorem nHas (i : Int) (w : World) : Calls Tryd.prog 16 #[.pointer none, .int .i64 i] w fun e w' => e = .returned (.bool false) ∧ w = w' := by
  by_cases h : i < 0
  · go_enter Tryd.func16, Tryd.ntmps16
    go_wp2
    go_ret
    exact ⟨rfl, rfl⟩
  · go_enter Tryd.func16, Tryd.ntmps16
    go_wp2_with (go_at_call 18; refine (fSize0 _).mono ?_; rintro e w' ⟨rfl, rfl⟩)
    go_ret
    exact ⟨rfl, rfl⟩
set_option maxHeartbeats 1000000 in
theorem nPut (i : Int) (w : World) : Calls Tryd.prog 12 #[.pointer none, .int .i64 i] w fun e w' => e = .returned (.bool false) ∧ w = w' := by
  by_cases h : i < 0
  · go_enter Tryd.func12, Tryd.ntmps12
    go_wp2
    go_ret
    exact ⟨rfl, rfl⟩
  · go_enter Tryd.func12, Tryd.ntmps12
    go_wp2_with (go_at_call 18; refine (fSize0 _).mono ?_; rintro e w' ⟨rfl, rfl⟩)
    go_ret
    exact ⟨rfl, rfl⟩
set_option maxHeartbeats 1000000 in
theorem nDrop (i : Int) (w : World) : Calls Tryd.prog 10 #[.pointer none, .int .i64 i] w fun e w' => e = .returned (.bool false) ∧ w = w' := by
  go_enter Tryd.func10, Tryd.ntmps10
  go_wp2_with (go_at_call 16; refine (nHas _ _).mono ?_; rintro e w' ⟨rfl, rfl⟩)
  go_ret
  exact ⟨rfl, rfl⟩
set_option maxHeartbeats 1000000 in
theorem nFrom (i : Int) (w : World) : Calls Tryd.prog 14 #[.pointer none, .int .i64 i] w fun e w' => e = .returned (.tuple #[.int .i64 0, .bool false]) ∧ w = w' := by
  go_enter Tryd.func14, Tryd.ntmps14
  go_wp2_with (go_at_call 17; refine (fLen0 _).mono ?_; rintro e w' ⟨rfl, rfl⟩)
  go_ret2
  exact ⟨rfl, rfl⟩
set_option maxRecDepth 100000 in
set_option maxHeartbeats 1000000 in
theorem nAll (w : World) : Calls Tryd.prog 20 #[.pointer none] w fun e w' => e = .returned (.slice none 0 0) ∧ Kp none' w w' := by
  refine (callsIn_wide (n := 0)).1 ?_
  refine callsIn_of_wp_marks Tryd.func20 rfl trivial ?_ rfl
  simp only [Tryd.ntmps20, List.size_toArray, List.length_cons, List.length_nil, Nat.reduceAdd, Nat.reduceSub, Array.replicate_succ, Array.replicate_zero, List.push_toArray, List.append_toArray, List.nil_append, List.cons_append]
  gi_wp2
  have hw : Tells Tryd.prog 22 (fun y => #[.pointer none] ++ #[y] ++ #[]) (fun x : Int => #[.int .i64 x]) [] (fun b => w.heap.size ≤ b) (w.alloc (.cells #[.slice none 0 0] 29)) := by
    intro l J W hkp hJ hY h0
    refine callsIn_of_wp Tryd.func22 rfl trivial ?_ rfl
    simp only [Tryd.ntmps22, List.size_toArray, List.length_cons, List.length_nil, Nat.reduceAdd, Nat.reduceSub, Array.replicate_succ, Array.replicate_zero, List.push_toArray, List.append_toArray, List.nil_append, List.cons_append]
    gi_wp2_with (refine ⟨trivial, rfl, ?_⟩; gi_at_call 17; refine (callsIn_wide.2 (fLen0 _)).mono ?_; rintro e w' ⟨rfl, rfl⟩)
    refine bodyPost_ret (results_none rfl _ _ _) rfl ?_
    exact ⟨⟨_, rfl⟩, h0, hkp⟩
  refine wp_range (first := #[.pointer none]) (captured := #[]) rfl (enters_of Tryd.func22 (by kernel_rfl) rfl) (fun b hb => by simp at hb; omega) hw (fun _ => rfl)
    (fun _ W => Blk W w.heap.size [.slice none 0 0] 29) (fun pre A B h k => h.nc k) (Blk.new _ [_] _) (fun x => { tmps := #[.pointer none, undef, .slice none 0 0, .pointer (some ⟨w.heap.size, 0, none⟩), .int .i64 x, .pointer none, .func (.func 22) #[.pointer none] #[], .int .i64 x, undef, undef, undef, undef, undef], defers := [] }) ?assign ?body ?done
  case assign =>
    intro l x W K hK
    gi_wp2
    exact hK
  case body =>
    intro l pre x post W hmm
    simp at hmm
  case done =>
    rintro D W hblk hkp hD hK
    have c0 := hblk.cell 0 rfl
    gi_wp2
    refine ⟨by simp, .inl ⟨_, _, rfl, run_takeDeferred hK, ?_⟩⟩
    refine ⟨_, results_tmp rfl _ _ _, ?_⟩
    refine ⟨rfl, ?_⟩
    have hk2 : Kp (fun b => w.heap.size ≤ b) w (W.putObj D (.deferred none)) := (((Kp.refl _ _).alloc _).then hkp (fun _ _ h => h)).put (.inl (by simp at hD; omega)) _
    exact hk2.mono (fun b hb h => by omega)

set_option maxHeartbeats 2000000 in
theorem nobody08 (i : Int) (w : World) (hT : Tab w) : Calls Tryd.prog 5 #[.int .i64 i] w fun e w' => e = .returned (.bool true) ∧ Kp none' w w' := by
  have HT := Lib.hid hT; clear hT
  go_enter Tryd.func5, Tryd.ntmps5
  go_wp2_with fail
  refine (nFrom i w).mono ?_
  rintro e w1 ⟨rfl, rfl⟩
  go_wp2_with fail
  refine (nPut i w).mono ?_
  rintro e w1 ⟨rfl, rfl⟩
  go_wp2_with fail
  refine (nDrop i w).mono ?_
  rintro e w1 ⟨rfl, rfl⟩
  go_wp2_with fail
  refine (nHas i w).mono ?_
  rintro e w1 ⟨rfl, rfl⟩
  go_wp2_with fail
  refine (fLen0 w).mono ?_
  rintro e w1 ⟨rfl, rfl⟩
  go_wp2_with fail
  refine (fSize0 w).mono ?_
  rintro e w1 ⟨rfl, rfl⟩
  go_wp2_with fail
  refine (nAll w).mono ?_
  rintro e w1 ⟨rfl, hk⟩
  go_wp2_with fail
  refine (lives08 w1 (HT.out.kp hk id)).mono ?_
  rintro e w2 ⟨rfl, hk2⟩
  go_wp2
  go_ret
  exact ⟨rfl, hk.trans hk2⟩

end Go.Proofs.YtoiiofcpohoeaaaDoor
