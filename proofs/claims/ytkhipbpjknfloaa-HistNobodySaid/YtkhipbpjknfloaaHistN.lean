/- Layer 38: a histogram that nobody made; HistNobody's walk. -/
import Derived.Test.YtkhipbpjknfloaaHistL
import Derived.Test.YtkhipbpjknfloaaOwn
import Derived.Test.YtkhipbpjknfloaaRowSet
namespace Go.Proofs.Ytkhipbpjknfloaa
set_option linter.unusedVariables false
set_option linter.unusedSimpArgs false
open Go.RowKit Go.Maps Go.Shelf
section
attribute [local go_sem] Oper.semAt_some
set_option maxHeartbeats 1000000 in
theorem nWalk (w : World) (H : Nat → Prop) : TellsF Try.prog 56 (fun y => #[.pointer none] ++ #[y] ++ #[]) (fun r : RwN => #[.agg #[.int .u64 r.1, .int .u64 r.2.1, .int .u64 r.2.2]]) ([] : List RwN) H w := by
  intro lp J Jx F0 W hkp hlp hF0 hH hJ hJx hY h0
  have H0 := Lib.hid h0
  clear hkp hJ hJx hY h0 hH hF0
  refine callsIn_of_wp Try.func56 rfl trivial ?_ rfl
  simp only [Try.ntmps56, List.size_toArray, List.length_cons, List.length_nil, Nat.reduceAdd, Nat.reduceSub, Array.replicate_succ, Array.replicate_zero, List.push_toArray, List.append_toArray, List.nil_append, List.cons_append]
  gi_wp2
  (try simp only [Exit.inBlock, Exit.then]); refine bodyPost_ret (results_none rfl _ _ _) rfl ?_
  exact ⟨⟨_, rfl⟩, (Kp.refl _ _), F0, .inl H0.out⟩
set_option maxRecDepth 100000 in
set_option maxHeartbeats 2000000 in
theorem nCountH (w : World) : Calls Try.prog 37 #[.pointer none] w fun e w' => e = .returned (.int .u64 0) ∧ Kp none' w w' := by
  refine (callsIn_wide (n := 0)).1 ?_
  refine callsIn_of_wp_marks Try.func37 rfl trivial ?_ rfl
  simp only [Try.ntmps37, List.size_toArray, List.length_cons, List.length_nil, Nat.reduceAdd, Nat.reduceSub, Array.replicate_succ, Array.replicate_zero, List.push_toArray, List.append_toArray, List.nil_append, List.cons_append]
  have HW := Lib.hid (nWalk (w.alloc (.cells #[.int .u64 0] 35)) (fun _ => False))
  have hb0 := Blk.new w [.int .u64 0] 35
  gi_wp2
  refine wp_rangeF (first := #[.pointer none]) (captured := #[]) rfl (enters_of Try.func56 (by kernel_rfl) rfl) HW.out (fun _ => rfl)
    (fun pre F W => Blk W w.heap.size [.int .u64 0] 35) (fun _ _ _ _ => False) (fun pre F A B h k => h.nc k) (fun _ _ _ _ _ h _ => h)
    (fun b => b = w.heap.size) (by intro b hb; subst hb; simp) (fun b h => h.elim) hb0
    (fun r a1 W => True) (fun _ _ _ _ _ _ => trivial) ?assign (fun l pre F x post a1 W h => by cases pre <;> cases h) ?done (fun _ _ _ _ _ h => h.elim)
  case assign =>
    intro lp r W K hz hK
    gi_wp2
    exact hK _ _ trivial ((Kp.refl _ _).alloc _)
  case done =>
    rintro D F W hb1 hkp hD hK
    have c0 := hb1.cell 0 rfl
    gi_wp2
    refine ⟨by simp, .inl ⟨_, _, rfl, run_takeDeferred hK, ?_⟩⟩
    refine ⟨_, results_tmp rfl _ _ _, rfl, ?_⟩
    have hk2 : Kp (fun b => w.heap.size ≤ b) w (W.putObj D (.deferred none)) := (((Kp.refl _ _).alloc _).then hkp (fun b hb h => by subst h; exact Nat.le_refl _)).put (.inl (by simp at hD; omega)) _
    exact hk2.mono (fun b hb h => by omega)
set_option maxRecDepth 100000 in
set_option maxHeartbeats 2000000 in
theorem nRowsH (w : World) : Calls Try.prog 33 #[.pointer none] w fun e w' => e = .returned (.slice none 0 0) ∧ Kp none' w w' := by
  refine (callsIn_wide (n := 0)).1 ?_
  refine callsIn_of_wp_marks Try.func33 rfl trivial ?_ rfl
  simp only [Try.ntmps33, List.size_toArray, List.length_cons, List.length_nil, Nat.reduceAdd, Nat.reduceSub, Array.replicate_succ, Array.replicate_zero, List.push_toArray, List.append_toArray, List.nil_append, List.cons_append]
  have HW := Lib.hid (nWalk (w.alloc (.cells #[.slice none 0 0] 66)) (fun _ => False))
  have hb0 := Blk.new w [.slice none 0 0] 66
  gi_wp2
  refine wp_rangeF (first := #[.pointer none]) (captured := #[]) rfl (enters_of Try.func56 (by kernel_rfl) rfl) HW.out (fun _ => rfl)
    (fun pre F W => Blk W w.heap.size [.slice none 0 0] 66) (fun _ _ _ _ => False) (fun pre F A B h k => h.nc k) (fun _ _ _ _ _ h _ => h)
    (fun b => b = w.heap.size) (by intro b hb; subst hb; simp) (fun b h => h.elim) hb0
    (fun r a1 W => True) (fun _ _ _ _ _ _ => trivial) ?assign (fun l pre F x post a1 W h => by cases pre <;> cases h) ?done (fun _ _ _ _ _ h => h.elim)
  case assign =>
    intro lp r W K hz hK
    gi_wp2
    exact hK _ _ trivial ((Kp.refl _ _).alloc _)
  case done =>
    rintro D F W hb1 hkp hD hK
    have c0 := hb1.cell 0 rfl
    gi_wp2
    refine ⟨by simp, .inl ⟨_, _, rfl, run_takeDeferred hK, ?_⟩⟩
    refine ⟨_, results_tmp rfl _ _ _, rfl, ?_⟩
    have hk2 : Kp (fun b => w.heap.size ≤ b) w (W.putObj D (.deferred none)) := (((Kp.refl _ _).alloc _).then hkp (fun b hb h => by subst h; exact Nat.le_refl _)).put (.inl (by simp at hD; omega)) _
    exact hk2.mono (fun b hb h => by omega)
end
theorem nAddH (N t : Nat) (w : World) : Calls Try.prog 30 #[.pointer none, .int .u64 N, .int .u64 t] w fun e w' => e = .returned (.tuple #[]) ∧ w = w' := by
  go_enter Try.func30, Try.ntmps30
  go_wp2
  go_end0
  exact ⟨rfl, rfl⟩
theorem nRangeH (b : Int) (w : World) : Calls Try.prog 18 #[.pointer none, .int .i64 b] w fun e w' => e = .returned (.tuple #[.int .u64 0, .int .u64 0, .bool false]) ∧ w = w' := by
  go_enter Try.func18, Try.ntmps18
  go_wp2
  go_ret3
  exact ⟨rfl, rfl⟩
theorem nBucketH (N : Nat) (w : World) : Calls Try.prog 20 #[.pointer none, .int .u64 N] w fun e w' => e = .returned (.int .i64 0) ∧ w = w' := by
  go_enter Try.func20, Try.ntmps20
  go_wp2
  go_ret
  exact ⟨rfl, rfl⟩
set_option maxHeartbeats 1000000 in
theorem nMergeH (o : Option Addr) (w : World) : Calls Try.prog 31 #[.pointer none, .pointer o] w fun e w' => e = .returned (.int .i64 10) ∧ Kp none' w w' := by
  go_enter Try.func31, Try.ntmps31
  go_wp2
  go_ret
  exact ⟨rfl, (Kp.refl _ _).alloc _⟩
set_option maxHeartbeats 1000000 in
theorem oMergeH (hb : Nat) (w : World) : Calls Try.prog 31 #[.pointer (some ⟨hb, 0, none⟩), .pointer none] w fun e w' => e = .returned (.int .i64 10) ∧ Kp none' w w' := by
  go_enter Try.func31, Try.ntmps31
  go_wp2
  go_ret
  exact ⟨rfl, (Kp.refl _ _).alloc _⟩
set_option maxHeartbeats 1000000 in
theorem nPartH (a b : Nat) (w : World) : Calls Try.prog 35 #[.pointer none, .int .u64 a, .int .u64 b] w fun e w' => e = .returned (.tuple #[.agg #[.int .u64 0, .int .u64 0, .int .u64 0], .bool false]) ∧ Kp none' w w' := by
  go_enter Try.func35, Try.ntmps35
  go_wp2_with fail
  refine (nCountH _).mono ?_
  rintro e w1 ⟨rfl, k1⟩
  have hb1 := (Blk.new w [.int .u64 0, .int .u64 0, .int .u64 0] 73).kp k1 (fun x => x)
  have K1 := Lib.hid (((Kp.refl none' w).alloc (.cells #[.int .u64 0, .int .u64 0, .int .u64 0] 73)).trans k1)
  have HB1 := Lib.hid hb1
  have c0 := hb1.cell 0 rfl
  have c1 := hb1.cell 1 rfl
  have c2 := hb1.cell 2 rfl
  have z0 := hb1.fz 0
  have z1 := hb1.fz 1
  have z2 := hb1.fz 2
  clear k1 hb1
  go_wp2
  refine ret_row2 rfl (((HB1.out.set 0 (.int .u64 0)).set 1 (.int .u64 0)).set 2 (.int .u64 0)) _ Try.underlying73 rfl (by kernel_rfl) rfl ⟨rfl, ?_⟩
  exact ((((K1.out).mono (T := fun b => w.heap.size ≤ b) (fun _ _ x => x.elim)).set (p := ⟨w.heap.size, 0, none⟩) (.inl (Nat.le_refl _)) _).set (p := ⟨w.heap.size, 1, none⟩) (.inl (Nat.le_refl _)) _).set (p := ⟨w.heap.size, 2, none⟩) (.inl (Nat.le_refl _)) _ |>.mono (fun b hb h => by omega)
set_option maxRecDepth 100000 in
set_option maxHeartbeats 4000000 in
theorem nobody38 (n : Nat) (b : Int) (w : World) : Calls Try.prog 10 #[.int .u64 n, .int .i64 b] w fun e w' => e = .returned (.bool true) ∧ Kp none' w w' := by
  go_enter Try.func10, Try.ntmps10
  go_wp2_with fail
  refine (nAddH n 1 w).mono ?_
  rintro e w' ⟨rfl, rfl⟩
  go_wp2_with fail
  refine (nRangeH b w).mono ?_
  rintro e w' ⟨rfl, rfl⟩
  go_wp2_with fail
  refine (nPartH n n w).mono ?_
  rintro e w1 ⟨rfl, k1⟩
  have hbr := Blk.new w1 [.int .u64 0, .int .u64 0, .int .u64 0] 73
  have K1 := Lib.hid (k1.alloc (.cells #[.int .u64 0, .int .u64 0, .int .u64 0] 73))
  have HBR := Lib.hid hbr
  have T2 := Lib.hid (fun W => hNew 1 (by omega) W)
  clear k1 hbr
  go_wp2_with fail
  refine (T2.out _).mono ?_
  rintro e w2 ⟨hb, rfl, h2, k2⟩
  have K2 := Lib.hid (K1.out.trans k2)
  have HB2 := Lib.hid (HBR.out.kp k2 (fun x => x))
  clear h2 k2 K1 HBR T2
  go_wp2_with fail
  refine (nBucketH n w2).mono ?_
  rintro e w' ⟨rfl, rfl⟩
  have c0 := HB2.out.cell 0 rfl
  have c1 := HB2.out.cell 1 rfl
  have c2 := HB2.out.cell 2 rfl
  go_wp2_with fail
  refine (nCountH _).mono ?_
  rintro e w3 ⟨rfl, k3⟩
  have K3 := Lib.hid (K2.out.trans k3)
  clear k3 K2
  go_wp2_with fail
  refine (nRowsH _).mono ?_
  rintro e w4 ⟨rfl, k4⟩
  have K4 := Lib.hid (K3.out.trans k4)
  clear k4 K3
  go_wp2_with fail
  refine (nMergeH _ _).mono ?_
  rintro e w5 ⟨rfl, k5⟩
  have K5 := Lib.hid (K4.out.trans k5)
  clear k5 K4
  go_wp2_with fail
  refine (oMergeH _ _).mono ?_
  rintro e w6 ⟨rfl, k6⟩
  have K6 := Lib.hid (K5.out.trans k6)
  clear k6 K5
  go_wp2_with fail
  refine (lives38 _).mono ?_
  rintro e w7 ⟨rfl, k7⟩
  have K7 := Lib.hid (K6.out.trans k7)
  clear k7 K6
  go_wp2
  go_ret
  exact ⟨rfl, K7.out⟩
end Go.Proofs.Ytkhipbpjknfloaa
