/- Walks of layer 38: a number's bucket. -/
import Derived.Test.YtkhipbpjknfloaaHistW
namespace Go.Proofs.Ytkhipbpjknfloaa
set_option linter.unusedVariables false
set_option linter.unusedSimpArgs false
open Go.RowKit
theorem pw_fine {f : Nat} (h : f ≤ 8) : pw f ≤ 256 := by
  have := pw_le h
  have e : pw 8 = 256 := by decide
  omega
set_option maxRecDepth 100000 in
set_option maxHeartbeats 2000000 in
theorem rBucket (f n : Nat) (hf : f ≤ 8) (hn : n < 18446744073709551616) (w : World) : Calls Try.prog 21 #[.int .i64 f, .int .u64 n] w fun e w' => e = .returned (.int .i64 (bk f n : Nat)) ∧ w = w' := by
  have hp := pw_pos f
  have hpf := pw_fine hf
  have P1 := Lib.hid (rPower f (by omega) w)
  by_cases hlt : n < pw f
  · have hb : Hid (bk f n = n) := by show _ = _; unfold bk; rw [if_pos hlt]
    have hlti : (n : Int) < (pw f : Nat) := by omega
    go_enter Try.func21, Try.ntmps21
    go_wp2_with (go_at_call 47; refine P1.out.mono ?_; rintro e w' ⟨rfl, rfl⟩)
    go_ret
    exact ⟨by show Ending.returned (Value.int .i64 (n : Int)) = _; rw [hb.out], rfl⟩
  · have hlti : ¬ (n : Int) < (pw f : Nat) := by omega
    have hb : Hid (bk f n = (lg n - f) * pw f + n / pw (lg n - f)) := by show _ = _; unfold bk; rw [if_neg hlt]
    obtain ⟨q1, q2⟩ := head_of (f := f) (n := n) (by omega)
    have hge := lg_ge (f := f) (n := n) (by omega)
    have hl := lg_lt (k := 63) (show n < pw (63 + 1) by rw [pw64]; omega)
    have L1 := Lib.hid (rLog n hn (by omega) w)
    have P2 := Lib.hid (rPower (lg n - f) (by omega) w)
    have hmul : (lg n - f) * pw f ≤ 16384 := Nat.le_trans (Nat.mul_le_mul (show lg n - f ≤ 63 by omega) hpf) (by decide)
    have hpm := pw_pos (lg n - f)
    rw [show ((lg n - f : Nat) : Int) = (lg n : Nat) - (f : Int) by omega] at P2
    have e1 : (((lg n - f) * pw f : Nat) : Int) = ((lg n : Nat) - (f : Int)) * (pw f : Nat) := by rw [Int.natCast_mul, show ((lg n - f : Nat) : Int) = (lg n : Nat) - (f : Int) by omega]
    have b1 : ((lg n : Nat) - (f : Int)) * (pw f : Nat) ≤ 16384 := by omega
    have b2 : 0 ≤ ((lg n : Nat) - (f : Int)) * (pw f : Nat) := by omega
    have b3 : (n : Int) / (pw (lg n - f) : Nat) ≤ 512 := by
      have : ((n / pw (lg n - f) : Nat) : Int) = (n : Int) / (pw (lg n - f) : Nat) := by simp
      omega
    have b4 : 0 ≤ (n : Int) / (pw (lg n - f) : Nat) := by
      have : ((n / pw (lg n - f) : Nat) : Int) = (n : Int) / (pw (lg n - f) : Nat) := by simp
      omega
    have HE := Lib.hid (show ((bk f n : Nat) : Int) = ((lg n : Nat) - (f : Int)) * (pw f : Nat) + (n : Int) / (pw (lg n - f) : Nat) by rw [hb.out, Int.natCast_add, e1, Int.natCast_ediv])
    clear e1 q1 q2 hmul hlt
    go_enter Try.func21, Try.ntmps21
    go_wp2_with fail
    refine P1.out.mono ?_
    rintro e w' ⟨rfl, rfl⟩
    go_wp2_with (go_at_call 49; refine L1.out.mono ?_; rintro e w' ⟨rfl, rfl⟩)
    refine P1.out.mono ?_
    rintro e w' ⟨rfl, rfl⟩
    go_wp2_with fail
    refine P2.out.mono ?_
    rintro e w' ⟨rfl, rfl⟩
    go_wp2_with fail
    go_ret
    exact ⟨by rw [HE.out]; rfl, rfl⟩
/-- The histogram at hb: its fine bits, its map. -/
structure HTop (w : World) (hb f mb : Nat) : Prop where
  top : Blk w hb [.int .i64 f, .map (some mb)] 99
theorem HTop.kp {S : Nat → Prop} {w w' : World} {hb f mb : Nat} (h : HTop w hb f mb) (k : Kp S w w') (hs : ¬ S hb) : HTop w' hb f mb := ⟨h.top.kp k hs⟩
set_option maxRecDepth 100000 in
set_option maxHeartbeats 2000000 in
theorem hBucket (hb f mb n : Nat) (hf : f ≤ 8) (hn : n < 18446744073709551616) (w : World) (H : HTop w hb f mb) : Calls Try.prog 20 #[.pointer (some ⟨hb, 0, none⟩), .int .u64 n] w fun e w' => e = .returned (.int .i64 (bk f n : Nat)) ∧ Kp none' w w' := by
  have hp := pw_pos f
  have hpf := pw_fine hf
  have c0 := H.top.cell 0 rfl
  have hpi := pw_int f
  clear H
  by_cases hlt : n < pw f
  · have hb : Hid (bk f n = n) := by show _ = _; unfold bk; rw [if_pos hlt]
    have hlti : (n : Int) < (pw f : Nat) := by omega
    go_enter Try.func20, Try.ntmps20
    go_wp2
    go_ret
    exact ⟨by show Ending.returned (Value.int .i64 (n : Int)) = _; rw [hb.out], Kp.refl _ _⟩
  · have hlti : ¬ (n : Int) < (pw f : Nat) := by omega
    have hb : Hid (bk f n = (lg n - f) * pw f + n / pw (lg n - f)) := by show _ = _; unfold bk; rw [if_neg hlt]
    obtain ⟨q1, q2⟩ := head_of (f := f) (n := n) (by omega)
    have hge := lg_ge (f := f) (n := n) (by omega)
    have hl := lg_lt (k := 63) (show n < pw (63 + 1) by rw [pw64]; omega)
    have L1 := Lib.hid (fun W => calls_same (pLog n hn (by omega) W))
    have hmul : (lg n - f) * pw f ≤ 16384 := Nat.le_trans (Nat.mul_le_mul (show lg n - f ≤ 63 by omega) hpf) (by decide)
    have hpm := pw_pos (lg n - f)
    have e1 : (((lg n - f) * pw f : Nat) : Int) = ((lg n : Nat) - (f : Int)) * (pw f : Nat) := by rw [Int.natCast_mul, show ((lg n - f : Nat) : Int) = (lg n : Nat) - (f : Int) by omega]
    have b1 : ((lg n : Nat) - (f : Int)) * (pw f : Nat) ≤ 16384 := by omega
    have b2 : 0 ≤ ((lg n : Nat) - (f : Int)) * (pw f : Nat) := by omega
    have b3 : (n : Int) / (pw (lg n - f) : Nat) ≤ 512 := by
      have : ((n / pw (lg n - f) : Nat) : Int) = (n : Int) / (pw (lg n - f) : Nat) := by simp
      omega
    have b4 : 0 ≤ (n : Int) / (pw (lg n - f) : Nat) := by
      have : ((n / pw (lg n - f) : Nat) : Int) = (n : Int) / (pw (lg n - f) : Nat) := by simp
      omega
    have HE := Lib.hid (show ((bk f n : Nat) : Int) = ((lg n : Nat) - (f : Int)) * (pw f : Nat) + (n : Int) / (pw (lg n - f) : Nat) by rw [hb.out, Int.natCast_add, e1, Int.natCast_ediv])
    have hpm2 := pw_int (lg n - f)
    have htn : ((lg n : Nat) - (f : Int)).toNat = lg n - f := by omega
    clear e1 q1 q2 hmul hlt
    go_enter Try.func20, Try.ntmps20
    go_wp2_with fail
    refine wp_region_kept2 [] [0, 1, 2, 3, 4, 5] 6 (by kernel_rfl) (by kernel_rfl) (fun c a d u w h => by cases d <;> exact h) ?_
    simp only [pick, List.getElem?_cons_succ, List.getElem?_cons_zero, List.drop_succ_cons, List.drop_zero]
    show wpKL _ _ _ _ _ _
    repeat (first
      | (refine wpKL_op (by exact rfl) (by as_aux_lemma => intro W hK; have e0 := hK.cell c0 (fun x => x); go_simp; exact rfl) ?_; simp only [Act.put, List.setIfInBounds_toArray, List.set_cons_succ, List.set_cons_zero])
      | (refine wpKL_off (by exact rfl) ?_; simp only [Act.put, List.setIfInBounds_toArray, List.set_cons_succ, List.set_cons_zero])
      | (refine wpKL_call (by exact rfl) (by as_aux_lemma => intro W; go_simp; exact ⟨rfl, rfl⟩) (by intro W hK; with_reducible first | exact L1.out W) ?_; simp only [Act.put, List.setIfInBounds_toArray, List.set_cons_succ, List.set_cons_zero]))
    show ∀ W, _ → wpList _ _ _ _ _ _
    intro W2 hK2
    have HK2 := Lib.hid hK2
    have d0 := hK2.cell c0 (fun x => x)
    clear hK2 c0
    go_wp2_with fail
    refine wp_region_kept2 [] [0, 1, 2, 3, 4, 5, 6, 7, 8, 9] 10 (by kernel_rfl) (by kernel_rfl) (fun c a d u w h => by cases d <;> exact h) ?_
    simp only [pick, List.getElem?_cons_succ, List.getElem?_cons_zero, List.drop_succ_cons, List.drop_zero]
    show wpKL _ _ _ _ _ _
    repeat (first
      | (refine wpKL_op (by exact rfl) (by as_aux_lemma => intro W hK; have e0 := hK.cell d0 (fun x => x); go_simp; exact rfl) ?_; simp only [Act.put, List.setIfInBounds_toArray, List.set_cons_succ, List.set_cons_zero])
      | (refine wpKL_off (by exact rfl) ?_; simp only [Act.put, List.setIfInBounds_toArray, List.set_cons_succ, List.set_cons_zero]))
    show ∀ W, _ → wpList _ _ _ _ _ _
    intro W3 hK3
    have HK3 := Lib.hid (HK2.out.trans hK3)
    clear hK3 d0
    go_wp2_with fail
    go_ret
    exact ⟨by rw [HE.out]; rfl, HK3.out⟩
end Go.Proofs.Ytkhipbpjknfloaa
