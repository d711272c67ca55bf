/- The gate (layer 17): whether a packet has room. -/
import Derived.Test.YtfckgddodjmbdaaGreatDoorMDeviceNobodyF14
import Derived.Test.YtfckgddodjmbdaaGreatDoorMDeviceNobodyF2
import Derived.Test.YtfckgddodjmbdaaGreatDoorMDeviceNobodyF4
namespace Go.Proofs.YtfckgddodjmbdaaGreatDoor
set_option linter.unusedVariables false
set_option linter.unusedSimpArgs false
open Go Go.RowKit Go.Shelf
def fitR (mtu n : Nat) (is : Bool) (P tp : Int) (By tbt b m : Nat) : Int :=
  if n = 0 ∨ mtu < n then 12 else if is = false then 13 else if P ≤ tp then 14 else if By - tbt < n then 15 else if m - b < n then 16 else 0
set_option maxRecDepth 100000 in
set_option maxHeartbeats 2000000 in
theorem gFitsR {w : World} {gb tb : Nat} (P tp : Int) (By tbt mtu id n : Nat) (p : Int) (b m : Nat) (is : Bool) (c4 : w.cell? ⟨gb, 4, none⟩ = some (.int .i64 P)) (c5 : w.cell? ⟨gb, 5, none⟩ = some (.int .u64 By)) (c7 : w.cell? ⟨gb, 7, none⟩ = some (.int .u64 mtu)) (c11 : w.cell? ⟨gb, 11, none⟩ = some (.int .i64 tp)) (c12 : w.cell? ⟨gb, 12, none⟩ = some (.int .u64 tbt)) (c13 : w.cell? ⟨gb, 13, none⟩ = some (.pointer (some ⟨tb, 0, none⟩)))
    (HG : ∀ W, Kp none' w W → Calls Tryz.prog 105 #[.pointer (some ⟨tb, 0, none⟩), .int .u32 id] W fun e w' => e = .returned (.tuple #[.agg #[.int .i64 p, .int .u64 b, .int .u64 m], .bool is]) ∧ Kp none' W w') (hle : tbt ≤ By) (hby : By < 18446744073709551616) (hbm : b ≤ m) (hm : m < 18446744073709551616) :
    Calls Tryz.prog 125 #[.pointer (some ⟨gb, 0, none⟩), .int .u32 id, .int .u64 n] w fun e w' => e = .returned (.int .i64 (fitR mtu n is P tp By tbt b m)) ∧ Kp none' w w' := by
  by_cases h1 : n = 0
  · subst h1
    have HR : Hid (fitR mtu 0 is P tp By tbt b m = 12) := by show _ = _; unfold fitR; rw [if_pos (.inl rfl)]
    clear HG
    go_enter Tryz.func125, Tryz.ntmps125
    go_wp2
    go_ret
    exact ⟨by rw [HR.out]; rfl, Kp.refl _ _⟩
  have h1' : ((n : Int) == 0) = false := by rw [beq_eq_false_iff_ne]; omega
  by_cases h2 : mtu < n
  · have h2' : (mtu : Int) < n := by omega
    have HR : Hid (fitR mtu n is P tp By tbt b m = 12) := by show _ = _; unfold fitR; rw [if_pos (.inr h2)]
    clear HG
    go_enter Tryz.func125, Tryz.ntmps125
    go_wp2
    go_ret
    exact ⟨by rw [HR.out]; rfl, Kp.refl _ _⟩
  have h2' : ¬ (mtu : Int) < n := by omega
  cases is with
  | false =>
    have HR : Hid (fitR mtu n false P tp By tbt b m = 13) := by show _ = _; unfold fitR; rw [if_neg (by omega), if_pos rfl]
    clear h1 h2
    go_enter Tryz.func125, Tryz.ntmps125
    go_wp2_with fail
    refine (HG w (Kp.refl _ _)).mono ?_
    rintro e w2 ⟨rfl, hk2⟩
    have HK2 := Lib.hid hk2
    have d4 := hk2.cell c4 (fun x => x)
    have d5 := hk2.cell c5 (fun x => x)
    have d11 := hk2.cell c11 (fun x => x)
    have d12 := hk2.cell c12 (fun x => x)
    clear hk2 c4 c5 c7 c11 c12 c13 HG
    go_wp2_with fail
    go_ret
    exact ⟨by rw [HR.out]; rfl, HK2.out.alloc _⟩
  | true =>
    have hR0 : fitR mtu n true P tp By tbt b m = if P ≤ tp then 14 else if By - tbt < n then 15 else if m - b < n then 16 else 0 := by unfold fitR; rw [if_neg (by omega), if_neg (by simp)]
    clear h1 h2
    by_cases h3 : P ≤ tp
    · have HR : Hid (fitR mtu n true P tp By tbt b m = 14) := by show _ = _; rw [hR0, if_pos h3]
      clear hR0
      go_enter Tryz.func125, Tryz.ntmps125
      go_wp2_with fail
      refine (HG w (Kp.refl _ _)).mono ?_
      rintro e w2 ⟨rfl, hk2⟩
      have HK2 := Lib.hid hk2
      have d4 := hk2.cell c4 (fun x => x)
      have d5 := hk2.cell c5 (fun x => x)
      have d11 := hk2.cell c11 (fun x => x)
      have d12 := hk2.cell c12 (fun x => x)
      clear hk2 c4 c5 c7 c11 c12 c13 HG
      go_wp2_with fail
      have HB3 := Lib.hid (Blk.new w2 [.int .i64 p, .int .u64 b, .int .u64 m] 232)
      have hk3 := (Kp.refl none' w2).alloc (.cells #[.int .i64 p, .int .u64 b, .int .u64 m] 232)
      have HK3 := Lib.hid (HK2.out.trans hk3)
      have f4 := hk3.cell d4 (fun x => x)
      have f5 := hk3.cell d5 (fun x => x)
      have f11 := hk3.cell d11 (fun x => x)
      have f12 := hk3.cell d12 (fun x => x)
      obtain ⟨y, hy⟩ : ∃ y, w2.heap.size = y := ⟨_, rfl⟩
      rw [hy] at HB3 ⊢
      change Code.wp _ _ _ _ (w2.alloc (.cells #[.int .i64 p, .int .u64 b, .int .u64 m] 232))
      generalize w2.alloc (.cells #[.int .i64 p, .int .u64 b, .int .u64 m] 232) = W3 at *
      clear hk3 d4 d5 d11 d12 hy
      refine wp_region_kept2 [] [0, 1, 2, 3, 4, 5, 6, 7, 8, 9, 10] 11 (by kernel_rfl) (by kernel_rfl) (fun c a d u w h => by cases d <;> exact h) ?_
      simp only [pick, List.getElem?_cons_succ, List.getElem?_cons_zero, List.drop_succ_cons, List.drop_zero]
      show wpKL _ _ _ _ _ _
      repeat (first
        | (refine wpKL_op (by exact rfl) (by as_aux_lemma => intro W hK; have e0 := hK.cell f4 (fun x => x); have e1 := hK.cell f11 (fun x => x); go_simp; exact rfl) ?_; simp only [Act.put, List.setIfInBounds_toArray, List.set_cons_succ, List.set_cons_zero])
        | (refine wpKL_off (by exact rfl) ?_; simp only [Act.put, List.setIfInBounds_toArray, List.set_cons_succ, List.set_cons_zero]))
      show ∀ W, _ → wpList _ _ _ _ _ _
      intro W4 hK4
      have HK4 := Lib.hid (HK3.out.trans hK4)
      have HB4 := Lib.hid (HB3.out.kp hK4 (fun x => x))
      have g5 := hK4.cell f5 (fun x => x)
      have g12 := hK4.cell f12 (fun x => x)
      clear hK4 f4 f5 f11 f12
      go_wp2_with fail
      go_ret
      exact ⟨by rw [HR.out]; rfl, HK4.out⟩
    rw [if_neg h3] at hR0
    have h3' : decide (P ≤ tp) = false := by simpa using h3
    clear h3
    obtain ⟨R, hRe⟩ : ∃ R, By - tbt = R := ⟨_, rfl⟩
    have hRi : (By : Int) - tbt = (R : Int) := by omega
    have HW : Hid (IntKind.u64.wrap (R : Int) = (R : Int)) := by show _ = _; rw [IntKind.wrap_u64]; omega
    rw [hRe] at hR0
    by_cases h4 : R < n
    · have h4' : (R : Int) < n := by omega
      have HR : Hid (fitR mtu n true P tp By tbt b m = 15) := by show _ = _; rw [hR0, if_pos h4]
      clear hR0 hRe h4
      go_enter Tryz.func125, Tryz.ntmps125
      go_wp2_with fail
      refine (HG w (Kp.refl _ _)).mono ?_
      rintro e w2 ⟨rfl, hk2⟩
      have HK2 := Lib.hid hk2
      have d4 := hk2.cell c4 (fun x => x)
      have d5 := hk2.cell c5 (fun x => x)
      have d11 := hk2.cell c11 (fun x => x)
      have d12 := hk2.cell c12 (fun x => x)
      clear hk2 c4 c5 c7 c11 c12 c13 HG
      go_wp2_with fail
      have HB3 := Lib.hid (Blk.new w2 [.int .i64 p, .int .u64 b, .int .u64 m] 232)
      have hk3 := (Kp.refl none' w2).alloc (.cells #[.int .i64 p, .int .u64 b, .int .u64 m] 232)
      have HK3 := Lib.hid (HK2.out.trans hk3)
      have f4 := hk3.cell d4 (fun x => x)
      have f5 := hk3.cell d5 (fun x => x)
      have f11 := hk3.cell d11 (fun x => x)
      have f12 := hk3.cell d12 (fun x => x)
      obtain ⟨y, hy⟩ : ∃ y, w2.heap.size = y := ⟨_, rfl⟩
      rw [hy] at HB3 ⊢
      change Code.wp _ _ _ _ (w2.alloc (.cells #[.int .i64 p, .int .u64 b, .int .u64 m] 232))
      generalize w2.alloc (.cells #[.int .i64 p, .int .u64 b, .int .u64 m] 232) = W3 at *
      clear hk3 d4 d5 d11 d12 hy
      refine wp_region_kept2 [] [0, 1, 2, 3, 4, 5, 6, 7, 8, 9, 10] 11 (by kernel_rfl) (by kernel_rfl) (fun c a d u w h => by cases d <;> exact h) ?_
      simp only [pick, List.getElem?_cons_succ, List.getElem?_cons_zero, List.drop_succ_cons, List.drop_zero]
      show wpKL _ _ _ _ _ _
      repeat (first
        | (refine wpKL_op (by exact rfl) (by as_aux_lemma => intro W hK; have e0 := hK.cell f4 (fun x => x); have e1 := hK.cell f11 (fun x => x); go_simp; exact rfl) ?_; simp only [Act.put, List.setIfInBounds_toArray, List.set_cons_succ, List.set_cons_zero])
        | (refine wpKL_off (by exact rfl) ?_; simp only [Act.put, List.setIfInBounds_toArray, List.set_cons_succ, List.set_cons_zero]))
      show ∀ W, _ → wpList _ _ _ _ _ _
      intro W4 hK4
      have HK4 := Lib.hid (HK3.out.trans hK4)
      have HB4 := Lib.hid (HB3.out.kp hK4 (fun x => x))
      have g5 := hK4.cell f5 (fun x => x)
      have g12 := hK4.cell f12 (fun x => x)
      clear hK4 f4 f5 f11 f12
      go_wp2_with fail
      refine wp_region_kept2 [] [0, 1, 2, 3, 4, 5, 6, 7, 8, 9, 10, 11, 12] 13 (by kernel_rfl) (by kernel_rfl) (fun c a d u w h => by cases d <;> exact h) ?_
      simp only [pick, List.getElem?_cons_succ, List.getElem?_cons_zero, List.drop_succ_cons, List.drop_zero]
      show wpKL _ _ _ _ _ _
      repeat (first
        | (refine wpKL_op (by exact rfl) (by as_aux_lemma => intro W hK; have e0 := hK.cell g5 (fun x => x); have e1 := hK.cell g12 (fun x => x); have e2 := HW.out; go_simp; exact rfl) ?_; simp only [Act.put, List.setIfInBounds_toArray, List.set_cons_succ, List.set_cons_zero])
        | (refine wpKL_off (by exact rfl) ?_; simp only [Act.put, List.setIfInBounds_toArray, List.set_cons_succ, List.set_cons_zero]))
      show ∀ W, _ → wpList _ _ _ _ _ _
      intro W5 hK5
      have HK5 := Lib.hid (HK4.out.trans hK5)
      have HB5 := Lib.hid (HB4.out.kp hK5 (fun x => x))
      clear hK5 g5 g12
      have y0 := HB5.out.cell 0 rfl
      have y1 := HB5.out.cell 1 rfl
      have y2 := HB5.out.cell 2 rfl
      go_wp2_with fail
      go_ret
      exact ⟨by rw [HR.out]; rfl, HK5.out⟩
    have h4' : ¬ (R : Int) < n := by omega
    rw [if_neg h4] at hR0
    have h6 : ¬ (m : Int) < b := by omega
    obtain ⟨Q, hQe⟩ : ∃ Q, m - b = Q := ⟨_, rfl⟩
    have hQi : (m : Int) - b = (Q : Int) := by omega
    have hw2 : IntKind.u64.wrap (Q : Int) = (Q : Int) := by rw [IntKind.wrap_u64]; omega
    have h6' : ¬ (m < b) := by omega
    rw [hQe] at hR0
    by_cases h5 : Q < n
    · have h5' : (Q : Int) < n := by omega
      have HR : Hid (fitR mtu n true P tp By tbt b m = 16) := by show _ = _; rw [hR0, if_pos h5]
      clear hR0 hRe h4 h5 hQe
      go_enter Tryz.func125, Tryz.ntmps125
      go_wp2_with fail
      refine (HG w (Kp.refl _ _)).mono ?_
      rintro e w2 ⟨rfl, hk2⟩
      have HK2 := Lib.hid hk2
      have d4 := hk2.cell c4 (fun x => x)
      have d5 := hk2.cell c5 (fun x => x)
      have d11 := hk2.cell c11 (fun x => x)
      have d12 := hk2.cell c12 (fun x => x)
      clear hk2 c4 c5 c7 c11 c12 c13 HG
      go_wp2_with fail
      have HB3 := Lib.hid (Blk.new w2 [.int .i64 p, .int .u64 b, .int .u64 m] 232)
      have hk3 := (Kp.refl none' w2).alloc (.cells #[.int .i64 p, .int .u64 b, .int .u64 m] 232)
      have HK3 := Lib.hid (HK2.out.trans hk3)
      have f4 := hk3.cell d4 (fun x => x)
      have f5 := hk3.cell d5 (fun x => x)
      have f11 := hk3.cell d11 (fun x => x)
      have f12 := hk3.cell d12 (fun x => x)
      obtain ⟨y, hy⟩ : ∃ y, w2.heap.size = y := ⟨_, rfl⟩
      rw [hy] at HB3 ⊢
      change Code.wp _ _ _ _ (w2.alloc (.cells #[.int .i64 p, .int .u64 b, .int .u64 m] 232))
      generalize w2.alloc (.cells #[.int .i64 p, .int .u64 b, .int .u64 m] 232) = W3 at *
      clear hk3 d4 d5 d11 d12 hy
      refine wp_region_kept2 [] [0, 1, 2, 3, 4, 5, 6, 7, 8, 9, 10] 11 (by kernel_rfl) (by kernel_rfl) (fun c a d u w h => by cases d <;> exact h) ?_
      simp only [pick, List.getElem?_cons_succ, List.getElem?_cons_zero, List.drop_succ_cons, List.drop_zero]
      show wpKL _ _ _ _ _ _
      repeat (first
        | (refine wpKL_op (by exact rfl) (by as_aux_lemma => intro W hK; have e0 := hK.cell f4 (fun x => x); have e1 := hK.cell f11 (fun x => x); go_simp; exact rfl) ?_; simp only [Act.put, List.setIfInBounds_toArray, List.set_cons_succ, List.set_cons_zero])
        | (refine wpKL_off (by exact rfl) ?_; simp only [Act.put, List.setIfInBounds_toArray, List.set_cons_succ, List.set_cons_zero]))
      show ∀ W, _ → wpList _ _ _ _ _ _
      intro W4 hK4
      have HK4 := Lib.hid (HK3.out.trans hK4)
      have HB4 := Lib.hid (HB3.out.kp hK4 (fun x => x))
      have g5 := hK4.cell f5 (fun x => x)
      have g12 := hK4.cell f12 (fun x => x)
      clear hK4 f4 f5 f11 f12
      go_wp2_with fail
      refine wp_region_kept2 [] [0, 1, 2, 3, 4, 5, 6, 7, 8, 9, 10, 11, 12] 13 (by kernel_rfl) (by kernel_rfl) (fun c a d u w h => by cases d <;> exact h) ?_
      simp only [pick, List.getElem?_cons_succ, List.getElem?_cons_zero, List.drop_succ_cons, List.drop_zero]
      show wpKL _ _ _ _ _ _
      repeat (first
        | (refine wpKL_op (by exact rfl) (by as_aux_lemma => intro W hK; have e0 := hK.cell g5 (fun x => x); have e1 := hK.cell g12 (fun x => x); have e2 := HW.out; go_simp; exact rfl) ?_; simp only [Act.put, List.setIfInBounds_toArray, List.set_cons_succ, List.set_cons_zero])
        | (refine wpKL_off (by exact rfl) ?_; simp only [Act.put, List.setIfInBounds_toArray, List.set_cons_succ, List.set_cons_zero]))
      show ∀ W, _ → wpList _ _ _ _ _ _
      intro W5 hK5
      have HK5 := Lib.hid (HK4.out.trans hK5)
      have HB5 := Lib.hid (HB4.out.kp hK5 (fun x => x))
      clear hK5 g5 g12
      have y0 := HB5.out.cell 0 rfl
      have y1 := HB5.out.cell 1 rfl
      have y2 := HB5.out.cell 2 rfl
      go_wp2_with fail
      go_ret
      exact ⟨by rw [HR.out]; rfl, HK5.out⟩
    · have h5' : ¬ (Q : Int) < n := by omega
      have HR : Hid (fitR mtu n true P tp By tbt b m = 0) := by show _ = _; rw [hR0, if_neg h5]
      clear hR0 hRe h4 h5 hQe
      go_enter Tryz.func125, Tryz.ntmps125
      go_wp2_with fail
      refine (HG w (Kp.refl _ _)).mono ?_
      rintro e w2 ⟨rfl, hk2⟩
      have HK2 := Lib.hid hk2
      have d4 := hk2.cell c4 (fun x => x)
      have d5 := hk2.cell c5 (fun x => x)
      have d11 := hk2.cell c11 (fun x => x)
      have d12 := hk2.cell c12 (fun x => x)
      clear hk2 c4 c5 c7 c11 c12 c13 HG
      go_wp2_with fail
      have HB3 := Lib.hid (Blk.new w2 [.int .i64 p, .int .u64 b, .int .u64 m] 232)
      have hk3 := (Kp.refl none' w2).alloc (.cells #[.int .i64 p, .int .u64 b, .int .u64 m] 232)
      have HK3 := Lib.hid (HK2.out.trans hk3)
      have f4 := hk3.cell d4 (fun x => x)
      have f5 := hk3.cell d5 (fun x => x)
      have f11 := hk3.cell d11 (fun x => x)
      have f12 := hk3.cell d12 (fun x => x)
      obtain ⟨y, hy⟩ : ∃ y, w2.heap.size = y := ⟨_, rfl⟩
      rw [hy] at HB3 ⊢
      change Code.wp _ _ _ _ (w2.alloc (.cells #[.int .i64 p, .int .u64 b, .int .u64 m] 232))
      generalize w2.alloc (.cells #[.int .i64 p, .int .u64 b, .int .u64 m] 232) = W3 at *
      clear hk3 d4 d5 d11 d12 hy
      refine wp_region_kept2 [] [0, 1, 2, 3, 4, 5, 6, 7, 8, 9, 10] 11 (by kernel_rfl) (by kernel_rfl) (fun c a d u w h => by cases d <;> exact h) ?_
      simp only [pick, List.getElem?_cons_succ, List.getElem?_cons_zero, List.drop_succ_cons, List.drop_zero]
      show wpKL _ _ _ _ _ _
      repeat (first
        | (refine wpKL_op (by exact rfl) (by as_aux_lemma => intro W hK; have e0 := hK.cell f4 (fun x => x); have e1 := hK.cell f11 (fun x => x); go_simp; exact rfl) ?_; simp only [Act.put, List.setIfInBounds_toArray, List.set_cons_succ, List.set_cons_zero])
        | (refine wpKL_off (by exact rfl) ?_; simp only [Act.put, List.setIfInBounds_toArray, List.set_cons_succ, List.set_cons_zero]))
      show ∀ W, _ → wpList _ _ _ _ _ _
      intro W4 hK4
      have HK4 := Lib.hid (HK3.out.trans hK4)
      have HB4 := Lib.hid (HB3.out.kp hK4 (fun x => x))
      have g5 := hK4.cell f5 (fun x => x)
      have g12 := hK4.cell f12 (fun x => x)
      clear hK4 f4 f5 f11 f12
      go_wp2_with fail
      refine wp_region_kept2 [] [0, 1, 2, 3, 4, 5, 6, 7, 8, 9, 10, 11, 12] 13 (by kernel_rfl) (by kernel_rfl) (fun c a d u w h => by cases d <;> exact h) ?_
      simp only [pick, List.getElem?_cons_succ, List.getElem?_cons_zero, List.drop_succ_cons, List.drop_zero]
      show wpKL _ _ _ _ _ _
      repeat (first
        | (refine wpKL_op (by exact rfl) (by as_aux_lemma => intro W hK; have e0 := hK.cell g5 (fun x => x); have e1 := hK.cell g12 (fun x => x); have e2 := HW.out; go_simp; exact rfl) ?_; simp only [Act.put, List.setIfInBounds_toArray, List.set_cons_succ, List.set_cons_zero])
        | (refine wpKL_off (by exact rfl) ?_; simp only [Act.put, List.setIfInBounds_toArray, List.set_cons_succ, List.set_cons_zero]))
      show ∀ W, _ → wpList _ _ _ _ _ _
      intro W5 hK5
      have HK5 := Lib.hid (HK4.out.trans hK5)
      have HB5 := Lib.hid (HB4.out.kp hK5 (fun x => x))
      clear hK5 g5 g12
      have y0 := HB5.out.cell 0 rfl
      have y1 := HB5.out.cell 1 rfl
      have y2 := HB5.out.cell 2 rfl
      go_wp2_with fail
      go_ret
      exact ⟨by rw [HR.out]; rfl, HK5.out⟩
end Go.Proofs.YtfckgddodjmbdaaGreatDoor

namespace Go.Proofs.YtfckgddodjmbdaaGreatDoor
set_option linter.unusedVariables false
set_option linter.unusedSimpArgs false
open Go Go.RowKit Go.Shelf
open flowOwn (Th Tf)
def gC (g : Ga) (tb : Nat) : List Value := [.int .i64 g.c.rank, .int .i64 g.c.back, .int .i64 g.c.levels, .int .i64 g.c.queues, .int .i64 g.c.packets, .int .u64 g.c.bytes, .int .i64 g.c.share, .int .u64 g.c.mtu, .int .u64 g.c.rate, .int .u64 g.c.burst, .slice none 0 0, .int .i64 (sumP g.st), .int .u64 (sumB g.st), .pointer (some ⟨tb, 0, none⟩)]
def GMem (w : World) (F : Nat → Prop) (gb : Nat) (g : Ga) : Prop := ∃ Ft tb, F = (fun b => b = gb ∨ Ft b) ∧ Blk w gb (gC g tb) 236 ∧ Tf w Ft tb 64 (tabE g.c.flows g.st) ∧ ¬ Ft gb ∧ g.Ok
theorem GMem.kp {T : Nat → Prop} {w w' : World} {F : Nat → Prop} {gb : Nat} {g : Ga} (h : GMem w F gb g) (k : Kp T w w') (hT : ∀ b, F b → ¬ T b) : GMem w' F gb g := by
  obtain ⟨Ft, tb, rfl, hb, ht, hn, ok⟩ := h
  exact ⟨Ft, tb, rfl, hb.kp k (hT _ (.inl rfl)), ht.kp k (fun b h => hT b (.inr h)), hn, ok⟩
theorem GMem.old {w w' : World} {F : Nat → Prop} {gb : Nat} {g : Ga} (h : GMem w F gb g) (k : Kp none' w w') : GMem w' F gb g := h.kp k (fun _ _ x => x)
theorem GMem.lt {w : World} {F : Nat → Prop} {gb : Nat} {g : Ga} (h : GMem w F gb g) {b : Nat} (hb : F b) : b < w.heap.size := by
  obtain ⟨Ft, tb, rfl, hb', ht, hn, ok⟩ := h
  rcases hb with rfl | hb
  · exact hb'.lt
  · exact ht.lt hb
theorem GMem.ok {w : World} {F : Nat → Prop} {gb : Nat} {g : Ga} (h : GMem w F gb g) : g.Ok := by
  obtain ⟨_, _, _, _, _, _, ok⟩ := h; exact ok
theorem tab_calls {w : World} {Ft : Nat → Prop} {tb : Nat} {g : Ga} (ht : Tf w Ft tb 64 (tabE g.c.flows g.st)) (ok : g.Ok) (id : Nat) (hid : id < 4294967296) :
    ∃ p b m, (0 ≤ g.at id → p = (g.x id).p ∧ b = (g.x id).b ∧ m = (g.x id).m) ∧ b ≤ m ∧ m < 18446744073709551616 ∧ ∀ W, Kp none' w W → Calls Tryz.prog 105 #[.pointer (some ⟨tb, 0, none⟩), .int .u32 id] W fun e w' => e = .returned (.tuple #[.agg #[.int .i64 p, .int .u64 (b : Nat), .int .u64 (m : Nat)], .bool (decide (0 ≤ g.at id))]) ∧ Kp none' W w' := by
  have hg := tab_get ok.len ok.nod.1 id
  by_cases h0 : 0 ≤ g.at id
  · have h1 := hg.1 h0
    have hm := ok.own _ (ok.x_mem h0)
    have hcap : (g.x id).m < 18446744073709551616 := by
      obtain ⟨h2, h3⟩ := ok.x_get h0
      have hl : (g.at id).toNat < g.c.flows.length := by rw [← ok.len]; exact h2
      have := ok.caps _ _ _ (List.getElem?_eq_getElem h2) (List.getElem?_eq_getElem hl)
      rw [h3, this]
      exact (ok.cok.flows _ (List.getElem_mem hl)).cap
    refine ⟨_, _, _, fun _ => ⟨rfl, rfl, rfl⟩, hm.2, hcap, fun W k => ?_⟩
    rw [decide_eq_true h0]
    exact flowOwn.bGet (ht.old k) id hid (g.x id) h1
  · have h1 := hg.2 (by show g.at id < 0; omega)
    refine ⟨0, 0, 0, fun h => absurd h h0, Nat.le_refl _, by omega, fun W k => ?_⟩
    rw [decide_eq_false h0]
    exact flowOwn.bGetNone (ht.old k) id hid h1
theorem fit_R (g : Ga) (id n : Nat) (p : Int) (b m : Nat) (h : 0 ≤ g.at id → p = (g.x id).p ∧ b = (g.x id).b ∧ m = (g.x id).m) : fitR g.c.mtu n (decide (0 ≤ g.at id)) g.c.packets (sumP g.st) g.c.bytes (sumB g.st) b m = fitG g id n := by
  unfold fitR fitG
  split
  · rfl
  · by_cases h0 : 0 ≤ g.at id
    · obtain ⟨_, rfl, rfl⟩ := h h0
      rw [decide_eq_true h0, if_neg (by simp), if_neg (show ¬ g.at id < 0 by omega)]
    · rw [decide_eq_false h0, if_pos rfl, if_pos (show g.at id < 0 by omega)]
theorem gFits {w : World} {F : Nat → Prop} {gb : Nat} {g : Ga} (h : GMem w F gb g) (id n : Nat) (hid : id < 4294967296) :
    Calls Tryz.prog 125 #[.pointer (some ⟨gb, 0, none⟩), .int .u32 id, .int .u64 n] w fun e w' => e = .returned (.int .i64 (fitG g id n)) ∧ Kp none' w w' := by
  obtain ⟨Ft, tb, rfl, hb, ht, hn, ok⟩ := h
  obtain ⟨p, b, m, hx, hbm, hm, hG⟩ := tab_calls ht ok id hid
  rw [← fit_R g id n p b m hx]
  exact gFitsR _ _ _ _ _ id n p b m _ (hb.cell 4 rfl) (hb.cell 5 rfl) (hb.cell 7 rfl) (hb.cell 11 rfl) (hb.cell 12 rfl) (hb.cell 13 rfl) hG ok.bts ok.cok.bytes hbm hm
set_option maxRecDepth 100000 in
set_option maxHeartbeats 2000000 in
theorem gTotal {w : World} {F : Nat → Prop} {gb : Nat} {g : Ga} (h : GMem w F gb g) :
    Calls Tryz.prog 81 #[.pointer (some ⟨gb, 0, none⟩)] w fun e w' => e = .returned (.tuple #[.int .i64 (sumP g.st), .int .u64 (sumB g.st)]) ∧ Kp none' w w' := by
  obtain ⟨Ft, tb, rfl, hb, ht, hn, ok⟩ := h
  have c11 := hb.cell 11 rfl
  have c12 := hb.cell 12 rfl
  generalize sumP g.st = P at *
  generalize sumB g.st = S at *
  clear hb ht hn ok
  go_enter Tryz.func81, Tryz.ntmps81
  go_wp2_with fail
  go_region
  all_goals
    go_wp2_with fail
    go_ret2
    exact ⟨rfl, (Kp.refl none' w).drew⟩
set_option maxRecDepth 100000 in
set_option maxHeartbeats 2000000 in
theorem gMayR {w : World} {gb tb : Nat} (By tbt id n s : Nat) (p : Int) (b m : Nat) (is : Bool) (ft : Int) (c5 : w.cell? ⟨gb, 5, none⟩ = some (.int .u64 By)) (c6 : w.cell? ⟨gb, 6, none⟩ = some (.int .i64 s)) (c12 : w.cell? ⟨gb, 12, none⟩ = some (.int .u64 tbt)) (c13 : w.cell? ⟨gb, 13, none⟩ = some (.pointer (some ⟨tb, 0, none⟩)))
    (HF : Calls Tryz.prog 125 #[.pointer (some ⟨gb, 0, none⟩), .int .u32 id, .int .u64 n] w fun e w' => e = .returned (.int .i64 ft) ∧ Kp none' w w')
    (HG : ∀ W, Kp none' w W → Calls Tryz.prog 105 #[.pointer (some ⟨tb, 0, none⟩), .int .u32 id] W fun e w' => e = .returned (.tuple #[.agg #[.int .i64 p, .int .u64 b, .int .u64 m], .bool is]) ∧ Kp none' W w') (hle : tbt ≤ By) (hby : By < 18446744073709551616) (hs : s ≤ 16) :
    Calls Tryz.prog 100 #[.pointer (some ⟨gb, 0, none⟩), .int .u32 id, .int .u64 n] w fun e w' => e = .returned (.int .i64 (if ft ≠ 0 then ft else if shN (By - tbt) s ≤ b then 17 else 0)) ∧ Kp none' w w' := by
  have HF := Lib.hid HF
  by_cases h0 : ft = 0
  · subst h0
    obtain ⟨R, hRe⟩ : ∃ R, By - tbt = R := ⟨_, rfl⟩
    have hRi : (By : Int) - tbt = (R : Int) := by omega
    have HW : Hid (IntKind.u64.wrap (R : Int) = (R : Int)) := by show _ = _; rw [IntKind.wrap_u64]; omega
    have HS := Lib.hid (fun W => sShift R s (by omega) hs W)
    rw [hRe]
    obtain ⟨T, hT⟩ : ∃ T, shN R s = T := ⟨_, rfl⟩
    rw [hT] at HS ⊢
    obtain ⟨r, hr⟩ : ∃ r : Int, (if (0 : Int) ≠ 0 then (0 : Int) else if T ≤ b then 17 else 0) = r := ⟨_, rfl⟩
    rw [hr]
    have hr : r = if T ≤ b then 17 else 0 := by rw [← hr, if_neg (by simp)]
    clear hRe hT
    have HR := Lib.hid hr
    clear hr
    go_enter Tryz.func100, Tryz.ntmps100
    go_wp2_with fail
    refine HF.out.mono ?_
    rintro e w1 ⟨rfl, hk1⟩
    have HK1 := Lib.hid hk1
    have d5 := hk1.cell c5 (fun x => x)
    have d6 := hk1.cell c6 (fun x => x)
    have d12 := hk1.cell c12 (fun x => x)
    have d13 := hk1.cell c13 (fun x => x)
    have HG1 := Lib.hid (fun W (k : Kp none' w1 W) => HG W (hk1.trans k))
    clear hk1 c5 c6 c12 c13 HG
    go_wp2_with fail
    refine (HG1.out _ (Kp.refl _ _)).mono ?_
    rintro e w2 ⟨rfl, hk2⟩
    have HK2 := Lib.hid (HK1.out.trans hk2)
    have e5 := hk2.cell d5 (fun x => x)
    have e6 := hk2.cell d6 (fun x => x)
    have e12 := hk2.cell d12 (fun x => x)
    clear hk2 d5 d6 d12 d13
    go_wp2_with fail
    have HB3 := Lib.hid (Blk.new w2 [.int .i64 p, .int .u64 b, .int .u64 m] 232)
    have hk3 := (Kp.refl none' w2).alloc (.cells #[.int .i64 p, .int .u64 b, .int .u64 m] 232)
    have HK3 := Lib.hid (HK2.out.trans hk3)
    have f5 := hk3.cell e5 (fun x => x)
    have f6 := hk3.cell e6 (fun x => x)
    have f12 := hk3.cell e12 (fun x => x)
    obtain ⟨y, hy⟩ : ∃ y, w2.heap.size = y := ⟨_, rfl⟩
    rw [hy] at HB3 ⊢
    change Code.wp _ _ _ _ (w2.alloc (.cells #[.int .i64 p, .int .u64 b, .int .u64 m] 232))
    generalize w2.alloc (.cells #[.int .i64 p, .int .u64 b, .int .u64 m] 232) = W3 at *
    clear hk3 e5 e6 e12 hy
    have x1 := HB3.out.cell 1 rfl
    refine wp_region_kept2 [] [0, 1, 2, 3, 4, 5, 6, 7, 8, 9, 10, 11, 12, 13, 14, 15, 16, 17, 18, 19] 20 (by kernel_rfl) (by kernel_rfl) (fun c a d u w h => by cases d <;> exact h) ?_
    simp only [pick, List.getElem?_cons_succ, List.getElem?_cons_zero, List.drop_succ_cons, List.drop_zero]
    show wpKL _ _ _ _ _ _
    repeat (first
      | (refine wpKL_op (by exact rfl) (by as_aux_lemma => intro W hK; have g0 := hK.cell f5 (fun x => x); have g1 := hK.cell f6 (fun x => x); have g2 := hK.cell f12 (fun x => x); have g3 := hK.cell x1 (fun x => x); have g4 := HW.out; go_simp; exact rfl) ?_; simp only [Act.put, List.setIfInBounds_toArray, List.set_cons_succ, List.set_cons_zero])
      | (refine wpKL_off (by exact rfl) ?_; simp only [Act.put, List.setIfInBounds_toArray, List.set_cons_succ, List.set_cons_zero])
      | (refine wpKL_call (by exact rfl) (by as_aux_lemma => intro W; go_simp; exact ⟨rfl, rfl⟩) (by intro W hK; with_reducible first | exact (HS.out W).mono fun _ _ h => ⟨h.1, h.2 ▸ Kp.refl _ _⟩) ?_; simp only [Act.put, List.setIfInBounds_toArray, List.set_cons_succ, List.set_cons_zero]))
    show ∀ W, _ → wpList _ _ _ _ _ _
    intro W4 hK4
    have HK4 := Lib.hid (HK3.out.trans hK4)
    clear hK4 f5 f6 f12 x1
    by_cases h2 : T ≤ b
    · have h2' : (T : Int) ≤ b := by omega
      have h2d : decide (T ≤ b) = true := by simpa using h2
      have HRR := Lib.hid (HR.out.trans (if_pos h2))
      go_wp2_with fail
      go_ret
      exact ⟨by rw [HRR.out]; rfl, HK4.out⟩
    · have h2' : ¬ (T : Int) ≤ b := by omega
      have h2d : decide (T ≤ b) = false := by simpa using h2
      have HRR := Lib.hid (HR.out.trans (if_neg h2))
      go_wp2_with fail
      go_ret
      exact ⟨by rw [HRR.out]; rfl, HK4.out⟩
  · rw [if_pos h0]
    have h0' : (ft != 0) = true := by simpa using h0
    clear c5 c6 c12 c13 HG
    go_enter Tryz.func100, Tryz.ntmps100
    go_wp2_with fail
    refine HF.out.mono ?_
    rintro e w1 ⟨rfl, hk1⟩
    have HK1 := Lib.hid hk1
    clear hk1
    go_wp2_with fail
    go_ret
    exact ⟨rfl, HK1.out⟩

theorem gMay {w : World} {F : Nat → Prop} {gb : Nat} {g : Ga} (h : GMem w F gb g) (id n : Nat) (hid : id < 4294967296) :
    Calls Tryz.prog 100 #[.pointer (some ⟨gb, 0, none⟩), .int .u32 id, .int .u64 n] w fun e w' => e = .returned (.int .i64 (mayG g id n)) ∧ Kp none' w w' := by
  have hF := gFits h id n hid
  obtain ⟨Ft, tb, rfl, hb, ht, hn, ok⟩ := h
  obtain ⟨p, b, m, hx, hbm, hm, hG⟩ := tab_calls ht ok id hid
  obtain ⟨s, hs⟩ : ∃ s : Nat, g.c.share = s := ⟨g.c.share.toNat, by have := ok.lims; omega⟩
  have hsh : g.c.share.toNat = s := by omega
  have hs16 : s ≤ 16 := by have := ok.lims; omega
  have c6 := hb.cell 6 rfl
  rw [hs] at c6
  refine (gMayR _ _ id n s p b m _ (fitG g id n) (hb.cell 5 rfl) c6 (hb.cell 12 rfl) (hb.cell 13 rfl) hF hG ok.bts ok.cok.bytes hs16).mono ?_
  rintro e w' ⟨rfl, hk⟩
  refine ⟨?_, hk⟩
  unfold mayG
  rw [hsh]
  by_cases h0 : fitG g id n = 0
  · have hat : 0 ≤ g.at id := by
      by_cases ha : 0 ≤ g.at id
      · exact ha
      · exfalso
        unfold fitG at h0
        split at h0
        · omega
        · rw [if_pos (by omega)] at h0; omega
    rw [(hx hat).2.1]
  · rw [if_pos h0, if_pos h0]
theorem put_tab {g : Ga} (ok : g.Ok) {id : Nat} (h0 : 0 ≤ g.at id) (x : Th) : flowOwn.setF id x (tabE g.c.flows g.st) = tabE (g.put id x).c.flows (g.put id x).st := tab_set ok.len ok.nod.1 id x h0
set_option maxRecDepth 100000 in
set_option maxHeartbeats 1000000 in
theorem gInR {w : World} {Ft : Nat → Prop} {gb tb : Nat} {cs : List Value} {E : List (Nat × Th)} (tp : Int) (tbt id n : Nat) (p : Int) (b m : Nat) (hid : id < 4294967296) (hb : Blk w gb cs 236) (h11 : cs[11]? = some (.int .i64 tp)) (h12 : cs[12]? = some (.int .u64 tbt)) (h13 : cs[13]? = some (.pointer (some ⟨tb, 0, none⟩))) (ht : Tf w Ft tb 64 E) (hn : ¬ Ft gb) (hx : (id, (⟨p, b, m⟩ : Th)) ∈ E)
    (hp : 0 ≤ p ∧ p ≤ 100000) (htp : 0 ≤ tp ∧ tp ≤ 100000) (hbb : b + n < 18446744073709551616) (htb : tbt + n < 18446744073709551616) :
    Calls Tryz.prog 101 #[.pointer (some ⟨gb, 0, none⟩), .int .u32 id, .int .u64 n] w fun e w' => e = .returned (.tuple #[]) ∧ Blk w' gb ((cs.set 11 (.int .i64 (tp + 1))).set 12 (.int .u64 ((tbt : Int) + n))) 236 ∧ Tf w' Ft tb 64 (flowOwn.setF id ⟨p + 1, b + n, m⟩ E) ∧ Kp (fun z => z = gb ∨ Ft z) w w' := by
  have HG := Lib.hid (fun W (k : Kp none' w W) => flowOwn.bGet (ht.old k) id hid ⟨p, b, m⟩ hx)
  have HSet := Lib.hid (fun W (k : Tf W Ft tb 64 E) => flowOwn.bSet k id hid ⟨p + 1, b + n, m⟩ ⟨p, b, m⟩ hx)
  have HT := Lib.hid ht
  have HB := Lib.hid hb
  have HN := Lib.hid hn
  have H11 := Lib.hid h11
  have H12 := Lib.hid h12
  have H13 := Lib.hid h13
  clear ht hb hn hx h11 h12 h13
  have hw1 : IntKind.u64.wrap ((b : Int) + n) = (b : Int) + n := by rw [IntKind.wrap_u64]; omega
  have c13 := HB.out.cell 13 H13.out
  go_enter Tryz.func101, Tryz.ntmps101
  go_wp2_with fail
  refine (HG.out w (Kp.refl _ _)).mono ?_
  rintro e w1 ⟨rfl, hk1⟩
  have HB1 := Lib.hid (HB.out.kp hk1 (fun x => x))
  have HT1 := Lib.hid (HT.out.old hk1)
  have HK1 := Lib.hid hk1
  clear hk1 c13
  go_wp2_with fail
  refine (gPlus p b n (by omega) (by omega) _).mono ?_
  rintro e w2 ⟨rfl, hk2⟩
  have HY2 := Lib.hid ((Blk.new w1 [.int .i64 p, .int .u64 b, .int .u64 m] 232).kp hk2 (fun x => x))
  have hk2' := ((Kp.refl none' w1).alloc (.cells #[.int .i64 p, .int .u64 b, .int .u64 m] 232)).trans hk2
  have HB2 := Lib.hid (HB1.out.kp hk2' (fun x => x))
  have HT2 := Lib.hid (HT1.out.old hk2')
  have HK2 := Lib.hid (HK1.out.trans hk2')
  have hyl : w1.heap.size < w2.heap.size := HY2.out.lt
  have hy0 : w.heap.size ≤ w1.heap.size := HK1.out.size
  clear hk2 hk2'
  obtain ⟨y, hy⟩ : ∃ y, w1.heap.size = y := ⟨_, rfl⟩
  rw [hy] at HY2 hyl hy0 ⊢
  have y0 := HY2.out.cell 0 rfl
  have y1 := HY2.out.cell 1 rfl
  have yf := fun j => HY2.out.fz j
  clear hy
  go_wp2_with fail
  have hygb : y ≠ gb := fun e => blk_ne HY2.out HB2.out (by decide) e
  have hywb : ¬ Ft y := fun e => by have := HT.out.lt e; omega
  have HY3 := Lib.hid ((HY2.out.set 0 (.int .i64 (p + 1))).set 1 (.int .u64 ((b : Int) + n)))
  have hks : Kp (fun z => z = y) w2 ((w2.setCell ⟨y, 0, none⟩ (.int .i64 (p + 1))).setCell ⟨y, 1, none⟩ (.int .u64 ((b : Int) + n))) := ((Kp.refl (fun z => z = y) w2).set (p := ⟨y, 0, none⟩) (.inl rfl) _).set (p := ⟨y, 1, none⟩) (.inl rfl) _
  have HB3 := Lib.hid (HB2.out.kp hks (fun e => hygb e.symm))
  have HT3 := Lib.hid (HT2.out.kp hks (fun z hz e => hywb (by rw [← e]; exact hz)))
  have HK3 : Hid (Kp none' w _) := Lib.hid (HK2.out.then hks (fun z hz e => by omega))
  clear hks y0 y1 yf
  generalize (w2.setCell ⟨y, 0, none⟩ (.int .i64 (p + 1))).setCell ⟨y, 1, none⟩ (.int .u64 ((b : Int) + n)) = W3 at *
  have z0 := HY3.out.cell 0 rfl
  have z1 := HY3.out.cell 1 rfl
  have z2 := HY3.out.cell 2 rfl
  have b13 := HB3.out.cell 13 H13.out
  refine wp_region_kept2 [] [0, 1, 2, 3, 4, 5] 6 (by kernel_rfl) (by kernel_rfl) (fun c a d u w h => by cases d <;> exact h) ?_
  simp only [pick, List.getElem?_cons_succ, List.getElem?_cons_zero, List.drop_succ_cons, List.drop_zero]
  show wpKL _ _ _ _ _ _
  repeat (first
    | (refine wpKL_op (by exact rfl) (by as_aux_lemma => intro W hK; have e0 := hK.cell z0 (fun x => x); have e1 := hK.cell z1 (fun x => x); have e2 := hK.cell z2 (fun x => x); have e3 := hK.cell b13 (fun x => x); go_simp; exact rfl) ?_; simp only [Act.put, List.setIfInBounds_toArray, List.set_cons_succ, List.set_cons_zero])
    | (refine wpKL_off (by exact rfl) ?_; simp only [Act.put, List.setIfInBounds_toArray, List.set_cons_succ, List.set_cons_zero]))
  show ∀ W, _ → wpList _ _ _ _ _ _
  intro W4 hK4
  have HB4 := Lib.hid (HB3.out.kp hK4 (fun x => x))
  have HT4 := Lib.hid (HT3.out.old hK4)
  have HK4 := Lib.hid (HK3.out.trans hK4)
  clear hK4 z0 z1 z2 b13
  go_wp2_with fail
  refine (HSet.out W4 HT4.out).mono ?_
  rintro e w5 ⟨rfl, ht5, hk5⟩
  have HB5 := Lib.hid (HB4.out.kp hk5 HN.out)
  have HT5 := Lib.hid ht5
  have HK5 : Hid (Kp Ft w w5) := Lib.hid ((HK4.out.mono (fun _ _ x => x.elim)).trans hk5)
  clear ht5 hk5
  have b11 := HB5.out.cell 11 H11.out
  have b12 := HB5.out.cell 12 H12.out
  go_wp2_with fail
  refine (gPlus tp tbt n (by omega) (by omega) _).mono ?_
  rintro e w6 ⟨rfl, hk6⟩
  have HB6 := Lib.hid (HB5.out.kp hk6 (fun x => x))
  have HT6 := Lib.hid (HT5.out.old hk6)
  have HK6 : Hid (Kp Ft w w6) := Lib.hid (HK5.out.trans (hk6.mono (fun _ _ x => x.elim)))
  clear hk6 b11 b12
  have b11 := HB6.out.cell 11 H11.out
  have b12 := HB6.out.cell 12 H12.out
  have bf := fun j => HB6.out.fz j
  go_wp2_with fail
  go_end0
  have hks : Kp (fun z => z = gb) w6 ((w6.setCell ⟨gb, 11, none⟩ (.int .i64 (tp + 1))).setCell ⟨gb, 12, none⟩ (.int .u64 ((tbt : Int) + n))) := ((Kp.refl (fun z => z = gb) w6).set (p := ⟨gb, 11, none⟩) (.inl rfl) _).set (p := ⟨gb, 12, none⟩) (.inl rfl) _
  refine ⟨rfl, (HB6.out.set 11 _).set 12 _, (HT6.out.kp hks (fun z hz e => HN.out (by rw [← e]; exact hz))), ?_⟩
  exact (HK6.out.mono (fun z _ hz => .inr hz)).trans (hks.mono (fun z _ hz => .inl hz))
theorem gLay {w : World} {F : Nat → Prop} {gb : Nat} {g : Ga} (h : GMem w F gb g) (id n : Nat) (hid : id < 4294967296) (h0 : 0 ≤ g.at id) (hok : (g.lay id n).Ok) :
    Calls Tryz.prog 101 #[.pointer (some ⟨gb, 0, none⟩), .int .u32 id, .int .u64 n] w fun e w' => e = .returned (.tuple #[]) ∧ GMem w' F gb (g.lay id n) ∧ Kp F w w' := by
  obtain ⟨Ft, tb, rfl, hb, ht, hn, ok⟩ := h
  have hmem := (tab_get ok.len ok.nod.1 id).1 h0
  have hst := put_tab ok h0 ⟨(g.x id).p + 1, (g.x id).b + n, (g.x id).m⟩
  have hxb := ok.own _ (ok.x_mem h0)
  have hpl := mem_le_sumP (fun y hy => (ok.own y hy).1) (ok.x_mem h0)
  have hbl := mem_le_sumB (ok.x_mem h0)
  obtain ⟨h2, h3⟩ := ok.x_get h0
  have hsP : sumP (g.lay id n).st = sumP g.st + 1 := by
    show sumP (g.st.set _ _) = _
    rw [sumP_set _ _ _ h2, ← h3]; simp only; omega
  have hsB : sumB (g.lay id n).st = sumB g.st + n := by
    have := sumB_set g.st (g.at id).toNat ⟨(g.x id).p + 1, (g.x id).b + n, (g.x id).m⟩ h2
    rw [← h3] at this
    show sumB (g.st.set _ _) = _
    simp only at this
    omega
  have hlb : sumB g.st + n < 18446744073709551616 := by
    have h4 := hok.bts
    have h5 := hok.cok.bytes
    rw [hsB] at h4
    have h6 : (g.lay id n).c = g.c := rfl
    rw [h6] at h4 h5
    unfold M64 at h5; omega
  have hlp : sumP g.st ≤ 4096 := by have := ok.pks; have := ok.lims; omega
  refine (gInR (sumP g.st) (sumB g.st) id n (g.x id).p (g.x id).b (g.x id).m hid hb rfl rfl rfl ht hn hmem ⟨hxb.1, by omega⟩ ⟨by omega, by omega⟩ (by omega) hlb).mono ?_
  rintro e w' ⟨he, h7, h8, h9⟩
  refine ⟨he, ⟨Ft, tb, rfl, ?_, by rw [hst] at h8; exact h8, hn, hok⟩, h9⟩
  have e : gC (g.lay id n) tb = (((gC g tb).set 11 (.int .i64 (sumP g.st + 1))).set 12 (.int .u64 ((sumB g.st : Int) + n))) := by
    unfold gC
    rw [hsP, hsB]
    simp [Ga.lay, Ga.put]
  rw [e]; exact h7
end Go.Proofs.YtfckgddodjmbdaaGreatDoor
