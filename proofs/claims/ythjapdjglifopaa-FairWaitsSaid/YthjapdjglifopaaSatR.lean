/- Walks of layer 1, the document's: wide numbers added, capped. -/
import Derived.Test.YthjapdjglifopaaSatQ
import Derived.Deep.QuietTactic
import Derived.BigQuiet
namespace Go.Proofs.Ythjapdjglifopaa
set_option linter.unusedVariables false
set_option linter.unusedSimpArgs false
open Go.RowKit Go.Shelf

def wq (a b c d : Int) : List Value := [.int .u64 a, .int .u64 b, .int .u64 c, .int .u64 d]
theorem wRet {f : Func} {s : Tmp} (hf : f.results = #[.cell s 93]) {W w : World} {c : Nat} {a b e d : Int} {T : Array Value} (hb : Blk W c (wq a b e d) 93) (hk : Kp none' w W) (h2 : T[s]? = some (.pointer (some ⟨c, 0, none⟩))) :
    bodyPost Try.prog f (fun e' w' => e' = .returned (.agg (wq a b e d).toArray) ∧ Kp none' w w') Exit.ret { tmps := T, defers := [] } W := by
  have c0 := hb.cell 0 rfl
  have c1 := hb.cell 1 rfl
  have c2 := hb.cell 2 rfl
  have c3 := hb.cell 3 rfl
  exact bodyPost_ret (v := .agg (wq a b e d).toArray) (by simp [results, hf, go_sem, c0, c1, c2, c3, h2, wq]) rfl ⟨rfl, hk⟩
set_option maxHeartbeats 1000000 in
theorem rWide (a : Nat) (ha : a < 18446744073709551616) (w : World) : Calls Try.prog 59 #[.int .u64 a] w fun e w' => e = .returned (.agg (wq ((a : Int) % 4294967296) ((a : Int) / 4294967296) 0 0).toArray) ∧ Kp none' w w' := by
  go_enter Try.func59, Try.ntmps59
  go_wp2
  exact wRet Try.results59 (Blk.new w (wq _ _ _ _) _) ((Kp.refl _ _).alloc _) rfl

set_option maxRecDepth 100000 in
set_option maxHeartbeats 4000000 in
theorem rPlus (a0 a1 a2 a3 b0 b1 b2 b3 : Nat) (ha0 : a0 < 4294967296) (ha1 : a1 < 4294967296) (ha2 : a2 < 4294967296) (ha3 : a3 < 4294967296) (hb0 : b0 < 4294967296) (hb1 : b1 < 4294967296) (hb2 : b2 < 4294967296) (hb3 : b3 < 4294967296) (w : World) :
    Calls Try.prog 58 #[.agg (wq a0 a1 a2 a3).toArray, .agg (wq b0 b1 b2 b3).toArray] w fun e w' => e = .returned (.agg (wq (((a0 : Int) + b0) % 4294967296) (((a1 : Int) + b1 + ((a0 : Int) + b0) / 4294967296) % 4294967296)
      (((a2 : Int) + b2 + ((a1 : Int) + b1 + ((a0 : Int) + b0) / 4294967296) / 4294967296) % 4294967296) (((a3 : Int) + b3 + ((a2 : Int) + b2 + ((a1 : Int) + b1 + ((a0 : Int) + b0) / 4294967296) / 4294967296) / 4294967296) % 4294967296)).toArray) ∧ Kp none' w w' := by
  unfold wq
  go_enter Try.func58, Try.ntmps58
  go_wp2
  refine wp_loop_rounds 5 ?_
  rw [rounds_succ]
  go_wp2
  go_quiet (fail)
  go_wp2
  rw [rounds_succ]
  go_wp2
  go_quiet (fail)
  go_wp2
  rw [rounds_succ]
  go_wp2
  go_quiet (fail)
  go_wp2
  rw [rounds_succ]
  go_wp2
  go_quiet (fail)
  go_wp2
  rw [rounds_succ]
  go_wp2
  have B0 : Blk ((((w.alloc (.cells (wq a0 a1 a2 a3).toArray 93)).alloc (.cells (wq b0 b1 b2 b3).toArray 93)).alloc (.cells (wq 0 0 0 0).toArray 93)).alloc (.cells (wq 0 0 0 0).toArray 93)) (w.heap.size + 1 + 1) (wq 0 0 0 0) 93 := by
    have := (Blk.new ((w.alloc (.cells (wq a0 a1 a2 a3).toArray 93)).alloc (.cells (wq b0 b1 b2 b3).toArray 93)) (wq 0 0 0 0) 93).alloc (.cells (wq 0 0 0 0).toArray 93)
    simpa only [World.size_alloc] using this
  have K0 := ((((Kp.refl none' w).alloc (.cells (wq a0 a1 a2 a3).toArray 93)).alloc (.cells (wq b0 b1 b2 b3).toArray 93)).alloc (.cells (wq 0 0 0 0).toArray 93)).alloc (.cells (wq 0 0 0 0).toArray 93)
  exact wRet Try.results58 ((((((((((((B0.drewN _).setNe (a := ⟨w.heap.size + 1 + 1 + 1, 0, none⟩) (by simp) _).drewN _).setNe (a := ⟨w.heap.size + 1 + 1 + 1, 1, none⟩) (by simp) _).drewN _).setNe (a := ⟨w.heap.size + 1 + 1 + 1, 2, none⟩) (by simp) _).drewN _).setNe (a := ⟨w.heap.size + 1 + 1 + 1, 3, none⟩) (by simp) _).set 0 _).set 1 _).set 2 _).set 3 _) ((((((((((((K0.drewN _).set (p := ⟨w.heap.size + 1 + 1 + 1, 0, none⟩) (Or.inr (by simp only; omega)) _).drewN _).set (p := ⟨w.heap.size + 1 + 1 + 1, 1, none⟩) (Or.inr (by simp only; omega)) _).drewN _).set (p := ⟨w.heap.size + 1 + 1 + 1, 2, none⟩) (Or.inr (by simp only; omega)) _).drewN _).set (p := ⟨w.heap.size + 1 + 1 + 1, 3, none⟩) (Or.inr (by simp only; omega)) _).set (p := ⟨w.heap.size + 1 + 1, 0, none⟩) (Or.inr (by simp only; omega)) _).set (p := ⟨w.heap.size + 1 + 1, 1, none⟩) (Or.inr (by simp only; omega)) _).set (p := ⟨w.heap.size + 1 + 1, 2, none⟩) (Or.inr (by simp only; omega)) _).set (p := ⟨w.heap.size + 1 + 1, 3, none⟩) (Or.inr (by simp only; omega)) _) rfl

theorem rPlus2 (x0 x1 y0 y1 k0 c0 k1 c1 : Nat) (hx0 : x0 < 4294967296) (hx1 : x1 < 4294967296) (hy0 : y0 < 4294967296) (hy1 : y1 < 4294967296) (h3 : x0 + y0 = k0 * 4294967296 + c0) (hc0 : c0 < 4294967296) (h4 : x1 + y1 + k0 = k1 * 4294967296 + c1) (hc1 : c1 < 4294967296) (w : World) :
    Calls Try.prog 58 #[.agg (wq x0 x1 0 0).toArray, .agg (wq y0 y1 0 0).toArray] w fun e w' => e = .returned (.agg (wq c0 c1 k1 0).toArray) ∧ Kp none' w w' := by
  have h := rPlus x0 x1 0 0 y0 y1 0 0 hx0 hx1 (by omega) (by omega) hy0 hy1 (by omega) (by omega) w
  have e0 : ((x0 : Int) + y0) % 4294967296 = c0 := by omega
  have f0 : ((x0 : Int) + y0) / 4294967296 = k0 := by omega
  have e1 : ((x1 : Int) + y1 + k0) % 4294967296 = c1 := by omega
  have f1 : ((x1 : Int) + y1 + k0) / 4294967296 = k1 := by omega
  have e2 : (((0 : Nat) : Int) + ((0 : Nat) : Int) + k1) % 4294967296 = k1 := by omega
  have f2 : (((0 : Nat) : Int) + ((0 : Nat) : Int) + k1) / 4294967296 = 0 := by omega
  have e3 : (((0 : Nat) : Int) + ((0 : Nat) : Int) + 0) % 4294967296 = 0 := by omega
  rw [e0, f0, e1, f1, e2, f2, e3] at h
  exact h
set_option maxHeartbeats 2000000 in
theorem rCapLow (c d : Nat) (hc : c < 4294967296) (hd : d < 4294967296) (w : World) : Calls Try.prog 46 #[.agg (wq d c 0 0).toArray] w fun e w' => e = .returned (.int .u64 ((c : Int) * 4294967296 + d)) ∧ Kp none' w w' := by
  unfold wq
  go_enter Try.func46, Try.ntmps46
  go_wp2
  go_ret
  exact ⟨rfl, (Kp.refl _ _).alloc _⟩
set_option maxHeartbeats 2000000 in
theorem rCapHigh (c d k : Nat) (hk : 0 < k) (w : World) : Calls Try.prog 46 #[.agg (wq d c k 0).toArray] w fun e w' => e = .returned (.int .u64 18446744073709551615) ∧ Kp none' w w' := by
  unfold wq
  have hkb : ((k : Int) != 0) = true := by rw [bne_iff_ne]; omega
  go_enter Try.func46, Try.ntmps46
  go_wp2
  go_ret
  exact ⟨rfl, (Kp.refl _ _).alloc _⟩
set_option maxHeartbeats 2000000 in
theorem rAdd (a b : Nat) (ha : a < 18446744073709551616) (hb : b < 18446744073709551616) (w : World) : Calls Try.prog 38 #[.int .u64 a, .int .u64 b] w fun e w' => e = .returned (.int .u64 (satN a b)) ∧ Kp none' w w' := by
  have hA := fun W => rWide a ha W
  have hB := fun W => rWide b hb W
  obtain ⟨x0, x1, hx, hx0, hx1⟩ : ∃ x0 x1 : Nat, a = x1 * 4294967296 + x0 ∧ x0 < 4294967296 ∧ x1 < 4294967296 := ⟨a % 4294967296, a / 4294967296, by omega, by omega, by omega⟩
  obtain ⟨y0, y1, hy, hy0, hy1⟩ : ∃ x0 x1 : Nat, b = x1 * 4294967296 + x0 ∧ x0 < 4294967296 ∧ x1 < 4294967296 := ⟨b % 4294967296, b / 4294967296, by omega, by omega, by omega⟩
  obtain ⟨k0, c0, h3, hc0⟩ : ∃ k c : Nat, x0 + y0 = k * 4294967296 + c ∧ c < 4294967296 := ⟨(x0 + y0) / 4294967296, (x0 + y0) % 4294967296, by omega, by omega⟩
  obtain ⟨k1, c1, h4, hc1⟩ : ∃ k c : Nat, x1 + y1 + k0 = k * 4294967296 + c ∧ c < 4294967296 := ⟨(x1 + y1 + k0) / 4294967296, (x1 + y1 + k0) % 4294967296, by omega, by omega⟩
  have e1 : (a : Int) % 4294967296 = x0 := by omega
  have e2 : (a : Int) / 4294967296 = x1 := by omega
  have e3 : (b : Int) % 4294967296 = y0 := by omega
  have e4 : (b : Int) / 4294967296 = y1 := by omega
  rw [e1, e2] at hA
  rw [e3, e4] at hB
  have HA := Lib.hid hA; have HB := Lib.hid hB
  have HP := Lib.hid (rPlus2 x0 x1 y0 y1 k0 c0 k1 c1 hx0 hx1 hy0 hy1 h3 hc0 h4 hc1)
  by_cases hk : k1 = 0
  · have HS := Lib.hid (satN_low a b x0 x1 y0 y1 hx hy k0 c0 k1 c1 h3 hc0 h4 hc1 hk)
    subst hk
    have HC := Lib.hid (rCapLow c1 c0 hc1 hc0)
    clear hA hB e1 e2 e3 e4 hx hy h3 h4
    go_enter Try.func38, Try.ntmps38
    go_wp2_with fail
    refine (HA.out _).mono ?_
    rintro e w1 ⟨rfl, k1⟩
    have K1 := Lib.hid k1; clear k1
    go_wp2_with fail
    refine (HB.out _).mono ?_
    rintro e w2 ⟨rfl, k2⟩
    have K2 := Lib.hid (K1.out.trans k2); clear k2
    go_wp2_with fail
    refine (HP.out _).mono ?_
    rintro e w3 ⟨rfl, k3⟩
    have K3 := Lib.hid (K2.out.trans k3); clear k3
    go_wp2_with fail
    refine (HC.out _).mono ?_
    rintro e w4 ⟨rfl, k4⟩
    have K4 := Lib.hid (K3.out.trans k4); clear k4
    go_wp2_with fail
    go_ret
    exact ⟨by rw [HS.out, Int.natCast_add, Int.natCast_mul]; rfl, K4.out⟩
  · have HS := Lib.hid (satN_high a b x0 x1 y0 y1 hx hy k0 c0 k1 c1 h3 h4 (by omega))
    have HC := Lib.hid (rCapHigh c1 c0 k1 (by omega))
    clear hA hB e1 e2 e3 e4 hx hy h3 h4 hk
    go_enter Try.func38, Try.ntmps38
    go_wp2_with fail
    refine (HA.out _).mono ?_
    rintro e w1 ⟨rfl, k1⟩
    have K1 := Lib.hid k1; clear k1
    go_wp2_with fail
    refine (HB.out _).mono ?_
    rintro e w2 ⟨rfl, k2⟩
    have K2 := Lib.hid (K1.out.trans k2); clear k2
    go_wp2_with fail
    refine (HP.out _).mono ?_
    rintro e w3 ⟨rfl, k3⟩
    have K3 := Lib.hid (K2.out.trans k3); clear k3
    go_wp2_with fail
    refine (HC.out _).mono ?_
    rintro e w4 ⟨rfl, k4⟩
    have K4 := Lib.hid (K3.out.trans k4); clear k4
    go_wp2_with fail
    go_ret
    exact ⟨by rw [HS.out]; rfl, K4.out⟩
end Go.Proofs.Ythjapdjglifopaa
