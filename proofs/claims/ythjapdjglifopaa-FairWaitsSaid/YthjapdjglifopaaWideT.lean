/- Walks of layer 1, the document's: numbers multiplied. -/
import Derived.Test.YthjapdjglifopaaWideP
import Derived.Test.YthjapdjglifopaaRowSet
import Derived.Test.YthjapdjglifopaaWideO
import Derived.Test.YthjapdjglifopaaTrOfW
namespace Go.Proofs.Ythjapdjglifopaa
set_option linter.unusedVariables false
set_option linter.unusedSimpArgs false
open Go.RowKit Go.Shelf

set_option maxRecDepth 100000 in
set_option maxHeartbeats 8000000 in
theorem rTimesD (a b x0 x1 y0 y1 p00 p01 p10 p11 k0 c0 k1 c1 k2 c2 k3 c3 : Nat) (w : World) (ha : a < 18446744073709551616) (hb : b < 18446744073709551616)
    (ex0 : a % 4294967296 = x0) (ex1 : a / 4294967296 = x1) (ey0 : b % 4294967296 = y0) (ey1 : b / 4294967296 = y1)
    (e00 : x0 * y0 = p00) (e01 : x0 * y1 = p01) (e10 : x1 * y0 = p10) (e11 : x1 * y1 = p11)
    (b00 : p00 ≤ 18446744065119617025) (b01 : p01 ≤ 18446744065119617025) (b10 : p10 ≤ 18446744065119617025) (b11 : p11 ≤ 18446744065119617025)
    (h0 : p00 = k0 * 4294967296 + c0) (g0 : c0 < 4294967296)
    (h1 : p01 + k0 = k1 * 4294967296 + c1) (g1 : c1 < 4294967296)
    (h2 : p10 + c1 = k2 * 4294967296 + c2) (g2 : c2 < 4294967296)
    (h3 : p11 + k1 + k2 = k3 * 4294967296 + c3) (g3 : c3 < 4294967296) (g4 : k3 < 4294967296) (g5 : k1 < 4294967296) :
    Calls Try.prog 63 #[.int .u64 a, .int .u64 b] w fun e w' => e = .returned (.agg (wq c0 c2 c3 k3).toArray) ∧ Kp none' w w' := by
  have HA := Lib.hid (fun W => rWide a ha W)
  have HB := Lib.hid (fun W => rWide b hb W)
  have E0 : Hid ((a : Int) % 4294967296 = x0 ∧ (a : Int) / 4294967296 = x1) := by show _ ∧ _; omega
  have E1 : Hid ((b : Int) % 4294967296 = y0 ∧ (b : Int) / 4294967296 = y1) := by show _ ∧ _; omega
  rw [E0.out.1, E0.out.2] at HA
  rw [E1.out.1, E1.out.2] at HB
  have m00 : (x0 : Int) * (y0 : Int) = p00 := by rw [← e00]; exact (Int.natCast_mul _ _).symm
  have m01 : (x0 : Int) * (y1 : Int) = p01 := by rw [← e01]; exact (Int.natCast_mul _ _).symm
  have m10 : (x1 : Int) * (y0 : Int) = p10 := by rw [← e10]; exact (Int.natCast_mul _ _).symm
  have m11 : (x1 : Int) * (y1 : Int) = p11 := by rw [← e11]; exact (Int.natCast_mul _ _).symm
  have Q0 : Hid ((p00 : Int) / 4294967296 = k0 ∧ (p00 : Int) % 4294967296 = c0) := by show _ ∧ _; omega
  have Q1 : Hid (((p01 : Int) + k0) / 4294967296 = k1 ∧ ((p01 : Int) + k0) % 4294967296 = c1) := by show _ ∧ _; omega
  have Q2 : Hid (((p10 : Int) + c1) / 4294967296 = k2 ∧ ((p10 : Int) + c1) % 4294967296 = c2) := by show _ ∧ _; omega
  have Q3 : Hid (((p11 : Int) + k1 + k2) / 4294967296 = k3 ∧ ((p11 : Int) + k1 + k2) % 4294967296 = c3) := by show _ ∧ _; omega
  have bk0 : k0 < 4294967296 := by omega
  have bk2 : k2 < 4294967296 := by omega
  clear ex0 ex1 ey0 ey1 e00 e01 e10 e11 h0 h1 h2 h3 E0 E1
  unfold wq at HA HB
  go_enter Try.func63, Try.ntmps63
  go_wp2_with fail
  refine (HA.out _).mono ?_
  rintro e w1 ⟨rfl, k1'⟩
  have K1 := Lib.hid k1'; clear k1'
  go_wp2_with fail
  refine (HB.out _).mono ?_
  rintro e w2 ⟨rfl, k2'⟩
  have K2 := Lib.hid (K1.out.trans k2'); clear k2'
  go_wp2
  refine wp_loop_rounds 3 ?_
  rw [rounds_succ]
  go_wp2
  refine wp_loop_rounds 3 ?_
  rw [rounds_succ]
  go_wp2
  go_quiet (fail)
  go_wp2
  generalize nq = n0
  simp only [Q0.out.1, Q0.out.2]
  rw [rounds_succ]
  go_wp2
  go_quiet (fail)
  go_wp2
  generalize nq = n1
  simp only [Q1.out.1, Q1.out.2]
  rw [rounds_succ]
  go_wp2
  rw [rounds_succ]
  go_wp2
  refine wp_loop_rounds 3 ?_
  rw [rounds_succ]
  go_wp2
  go_quiet (fail)
  go_wp2
  generalize nq = n2
  simp only [Q2.out.1, Q2.out.2]
  rw [rounds_succ]
  go_wp2
  go_quiet (fail)
  go_wp2
  generalize nq = n3
  simp only [Q3.out.1, Q3.out.2]
  rw [rounds_succ]
  go_wp2
  rw [rounds_succ]
  have r0 := (Blk.new w (wq 0 0 0 0) 93).kp K2.out id
  have j0 := ((Kp.refl none' w).alloc (.cells (wq 0 0 0 0).toArray 93)).trans K2.out
  have hz := r0.lt
  have hne : w.heap.size ≠ w2.heap.size + 1 + 1 := by omega
  have hge : none' (w2.heap.size + 1 + 1) ∨ w.heap.size ≤ w2.heap.size + 1 + 1 := .inr (by omega)
  have q0 := Blk.new ((w2.alloc (.cells #[.int .u64 x0, .int .u64 x1, .int .u64 0, .int .u64 0] 93)).alloc (.cells #[.int .u64 y0, .int .u64 y1, .int .u64 0, .int .u64 0] 93)) (wq 0 0 0 0) 93
  simp only [World.size_alloc] at q0
  have HQ : Hid (Blk _ (w2.heap.size + 1 + 1) (wq c0 c2 c3 k3) 93) := ((((((((((q0.drewN n0).set 0 (.int .u64 c0)).drewN n1).set 1 (.int .u64 c1)).set 2 (.int .u64 k1)).drewN n2).set 1 (.int .u64 c2)).drewN n3).set 2 (.int .u64 c3)).set 3 (.int .u64 k3))
  have HR : Hid (Blk _ w.heap.size (wq 0 0 0 0) 93) := ((((((((((((((r0.alloc (.cells #[.int .u64 x0, .int .u64 x1, .int .u64 0, .int .u64 0] 93)).alloc (.cells #[.int .u64 y0, .int .u64 y1, .int .u64 0, .int .u64 0] 93)).alloc (.cells (wq 0 0 0 0).toArray 93))).drewN n0).setNe (a := ⟨w2.heap.size + 1 + 1, 0, none⟩) hne (.int .u64 c0)).drewN n1).setNe (a := ⟨w2.heap.size + 1 + 1, 1, none⟩) hne (.int .u64 c1)).setNe (a := ⟨w2.heap.size + 1 + 1, 2, none⟩) hne (.int .u64 k1)).drewN n2).setNe (a := ⟨w2.heap.size + 1 + 1, 1, none⟩) hne (.int .u64 c2)).drewN n3).setNe (a := ⟨w2.heap.size + 1 + 1, 2, none⟩) hne (.int .u64 c3)).setNe (a := ⟨w2.heap.size + 1 + 1, 3, none⟩) hne (.int .u64 k3))
  have HK : Hid (Kp none' w _) := ((((((((((((((j0.alloc (.cells #[.int .u64 x0, .int .u64 x1, .int .u64 0, .int .u64 0] 93)).alloc (.cells #[.int .u64 y0, .int .u64 y1, .int .u64 0, .int .u64 0] 93)).alloc (.cells (wq 0 0 0 0).toArray 93))).drewN n0).set (p := ⟨w2.heap.size + 1 + 1, 0, none⟩) hge (.int .u64 c0)).drewN n1).set (p := ⟨w2.heap.size + 1 + 1, 1, none⟩) hge (.int .u64 c1)).set (p := ⟨w2.heap.size + 1 + 1, 2, none⟩) hge (.int .u64 k1)).drewN n2).set (p := ⟨w2.heap.size + 1 + 1, 1, none⟩) hge (.int .u64 c2)).drewN n3).set (p := ⟨w2.heap.size + 1 + 1, 2, none⟩) hge (.int .u64 c3)).set (p := ⟨w2.heap.size + 1 + 1, 3, none⟩) hge (.int .u64 k3))
  clear r0 j0 q0
  go_wp2_with (first
    | (refine wpList_load_row rfl 93 (.tmp 7) rfl (w2.heap.size + 1 + 1) rfl 93 (wq c0 c2 c3 k3).toArray (0, 0) _ HQ.out.is Try.underlying93 rfl (by kernel_rfl) ?_)
    | (refine wpList_store_row rfl 93 (.tmp 4) (.tmp 60) rfl w.heap.size (wq c0 c2 c3 k3).toArray rfl rfl 93 (wq 0 0 0 0).toArray HR.out.is (by kernel_rfl) rfl (by simp [wq, Value.oneCell']) ?_))
  exact wRet Try.results63 (blkSetRow HR.out) (kpSetRow HK.out (.inr (Nat.le_refl _)) _) rfl
theorem mul32 (x y : Nat) (hx : x < 4294967296) (hy : y < 4294967296) : x * y ≤ 18446744065119617025 := by
  have := Nat.mul_le_mul (Nat.le_of_lt_succ (show x < 4294967295 + 1 from hx)) (Nat.le_of_lt_succ (show y < 4294967295 + 1 from hy))
  omega
theorem mul_pieces (a b x0 x1 y0 y1 : Nat) (ha : a = x1 * 4294967296 + x0) (hb : b = y1 * 4294967296 + y0) : a * b = x0 * y0 + (x0 * y1 + x1 * y0) * 4294967296 + x1 * y1 * 18446744073709551616 := by
  subst ha hb
  rw [Nat.add_mul, Nat.mul_add, Nat.mul_add]
  have e1 : x1 * 4294967296 * (y1 * 4294967296) = x1 * y1 * 18446744073709551616 := by rw [Nat.mul_mul_mul_comm]
  have e2 : x1 * 4294967296 * y0 = x1 * y0 * 4294967296 := by rw [Nat.mul_right_comm]
  have e3 : x0 * (y1 * 4294967296) = x0 * y1 * 4294967296 := by rw [Nat.mul_assoc]
  rw [e1, e2, e3]
  omega
theorem rTimesN (a b : Nat) (ha : a < 18446744073709551616) (hb : b < 18446744073709551616) (w : World) : Calls Try.prog 63 #[.int .u64 a, .int .u64 b] w fun e w' => e = .returned (.agg (wN (a * b)).toArray) ∧ Kp none' w w' := by
  obtain ⟨x0, x1, ex0, ex1, hx, hx0, hx1⟩ : ∃ x0 x1 : Nat, a % 4294967296 = x0 ∧ a / 4294967296 = x1 ∧ a = x1 * 4294967296 + x0 ∧ x0 < 4294967296 ∧ x1 < 4294967296 := ⟨_, _, rfl, rfl, by omega, by omega, by omega⟩
  obtain ⟨y0, y1, ey0, ey1, hy, hy0, hy1⟩ : ∃ x0 x1 : Nat, b % 4294967296 = x0 ∧ b / 4294967296 = x1 ∧ b = x1 * 4294967296 + x0 ∧ x0 < 4294967296 ∧ x1 < 4294967296 := ⟨_, _, rfl, rfl, by omega, by omega, by omega⟩
  have hm := mul_pieces a b x0 x1 y0 y1 hx hy
  obtain ⟨p00, e00⟩ : ∃ p, x0 * y0 = p := ⟨_, rfl⟩
  obtain ⟨p01, e01⟩ : ∃ p, x0 * y1 = p := ⟨_, rfl⟩
  obtain ⟨p10, e10⟩ : ∃ p, x1 * y0 = p := ⟨_, rfl⟩
  obtain ⟨p11, e11⟩ : ∃ p, x1 * y1 = p := ⟨_, rfl⟩
  have b00 : p00 ≤ 18446744065119617025 := by rw [← e00]; exact mul32 _ _ hx0 hy0
  have b01 : p01 ≤ 18446744065119617025 := by rw [← e01]; exact mul32 _ _ hx0 hy1
  have b10 : p10 ≤ 18446744065119617025 := by rw [← e10]; exact mul32 _ _ hx1 hy0
  have b11 : p11 ≤ 18446744065119617025 := by rw [← e11]; exact mul32 _ _ hx1 hy1
  rw [e00, e01, e10, e11] at hm
  obtain ⟨k0, c0, h0, g0, q0⟩ : ∃ k c : Nat, p00 = k * 4294967296 + c ∧ c < 4294967296 ∧ k < 4294967296 := ⟨p00 / 4294967296, p00 % 4294967296, by omega, by omega, by omega⟩
  obtain ⟨k1, c1, h1, g1, q1⟩ : ∃ k c : Nat, p01 + k0 = k * 4294967296 + c ∧ c < 4294967296 ∧ k < 4294967296 := ⟨(p01 + k0) / 4294967296, (p01 + k0) % 4294967296, by omega, by omega, by omega⟩
  obtain ⟨k2, c2, h2, g2, q2⟩ : ∃ k c : Nat, p10 + c1 = k * 4294967296 + c ∧ c < 4294967296 ∧ k < 4294967296 := ⟨(p10 + c1) / 4294967296, (p10 + c1) % 4294967296, by omega, by omega, by omega⟩
  obtain ⟨k3, c3, h3, g3, q3⟩ : ∃ k c : Nat, p11 + k1 + k2 = k * 4294967296 + c ∧ c < 4294967296 ∧ k < 4294967296 := ⟨(p11 + k1 + k2) / 4294967296, (p11 + k1 + k2) % 4294967296, by omega, by omega, by omega⟩
  have hr : a * b = c0 + c2 * 4294967296 + c3 * 18446744073709551616 + k3 * 79228162514264337593543950336 := by
    rw [hm]
    clear hm b00 b01 b10 b11 e00 e01 e10 e11 ex0 ex1 ey0 ey1 hx hy
    omega
  rw [wN_pieces (a * b) c0 c2 c3 k3 hr g0 g2 g3 q3]
  exact rTimesD a b x0 x1 y0 y1 p00 p01 p10 p11 k0 c0 k1 c1 k2 c2 k3 c3 w ha hb ex0 ex1 ey0 ey1 e00 e01 e10 e11 b00 b01 b10 b11 h0 g0 h1 g1 h2 g2 h3 g3 q3 q1
end Go.Proofs.Ythjapdjglifopaa
