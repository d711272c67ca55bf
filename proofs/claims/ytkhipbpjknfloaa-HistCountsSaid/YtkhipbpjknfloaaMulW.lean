/- r01.MulDiv: the document's quotient of a product, bit by bit. -/
import Derived.Test.YtkhipbpjknfloaaWideL
import Derived.Test.YtkhipbpjknfloaaWideT
import Derived.Test.YtkhipbpjknfloaaHistW
import Derived.Test.YtkhipbpjknfloaaRowSet
import Derived.Test.YtkhipbpjknfloaaKept
namespace Go.Proofs.Ytkhipbpjknfloaa
set_option linter.unusedVariables false
set_option linter.unusedSimpArgs false
open Go.RowKit Go.Shelf
theorem wN_one (n : Nat) : ∀ v ∈ wN n, v.oneCell' = true := by
  intro v hv
  simp only [wN, wq, List.mem_cons, List.not_mem_nil, or_false] at hv
  rcases hv with rfl | rfl | rfl | rfl <;> rfl
theorem wN_lit (n : Nat) : ∃ a b c d : Int, wN n = [.int .u64 a, .int .u64 b, .int .u64 c, .int .u64 d] := ⟨_, _, _, _, rfl⟩
theorem infoW : (Try.prog.info? 130).map (·.size) = some 4 := by kernel_rfl
theorem bit_step (Q k : Nat) : Q / pw k * pw k = if Q < Q / pw (k + 1) * pw (k + 1) + pw k then Q / pw (k + 1) * pw (k + 1) else Q / pw (k + 1) * pw (k + 1) + pw k := by
  have hp := pw_pos k
  have h1 : Q / pw (k + 1) = Q / pw k / 2 := by rw [pw_succ, Nat.mul_comm, Nat.div_div_eq_div_mul]
  obtain ⟨d, hd⟩ : ∃ d, Q / pw k = d := ⟨_, rfl⟩
  have h2 : d / 2 * pw (k + 1) = d / 2 * 2 * pw k := by rw [pw_succ, Nat.mul_assoc]
  have h3 : (d / 2 * 2 + 1) * pw k = d / 2 * 2 * pw k + pw k := by rw [Nat.add_mul, Nat.one_mul]
  have h4 : d / 2 * 2 + 1 ≤ d ↔ (d / 2 * 2 + 1) * pw k ≤ Q := by rw [← hd]; exact Nat.le_div_iff_mul_le hp
  rw [h1, hd, h2]
  rcases Nat.mod_two_eq_zero_or_one d with h | h
  · have h5 : d / 2 * 2 = d := by omega
    rw [h5] at h3 h4 ⊢
    rw [if_pos (by omega)]
  · have h5 : d / 2 * 2 + 1 = d := by omega
    rw [if_neg (by omega), ← h3, h5]
theorem bit_top (Q k : Nat) (hk : k ≤ 63) (hQ : Q < 18446744073709551616) : Q / pw (k + 1) * pw (k + 1) + pw k < 18446744073709551616 := by
  have e : pw (63 - k) * pw (k + 1) = 18446744073709551616 := by rw [← pw_add, show 63 - k + (k + 1) = 64 by omega, pw64]
  have h1 : Q / pw (k + 1) < pw (63 - k) := Nat.div_lt_of_lt_mul (by rw [Nat.mul_comm, e]; exact hQ)
  have h2 : (Q / pw (k + 1) + 1) * pw (k + 1) ≤ pw (63 - k) * pw (k + 1) := Nat.mul_le_mul_right _ h1
  rw [Nat.add_mul, Nat.one_mul, e] at h2
  have h3 := pw_succ k
  have h4 := pw_pos k
  omega
set_option maxRecDepth 100000 in
set_option maxHeartbeats 4000000 in
theorem rMulDivN (a b c p Q : Nat) (ha : a < 18446744073709551616) (hb : b < 18446744073709551616) (hc : c < 18446744073709551616) (h0 : 0 < c) (hp : a * b = p) (hQ : p / c = Q) (hQb : Q < 18446744073709551616) (w : World) :
    Calls Try.prog 59 #[.int .u64 a, .int .u64 b, .int .u64 c] w fun e w' => e = .returned (.int .u64 (Q : Nat)) ∧ Kp none' w w' := by
  have hT := rTimesN a b ha hb w
  rw [hp] at hT
  have HT := Lib.hid hT
  have hpb : p < 340282366920938463463374607431768211456 := by
    rw [← hp]
    exact Nat.lt_of_le_of_lt (Nat.mul_le_mul (show a ≤ 18446744073709551615 by omega) (show b ≤ 18446744073709551615 by omega)) (by decide)
  have hc0 : ((c : Int) == 0) = false := by rw [beq_eq_false_iff_ne]; omega
  have HTT := Lib.hid (fun m (hm : m < 18446744073709551616) W => rTimesN m c hm hc W)
  have HLL := Lib.hid (fun m (hm : m < 18446744073709551616) W => rLessN p (m * c) hpb (Nat.lt_of_le_of_lt (Nat.mul_le_mul (show m ≤ 18446744073709551615 by omega) (show c ≤ 18446744073709551615 by omega)) (by decide)) W)
  have HQ := Lib.hid hQ
  have HI0 : Hid (0 = Q / pw 64 * pw 64) := by show _ = _; rw [pw64, Nat.div_eq_of_lt hQb]
  obtain ⟨x0, x1, x2, x3, hx⟩ := wN_lit p
  have hone := wN_one p
  clear hT hp hQ
  go_enter Try.func59, Try.ntmps59
  go_wp2_with fail
  refine HT.out.mono ?_
  rintro e w1 ⟨rfl, k1⟩
  have K1 := Lib.hid k1
  clear k1
  go_wp2_with fail
  have HB2 := Lib.hid (Blk.new w1 [.int .u64 x0, .int .u64 x1, .int .u64 x2, .int .u64 x3] 130)
  have HK2 : Hid (Kp none' w (w1.alloc (.cells #[.int .u64 x0, .int .u64 x1, .int .u64 x2, .int .u64 x3] 130))) := (K1.out).alloc _
  obtain ⟨W2, hW2⟩ : ∃ W2, w1.alloc (.cells #[.int .u64 x0, .int .u64 x1, .int .u64 x2, .int .u64 x3] 130) = W2 := ⟨_, rfl⟩
  have hW2' : w1.alloc (.cells [.int .u64 x0, .int .u64 x1, .int .u64 x2, .int .u64 x3].toArray 130) = W2 := hW2
  rw [hW2] at HK2 ⊢
  rw [hW2'] at HB2
  obtain ⟨bp, hbp⟩ : ∃ b, w1.heap.size = b := ⟨_, rfl⟩
  rw [hbp] at HB2 ⊢
  clear hone hW2 hW2' hbp K1 HT
  go_loopw [8, 9] (fun n0 i0 wr => ∃ (j n : Nat) (i : Int), n0 = .int .u64 n ∧ i0 = .int .i64 i ∧ i = (j : Int) - 1 ∧ j ≤ 64 ∧ Hid (n = Q / pw j * pw j ∧ Kp none' W2 wr)) (fun _ i0 _ => (Go.Proofs.intOf i0 + 1).toNat)
  case atStart => exact ⟨64, 0, 63, rfl, rfl, rfl, by omega, HI0.out, Kp.refl _ _⟩
  case round =>
    obtain ⟨j, n, i, rfl, rfl, hij, hj, hr⟩ := hrel
    cases j with
    | zero =>
      obtain rfl : i = -1 := by omega
      clear hij
      have HN : Hid (n = Q) := by
        show _ = _
        have := hr.out.1
        rw [this, show pw 0 = 1 from rfl, Nat.div_one, Nat.mul_one]
      have HR := Lib.hid hr.out.2
      clear hr
      go_wp2
      go_ret
      exact ⟨by rw [← HN.out]; rfl, HK2.out.trans HR.out⟩
    | succ k =>
      obtain rfl : i = (k : Int) := by omega
      clear hij
      have hn := hr.out.1
      have htop := bit_top Q k (by omega) hQb
      rw [← hn] at htop
      obtain ⟨z, hz⟩ : ∃ z, pw k = z := ⟨_, rfl⟩
      have hzI : (2 : Int) ^ k = (z : Int) := by rw [pw_int, hz]
      have hzb : z < 18446744073709551616 := by omega
      obtain ⟨m, hm⟩ : ∃ m, n + z = m := ⟨_, rfl⟩
      have hmI : (n : Int) + (z : Int) = (m : Int) := by omega
      have hmb : m < 18446744073709551616 := by omega
      have hstep := bit_step Q k
      rw [← hn, hz, hm] at hstep
      have hiff : Q < m ↔ p < m * c := by rw [← HQ.out]; exact Nat.div_lt_iff_lt_mul h0
      obtain ⟨y0, y1, y2, y3, hy⟩ := wN_lit (m * c)
      have hT2 := HTT.out m hmb
      have hL2 := HLL.out m hmb
      rw [hx, hy] at hL2
      rw [hy] at hT2
      have HT2 := Lib.hid hT2
      have hbr := HB2.out.kp hr.out.2 id
      have b0 := hbr.cell 0 rfl
      have b1 := hbr.cell 1 rfl
      have b2 := hbr.cell 2 rfl
      have b3 := hbr.cell 3 rfl
      have HR := Lib.hid hr.out.2
      by_cases hlt : p < m * c
      · rw [decide_eq_true hlt] at hL2
        have HL2 := Lib.hid hL2
        have HN : Hid (n = Q / pw k * pw k) := by
          show _ = _
          rw [hz, hstep, if_pos (hiff.2 hlt)]
        clear hlt hiff hstep hL2 hT2 hbr hr hy hn hz hm hx
        go_wp2_with fail
        refine wp_region_kept2 [] [0, 1, 2, 3, 4] 5 (by kernel_rfl) (by kernel_rfl) (fun c a d u w h => by cases d <;> exact h) ?_
        simp only [pick, List.getElem?_cons_succ, List.getElem?_cons_zero, List.drop_succ_cons, List.drop_zero]
        show wpKL _ _ _ _ _ _
        repeat (first
          | (refine wpKL_op (by exact rfl) (by as_aux_lemma => intro W hK; have e0 := hK.cell b0 id; have e1 := hK.cell b1 id; have e2 := hK.cell b2 id; have e3 := hK.cell b3 id; go_simp; exact rfl) ?_; simp only [Act.put, List.setIfInBounds_toArray, List.set_cons_succ, List.set_cons_zero])
          | (refine wpKL_off (by exact rfl) ?_; simp only [Act.put, List.setIfInBounds_toArray, List.set_cons_succ, List.set_cons_zero])
          | (refine wpKL_call (by exact rfl) (by as_aux_lemma => intro W; go_simp; exact ⟨rfl, rfl⟩) (by intro W hK; with_reducible first | exact HT2.out W | exact HL2.out W) ?_; simp only [Act.put, List.setIfInBounds_toArray, List.set_cons_succ, List.set_cons_zero]))
        show ∀ W, _ → wpList _ _ _ _ _ _
        intro W5 hK5
        have HK5 := Lib.hid (HR.out.trans hK5)
        clear hK5 b0 b1 b2 b3
        go_wp2_with fail
        go_roundw
        case rel => exact ⟨k, n, (k : Int) - 1, by go_num, by go_num, rfl, by omega, HN.out, HK5.out⟩
        case measure => first | (simp [Go.Proofs.intOf]; done) | (simp [Go.Proofs.intOf]; omega)
      · rw [decide_eq_false hlt] at hL2
        have HL2 := Lib.hid hL2
        have HN : Hid (m = Q / pw k * pw k) := by
          show _ = _
          rw [hz, hstep, if_neg (fun h => hlt (hiff.1 h))]
        clear hlt hiff hstep hL2 hT2 hbr hr hy hn hz hm hx
        go_wp2_with fail
        refine wp_region_kept2 [] [0, 1, 2, 3, 4] 5 (by kernel_rfl) (by kernel_rfl) (fun c a d u w h => by cases d <;> exact h) ?_
        simp only [pick, List.getElem?_cons_succ, List.getElem?_cons_zero, List.drop_succ_cons, List.drop_zero]
        show wpKL _ _ _ _ _ _
        repeat (first
          | (refine wpKL_op (by exact rfl) (by as_aux_lemma => intro W hK; have e0 := hK.cell b0 id; have e1 := hK.cell b1 id; have e2 := hK.cell b2 id; have e3 := hK.cell b3 id; go_simp; exact rfl) ?_; simp only [Act.put, List.setIfInBounds_toArray, List.set_cons_succ, List.set_cons_zero])
          | (refine wpKL_off (by exact rfl) ?_; simp only [Act.put, List.setIfInBounds_toArray, List.set_cons_succ, List.set_cons_zero])
          | (refine wpKL_call (by exact rfl) (by as_aux_lemma => intro W; go_simp; exact ⟨rfl, rfl⟩) (by intro W hK; with_reducible first | exact HT2.out W | exact HL2.out W) ?_; simp only [Act.put, List.setIfInBounds_toArray, List.set_cons_succ, List.set_cons_zero]))
        show ∀ W, _ → wpList _ _ _ _ _ _
        intro W5 hK5
        have HK5 := Lib.hid (HR.out.trans hK5)
        clear hK5 b0 b1 b2 b3
        go_wp2_with fail
        go_roundw
        case rel => exact ⟨k, m, (k : Int) - 1, by go_num, by go_num, rfl, by omega, HN.out, HK5.out⟩
        case measure => first | (simp [Go.Proofs.intOf]; done) | (simp [Go.Proofs.intOf]; omega)
end Go.Proofs.Ytkhipbpjknfloaa
