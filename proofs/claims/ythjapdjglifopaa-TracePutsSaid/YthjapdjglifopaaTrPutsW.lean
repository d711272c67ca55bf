/- The walk of TracePuts. -/
import Derived.Test.YthjapdjglifopaaTrL
import Derived.Test.YthjapdjglifopaaRefTrY
namespace Go.Proofs.Ythjapdjglifopaa
set_option linter.unusedVariables false
set_option linter.unusedSimpArgs false
open Go.RowKit Go.Shelf

set_option maxHeartbeats 8000000 in
theorem putsLaw (l : List Rec) (hok : ∀ r ∈ l, r.goes) (v : Value) (s : ByteArray) (w : World) (h : Sl w v l.length 6 (l.flatMap enR)) :
    Calls Try.prog 5 #[v, .string s] w fun e w' => e = .returned (.bool true) ∧ Kp none' w w' := by
  have hmax := h.max
  obtain ⟨ao, cap, rfl⟩ : ∃ ao cap, v = .slice ao l.length cap := by obtain ⟨ao, cap, rfl, _⟩ := h.is; exact ⟨_, _, rfl⟩
  have HS := Lib.hid h
  have GL := Lib.hid lives
  clear h
  by_cases h1 : l.length ≤ 100
  · by_cases h2 : s.size ≤ 5000
    · have hs2 : s.size ≤ 900000 := by omega
      have e1 : (l.length : Int) ≤ 100 := by omega
      have e2 : (s.size : Int) ≤ 5000 := by omega
      have GP := Lib.hid (fun W hW => tPut l hok (by omega) (.slice ao l.length cap) W hW)
      have GQ := Lib.hid (fun W hW => rtPut l hok (by omega) (.slice ao l.length cap) W hW)
      have GR := Lib.hid (fun W => tRead s hs2 W)
      have GT := Lib.hid (fun W => rtRead s hs2 W)
      have HP : Hid (∃ (a : List UInt8) (x : Int) (b : Bool), putE l = (a, x) ∧ putR l = (a, b) ∧ ((x = 0 ∧ b = true) ∨ (x = 6 ∧ b = false))) := by
        unfold putE putR
        cases allR l with
        | true => exact ⟨flatR l, 0, true, by simp, by simp, .inl ⟨rfl, rfl⟩⟩
        | false => exact ⟨[], 6, false, by simp, by simp, .inr ⟨rfl, rfl⟩⟩
      go_enter Try.func5, Try.ntmps5
      go_wp2_with fail
      go_loopw [26] (fun i0 wr => ∃ j : Nat, i0 = .int .i64 j ∧ j ≤ l.length ∧ Hid (Kp none' w wr)) (fun i0 _ => l.length - (intOf i0).toNat)
      case atStart => exact ⟨0, rfl, by omega, Kp.refl _ _⟩
      case round =>
        obtain ⟨j, rfl, hj, hr⟩ := hrel
        by_cases hlt : j < l.length
        · obtain ⟨g, off, cap', e1, hc⟩ := (HS.out.old hr.out).at enR_len (by decide) j hlt
          injection e1 with e1 _ e3
          subst e1 e3
          obtain ⟨r, hrj⟩ : ∃ r, l[j] = r := ⟨_, rfl⟩
          rw [hrj] at hc
          obtain ⟨t, k, f, i, n, c⟩ := r
          have c0 := hc 0 _ rfl
          have c1 := hc 1 _ rfl
          have c2 := hc 2 _ rfl
          have c3 := hc 3 _ rfl
          have c4 := hc 4 _ rfl
          have c5 := hc 5 _ rfl
          simp only [Nat.add_zero] at c0 c1 c2 c3 c4 c5
          have hA := fun W => tRight t f i n k c W
          have hB := fun W => rtRight t f i n k c W
          generalize rightB ⟨t, k, f, i, n, c⟩ = rr at *
          have HA := Lib.hid hA; have HB := Lib.hid hB
          have hk1 := (Kp.refl none' wr).alloc (.cells #[.int .u64 t, .int .i64 k, .int .u32 f, .int .u32 i, .int .u64 n, .int .i64 c] 53)
          have HK1 := Lib.hid (hr.out.trans hk1)
          have HBK : Hid (Blk (wr.alloc (.cells #[.int .u64 t, .int .i64 k, .int .u32 f, .int .u32 i, .int .u64 n, .int .i64 c] 53)) wr.heap.size [.int .u64 t, .int .i64 k, .int .u32 f, .int .u32 i, .int .u64 n, .int .i64 c] 53) := Blk.new _ _ _
          clear hc hrj hk1 hA hB
          go_wp2_with fail
          clear c0 c1 c2 c3 c4 c5
          generalize wr.alloc (.cells #[.int .u64 t, .int .i64 k, .int .u32 f, .int .u32 i, .int .u64 n, .int .i64 c] 53) = w1 at *
          obtain ⟨p, hpp⟩ : ∃ p, wr.heap.size = p := ⟨_, rfl⟩
          rw [hpp] at HBK ⊢
          clear hpp
          have c0 := HBK.out.cell 0 rfl
          have c1 := HBK.out.cell 1 rfl
          have c2 := HBK.out.cell 2 rfl
          have c3 := HBK.out.cell 3 rfl
          have c4 := HBK.out.cell 4 rfl
          have c5 := HBK.out.cell 5 rfl
          cases rr
          all_goals
            go_region_held3 (fun w' => w'.cell? ⟨p, 0, none⟩ = some (.int .u64 t) ∧ w'.cell? ⟨p, 1, none⟩ = some (.int .i64 k) ∧ w'.cell? ⟨p, 2, none⟩ = some (.int .u32 f) ∧ w'.cell? ⟨p, 3, none⟩ = some (.int .u32 i) ∧ w'.cell? ⟨p, 4, none⟩ = some (.int .u64 n) ∧ w'.cell? ⟨p, 5, none⟩ = some (.int .i64 c)) (go_keep)
              (first
                | (go_at_call 19; refine (HA.out _).mono ?_; rintro e w4 ⟨rfl, k4⟩; have k5 := (Kp.refl none' w1).drew.trans k4; have HB4 := HBK.out.kp k5 id; have K5 := Lib.hid k5; have d0 := HB4.cell 0 rfl; have d1 := HB4.cell 1 rfl; have d2 := HB4.cell 2 rfl; have d3 := HB4.cell 3 rfl; have d4 := HB4.cell 4 rfl; have d5 := HB4.cell 5 rfl; clear k4 k5 HB4)
                | (go_at_call 20; refine (HB.out _).mono ?_; rintro e w5 ⟨rfl, k6⟩; have HB5 := (HBK.out.kp K5.out id).kp k6 id; have K6 := Lib.hid k6; have d6 := HB5.cell 0 rfl; have d7 := HB5.cell 1 rfl; have d8 := HB5.cell 2 rfl; have d9 := HB5.cell 3 rfl; have d10 := HB5.cell 4 rfl; have d11 := HB5.cell 5 rfl; clear k6 HB5))
            have HK9 := Lib.hid ((HK1.out.trans K5.out).trans K6.out)
            go_wp2_with fail
            go_roundw
            case rel => exact ⟨j + 1, by go_num, by omega, HK9.out⟩
            case measure => simp [intOf]; omega
        · obtain ⟨a, x, b, hpe, hpr, hxb⟩ := HP.out
          have hP := GP.out
          have hQ := GQ.out
          rw [hpe] at hP
          rw [hpr] at hQ
          have HPP := Lib.hid hP; have HQQ := Lib.hid hQ
          clear hP hQ hpe hpr HP GP GQ
          go_wp2_with fail
          refine (HPP.out _ (HS.out.old hr.out)).mono ?_
          rintro e w1 ⟨rfl, k1⟩
          have K1 := Lib.hid (hr.out.trans k1); clear k1
          go_wp2_with fail
          refine (HQQ.out _ (HS.out.old K1.out)).mono ?_
          rintro e w2 ⟨rfl, k2⟩
          have K2 := Lib.hid (K1.out.trans k2); clear k2
          go_wp2_with fail
          refine (GR.out _).mono ?_
          rintro e w3 ⟨v3, l3, rfl, r3, o3, k3⟩
          have K3 := Lib.hid (K2.out.trans k3); clear k3
          have O3 := Lib.hid o3; have R3 := Lib.hid r3
          obtain ⟨z, hz⟩ : ∃ z : Int, ((30 * l3.length : Nat) : Int) = z := ⟨_, rfl⟩
          rw [hz]
          have HZ := Lib.hid hz
          clear o3 r3 hz
          go_wp2_with fail
          refine (GT.out _).mono ?_
          rintro e w4 ⟨v4, l4, rfl, r4, o4, k4⟩
          have hll := R3.out.uniq r4
          subst hll
          have hl3 := R3.out.to.len
          rw [bl_len] at hl3
          have K4 := Lib.hid (K3.out.trans k4)
          have HM := Lib.hid (rtSame l3 v3 v4 w4 (own_sl (own_kp (S := none') O3.out k4 (fun _ _ h => h))) (own_sl o4) (by omega))
          rw [HZ.out]
          clear k4 o4 r4 hl3
          have hb := str_beq (rfl : tx a = tx a)
          rcases hxb with ⟨rfl, rfl⟩ | ⟨rfl, rfl⟩
          all_goals
            go_wp2_with fail
            refine (HM.out).mono ?_
            rintro e w5 ⟨rfl, d5, rfl⟩
            go_wp2_with fail
            refine (GL.out _).mono ?_
            rintro e w6 ⟨rfl, k6⟩
            have K6 := Lib.hid ((K4.out.drewN d5).trans k6); clear k6
            go_wp2_with fail
            go_ret
            exact ⟨rfl, K6.out⟩
    · have e1 : (l.length : Int) ≤ 100 := by omega
      have e2 : (5000 : Int) < s.size := by omega
      have e3 : 5000 < s.size := by omega
      have e4 : decide (100 < (l.length : Int)) = false := by rw [decide_eq_false_iff_not]; omega
      go_enter Try.func5, Try.ntmps5
      go_wp2_with fail
      refine (GL.out _).mono ?_
      rintro e w6 ⟨rfl, k6⟩
      go_wp2_with fail
      go_ret
      exact ⟨rfl, k6⟩
  · have e1 : (100 : Int) < l.length := by omega
    have e3 : 100 < l.length := by omega
    go_enter Try.func5, Try.ntmps5
    go_wp2_with fail
    refine (GL.out _).mono ?_
    rintro e w6 ⟨rfl, k6⟩
    go_wp2_with fail
    go_ret
    exact ⟨rfl, k6⟩
end Go.Proofs.Ythjapdjglifopaa
