/- Layer 38: the law's example lives; HistBuckets' walk. -/
import Derived.Test.YtkhipbpjknfloaaHistC
namespace Go.Proofs.Ytkhipbpjknfloaa
set_option linter.unusedVariables false
set_option linter.unusedSimpArgs false
open Go.RowKit Go.Maps
set_option maxRecDepth 100000 in
set_option maxHeartbeats 2000000 in
theorem lives38 (w : World) : Calls Try.prog 17 #[] w fun e w' => e = .returned (.bool true) ∧ Kp none' w w' := by
  have T0 := Lib.hid (hNew 1 (by omega) w)
  go_enter Try.func17, Try.ntmps17
  go_wp2_with fail
  refine T0.out.mono ?_
  rintro e w1 ⟨hb, rfl, h1, k1⟩
  have T1 := Lib.hid (hAdd w.heap.size hb 1 5 2 [] (by omega) (by omega) (by omega) (by simp) w1 h1)
  have K1 := Lib.hid k1
  clear h1 k1 T0
  go_wp2_with fail
  refine T1.out.mono ?_
  rintro e w2 ⟨rfl, h2, k2⟩
  have K2 := Lib.hid ((K1.out.mono (T := fun b => w.heap.size ≤ b) fun _ _ x => x.elim).trans k2)
  have H2 := Lib.hid h2
  obtain ⟨mb, ht⟩ := h2.top
  have T2 := hRange hb 1 mb 4 (by omega) w2 ht
  rw [show rgN 1 4 = .tuple #[.int .u64 4, .int .u64 5, .bool true] by kernel_rfl] at T2
  have HT2 := Lib.hid T2
  clear h2 k2 K1 T1 T2 ht
  go_wp2_with fail
  refine HT2.out.mono ?_
  rintro e w3 ⟨rfl, k3⟩
  have K3 := Lib.hid (K2.out.then k3 (fun _ _ x => x.elim))
  have H3 := Lib.hid (H2.out.kp k3 (fun _ _ x => x))
  obtain ⟨mb3, ht3⟩ := H3.out.top
  have T3 := hBucket hb 1 mb3 5 (by omega) (by omega) w3 ht3
  rw [show bk 1 5 = 4 by decide +kernel] at T3
  have HT3 := Lib.hid T3
  clear k3 K2 H2 HT2 T3 ht3
  go_wp2_with fail
  refine HT3.out.mono ?_
  rintro e w4 ⟨rfl, k4⟩
  have K4 := Lib.hid (K3.out.then k4 (fun _ _ x => x.elim))
  have H4 := H3.out.kp k4 (fun _ _ x => x)
  have T4 := hCount H4 (by omega) (by simp) (by simp)
  rw [show sumR (rowsN 1 ([] ++ [(5, 2)])) = 2 by decide +kernel] at T4
  have HT4 := Lib.hid T4
  clear k4 K3 H3 HT3 T4 H4
  go_wp2_with fail
  refine HT4.out.mono ?_
  rintro e w5 ⟨rfl, k5⟩
  have K5 := Lib.hid (K4.out.then k5 (fun _ _ x => x.elim))
  clear k5 K4
  go_wp2
  go_ret
  exact ⟨rfl, K5.out.mono fun b hb h => by omega⟩
set_option maxRecDepth 100000 in
set_option maxHeartbeats 4000000 in
theorem bucketsLaw (f : Int) (n : Nat) (b : Int) (hn : n < 18446744073709551616) (w : World) : Calls Try.prog 4 #[.int .i64 f, .int .u64 n, .int .i64 b] w fun e w' => e = .returned (.bool true) ∧ Kp none' w w' := by
  have GL := Lib.hid (fun W (k : Kp none' w W) => (lives38 W).mono fun e W' h => (⟨h.1, k.trans h.2⟩ : e = .returned (.bool true) ∧ Kp none' w W'))
  by_cases hf : 0 ≤ f ∧ f ≤ 8
  · obtain ⟨f, rfl⟩ : ∃ g : Nat, f = g := ⟨f.toNat, by omega⟩
    have hf8 : f ≤ 8 := by omega
    have d1 : decide ((0 : Int) ≤ f) = true := by simp
    have d2 : decide ((f : Int) ≤ 8) = true := by simp; omega
    have T0 := Lib.hid (hNew f hf8 w)
    clear hf
    go_enter Try.func4, Try.ntmps4
    go_wp2_with fail
    refine T0.out.mono ?_
    rintro e w1 ⟨hb, rfl, h1, k1⟩
    obtain ⟨mb, ht1⟩ := h1.top
    have HT := Lib.hid ht1
    have K1 := Lib.hid k1
    have T1 := Lib.hid (hRange hb f mb b hf8 w1 ht1)
    have hr : rgN f b = .tuple #[.int .u64 0, .int .u64 0, .bool false] ∨ ∃ x y : Nat, rgN f b = .tuple #[.int .u64 x, .int .u64 y, .bool true] := by
      unfold rgN
      split
      · exact .inl rfl
      · rename_i h
        have hb := lo_bnd (f := f) (b := b.toNat) hf8 (by omega)
        exact .inr ⟨lo f b.toNat, lo f (b.toNat + 1) - 1, by rw [show ((lo f (b.toNat + 1) : Nat) : Int) - 1 = ((lo f (b.toNat + 1) - 1 : Nat) : Int) by omega]⟩
    have R1 := Lib.hid (fun W => rRange f b hf8 W)
    have RB := Lib.hid (fun W => rBucket f n hf8 hn W)
    have HB := Lib.hid (fun W (k : Kp none' w1 W) => hBucket hb f mb n hf8 hn W (ht1.kp k (fun x => x)))
    have hbm := bk_mono f (show n ≤ 18446744073709551615 by omega)
    have hbi := bk_in f n
    have hlb := lo_bnd hf8 hbm
    have R2 := fun W (k : Kp none' w1 W) => hRange hb f mb (bk f n : Nat) hf8 W (ht1.kp k (fun x => x))
    have hrg : rgN f ((bk f n : Nat) : Int) = .tuple #[.int .u64 (lo f (bk f n) : Nat), .int .u64 ((lo f (bk f n + 1) - 1 : Nat) : Nat), .bool true] := by
      unfold rgN
      rw [if_neg (by omega), Int.toNat_natCast, show ((lo f (bk f n + 1) : Nat) : Int) - 1 = ((lo f (bk f n + 1) - 1 : Nat) : Int) by omega]
    rw [hrg] at R2
    have HR2 := Lib.hid R2
    have hwd : (lo f (bk f n + 1) - 1) - lo f (bk f n) ≤ lo f (bk f n) / pw f := by
      have h1 := lo_next f (bk f n)
      have h2 := wd_le f (bk f n)
      omega
    have hpi := pw_int f
    obtain ⟨A, hA⟩ : ∃ A, lo f (bk f n) = A := ⟨_, rfl⟩
    obtain ⟨B, hB⟩ : ∃ B, lo f (bk f n + 1) - 1 = B := ⟨_, rfl⟩
    have f1 : (A : Int) ≤ n := by omega
    have f2 : (n : Int) ≤ B := by omega
    have f3 : (A : Int) ≤ B := by omega
    have f4 : (B : Int) < 18446744073709551616 := by omega
    have f5 : (B : Int) - A ≤ (A : Int) / (pw f : Nat) := by
      have : ((A / pw f : Nat) : Int) = (A : Int) / (pw f : Nat) := by simp
      rw [hA, hB] at hwd
      omega
    rw [hA, hB] at HR2
    clear h1 k1 ht1 T0 R2 hrg hwd hbi hlb hA hB hbm
    go_wp2_with fail
    refine T1.out.mono ?_
    rintro e w2 ⟨rfl, k2⟩
    have K2 := Lib.hid (K1.out.trans k2)
    have J2 := Lib.hid k2
    clear k2 T1
    rcases hr with hr | ⟨x, y, hr⟩
    all_goals
      rw [hr] at R1 ⊢
      go_wp2_with fail
      refine (R1.out _).mono ?_
      rintro e w' ⟨rfl, rfl⟩
      go_wp2_with fail
      refine (HB.out _ J2.out).mono ?_
      rintro e w3 ⟨rfl, k3⟩
      have J3 := Lib.hid (J2.out.trans k3)
      have K3 := Lib.hid (K2.out.trans k3)
      clear k3 J2 K2
      go_wp2_with fail
      refine (RB.out _).mono ?_
      rintro e w' ⟨rfl, rfl⟩
      go_wp2_with fail
      refine (HB.out _ J3.out).mono ?_
      rintro e w4 ⟨rfl, k4⟩
      have J4 := Lib.hid (J3.out.trans k4)
      have K4 := Lib.hid (K3.out.trans k4)
      clear k4 J3 K3
      go_wp2_with fail
      refine (HR2.out _ J4.out).mono ?_
      rintro e w5 ⟨rfl, k5⟩
      have K5 := Lib.hid (K4.out.trans k5)
      clear k5 J4 K4
      go_wp2_with fail
      refine (GL.out _ K5.out).mono ?_
      rintro e w6 ⟨rfl, k6⟩
      have K6 := Lib.hid k6
      clear k6
      go_wp2
      go_ret
      exact ⟨rfl, K6.out⟩
  · have hbad : f < 0 ∨ 8 < f := by omega
    have T0 := Lib.hid (hNewBad f hbad w)
    go_enter Try.func4, Try.ntmps4
    go_wp2_with fail
    refine T0.out.mono ?_
    rintro e w' ⟨rfl, rfl⟩
    by_cases h0 : f < 0
    · have d1 : ¬ (0 : Int) ≤ f := by omega
      go_wp2_with fail
      refine (GL.out _ (Kp.refl _ _)).mono ?_
      rintro e w6 ⟨rfl, k6⟩
      have K6 := Lib.hid k6
      clear k6
      go_wp2
      go_ret
      exact ⟨rfl, K6.out⟩
    · have d1 : (0 : Int) ≤ f := by omega
      have d2 : decide (f ≤ 8) = false := by simp; omega
      go_wp2_with fail
      refine (GL.out _ (Kp.refl _ _)).mono ?_
      rintro e w6 ⟨rfl, k6⟩
      have K6 := Lib.hid k6
      clear k6
      go_wp2
      go_ret
      exact ⟨rfl, K6.out⟩
end Go.Proofs.Ytkhipbpjknfloaa
