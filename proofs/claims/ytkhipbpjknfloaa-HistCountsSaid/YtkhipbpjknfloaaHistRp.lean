/- Layer 38, the document's: Count and Part. -/
import Derived.Test.YtkhipbpjknfloaaHistPg
import Derived.Test.YtkhipbpjknfloaaHistMergesW
namespace Go.Proofs.Ytkhipbpjknfloaa
set_option linter.unusedVariables false
set_option linter.unusedSimpArgs false
open Go.RowKit Go.Maps
theorem sumR_take (rs : List RwN) (i : Nat) (hi : i < rs.length) : sumR (rs.take (i + 1)) = satN (sumR (rs.take i)) rs[i].2.2 := by rw [take_snoc rs i hi, sumR_snoc]
set_option maxRecDepth 100000 in
set_option maxHeartbeats 2000000 in
theorem rCountN (rs : List RwN) (hrs : ∀ r ∈ rs, r.2.2 < 18446744073709551616) (v : Value) (w : World) (h : Sl w v rs.length 3 (rs.flatMap enRw)) :
    Calls Try.prog 38 #[v] w fun e w' => e = .returned (.int .u64 (sumR rs : Nat)) ∧ Kp none' w w' := by
  obtain ⟨ao, acap, rfl⟩ : ∃ ao cap, v = .slice ao rs.length cap := by obtain ⟨ao, cap, rfl, _⟩ := h.is; exact ⟨_, _, rfl⟩
  have HX := Lib.hid h
  have hmx := h.max
  clear h
  go_enter Try.func38, Try.ntmps38
  go_wp2
  go_loopw [3, 4] (fun s0 i0 wr => ∃ i s : Nat, i0 = .int .i64 i ∧ s0 = .int .u64 s ∧ i ≤ rs.length ∧ Hid (s = sumR (rs.take i) ∧ Kp none' w wr)) (fun _ i0 _ => rs.length - (Go.Proofs.intOf i0).toNat)
  case atStart => exact ⟨0, 0, rfl, rfl, by omega, rfl, Kp.refl _ _⟩
  case round =>
    obtain ⟨i, s, rfl, rfl, hi, hr⟩ := hrel
    by_cases hlt : i < rs.length
    · have hii : (i : Int) < rs.length := by omega
      have hst := sumR_take rs i hlt
      have hsl := sumR_lt (rs.take i)
      have hrc := hrs rs[i] (List.getElem_mem hlt)
      obtain ⟨g, o, c, e1, hc⟩ := (HX.out.old hr.out.2).at enRw_len (by decide) i hlt
      injection e1 with e1 _ e3
      subst e1 e3
      obtain ⟨⟨x, y, z⟩, hx⟩ : ∃ r, rs[i] = r := ⟨_, rfl⟩
      rw [hx] at hc hst hrc
      have a2 : wr.cell? ⟨g, o + i * 3 + 2, none⟩ = some (.int .u64 (z : Nat)) := hc 2 _ rfl
      rw [← hr.out.1] at hst hsl
      have HA := Lib.hid (rAdd s z hsl hrc wr)
      have HS : Hid (satN s z = sumR (rs.take (i + 1))) := hst.symm
      have HR := Lib.hid hr.out.2
      clear hc hx hr hst hsl
      go_wp2_with fail
      refine HA.out.mono ?_
      rintro e w1 ⟨rfl, k1⟩
      have K1 := Lib.hid (HR.out.trans k1)
      clear k1 a2
      go_wp2_with fail
      go_roundw
      case rel => exact ⟨i + 1, satN s z, by go_num, rfl, by omega, HS.out, K1.out⟩
      case measure => simp [Go.Proofs.intOf]; omega
    · obtain rfl : i = rs.length := by omega
      obtain ⟨h1, h2⟩ := hr.out
      rw [List.take_length] at h1
      have H1 := Lib.hid h1
      have H2 := Lib.hid h2
      clear hr h1 h2
      go_wp2
      go_ret
      exact ⟨by rw [← H1.out]; rfl, H2.out⟩
theorem infoRr : (Try.prog.info? 78).map (·.size) = some 3 := by kernel_rfl
theorem one3 (r : RwN) : ∀ v ∈ enRw r, v.oneCell' = true := by intro v hv; simp [enRw] at hv; rcases hv with rfl | rfl | rfl <;> rfl
set_option maxRecDepth 100000 in
set_option maxHeartbeats 4000000 in
theorem rPartN (rs : List RwN) (all num den : Nat) (hrs : ∀ r ∈ rs, r.2.2 < 18446744073709551616) (hall : sumR rs = all) (ha0 : 0 < all) (hd0 : 0 < den) (hd : den < 18446744073709551616) (hn : num ≤ den) (v : Value) (w : World) (h : Sl w v rs.length 3 (rs.flatMap enRw)) :
    Calls Try.prog 36 #[v, .int .u64 num, .int .u64 den] w fun e w' =>
      ∃ pre r post, rs = pre ++ r :: post ∧ sumC pre < kG all num den ∧ kG all num den ≤ sumC pre + r.2.2 ∧ e = .returned (.tuple #[.agg (enRw r).toArray, .bool true]) ∧ Kp none' w w' := by
  obtain ⟨ao, acap, rfl⟩ : ∃ ao cap, v = .slice ao rs.length cap := by obtain ⟨ao, cap, rfl, _⟩ := h.is; exact ⟨_, _, rfl⟩
  have ha : all < 18446744073709551616 := by rw [← hall]; exact sumR_lt _
  obtain ⟨hk1, hkall⟩ := kG_le ha0 hd0 hn
  obtain ⟨p, hp⟩ : ∃ p, all * num = p := ⟨_, rfl⟩
  obtain ⟨Q, hQ⟩ : ∃ Q, p / den = Q := ⟨_, rfl⟩
  have hpd : p ≤ all * den := by rw [← hp]; exact Nat.mul_le_mul_left _ hn
  have hQa : Q ≤ all := by rw [← hQ]; exact Nat.div_le_of_le_mul (Nat.le_trans hpd (Nat.le_of_eq (Nat.mul_comm all den)))
  have HM := Lib.hid (fun W => rMulDivN all num den p Q ha (by omega) hd hd0 hp hQ (by omega) W)
  have HU := Lib.hid (fun W => rUnderN Q den all num (Q * den) p (by omega) hd ha (by omega) rfl hp W)
  have hk : kG all num den = max (if Q * den < p then Q + 1 else Q) 1 := by unfold kG; rw [hp, hQ]
  obtain ⟨K, hK⟩ : ∃ K, kG all num den = K := ⟨_, rfl⟩
  rw [hK] at hk1 hkall hk ⊢
  have hmx := h.max
  have w0 := (Kp.refl none' w).alloc (.cells (enRw (0, 0, 0)).toArray 78)
  have HX := Lib.hid (h.old w0)
  have HB0 := Lib.hid (Blk.new w (enRw (0, 0, 0)) 78)
  have HC := rCountN rs hrs _ _ (h.old w0)
  rw [hall] at HC
  have HC := Lib.hid HC
  have W0 := Lib.hid w0
  have HALL := Lib.hid hall
  have hall0 : ((all : Int) == 0) = false := by rw [beq_eq_false_iff_ne]; omega
  have hd00 : ((den : Int) == 0) = false := by rw [beq_eq_false_iff_ne]; omega
  clear h w0 hall hp hQ hpd hK
  go_enter Try.func36, Try.ntmps36
  go_wp2_with fail
  refine HC.out.mono ?_
  rintro e w1 ⟨rfl, k1⟩
  have K1 := Lib.hid (W0.out.trans k1)
  have HX1 := Lib.hid (HX.out.old k1)
  have HB1 := Lib.hid (HB0.out.nc (NC.of_kp k1))
  clear k1 HC HX HB0 W0
  go_wp2_with fail
  refine (HM.out _).mono ?_
  rintro e w2 ⟨rfl, k2⟩
  have K2 := Lib.hid (K1.out.trans k2)
  have HX2 := Lib.hid (HX1.out.old k2)
  have HB2 := Lib.hid (HB1.out.nc (NC.of_kp k2))
  clear k2 K1 HX1 HB1 HM
  have hU := HU.out w2
  have hcase : (Q * den < p ∧ K = Q + 1) ∨ (¬ Q * den < p ∧ Q = 0 ∧ K = 1) ∨ (¬ Q * den < p ∧ 0 < Q ∧ K = Q) := by
    by_cases h1 : Q * den < p
    · rw [if_pos h1] at hk; exact .inl ⟨h1, by omega⟩
    · rw [if_neg h1] at hk
      by_cases h2 : Q = 0
      · exact .inr (.inl ⟨h1, h2, by omega⟩)
      · exact .inr (.inr ⟨h1, by omega, by omega⟩)
  clear hk HU
  have hKz : ((K : Int) == 0) = false := by rw [beq_eq_false_iff_ne]; omega
  rcases hcase with ⟨h1, h2⟩ | ⟨h1, h2, h3⟩ | ⟨h1, h2, h3⟩
  · have hKI : (Q : Int) + 1 = (K : Int) := by omega
    rw [decide_eq_true h1] at hU
    have HU2 := Lib.hid hU
    clear hU h1 h2
    go_wp2_with fail
    refine HU2.out.mono ?_
    rintro e w3 ⟨rfl, k3⟩
    have K3 := Lib.hid (K2.out.trans k3)
    have HX3 := Lib.hid (HX2.out.old k3)
    have HB3 := Lib.hid (HB2.out.nc (NC.of_kp k3))
    clear k3 K2 HX2 HB2 HU2
    go_wp2_with fail
    clear hKI
    go_loopw [10, 11] (fun s0 i0 wr => ∃ i s : Nat, i0 = .int .i64 i ∧ s0 = .int .u64 s ∧ i ≤ rs.length ∧ s < K ∧ Hid (s = sumR (rs.take i) ∧ Kp none' w3 wr)) (fun _ i0 _ => rs.length - (Go.Proofs.intOf i0).toNat)
    case atStart => exact ⟨0, 0, rfl, rfl, by omega, by omega, rfl, Kp.refl _ _⟩
    case round =>
      obtain ⟨i, s, rfl, rfl, hi, hsK, hr⟩ := hrel
      by_cases hlt : i < rs.length
      · have hii : (i : Int) < rs.length := by omega
        have hst := sumR_take rs i hlt
        have hsl := sumR_lt (rs.take i)
        have hrc := hrs rs[i] (List.getElem_mem hlt)
        have HX4 := Lib.hid (HX3.out.old hr.out.2)
        obtain ⟨g, o, c, e1, hc⟩ := HX4.out.at enRw_len (by decide) i hlt
        injection e1 with e1 _ e3
        subst e1 e3
        obtain ⟨⟨x, y, z⟩, hx⟩ : ∃ r, rs[i] = r := ⟨_, rfl⟩
        rw [hx] at hc hst hrc
        have a2 : wr.cell? ⟨g, o + i * 3 + 2, none⟩ = some (.int .u64 (z : Nat)) := hc 2 _ rfl
        have HCC := Lib.hid hc
        rw [← hr.out.1] at hst hsl
        have HA := Lib.hid (rAdd s z hsl hrc wr)
        have HS : Hid (satN s z = sumR (rs.take (i + 1))) := hst.symm
        have HS0 := Lib.hid hr.out.1
        have HR := Lib.hid hr.out.2
        have HB4 := Lib.hid (HB3.out.nc (NC.of_kp hr.out.2))
        obtain ⟨t, ht⟩ : ∃ t, satN s z = t := ⟨_, rfl⟩
        rw [ht] at HA HS
        have hspl : Hid (rs = rs.take i ++ (x, y, z) :: rs.drop (i + 1)) := by
          show _ = _
          rw [← hx, List.getElem_cons_drop, List.take_append_drop]
        have hKb : K < 18446744073709551616 := by omega
        have HT : Hid (t = satN s z) := ht.symm
        clear hc hx hr hst hsl ht
        go_wp2_with fail
        refine HA.out.mono ?_
        rintro e w5 ⟨rfl, k5⟩
        have K5 := Lib.hid (HR.out.trans k5)
        have HB5 := Lib.hid (HB4.out.nc (NC.of_kp k5))
        have cx : w5.cell? ⟨g, o + i * 3 + 0, none⟩ = some (.int .u64 (x : Nat)) := k5.cell (HCC.out 0 _ rfl) id
        have cy : w5.cell? ⟨g, o + i * 3 + 1, none⟩ = some (.int .u64 (y : Nat)) := k5.cell (HCC.out 1 _ rfl) id
        have cz : w5.cell? ⟨g, o + i * 3 + 2, none⟩ = some (.int .u64 (z : Nat)) := k5.cell (HCC.out 2 _ rfl) id
        simp only [Nat.add_zero] at cx
        clear k5 a2 HB4
        by_cases hge : K ≤ t
        · have hgi : (K : Int) ≤ t := by omega
          have hfin : Hid (sumC (rs.take i) < K ∧ K ≤ sumC (rs.take i) + z) := by
            have m1 := sumR_min (rs.take i)
            have m2 := HS0.out
            have m3 := HT.out
            unfold satN at m3
            refine ⟨by omega, ?_⟩
            split at m3 <;> omega
          have hone := one3 (x, y, z)
          go_wp2_with (refine wp_set_row rfl 78 (.tmp 6) (.tmp 58) rfl HB5.out (enRw (x, y, z)) rfl rfl infoRr rfl hone ?_; intro W6 hB6 hO6 hK6)
          exact ret_row2 rfl hB6 _ Try.underlying78 rfl infoRr rfl ⟨_, _, _, hspl.out, hfin.out.1, hfin.out.2, rfl, hK6 _ _ (K3.out.trans K5.out) (.inr (Nat.le_refl _))⟩
        · have hgi : ¬ (K : Int) ≤ t := by omega
          clear cx cy cz
          go_wp2_with fail
          go_roundw
          case rel => exact ⟨i + 1, t, by go_num, rfl, by omega, by omega, HS.out, K5.out⟩
          case measure => simp [Go.Proofs.intOf]; omega
      · exfalso
        obtain rfl : i = rs.length := by omega
        have h1 := hr.out.1
        rw [List.take_length, HALL.out] at h1
        omega
  · have hQz : ((Q : Int) == 0) = true := by rw [beq_iff_eq]; omega
    rw [decide_eq_false h1] at hU
    have HU2 := Lib.hid hU
    have hK1 : Hid (K = 1) := h3
    clear hU h1 h2 h3
    go_wp2_with fail
    refine HU2.out.mono ?_
    rintro e w3 ⟨rfl, k3⟩
    have K3 := Lib.hid (K2.out.trans k3)
    have HX3 := Lib.hid (HX2.out.old k3)
    have HB3 := Lib.hid (HB2.out.nc (NC.of_kp k3))
    clear k3 K2 HX2 HB2 HU2
    go_wp2_with fail
    rw [show (Value.int .u64 1) = .int .u64 (K : Int) by rw [hK1.out]; rfl]
    clear hQz
    go_loopw [10, 11] (fun s0 i0 wr => ∃ i s : Nat, i0 = .int .i64 i ∧ s0 = .int .u64 s ∧ i ≤ rs.length ∧ s < K ∧ Hid (s = sumR (rs.take i) ∧ Kp none' w3 wr)) (fun _ i0 _ => rs.length - (Go.Proofs.intOf i0).toNat)
    case atStart => exact ⟨0, 0, rfl, rfl, by omega, by omega, rfl, Kp.refl _ _⟩
    case round =>
      obtain ⟨i, s, rfl, rfl, hi, hsK, hr⟩ := hrel
      by_cases hlt : i < rs.length
      · have hii : (i : Int) < rs.length := by omega
        have hst := sumR_take rs i hlt
        have hsl := sumR_lt (rs.take i)
        have hrc := hrs rs[i] (List.getElem_mem hlt)
        have HX4 := Lib.hid (HX3.out.old hr.out.2)
        obtain ⟨g, o, c, e1, hc⟩ := HX4.out.at enRw_len (by decide) i hlt
        injection e1 with e1 _ e3
        subst e1 e3
        obtain ⟨⟨x, y, z⟩, hx⟩ : ∃ r, rs[i] = r := ⟨_, rfl⟩
        rw [hx] at hc hst hrc
        have a2 : wr.cell? ⟨g, o + i * 3 + 2, none⟩ = some (.int .u64 (z : Nat)) := hc 2 _ rfl
        have HCC := Lib.hid hc
        rw [← hr.out.1] at hst hsl
        have HA := Lib.hid (rAdd s z hsl hrc wr)
        have HS : Hid (satN s z = sumR (rs.take (i + 1))) := hst.symm
        have HS0 := Lib.hid hr.out.1
        have HR := Lib.hid hr.out.2
        have HB4 := Lib.hid (HB3.out.nc (NC.of_kp hr.out.2))
        obtain ⟨t, ht⟩ : ∃ t, satN s z = t := ⟨_, rfl⟩
        rw [ht] at HA HS
        have hspl : Hid (rs = rs.take i ++ (x, y, z) :: rs.drop (i + 1)) := by
          show _ = _
          rw [← hx, List.getElem_cons_drop, List.take_append_drop]
        have hKb : K < 18446744073709551616 := by omega
        have HT : Hid (t = satN s z) := ht.symm
        clear hc hx hr hst hsl ht
        go_wp2_with fail
        refine HA.out.mono ?_
        rintro e w5 ⟨rfl, k5⟩
        have K5 := Lib.hid (HR.out.trans k5)
        have HB5 := Lib.hid (HB4.out.nc (NC.of_kp k5))
        have cx : w5.cell? ⟨g, o + i * 3 + 0, none⟩ = some (.int .u64 (x : Nat)) := k5.cell (HCC.out 0 _ rfl) id
        have cy : w5.cell? ⟨g, o + i * 3 + 1, none⟩ = some (.int .u64 (y : Nat)) := k5.cell (HCC.out 1 _ rfl) id
        have cz : w5.cell? ⟨g, o + i * 3 + 2, none⟩ = some (.int .u64 (z : Nat)) := k5.cell (HCC.out 2 _ rfl) id
        simp only [Nat.add_zero] at cx
        clear k5 a2 HB4
        by_cases hge : K ≤ t
        · have hgi : (K : Int) ≤ t := by omega
          have hfin : Hid (sumC (rs.take i) < K ∧ K ≤ sumC (rs.take i) + z) := by
            have m1 := sumR_min (rs.take i)
            have m2 := HS0.out
            have m3 := HT.out
            unfold satN at m3
            refine ⟨by omega, ?_⟩
            split at m3 <;> omega
          have hone := one3 (x, y, z)
          go_wp2_with (refine wp_set_row rfl 78 (.tmp 6) (.tmp 58) rfl HB5.out (enRw (x, y, z)) rfl rfl infoRr rfl hone ?_; intro W6 hB6 hO6 hK6)
          exact ret_row2 rfl hB6 _ Try.underlying78 rfl infoRr rfl ⟨_, _, _, hspl.out, hfin.out.1, hfin.out.2, rfl, hK6 _ _ (K3.out.trans K5.out) (.inr (Nat.le_refl _))⟩
        · have hgi : ¬ (K : Int) ≤ t := by omega
          clear cx cy cz
          go_wp2_with fail
          go_roundw
          case rel => exact ⟨i + 1, t, by go_num, rfl, by omega, by omega, HS.out, K5.out⟩
          case measure => simp [Go.Proofs.intOf]; omega
      · exfalso
        obtain rfl : i = rs.length := by omega
        have h1 := hr.out.1
        rw [List.take_length, HALL.out] at h1
        omega
  · obtain rfl : K = Q := h3
    rw [decide_eq_false h1] at hU
    have HU2 := Lib.hid hU
    clear hU h1 h2
    go_wp2_with fail
    refine HU2.out.mono ?_
    rintro e w3 ⟨rfl, k3⟩
    have K3 := Lib.hid (K2.out.trans k3)
    have HX3 := Lib.hid (HX2.out.old k3)
    have HB3 := Lib.hid (HB2.out.nc (NC.of_kp k3))
    clear k3 K2 HX2 HB2 HU2
    go_wp2_with fail
    go_loopw [10, 11] (fun s0 i0 wr => ∃ i s : Nat, i0 = .int .i64 i ∧ s0 = .int .u64 s ∧ i ≤ rs.length ∧ s < K ∧ Hid (s = sumR (rs.take i) ∧ Kp none' w3 wr)) (fun _ i0 _ => rs.length - (Go.Proofs.intOf i0).toNat)
    case atStart => exact ⟨0, 0, rfl, rfl, by omega, by omega, rfl, Kp.refl _ _⟩
    case round =>
      obtain ⟨i, s, rfl, rfl, hi, hsK, hr⟩ := hrel
      by_cases hlt : i < rs.length
      · have hii : (i : Int) < rs.length := by omega
        have hst := sumR_take rs i hlt
        have hsl := sumR_lt (rs.take i)
        have hrc := hrs rs[i] (List.getElem_mem hlt)
        have HX4 := Lib.hid (HX3.out.old hr.out.2)
        obtain ⟨g, o, c, e1, hc⟩ := HX4.out.at enRw_len (by decide) i hlt
        injection e1 with e1 _ e3
        subst e1 e3
        obtain ⟨⟨x, y, z⟩, hx⟩ : ∃ r, rs[i] = r := ⟨_, rfl⟩
        rw [hx] at hc hst hrc
        have a2 : wr.cell? ⟨g, o + i * 3 + 2, none⟩ = some (.int .u64 (z : Nat)) := hc 2 _ rfl
        have HCC := Lib.hid hc
        rw [← hr.out.1] at hst hsl
        have HA := Lib.hid (rAdd s z hsl hrc wr)
        have HS : Hid (satN s z = sumR (rs.take (i + 1))) := hst.symm
        have HS0 := Lib.hid hr.out.1
        have HR := Lib.hid hr.out.2
        have HB4 := Lib.hid (HB3.out.nc (NC.of_kp hr.out.2))
        obtain ⟨t, ht⟩ : ∃ t, satN s z = t := ⟨_, rfl⟩
        rw [ht] at HA HS
        have hspl : Hid (rs = rs.take i ++ (x, y, z) :: rs.drop (i + 1)) := by
          show _ = _
          rw [← hx, List.getElem_cons_drop, List.take_append_drop]
        have hKb : K < 18446744073709551616 := by omega
        have HT : Hid (t = satN s z) := ht.symm
        clear hc hx hr hst hsl ht
        go_wp2_with fail
        refine HA.out.mono ?_
        rintro e w5 ⟨rfl, k5⟩
        have K5 := Lib.hid (HR.out.trans k5)
        have HB5 := Lib.hid (HB4.out.nc (NC.of_kp k5))
        have cx : w5.cell? ⟨g, o + i * 3 + 0, none⟩ = some (.int .u64 (x : Nat)) := k5.cell (HCC.out 0 _ rfl) id
        have cy : w5.cell? ⟨g, o + i * 3 + 1, none⟩ = some (.int .u64 (y : Nat)) := k5.cell (HCC.out 1 _ rfl) id
        have cz : w5.cell? ⟨g, o + i * 3 + 2, none⟩ = some (.int .u64 (z : Nat)) := k5.cell (HCC.out 2 _ rfl) id
        simp only [Nat.add_zero] at cx
        clear k5 a2 HB4
        by_cases hge : K ≤ t
        · have hgi : (K : Int) ≤ t := by omega
          have hfin : Hid (sumC (rs.take i) < K ∧ K ≤ sumC (rs.take i) + z) := by
            have m1 := sumR_min (rs.take i)
            have m2 := HS0.out
            have m3 := HT.out
            unfold satN at m3
            refine ⟨by omega, ?_⟩
            split at m3 <;> omega
          have hone := one3 (x, y, z)
          go_wp2_with (refine wp_set_row rfl 78 (.tmp 6) (.tmp 58) rfl HB5.out (enRw (x, y, z)) rfl rfl infoRr rfl hone ?_; intro W6 hB6 hO6 hK6)
          exact ret_row2 rfl hB6 _ Try.underlying78 rfl infoRr rfl ⟨_, _, _, hspl.out, hfin.out.1, hfin.out.2, rfl, hK6 _ _ (K3.out.trans K5.out) (.inr (Nat.le_refl _))⟩
        · have hgi : ¬ (K : Int) ≤ t := by omega
          clear cx cy cz
          go_wp2_with fail
          go_roundw
          case rel => exact ⟨i + 1, t, by go_num, rfl, by omega, by omega, HS.out, K5.out⟩
          case measure => simp [Go.Proofs.intOf]; omega
      · exfalso
        obtain rfl : i = rs.length := by omega
        have h1 := hr.out.1
        rw [List.take_length, HALL.out] at h1
        omega
end Go.Proofs.Ytkhipbpjknfloaa
