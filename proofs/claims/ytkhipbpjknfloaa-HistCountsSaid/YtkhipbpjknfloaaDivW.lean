/- math/bits.Div64 in full: Knuth's division of two words by one. -/
import Derived.Test.YtkhipbpjknfloaaDivP
import Derived.Test.YtkhipbpjknfloaaHistW
import Derived.Test.YtkhipbpjknfloaaHistU
namespace Go.Proofs.Ytkhipbpjknfloaa
set_option linter.unusedVariables false
set_option linter.unusedSimpArgs false
open Go.RowKit Go.Shelf
set_option maxRecDepth 100000 in
set_option maxHeartbeats 4000000 in
theorem dDiv64 (hi lo y : Nat) (hh : 0 < hi) (hlt : hi < y) (hl : lo < 18446744073709551616) (hy : y < 18446744073709551616) (w : World) :
    Calls Try.prog 93 #[.int .u64 hi, .int .u64 lo, .int .u64 y] w fun e w' => (∃ q r : Int, e = .returned (.tuple #[.int .u64 q, .int .u64 r]) ∧ q = (((hi * 18446744073709551616 + lo) / y : Nat) : Int)) ∧ w = w' := by
  have hLg := lg_lt (k := 63) (show y < pw (63 + 1) by rw [pw64]; omega)
  obtain ⟨s, hs⟩ : ∃ s, 63 - lg y = s := ⟨_, rfl⟩
  have hLZ := Try.bits_LeadingZeros64 (y : Nat) w (by omega) (by omega)
  rw [Int.toNat_natCast, bitLen_lg y hy, if_neg (by omega), show ((64 : Int) - ((lg y + 1 : Nat) : Int)) = (s : Nat) by omega] at hLZ
  have HLZ := Lib.hid hLZ
  obtain ⟨P, hP⟩ : ∃ P, pw s = P := ⟨_, rfl⟩
  obtain ⟨Pc, hPc⟩ : ∃ P, pw (64 - s) = P := ⟨_, rfl⟩
  have hP0 : 0 < P := by rw [← hP]; exact pw_pos s
  have hPP : P * Pc = 18446744073709551616 := by rw [← hP, ← hPc, ← pw_add, show s + (64 - s) = 64 by omega, pw64]
  obtain ⟨v, hv⟩ : ∃ v, y * P = v := ⟨_, rfl⟩
  have hvb : 9223372036854775808 ≤ v ∧ v < 18446744073709551616 := by
    obtain ⟨q1, q2⟩ := lg_spec (n := y) (by omega)
    have e1 : pw (lg y) * P = 9223372036854775808 := by rw [← hP, ← pw_add, show lg y + s = 63 by omega]; decide
    have e2 : pw (lg y + 1) * P = 18446744073709551616 := by rw [← hP, ← pw_add, show lg y + 1 + s = 64 by omega]; exact pw64
    rw [← e1, ← e2, ← hv]
    exact ⟨Nat.mul_le_mul_right _ q1, (Nat.mul_lt_mul_right hP0).2 q2⟩
  obtain ⟨hA, hB⟩ := k_high (hi := hi) (lo := lo) (y := y) hP0 hPP hlt hl
  rw [hv] at hA
  obtain ⟨hp, hhp⟩ : ∃ hp, hi * P = hp := ⟨_, rfl⟩
  obtain ⟨lp, hlp⟩ : ∃ lp, lo / Pc = lp := ⟨_, rfl⟩
  rw [hhp, hlp] at hA
  rw [hlp] at hB
  have hpI : (2 : Int) ^ s = (P : Int) := by rw [pw_int, hP]
  have hcI : (2 : Int) ^ (64 - s) = (Pc : Int) := by rw [pw_int, hPc]
  have hyI : (y : Int) * (P : Int) = (v : Int) := by rw [← hv]; simp
  have hhI : (hi : Int) * (P : Int) = (hp : Int) := by rw [← hhp]; simp
  have hlI : (lo : Int) / (Pc : Int) = (lp : Int) := by rw [← hlp]; simp
  obtain ⟨t, ht⟩ : ∃ t, lo * P % 18446744073709551616 = t := ⟨_, rfl⟩
  have htI : IntKind.u64.wrap ((lo : Int) * (P : Int)) = (t : Int) := by rw [IntKind.wrap_u64, ← ht]; simp
  have htb : t < 18446744073709551616 := by omega
  have h00 : ((y : Int) == 0) = false := by rw [beq_eq_false_iff_ne]; omega
  have h01 : ((hi : Int) == 0) = false := by rw [beq_eq_false_iff_ne]; omega
  have hs63 : s ≤ 63 := by omega
  obtain ⟨u, hu⟩ : ∃ u, hp + lp = u := ⟨_, rfl⟩
  have hor : bits .or .u64 (hp : Int) (lp : Int) = (u : Int) := by
    rw [bits_or_u64_nat hp lp (by omega) (by omega), ← hu, ← hhp, ← hP]
    have h3 : lp < 2 ^ s := by have := hB; rw [← hP] at this; exact this
    have h2 := Nat.two_pow_add_eq_or_of_lt h3 hi
    unfold pw
    rw [Nat.mul_comm hi, h2]
  obtain ⟨n1, hn1⟩ : ∃ n, v / 4294967296 = n := ⟨_, rfl⟩
  obtain ⟨n0, hn0'⟩ : ∃ n, v % 4294967296 = n := ⟨_, rfl⟩
  obtain ⟨u1, hu1⟩ : ∃ n, t / 4294967296 = n := ⟨_, rfl⟩
  obtain ⟨u0, hu0⟩ : ∃ n, t % 4294967296 = n := ⟨_, rfl⟩
  have hn1I : (v : Int) / 4294967296 = (n1 : Int) := by omega
  have hn0I : bits .and .u64 (v : Int) 4294967295 = (n0 : Int) := by rw [Mul64.maskN v hvb.2, hn0']
  have hu1I : (t : Int) / 4294967296 = (u1 : Int) := by omega
  have hu0I : bits .and .u64 (t : Int) 4294967295 = (u0 : Int) := by rw [Mul64.maskN t htb, hu0]
  have hV : Hid (v = n1 * 4294967296 + n0) := by show _ = _; omega
  have hn1b : 2147483648 ≤ n1 ∧ n1 < 4294967296 := by omega
  have hn0 : n0 < 4294967296 := by omega
  have hd1 : u1 < 4294967296 := by omega
  have hd2 : u0 < 4294967296 := by omega
  have hub : u < v := by omega
  obtain ⟨qa, hqa⟩ : ∃ q, u / n1 = q := ⟨_, rfl⟩
  have hqaI : (u : Int).tdiv (n1 : Int) = (qa : Int) := by rw [← hqa, Int.tdiv_eq_ediv_of_nonneg (by omega)]; simp
  have hqaD : (u : Int) / (n1 : Int) = (qa : Int) := by rw [← hqa]; simp
  have hqab : qa ≤ 4294967297 := by rw [← hqa]; exact k_top hV.out hub hn0 hn1b.1
  obtain ⟨xa, hxa⟩ : ∃ x, qa * n1 = x := ⟨_, rfl⟩
  have hxaI : (qa : Int) * (n1 : Int) = (xa : Int) := by rw [← hxa]; simp
  have hxr : xa ≤ u ∧ u - xa < n1 := by
    have h1 := Nat.div_add_mod u n1
    have h2 := Nat.mod_lt u (show 0 < n1 by omega)
    rw [hqa, Nat.mul_comm, hxa] at h1
    omega
  obtain ⟨ra, hra⟩ : ∃ r, u - xa = r := ⟨_, rfl⟩
  have hraI : (u : Int) - (xa : Int) = (ra : Int) := by omega
  obtain ⟨Q1, hQ1⟩ : ∃ Q, (u * 4294967296 + u1) / v = Q := ⟨_, rfl⟩
  have V1 : Hid (Q1 = (u * 4294967296 + u1) / v) := hQ1.symm
  have Hau1 : Hid (u < v) := hub
  have S1 : Hid (qa ≤ 4294967297 ∧ ra < 4294967296 ∧ u = qa * n1 + ra ∧ Q1 ≤ qa) := ⟨hqab, by omega, by rw [hxa]; omega, by rw [← hqa]; exact k_init hV.out V1.out (by omega) hd1⟩
  have hQ1b : Q1 < 4294967296 := k_lt hV.out V1.out hub hd1
  obtain ⟨r1, hr1⟩ : ∃ r, (u * 4294967296 + u1) % v = r := ⟨_, rfl⟩
  have hr1b : r1 < v := by rw [← hr1]; exact Nat.mod_lt _ (by omega)
  have Hau2 : Hid (r1 < v) := hr1b
  obtain ⟨qv, hqv⟩ : ∃ x, Q1 * v = x := ⟨_, rfl⟩
  have hqvI : (Q1 : Int) * (v : Int) = (qv : Int) := by rw [← hqv]; simp
  have hqvb : qv + r1 = u * 4294967296 + u1 := by
    have h1 := Nat.div_add_mod (u * 4294967296 + u1) v
    rw [hQ1, hr1, Nat.mul_comm, hqv] at h1
    exact h1
  have hr1I : IntKind.u64.wrap (IntKind.u64.wrap (IntKind.u64.wrap ((u : Int) * 4294967296) + (u1 : Int)) - IntKind.u64.wrap (qv : Int)) = (r1 : Int) := by
    simp only [IntKind.wrap_u64]; omega
  obtain ⟨qb, hqb⟩ : ∃ q, r1 / n1 = q := ⟨_, rfl⟩
  have hqbI : (r1 : Int).tdiv (n1 : Int) = (qb : Int) := by rw [← hqb, Int.tdiv_eq_ediv_of_nonneg (by omega)]; simp
  have hqbD : (r1 : Int) / (n1 : Int) = (qb : Int) := by rw [← hqb]; simp
  have hqbb : qb ≤ 4294967297 := by rw [← hqb]; exact k_top hV.out hr1b hn0 hn1b.1
  obtain ⟨xb, hxb⟩ : ∃ x, qb * n1 = x := ⟨_, rfl⟩
  have hxbI : (qb : Int) * (n1 : Int) = (xb : Int) := by rw [← hxb]; simp
  have hxbr : xb ≤ r1 ∧ r1 - xb < n1 := by
    have h1 := Nat.div_add_mod r1 n1
    have h2 := Nat.mod_lt r1 (show 0 < n1 by omega)
    rw [hqb, Nat.mul_comm, hxb] at h1
    omega
  obtain ⟨rb, hrb⟩ : ∃ r, r1 - xb = r := ⟨_, rfl⟩
  have hrbI : (r1 : Int) - (xb : Int) = (rb : Int) := by omega
  obtain ⟨Q0, hQ0⟩ : ∃ Q, (r1 * 4294967296 + u0) / v = Q := ⟨_, rfl⟩
  have V2 : Hid (Q0 = (r1 * 4294967296 + u0) / v) := hQ0.symm
  have S2 : Hid (qb ≤ 4294967297 ∧ rb < 4294967296 ∧ r1 = qb * n1 + rb ∧ Q0 ≤ qb) := ⟨hqbb, by omega, by rw [hxb]; omega, by rw [← hqb]; exact k_init hV.out V2.out (by omega) hd2⟩
  have hQ0b : Q0 < 4294967296 := k_lt hV.out V2.out hr1b hd2
  have HF : Hid (((hi * 18446744073709551616 + lo) / y : Nat) = Q1 * 4294967296 + Q0) := by
    show _ = _
    refine (k_all (hi := hi) (lo := lo) (y := y) (P := P) (Pc := Pc) (un32 := u) (un10 := t) (un1 := u1) (un0 := u0) hP0 hPP (by omega) (by rw [hhp, hlp, hu]) ht.symm hu1.symm hu0.symm (by rw [hv, hQ1]) (q0 := Q0) (r1 := r1) (by rw [hv, hr1]) (by rw [hv, hQ0])).symm
  have HFI : Hid ((((hi * 18446744073709551616 + lo) / y : Nat) : Int) = (Q1 : Int) * 4294967296 + (Q0 : Int)) := by
    show _ = _
    rw [HF.out]; simp
  clear hLZ hP hPc hv hhp hlp ht hs hLg hu hn1 hn0' hu1 hu0 hqa hxa hra hQ1 hr1 hqv hqb hxb hrb hQ0 hPP
  go_enter Try.func93, Try.ntmps93
  go_wp2_with fail
  refine HLZ.out.mono ?_
  rintro e w' ⟨rfl, rfl⟩
  go_wp2_with fail
  go_loop [16, 15] (fun r0 q0 => ∃ qh rh : Nat, q0 = .int .u64 qh ∧ r0 = .int .u64 rh ∧ qh ≤ 4294967297 ∧ rh < 4294967296 ∧ Hid (u = qh * n1 + rh ∧ Q1 ≤ qh)) (fun r0 _ => 4294967296 - (Go.Proofs.intOf r0).toNat)
  case atStart => exact ⟨_, _, rfl, rfl, S1.out.1, S1.out.2.1, S1.out.2.2.1, S1.out.2.2.2⟩
  case round =>
    obtain ⟨qh, rh, rfl, rfl, hq, hr, hI⟩ := hrel
    obtain ⟨pr, hpr⟩ : ∃ pr, qh * n0 = pr := ⟨_, rfl⟩
    have hprI : (qh : Int) * (n0 : Int) = (pr : Int) := by rw [← hpr]; simp
    have hcase : (4294967296 ≤ qh ∨ (qh < 4294967296 ∧ 4294967296 * rh + u1 < pr)) ∨ (qh < 4294967296 ∧ pr ≤ 4294967296 * rh + u1) := by omega
    have hprb : qh < 4294967296 → pr ≤ 18446744065119617025 := fun h => by rw [← hpr]; exact Nat.mul_le_mul (show qh ≤ 4294967295 by omega) (show n0 ≤ 4294967295 by omega)
    rcases hcase with hdown | ⟨h1, h2⟩
    · have hlt : Q1 < qh := k_down hV.out V1.out Hau1.out hd1 hI.out.1 (by rcases hdown with h | ⟨_, h⟩; exact .inl h; exact .inr (by rw [hpr]; exact h))
      have hst := k_step hI.out.1 (show 0 < qh by omega)
      have hge1 : 1 ≤ qh := by omega
      by_cases hbr : 4294967296 ≤ rh + n1
      · have hqe := k_break hV.out V1.out Hau1.out hn0 hst (show Q1 ≤ qh - 1 by omega) (by omega) hbr
        have hqeI : (qh : Int) - 1 = (Q1 : Int) := by omega
        have hbrI : (4294967296 : Int) ≤ (rh : Int) + (n1 : Int) := by omega
        clear hst hqe hlt hI hpr
        rcases hdown with h | ⟨h1, h2⟩
        · have hqi : (4294967296 : Int) ≤ qh := by omega
          clear hprb
          go_wp2_with fail
          go_loop [16, 18] (fun r0 q0 => ∃ qh rh : Nat, q0 = .int .u64 qh ∧ r0 = .int .u64 rh ∧ qh ≤ 4294967297 ∧ rh < 4294967296 ∧ Hid (r1 = qh * n1 + rh ∧ Q0 ≤ qh)) (fun r0 _ => 4294967296 - (Go.Proofs.intOf r0).toNat)
          case atStart => exact ⟨_, _, rfl, rfl, S2.out.1, S2.out.2.1, S2.out.2.2.1, S2.out.2.2.2⟩
          case round =>
            obtain ⟨qh, rh, rfl, rfl, hq, hr, hI⟩ := hrel
            obtain ⟨pr, hpr⟩ : ∃ pr, qh * n0 = pr := ⟨_, rfl⟩
            have hprI : (qh : Int) * (n0 : Int) = (pr : Int) := by rw [← hpr]; simp
            have hcase : (4294967296 ≤ qh ∨ (qh < 4294967296 ∧ 4294967296 * rh + u0 < pr)) ∨ (qh < 4294967296 ∧ pr ≤ 4294967296 * rh + u0) := by omega
            have hprb : qh < 4294967296 → pr ≤ 18446744065119617025 := fun h => by rw [← hpr]; exact Nat.mul_le_mul (show qh ≤ 4294967295 by omega) (show n0 ≤ 4294967295 by omega)
            rcases hcase with hdown | ⟨h1, h2⟩
            · have hlt : Q0 < qh := k_down hV.out V2.out Hau2.out hd2 hI.out.1 (by rcases hdown with h | ⟨_, h⟩; exact .inl h; exact .inr (by rw [hpr]; exact h))
              have hst := k_step hI.out.1 (show 0 < qh by omega)
              have hge1 : 1 ≤ qh := by omega
              by_cases hbr : 4294967296 ≤ rh + n1
              · have hqe := k_break hV.out V2.out Hau2.out hn0 hst (show Q0 ≤ qh - 1 by omega) (by omega) hbr
                have hqeI : (qh : Int) - 1 = (Q0 : Int) := by omega
                have hbrI : (4294967296 : Int) ≤ (rh : Int) + (n1 : Int) := by omega
                clear hst hqe hlt hI hpr
                rcases hdown with h | ⟨h1, h2⟩
                · have hqi : (4294967296 : Int) ≤ qh := by omega
                  clear hprb
                  go_wp2_with fail
                  go_ret2
                  first | exact ⟨⟨_, pRet HFI.out.symm⟩, rfl⟩ | exact ⟨⟨_, _, rfl, HFI.out.symm⟩, rfl⟩ | exact ⟨⟨_, _, pRet HFI.out.symm, rfl⟩, rfl⟩
                · have hqi : ¬ (4294967296 : Int) ≤ qh := by omega
                  have hpb := hprb h1
                  have h2i : 4294967296 * (rh : Int) + (u0 : Int) < (pr : Int) := by omega
                  clear hprb
                  go_wp2_with fail
                  go_ret2
                  first | exact ⟨⟨_, pRet HFI.out.symm⟩, rfl⟩ | exact ⟨⟨_, _, rfl, HFI.out.symm⟩, rfl⟩ | exact ⟨⟨_, _, pRet HFI.out.symm, rfl⟩, rfl⟩
              · have hbrI : ¬ (4294967296 : Int) ≤ (rh : Int) + (n1 : Int) := by omega
                have HST := Lib.hid hst
                clear hst hI hpr
                rcases hdown with h | ⟨h1, h2⟩
                · have hqi : (4294967296 : Int) ≤ qh := by omega
                  clear hprb
                  go_wp2
                  go_round
                  case rel => exact ⟨qh - 1, rh + n1, by congr 1; omega, by go_num, by omega, by omega, HST.out, by omega⟩
                  case measure => simp [Go.Proofs.intOf]; omega
                · have hqi : ¬ (4294967296 : Int) ≤ qh := by omega
                  have hpb := hprb h1
                  have h2i : 4294967296 * (rh : Int) + (u0 : Int) < (pr : Int) := by omega
                  clear hprb
                  go_wp2
                  go_round
                  case rel => exact ⟨qh - 1, rh + n1, by congr 1; omega, by go_num, by omega, by omega, HST.out, by omega⟩
                  case measure => simp [Go.Proofs.intOf]; omega
            · have hqe := k_stop hV.out V2.out Hau2.out hI.out.1 hI.out.2 (by rw [hpr]; exact h2)
              have hqi : ¬ (4294967296 : Int) ≤ qh := by omega
              have hpb := hprb h1
              have h2i : ¬ 4294967296 * (rh : Int) + (u0 : Int) < (pr : Int) := by omega
              clear hprb hI hpr
              subst hqe
              go_wp2_with fail
              go_ret2
              first | exact ⟨⟨_, pRet HFI.out.symm⟩, rfl⟩ | exact ⟨⟨_, _, rfl, HFI.out.symm⟩, rfl⟩ | exact ⟨⟨_, _, pRet HFI.out.symm, rfl⟩, rfl⟩
        · have hqi : ¬ (4294967296 : Int) ≤ qh := by omega
          have hpb := hprb h1
          have h2i : 4294967296 * (rh : Int) + (u1 : Int) < (pr : Int) := by omega
          clear hprb
          go_wp2_with fail
          go_loop [16, 18] (fun r0 q0 => ∃ qh rh : Nat, q0 = .int .u64 qh ∧ r0 = .int .u64 rh ∧ qh ≤ 4294967297 ∧ rh < 4294967296 ∧ Hid (r1 = qh * n1 + rh ∧ Q0 ≤ qh)) (fun r0 _ => 4294967296 - (Go.Proofs.intOf r0).toNat)
          case atStart => exact ⟨_, _, rfl, rfl, S2.out.1, S2.out.2.1, S2.out.2.2.1, S2.out.2.2.2⟩
          case round =>
            obtain ⟨qh, rh, rfl, rfl, hq, hr, hI⟩ := hrel
            obtain ⟨pr, hpr⟩ : ∃ pr, qh * n0 = pr := ⟨_, rfl⟩
            have hprI : (qh : Int) * (n0 : Int) = (pr : Int) := by rw [← hpr]; simp
            have hcase : (4294967296 ≤ qh ∨ (qh < 4294967296 ∧ 4294967296 * rh + u0 < pr)) ∨ (qh < 4294967296 ∧ pr ≤ 4294967296 * rh + u0) := by omega
            have hprb : qh < 4294967296 → pr ≤ 18446744065119617025 := fun h => by rw [← hpr]; exact Nat.mul_le_mul (show qh ≤ 4294967295 by omega) (show n0 ≤ 4294967295 by omega)
            rcases hcase with hdown | ⟨h1, h2⟩
            · have hlt : Q0 < qh := k_down hV.out V2.out Hau2.out hd2 hI.out.1 (by rcases hdown with h | ⟨_, h⟩; exact .inl h; exact .inr (by rw [hpr]; exact h))
              have hst := k_step hI.out.1 (show 0 < qh by omega)
              have hge1 : 1 ≤ qh := by omega
              by_cases hbr : 4294967296 ≤ rh + n1
              · have hqe := k_break hV.out V2.out Hau2.out hn0 hst (show Q0 ≤ qh - 1 by omega) (by omega) hbr
                have hqeI : (qh : Int) - 1 = (Q0 : Int) := by omega
                have hbrI : (4294967296 : Int) ≤ (rh : Int) + (n1 : Int) := by omega
                clear hst hqe hlt hI hpr
                rcases hdown with h | ⟨h1, h2⟩
                · have hqi : (4294967296 : Int) ≤ qh := by omega
                  clear hprb
                  go_wp2_with fail
                  go_ret2
                  first | exact ⟨⟨_, pRet HFI.out.symm⟩, rfl⟩ | exact ⟨⟨_, _, rfl, HFI.out.symm⟩, rfl⟩ | exact ⟨⟨_, _, pRet HFI.out.symm, rfl⟩, rfl⟩
                · have hqi : ¬ (4294967296 : Int) ≤ qh := by omega
                  have hpb := hprb h1
                  have h2i : 4294967296 * (rh : Int) + (u0 : Int) < (pr : Int) := by omega
                  clear hprb
                  go_wp2_with fail
                  go_ret2
                  first | exact ⟨⟨_, pRet HFI.out.symm⟩, rfl⟩ | exact ⟨⟨_, _, rfl, HFI.out.symm⟩, rfl⟩ | exact ⟨⟨_, _, pRet HFI.out.symm, rfl⟩, rfl⟩
              · have hbrI : ¬ (4294967296 : Int) ≤ (rh : Int) + (n1 : Int) := by omega
                have HST := Lib.hid hst
                clear hst hI hpr
                rcases hdown with h | ⟨h1, h2⟩
                · have hqi : (4294967296 : Int) ≤ qh := by omega
                  clear hprb
                  go_wp2
                  go_round
                  case rel => exact ⟨qh - 1, rh + n1, by congr 1; omega, by go_num, by omega, by omega, HST.out, by omega⟩
                  case measure => simp [Go.Proofs.intOf]; omega
                · have hqi : ¬ (4294967296 : Int) ≤ qh := by omega
                  have hpb := hprb h1
                  have h2i : 4294967296 * (rh : Int) + (u0 : Int) < (pr : Int) := by omega
                  clear hprb
                  go_wp2
                  go_round
                  case rel => exact ⟨qh - 1, rh + n1, by congr 1; omega, by go_num, by omega, by omega, HST.out, by omega⟩
                  case measure => simp [Go.Proofs.intOf]; omega
            · have hqe := k_stop hV.out V2.out Hau2.out hI.out.1 hI.out.2 (by rw [hpr]; exact h2)
              have hqi : ¬ (4294967296 : Int) ≤ qh := by omega
              have hpb := hprb h1
              have h2i : ¬ 4294967296 * (rh : Int) + (u0 : Int) < (pr : Int) := by omega
              clear hprb hI hpr
              subst hqe
              go_wp2_with fail
              go_ret2
              first | exact ⟨⟨_, pRet HFI.out.symm⟩, rfl⟩ | exact ⟨⟨_, _, rfl, HFI.out.symm⟩, rfl⟩ | exact ⟨⟨_, _, pRet HFI.out.symm, rfl⟩, rfl⟩
      · have hbrI : ¬ (4294967296 : Int) ≤ (rh : Int) + (n1 : Int) := by omega
        have HST := Lib.hid hst
        clear hst hI hpr
        rcases hdown with h | ⟨h1, h2⟩
        · have hqi : (4294967296 : Int) ≤ qh := by omega
          clear hprb
          go_wp2
          go_round
          case rel => exact ⟨qh - 1, rh + n1, by congr 1; omega, by go_num, by omega, by omega, HST.out, by omega⟩
          case measure => simp [Go.Proofs.intOf]; omega
        · have hqi : ¬ (4294967296 : Int) ≤ qh := by omega
          have hpb := hprb h1
          have h2i : 4294967296 * (rh : Int) + (u1 : Int) < (pr : Int) := by omega
          clear hprb
          go_wp2
          go_round
          case rel => exact ⟨qh - 1, rh + n1, by congr 1; omega, by go_num, by omega, by omega, HST.out, by omega⟩
          case measure => simp [Go.Proofs.intOf]; omega
    · have hqe := k_stop hV.out V1.out Hau1.out hI.out.1 hI.out.2 (by rw [hpr]; exact h2)
      have hqi : ¬ (4294967296 : Int) ≤ qh := by omega
      have hpb := hprb h1
      have h2i : ¬ 4294967296 * (rh : Int) + (u1 : Int) < (pr : Int) := by omega
      clear hprb hI hpr
      subst hqe
      go_wp2_with fail
      go_loop [16, 18] (fun r0 q0 => ∃ qh rh : Nat, q0 = .int .u64 qh ∧ r0 = .int .u64 rh ∧ qh ≤ 4294967297 ∧ rh < 4294967296 ∧ Hid (r1 = qh * n1 + rh ∧ Q0 ≤ qh)) (fun r0 _ => 4294967296 - (Go.Proofs.intOf r0).toNat)
      case atStart => exact ⟨_, _, rfl, rfl, S2.out.1, S2.out.2.1, S2.out.2.2.1, S2.out.2.2.2⟩
      case round =>
        obtain ⟨qh, rh, rfl, rfl, hq, hr, hI⟩ := hrel
        obtain ⟨pr, hpr⟩ : ∃ pr, qh * n0 = pr := ⟨_, rfl⟩
        have hprI : (qh : Int) * (n0 : Int) = (pr : Int) := by rw [← hpr]; simp
        have hcase : (4294967296 ≤ qh ∨ (qh < 4294967296 ∧ 4294967296 * rh + u0 < pr)) ∨ (qh < 4294967296 ∧ pr ≤ 4294967296 * rh + u0) := by omega
        have hprb : qh < 4294967296 → pr ≤ 18446744065119617025 := fun h => by rw [← hpr]; exact Nat.mul_le_mul (show qh ≤ 4294967295 by omega) (show n0 ≤ 4294967295 by omega)
        rcases hcase with hdown | ⟨h1, h2⟩
        · have hlt : Q0 < qh := k_down hV.out V2.out Hau2.out hd2 hI.out.1 (by rcases hdown with h | ⟨_, h⟩; exact .inl h; exact .inr (by rw [hpr]; exact h))
          have hst := k_step hI.out.1 (show 0 < qh by omega)
          have hge1 : 1 ≤ qh := by omega
          by_cases hbr : 4294967296 ≤ rh + n1
          · have hqe := k_break hV.out V2.out Hau2.out hn0 hst (show Q0 ≤ qh - 1 by omega) (by omega) hbr
            have hqeI : (qh : Int) - 1 = (Q0 : Int) := by omega
            have hbrI : (4294967296 : Int) ≤ (rh : Int) + (n1 : Int) := by omega
            clear hst hqe hlt hI hpr
            rcases hdown with h | ⟨h1, h2⟩
            · have hqi : (4294967296 : Int) ≤ qh := by omega
              clear hprb
              go_wp2_with fail
              go_ret2
              first | exact ⟨⟨_, pRet HFI.out.symm⟩, rfl⟩ | exact ⟨⟨_, _, rfl, HFI.out.symm⟩, rfl⟩ | exact ⟨⟨_, _, pRet HFI.out.symm, rfl⟩, rfl⟩
            · have hqi : ¬ (4294967296 : Int) ≤ qh := by omega
              have hpb := hprb h1
              have h2i : 4294967296 * (rh : Int) + (u0 : Int) < (pr : Int) := by omega
              clear hprb
              go_wp2_with fail
              go_ret2
              first | exact ⟨⟨_, pRet HFI.out.symm⟩, rfl⟩ | exact ⟨⟨_, _, rfl, HFI.out.symm⟩, rfl⟩ | exact ⟨⟨_, _, pRet HFI.out.symm, rfl⟩, rfl⟩
          · have hbrI : ¬ (4294967296 : Int) ≤ (rh : Int) + (n1 : Int) := by omega
            have HST := Lib.hid hst
            clear hst hI hpr
            rcases hdown with h | ⟨h1, h2⟩
            · have hqi : (4294967296 : Int) ≤ qh := by omega
              clear hprb
              go_wp2
              go_round
              case rel => exact ⟨qh - 1, rh + n1, by congr 1; omega, by go_num, by omega, by omega, HST.out, by omega⟩
              case measure => simp [Go.Proofs.intOf]; omega
            · have hqi : ¬ (4294967296 : Int) ≤ qh := by omega
              have hpb := hprb h1
              have h2i : 4294967296 * (rh : Int) + (u0 : Int) < (pr : Int) := by omega
              clear hprb
              go_wp2
              go_round
              case rel => exact ⟨qh - 1, rh + n1, by congr 1; omega, by go_num, by omega, by omega, HST.out, by omega⟩
              case measure => simp [Go.Proofs.intOf]; omega
        · have hqe := k_stop hV.out V2.out Hau2.out hI.out.1 hI.out.2 (by rw [hpr]; exact h2)
          have hqi : ¬ (4294967296 : Int) ≤ qh := by omega
          have hpb := hprb h1
          have h2i : ¬ 4294967296 * (rh : Int) + (u0 : Int) < (pr : Int) := by omega
          clear hprb hI hpr
          subst hqe
          go_wp2_with fail
          go_ret2
          first | exact ⟨⟨_, pRet HFI.out.symm⟩, rfl⟩ | exact ⟨⟨_, _, rfl, HFI.out.symm⟩, rfl⟩ | exact ⟨⟨_, _, pRet HFI.out.symm, rfl⟩, rfl⟩
end Go.Proofs.Ytkhipbpjknfloaa
