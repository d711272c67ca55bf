/- HistParts (layer 38): the law's walk. -/
import Derived.Test.YtkhipbpjknfloaaHistPp
import Derived.Test.YtkhipbpjknfloaaHistMergesW
namespace Go.Proofs.Ytkhipbpjknfloaa
set_option linter.unusedVariables false
set_option linter.unusedSimpArgs false
open Go.RowKit Go.Maps
def enN (n : Nat) : List Value := [.int .u64 n]
theorem enN_len (n : Nat) : (enN n).length = 1 := rfl
theorem countP_snoc (p : Nat → Bool) (l : List Nat) (n : Nat) : (l ++ [n]).countP p = l.countP p + if p n then 1 else 0 := by
  rw [List.countP_append, List.countP_cons, List.countP_nil]; omega
/-- What the first loop keeps. -/
def PtL (w wr : World) (ha f ma : Nat) (l : List Ad) : Prop := (∃ n D, HMem wr ha f ma n D l) ∧ Kp (fun b => w.heap.size ≤ b) w wr
set_option maxRecDepth 100000 in
set_option maxHeartbeats 4000000 in
theorem partsLaw (z x y : Nat) (hz : z < 256) (hx : x < 256) (hy : y < 256) (ns : List Nat) (hns : ∀ n ∈ ns, n < 18446744073709551616) (u : Value) (w : World) (h1 : Sl w u ns.length 1 (ns.flatMap enN)) :
    Calls Try.prog 8 #[.int .u8 z, u, .agg #[.int .u8 x, .int .u8 y]] w fun e w' => e = .returned (.bool true) ∧ Kp (fun b => w.heap.size ≤ b) w w' := by
  obtain ⟨ao, acap, rfl⟩ : ∃ ao cap, u = .slice ao ns.length cap := by obtain ⟨ao, cap, rfl, _⟩ := h1.is; exact ⟨_, _, rfl⟩
  have HX := Lib.hid h1
  have GL := Lib.hid (fun W (k : Kp (fun b => w.heap.size ≤ b) w W) => (lives38 W).mono fun e W' h => (⟨h.1, k.then h.2 (fun _ _ x => x.elim)⟩ : e = .returned (.bool true) ∧ Kp (fun b => w.heap.size ≤ b) w W'))
  have hkb := (Kp.refl none' w).alloc (.cells #[.int .u8 x, .int .u8 y] 59)
  have hbx := Blk.new w [.int .u8 x, .int .u8 y] 59
  have x1 := hbx.cell 0 rfl
  have x2 := hbx.cell 1 rfl
  have HKB := Lib.hid (hkb.mono (T := fun b => w.heap.size ≤ b) fun _ _ x => x.elim)
  have hll := h1.max
  clear h1 hkb hbx
  go_enter Try.func8, Try.ntmps8
  go_wp2_with fail
  refine wp_region_kept2 [] [0, 1, 2, 3, 4] 5 (by kernel_rfl) (by kernel_rfl) (fun c a d u w h => by cases d <;> exact h) ?_
  simp only [pick, List.getElem?_cons_succ, List.getElem?_cons_zero, List.drop_succ_cons, List.drop_zero]
  show wpKL _ _ _ _ _ _
  repeat (first
    | (refine wpKL_op (by exact rfl) (by as_aux_lemma => intro W hK; have e0 := hK.cell x1 (fun x => x); have e1 := hK.cell x2 (fun x => x); go_simp; exact rfl) ?_; simp only [Act.put, List.setIfInBounds_toArray, List.set_cons_succ, List.set_cons_zero])
    | (refine wpKL_off (by exact rfl) ?_; simp only [Act.put, List.setIfInBounds_toArray, List.set_cons_succ, List.set_cons_zero]))
  show ∀ W, _ → wpList _ _ _ _ _ _
  intro W2 hK2
  have HK2 := Lib.hid (HKB.out.then hK2 (fun _ _ x => x.elim))
  clear hK2 x1 x2 HKB
  by_cases h0 : ns.length = 0
  · have e0 : ((ns.length : Int) == 0) = true := by rw [beq_iff_eq]; omega
    clear h0
    go_wp2_with fail
    refine (GL.out _ HK2.out).mono ?_
    rintro e w3 ⟨rfl, k3⟩
    have K3 := Lib.hid k3
    clear k3
    go_wp2
    go_ret
    exact ⟨rfl, K3.out⟩
  · have e0 : ((ns.length : Int) == 0) = false := by rw [beq_eq_false_iff_ne]; omega
    by_cases hfar : 200 < ns.length
    · have hf : (200 : Int) < ns.length := by omega
      go_wp2_with fail
      refine (GL.out _ HK2.out).mono ?_
      rintro e w3 ⟨rfl, k3⟩
      have K3 := Lib.hid k3
      clear k3
      go_wp2
      go_ret
      exact ⟨rfl, K3.out⟩
    · have hf : ¬ (200 : Int) < ns.length := by omega
      obtain ⟨f, hxf⟩ : ∃ f, z % 9 = f := ⟨_, rfl⟩
      have hfi : (z : Int) % 9 = (f : Nat) := by omega
      have hf8 : f ≤ 8 := by omega
      have T0 := Lib.hid (hNew f hf8 W2)
      clear hxf
      go_wp2_with fail
      refine T0.out.mono ?_
      rintro e w3 ⟨ha, rfl, ⟨ma, na, Da, hma, hA1, hA2⟩, k3⟩
      have hz2 := HK2.out.size
      have hA3 : w.heap.size ≤ ha := by omega
      have hA4 : w.heap.size ≤ ma := by omega
      have I3 : Hid (PtL w w3 ha f ma (ones (ns.take 0))) := ⟨⟨na, Da, hma⟩, HK2.out.then k3 (fun _ _ x => x.elim)⟩
      clear k3 hma T0 HK2 hA1 hA2
      go_wp2_with fail
      go_loopw [48] (fun i0 wr => ∃ (i : Nat), i0 = .int .i64 i ∧ i ≤ ns.length ∧ Hid (PtL w wr ha f ma (ones (ns.take i)))) (fun i0 _ => ns.length - (Go.Proofs.intOf i0).toNat)
      case atStart => exact ⟨0, rfl, by omega, I3.out⟩
      case round =>
        obtain ⟨i, rfl, hi, hr⟩ := hrel
        clear I3
        by_cases hlt : i < ns.length
        · have hii : (i : Int) < ns.length := by omega
          obtain ⟨N, he⟩ : ∃ e, ns[i] = e := ⟨_, rfl⟩
          have hN := hns ns[i] (List.getElem_mem hlt)
          rw [he] at hN
          obtain ⟨b, off, cap', e1, hc⟩ := (HX.out.kp hr.out.2 (fun b hb _ => by show ¬ _ ≤ b; omega)).at enN_len (by decide) i hlt
          injection e1 with e1 _ e3
          subst e1 e3
          rw [he] at hc
          have x0 : wr.cell? ⟨b, off + i * 1 + 0, none⟩ = some (.int .u64 (N : Nat)) := hc 0 _ rfl
          simp only [Nat.add_zero, Nat.mul_one] at x0
          have hts : Hid (ones (ns.take (i + 1)) = ones (ns.take i) ++ [(N, 1)]) := by show _ = _; rw [take_snoc ns i hlt, he, ones_snoc]
          have hlen : (ones (ns.take i)).length ≤ 1000000 := by rw [ones_len, List.length_take]; omega
          obtain ⟨n1, D1, hm1⟩ := hr.out.1
          have TA := Lib.hid (hAddM ha f ma n1 N 1 D1 (ones (ns.take i)) hf8 hN (by decide) hlen _ hm1)
          have R := Lib.hid hr.out.2
          clear hc he hr hm1 hlen
          go_wp2_with fail
          refine TA.out.mono ?_
          rintro e w5 ⟨rfl, hm5, k5⟩
          have I5 : Hid (PtL w w5 ha f ma (ones (ns.take (i + 1)))) := ⟨by rw [hts.out]; exact hm5, (R.out).then k5 (fun b hb h => by omega)⟩
          clear hm5 k5 TA R x0
          go_wp2_with fail
          go_roundw
          case rel => exact ⟨i + 1, by go_num, by omega, I5.out⟩
          case measure => simp [Go.Proofs.intOf]; omega
        · obtain rfl : i = ns.length := by omega
          have hr2 := hr.out
          rw [List.take_length] at hr2
          have R := Lib.hid hr2
          clear hr hr2
          obtain ⟨nb, Db, hmb⟩ := R.out.1
          obtain ⟨m, hm⟩ : ∃ m, min (x + y) 255 = m := ⟨_, rfl⟩
          have hm255 : m ≤ 255 := by omega
          have hxm : x ≤ m := by omega
          have hsum := sumC_all f ns (by omega)
          have hsR : sumR (rowsN f (ones ns)) = ns.length := by rw [sumR_sumC _ (by omega), hsum]
          obtain ⟨p1, hp1⟩ : ∃ p, ns.length * x = p := ⟨_, rfl⟩
          obtain ⟨p2, hp2⟩ : ∃ p, ns.length * m = p := ⟨_, rfl⟩
          have hHs : Hs wr 0 ha f (ones ns) := ⟨ma, nb, Db, hmb, Nat.zero_le _, Nat.zero_le _⟩
          have TP := Lib.hid (hPart hHs hf8 (by rw [ones_len]; omega) (ones_64 hns) hsR hsum (by omega) (by omega) (show x ≤ 255 by omega) hp1)
          have HMB := Lib.hid hmb
          have hp1' : (ns.length : Int) * (x : Int) = (p1 : Int) := by rw [← hp1]; simp
          have hp1b : p1 ≤ 51000 := by rw [← hp1]; exact Nat.mul_le_mul (show ns.length ≤ 200 by omega) (show x ≤ 255 by omega)
          have hkk : Hid (kN ns.length x = max ((p1 + 254) / 255) 1) := by show _ = _; unfold kN; rw [hp1]
          have hsum := Lib.hid hsum
          have hsR := Lib.hid hsR
          have hp2 := Lib.hid hp2
          clear hmb hHs hp1
          go_wp2_with fail
          have hmi : min ((x : Int) + (y : Int)) 255 = (m : Int) := by omega
          simp only [hmi]
          refine TP.out.mono ?_
          rintro e w5 ⟨pre1, ⟨rl, rh, rc⟩, post1, hsp1, hlo1, hhi1, rfl, k5⟩
          obtain ⟨b1, hb1m, hr1, hu1, hu1'⟩ := split_at f ns (by omega) hsp1
          have hb1 := (ks_bnd hf8 (ones_64 hns) hb1m).1
          rw [hu1] at hlo1
          rw [hu1'] at hhi1
          have hrl : rl = lo f b1 := congrArg (·.1) hr1
          have hrh : rh = lo f (b1 + 1) - 1 := congrArg (·.2.1) hr1
          obtain ⟨B, hB⟩ : ∃ B, under f ns b1 = B := ⟨_, rfl⟩
          obtain ⟨U, hU⟩ : ∃ U, under f ns (b1 + 1) = U := ⟨_, rfl⟩
          have hBU : B + rc = U := by rw [← hB, ← hU, ← hu1', hu1]
          have hBe : Hid (ns.countP (fun n => decide (n < rl)) = B) := by show _ = _; rw [hrl, below_eq, hB]
          have hUe : Hid (ns.countP (fun n => decide (n ≤ rh)) = U) := by show _ = _; rw [hrh, upto_eq f hf8, hU]
          have hBl : B ≤ ns.length := by rw [← hBe.out]; exact List.countP_le_length
          have hUl : U ≤ ns.length := by rw [← hUe.out]; exact List.countP_le_length
          have k5' := k5.alloc (.cells (enRw (rl, rh, rc)).toArray 73)
          have TP2 := Lib.hid (hPart (w := w5.alloc (.cells (enRw (rl, rh, rc)).toArray 73)) (B0 := 0) (hb := ha) (f := f) (l := ones ns) (num := m) (p := p2) ⟨ma, nb, Db, HMB.out.old k5', Nat.zero_le _, Nat.zero_le _⟩ hf8 (by rw [ones_len]; omega) (ones_64 hns) hsR.out hsum.out (by omega) (by omega) hm255 hp2.out)
          have K5 := Lib.hid (R.out.2.then k5' (fun _ _ x => x.elim))
          have hR5 := Blk.new w5 (enRw (rl, rh, rc)) 73
          have HR5 := Lib.hid hR5
          have hz5 : w5.heap.size < (w5.alloc (.cells (enRw (rl, rh, rc)).toArray 73)).heap.size := by rw [World.size_alloc]; omega
          have hrlo : Hid (rl = lo f b1) := hrl
          have hBh : Hid (under f ns b1 = B) := hB
          have hlo1' : Hid (B < kN ns.length x ∧ kN ns.length x ≤ U) := ⟨by omega, by omega⟩
          clear k5 k5' TP R hrl hrh hr1 hsp1 hu1 hu1' hB hR5
          clear hlo1 hhi1
          simp only [enRw] at TP2 hz5
          simp only [enRw]
          go_wp2_with fail
          refine TP2.out.mono ?_
          rintro e w6 ⟨pre2, ⟨sl, sh, sc⟩, post2, hsp2, hlo2, hhi2, rfl, k6⟩
          obtain ⟨b2, hb2m, hr2, hu2, hu2'⟩ := split_at f ns (by omega) hsp2
          have hsl : sl = lo f b2 := congrArg (·.1) hr2
          rw [hu2'] at hhi2
          have hge : rl ≤ sl := by
            rw [hrlo.out, hsl]
            refine parts_up f ns (kN_mono ns.length hxm) ?_ hhi2
            rw [hBh.out]; exact hlo1'.out.1
          have hgei : (rl : Int) ≤ sl := by omega
          have HR6 := Lib.hid ((HR5.out.nc (NC.of_kp k6)).alloc (.cells (enRw (sl, sh, sc)).toArray 73))
          have HS6 := Lib.hid (Blk.new w6 (enRw (sl, sh, sc)) 73)
          have K6 := Lib.hid ((K5.out.then k6 (fun _ _ x => x.elim)).alloc (.cells (enRw (sl, sh, sc)).toArray 73))
          have hz6 := k6.size
          clear hsp2 hlo2 hhi2 hr2 hu2 hu2' hsl k6 TP2 K5 HR5 hge
          simp only [enRw]
          go_wp2_with fail
          obtain ⟨K, hK⟩ : ∃ K, kN ns.length x = K := ⟨_, rfl⟩
          have hkmi : max (((p1 : Int) + 254) / 255) 1 = (K : Int) := by have := hkk.out; omega
          simp only [hkmi]
          rw [hK] at hlo1'
          obtain ⟨WS, hWS⟩ : ∃ WS, w6.alloc (.cells (enRw (sl, sh, sc)).toArray 73) = WS := ⟨_, rfl⟩
          have hWS' : w6.alloc (.cells #[.int .u64 sl, .int .u64 sh, .int .u64 sc] 73) = WS := hWS
          simp only [hWS']
          rw [hWS] at HR6 HS6 K6
          clear hK hkmi hkk hWS hWS' hp2 hsum hsR hrlo hBh hp1b hp1' hmi hm hm255 hxm HMB hb1m hb2m hb1 hU
          go_loopw [20, 21, 86] (fun i0 i1 i2 wr => ∃ (i B' U' : Nat), i2 = .int .i64 i ∧ i0 = .int .u64 B' ∧ i1 = .int .u64 U' ∧ i ≤ ns.length ∧ B' ≤ i ∧ U' ≤ i ∧ Hid (B' = (ns.take i).countP (fun n => decide (n < rl)) ∧ U' = (ns.take i).countP (fun n => decide (n ≤ rh)) ∧ Kp none' WS wr)) (fun _ _ i2 _ => ns.length - (Go.Proofs.intOf i2).toNat)
          case atStart => exact ⟨0, 0, 0, rfl, rfl, rfl, by omega, by omega, by omega, by simp, by simp, Kp.refl _ _⟩
          case round =>
            obtain ⟨i, B', U', rfl, rfl, rfl, hi, hB', hU', hr⟩ := hrel
            have hr6 := HR6.out.nc (NC.of_kp hr.out.2.2)
            have q0 := hr6.cell 0 rfl
            have q1 := hr6.cell 1 rfl
            have q2 := hr6.cell 2 rfl
            have hs6 := HS6.out.nc (NC.of_kp hr.out.2.2)
            have r0 := hs6.cell 0 rfl
            by_cases hlt : i < ns.length
            · have hii : (i : Int) < ns.length := by omega
              obtain ⟨N, he⟩ : ∃ e, ns[i] = e := ⟨_, rfl⟩
              obtain ⟨b, off, cap', e1, hc⟩ := (HX.out.kp (K6.out.then hr.out.2.2 (fun _ _ x => x.elim)) (fun b hb _ => by show ¬ _ ≤ b; omega)).at enN_len (by decide) i hlt
              injection e1 with e1 _ e3
              subst e1 e3
              rw [he] at hc
              have x0 : wr.cell? ⟨b, off + i * 1 + 0, none⟩ = some (.int .u64 (N : Nat)) := hc 0 _ rfl
              simp only [Nat.add_zero, Nat.mul_one] at x0
              have hts : Hid (ns.take (i + 1) = ns.take i ++ [N]) := by show _ = _; rw [take_snoc ns i hlt, he]
              have HI := Lib.hid hr.out
              clear hc he hr hr6 hs6 r0 q2
              by_cases c1 : N < rl
              · have c1i : (N : Int) < rl := by omega
                by_cases c2 : N ≤ rh
                · have c2i : (N : Int) ≤ rh := by omega
                  go_wp2
                  go_roundw
                  case rel => exact ⟨i + 1, B' + 1, U' + 1, by go_num, by go_num, by go_num, by omega, by omega, by omega, by rw [hts.out, countP_snoc, ← HI.out.1, if_pos (by simpa using c1)], by rw [hts.out, countP_snoc, ← HI.out.2.1, if_pos (by simpa using c2)], HI.out.2.2⟩
                  case measure => simp [Go.Proofs.intOf]; omega
                · have c2i : ¬ (N : Int) ≤ rh := by omega
                  go_wp2
                  go_roundw
                  case rel => exact ⟨i + 1, B' + 1, U', by go_num, by go_num, by go_num, by omega, by omega, by omega, by rw [hts.out, countP_snoc, ← HI.out.1, if_pos (by simpa using c1)], by rw [hts.out, countP_snoc, ← HI.out.2.1, if_neg (by simpa using c2)]; rfl, HI.out.2.2⟩
                  case measure => simp [Go.Proofs.intOf]; omega
              · have c1i : ¬ (N : Int) < rl := by omega
                by_cases c2 : N ≤ rh
                · have c2i : (N : Int) ≤ rh := by omega
                  go_wp2
                  go_roundw
                  case rel => exact ⟨i + 1, B', U' + 1, by go_num, by go_num, by go_num, by omega, by omega, by omega, by rw [hts.out, countP_snoc, ← HI.out.1, if_neg (by simpa using c1)]; rfl, by rw [hts.out, countP_snoc, ← HI.out.2.1, if_pos (by simpa using c2)], HI.out.2.2⟩
                  case measure => simp [Go.Proofs.intOf]; omega
                · have c2i : ¬ (N : Int) ≤ rh := by omega
                  go_wp2
                  go_roundw
                  case rel => exact ⟨i + 1, B', U', by go_num, by go_num, by go_num, by omega, by omega, by omega, by rw [hts.out, countP_snoc, ← HI.out.1, if_neg (by simpa using c1)]; rfl, by rw [hts.out, countP_snoc, ← HI.out.2.1, if_neg (by simpa using c2)]; rfl, HI.out.2.2⟩
                  case measure => simp [Go.Proofs.intOf]; omega
            · obtain rfl : i = ns.length := by omega
              obtain ⟨hb, hu, hk⟩ := hr.out
              rw [List.take_length, hBe.out] at hb
              rw [List.take_length, hUe.out] at hu
              subst hb hu
              have HK := Lib.hid (K6.out.then hk (fun _ _ x => x.elim))
              have t1 : (B' : Int) < K := by have := hlo1'.out.1; omega
              have t2 : (K : Int) ≤ U' := by have := hlo1'.out.2; omega
              have t3 : ((rc : Int) == (U' : Int) - B') = true := by rw [beq_iff_eq]; omega
              clear hr hr6 hs6 hk
              go_wp2_with fail
              refine (GL.out _ HK.out).mono ?_
              rintro e w7 ⟨rfl, k7⟩
              have K7 := Lib.hid k7
              clear k7
              go_wp2
              go_ret
              exact ⟨rfl, K7.out⟩
end Go.Proofs.Ytkhipbpjknfloaa
