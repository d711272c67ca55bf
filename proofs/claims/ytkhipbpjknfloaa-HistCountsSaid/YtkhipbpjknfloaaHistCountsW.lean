/- HistCounts (layer 38): the law's walk. -/
import Derived.Test.YtkhipbpjknfloaaHistBo
import Derived.Test.YtkhipbpjknfloaaHistPartsW
namespace Go.Proofs.Ytkhipbpjknfloaa
set_option linter.unusedVariables false
set_option linter.unusedSimpArgs false
open Go.RowKit Go.Maps
set_option maxRecDepth 100000 in
set_option maxHeartbeats 4000000 in
theorem countsLaw (z num den : Nat) (hz : z < 256) (hnum : num < 18446744073709551616) (hden : den < 18446744073709551616) (l : List Ad) (hl : ∀ e ∈ l, e.1 < 18446744073709551616 ∧ e.2 < 18446744073709551616) (u : Value) (w : World) (h1 : Sl w u l.length 2 (l.flatMap enAd)) :
    Calls Try.prog 9 #[.int .u8 z, u, .agg #[.int .u64 num, .int .u64 den]] w fun e w' => e = .returned (.bool true) ∧ Kp (fun b => w.heap.size ≤ b) w w' := by
  obtain ⟨ao, acap, rfl⟩ : ∃ ao cap, u = .slice ao l.length cap := by obtain ⟨ao, cap, rfl, _⟩ := h1.is; exact ⟨_, _, rfl⟩
  have HX := Lib.hid h1
  have GL := Lib.hid (fun W (k : Kp (fun b => w.heap.size ≤ b) w W) => (lives38 W).mono fun e W' h => (⟨h.1, k.then h.2 (fun _ _ x => x.elim)⟩ : e = .returned (.bool true) ∧ Kp (fun b => w.heap.size ≤ b) w W'))
  have hkb := (Kp.refl none' w).alloc (.cells #[.int .u64 num, .int .u64 den] 77)
  have hbx := Blk.new w [.int .u64 num, .int .u64 den] 77
  have x1 := hbx.cell 0 rfl
  have x2 := hbx.cell 1 rfl
  have HKB := Lib.hid (hkb.mono (T := fun b => w.heap.size ≤ b) fun _ _ x => x.elim)
  have hll := h1.max
  clear h1 hkb hbx
  go_enter Try.func9, Try.ntmps9
  go_wp2_with fail
  refine wp_region_kept2 [] [0, 1, 2, 3, 4] 5 (by kernel_rfl) (by kernel_rfl) (fun c a d u w h => by cases d <;> exact h) ?_
  simp only [pick, List.getElem?_cons_succ, List.getElem?_cons_zero, List.drop_succ_cons, List.drop_zero]
  show wpKL _ _ _ _ _ _
  repeat (first
    | (refine wpKL_op (by exact rfl) (by as_aux_lemma => intro W hK; have e0 := hK.cell x1 (fun x => x); have e1 := hK.cell x2 (fun x => x); go_simp; exact rfl) ?_; simp only [Act.put, List.setIfInBounds_toArray, List.set_cons_succ, List.set_cons_zero])
    | (refine wpKL_off (by exact rfl) ?_; simp only [Act.put, List.setIfInBounds_toArray, List.set_cons_succ, List.set_cons_zero]))
  show ∀ W, _ → wpList _ _ _ _ _ _
  intro W2 hK2
  have HK2 := Lib.hid (HKB.out.then hK2 (fun _ _ x => x.elim))
  clear hK2 x1 x2 HKB
  by_cases hfar : 80 < l.length
  · have hf : (80 : Int) < l.length := by omega
    go_wp2_with fail
    refine (GL.out _ HK2.out).mono ?_
    rintro e w3 ⟨rfl, k3⟩
    have K3 := Lib.hid k3
    clear k3
    go_wp2
    go_ret
    exact ⟨rfl, K3.out⟩
  · have hf : ¬ (80 : Int) < l.length := by omega
    obtain ⟨f, hxf⟩ : ∃ f, z % 9 = f := ⟨_, rfl⟩
    have hfi : (z : Int) % 9 = (f : Nat) := by omega
    have hf8 : f ≤ 8 := by omega
    have T0 := Lib.hid (hNew f hf8 W2)
    clear hxf
    go_wp2_with fail
    refine T0.out.mono ?_
    rintro e w3 ⟨ha, rfl, ⟨ma, na, Da, hma, hA1, hA2⟩, k3⟩
    have hz2 := HK2.out.size
    have hA3 : w.heap.size ≤ ha := by omega
    have hA4 : w.heap.size ≤ ma := by omega
    have I3 : Hid (PtL w w3 ha f ma (l.take 0)) := ⟨⟨na, Da, hma⟩, HK2.out.then k3 (fun _ _ x => x.elim)⟩
    clear k3 hma T0 HK2 hA1 hA2
    go_wp2_with fail
    go_loopw [39] (fun i0 wr => ∃ (i : Nat), i0 = .int .i64 i ∧ i ≤ l.length ∧ Hid (PtL w wr ha f ma (l.take i))) (fun i0 _ => l.length - (Go.Proofs.intOf i0).toNat)
    case atStart => exact ⟨0, rfl, by omega, I3.out⟩
    case round =>
      obtain ⟨i, rfl, hi, hr⟩ := hrel
      clear I3
      by_cases hlt : i < l.length
      · have hii : (i : Int) < l.length := by omega
        obtain ⟨⟨N, T⟩, he⟩ : ∃ e, l[i] = e := ⟨_, rfl⟩
        have hmem := hl l[i] (List.getElem_mem hlt)
        rw [he] at hmem
        obtain ⟨hN, hT⟩ := hmem
        obtain ⟨b, off, cap', e1, hc⟩ := (HX.out.kp hr.out.2 (fun b hb _ => by show ¬ _ ≤ b; omega)).at enAd_len (by decide) i hlt
        injection e1 with e1 _ e3
        subst e1 e3
        rw [he] at hc
        have x0 : wr.cell? ⟨b, off + i * 2 + 0, none⟩ = some (.int .u64 (N : Nat)) := hc 0 _ rfl
        have x1 : wr.cell? ⟨b, off + i * 2 + 1, none⟩ = some (.int .u64 (T : Nat)) := hc 1 _ rfl
        simp only [Nat.add_zero] at x0
        have hts : Hid (l.take (i + 1) = l.take i ++ [(N, T)]) := by show _ = _; rw [take_snoc l i hlt, he]
        have hlen : (l.take i).length ≤ 1000000 := by rw [List.length_take]; omega
        have k1 := (Kp.refl none' wr).alloc (.cells #[.int .u64 N, .int .u64 T] 62)
        obtain ⟨n1, D1, hm1⟩ := hr.out.1
        have TA := Lib.hid (hAddM ha f ma n1 N T D1 (l.take i) hf8 hN hT hlen _ (hm1.old k1))
        have R := Lib.hid (hr.out.2.then k1 (fun _ _ x => x.elim))
        clear hc he hr hm1 k1 hlen
        go_wp2_with fail
        refine TA.out.mono ?_
        rintro e w5 ⟨rfl, hm5, k5⟩
        have I5 : Hid (PtL w w5 ha f ma (l.take (i + 1))) := ⟨by rw [hts.out]; exact hm5, R.out.then k5 (fun b hb h => by omega)⟩
        clear hm5 k5 TA R x0 x1
        go_wp2_with fail
        go_roundw
        case rel => exact ⟨i + 1, by go_num, by omega, I5.out⟩
        case measure => simp [Go.Proofs.intOf]; omega
      · obtain rfl : i = l.length := by omega
        have hr2 := hr.out
        rw [List.take_length] at hr2
        have R := Lib.hid hr2
        clear hr hr2
        obtain ⟨nb, Db, hmb⟩ := R.out.1
        have hl64 : ∀ e ∈ l, e.1 < 18446744073709551616 := fun e he => (hl e he).1
        obtain ⟨⟨rl, rh, rc⟩, b, hp1, hp2⟩ := partBoth f num den hf8 l (by omega) hl64 hden
        have TQ := Lib.hid (rRows f hf8 l (by omega) hl _ wr (HX.out.kp R.out.2 (fun b hb _ => by show ¬ _ ≤ b; omega)))
        have HMB := Lib.hid hmb
        have HP1 := Lib.hid hp1; have HP2 := Lib.hid hp2
        have RK := Lib.hid R.out.2
        clear hmb hp1 hp2 R
        go_wp2_with fail
        refine TQ.out.mono ?_
        rintro e w5 ⟨rb, rfl, o5, k5⟩
        have O5 := Lib.hid (own_sl o5)
        have OO5 := Lib.hid o5
        have K5 := Lib.hid k5
        have TP := Lib.hid (HP1.out w5 0 ha ⟨ma, nb, Db, HMB.out.old k5, Nat.zero_le _, Nat.zero_le _⟩)
        clear o5 k5 TQ
        go_wp2_with fail
        refine TP.out.mono ?_
        rintro e w6 ⟨rfl, k6⟩
        have K6 := Lib.hid (k6.alloc (.cells (enRw (rl, rh, rc)).toArray 73))
        have HB6 := Lib.hid (Blk.new w6 (enRw (rl, rh, rc)) 73)
        have TD := Lib.hid (HP2.out _ _ (O5.out.old K6.out))
        clear k6 TP
        simp only [enRw] at TD
        simp only [enRw]
        go_wp2_with fail
        refine TD.out.mono ?_
        rintro e w7 ⟨rfl, k7⟩
        have K7 := Lib.hid ((K6.out.trans k7).alloc (.cells (enRw (rl, rh, rc)).toArray 78))
        have HB7 := Lib.hid ((HB6.out.nc (NC.of_kp k7)).alloc (.cells (enRw (rl, rh, rc)).toArray 78))
        have HD7 := Lib.hid (Blk.new w7 (enRw (rl, rh, rc)) 78)
        obtain ⟨W7, hW7⟩ : ∃ W, w7.alloc (.cells (enRw (rl, rh, rc)).toArray 78) = W := ⟨_, rfl⟩
        have hW7' : w7.alloc (.cells #[.int .u64 rl, .int .u64 rh, .int .u64 rc] 78) = W7 := hW7
        rw [hW7] at K7 HB7 HD7
        have K57 := Lib.hid (K5.out.trans K7.out)
        have TR := Lib.hid (hRows (w := W7) (B0 := 0) (hb := ha) (f := f) (l := l) ⟨ma, nb, Db, HMB.out.old K57.out, Nat.zero_le _, Nat.zero_le _⟩ hf8 (by omega) hl64)
        have O7 := Lib.hid (own_kp (S := none') OO5.out K7.out (fun _ _ h => h))
        clear k7 TD hW7 K6 HB6 O5 OO5
        go_wp2_with fail
        try simp only [hW7']
        refine TR.out.mono ?_
        rintro e w8 ⟨ra, rfl, o8, k8⟩
        have TS := Lib.hid (hSame _ _ _ _ _ w8 o8 (own_kp (S := none') O7.out k8 (fun _ _ h => h)))
        have K8 := Lib.hid (K7.out.trans k8)
        have KB8 := Lib.hid k8
        clear o8 k8 TR hW7'
        go_wp2_with fail
        refine TS.out.mono ?_
        rintro e w9 ⟨rfl, k9⟩
        have K9 := Lib.hid (K8.out.trans k9)
        have KB9 := Lib.hid (KB8.out.trans k9)
        have TC := Lib.hid (hCount (w := w9) (B0 := 0) (hb := ha) (f := f) (l := l) ⟨ma, nb, Db, HMB.out.old (K5.out.trans K9.out), Nat.zero_le _, Nat.zero_le _⟩ hf8 (by omega) hl64)
        clear k9 TS
        go_wp2_with fail
        refine TC.out.mono ?_
        rintro e wA ⟨rfl, kA⟩
        have KA := Lib.hid (K9.out.trans kA)
        have KBA := Lib.hid (KB9.out.trans kA)
        have TCC := Lib.hid (rCountN (rowsN f l) (fun r h => row_cnt h) _ wA ((own_sl O7.out).old KBA.out))
        clear kA TC
        go_wp2_with fail
        refine TCC.out.mono ?_
        rintro e wB ⟨rfl, kB⟩
        have KB := Lib.hid (KA.out.trans kB)
        have KBB := Lib.hid (KBA.out.trans kB)
        have hb7 := HB7.out.nc (NC.of_kp KBB.out)
        have hd7 := HD7.out.nc (NC.of_kp KBB.out)
        have q0 := hb7.cell 0 rfl
        have q1 := hb7.cell 1 rfl
        have q2 := hb7.cell 2 rfl
        have r0 := hd7.cell 0 rfl
        have r1 := hd7.cell 1 rfl
        have r2 := hd7.cell 2 rfl
        have KZ := Lib.hid (RK.out.then (K5.out.trans KB.out) (fun _ _ x => x.elim))
        clear kB TCC hb7 hd7
        go_wp2_with fail
        refine (GL.out _ KZ.out).mono ?_
        rintro e wC ⟨rfl, kC⟩
        have KC := Lib.hid kC
        clear kC
        go_wp2
        go_ret
        exact ⟨rfl, KC.out⟩
end Go.Proofs.Ytkhipbpjknfloaa
