/- HistMerges (layer 38): rows compared; the law's walk. -/
import Derived.Test.YtkhipbpjknfloaaHistT
import Derived.Test.YtkhipbpjknfloaaAppSl
import Derived.Test.YtkhipbpjknfloaaHistL
namespace Go.Proofs.Ytkhipbpjknfloaa
set_option linter.unusedVariables false
set_option linter.unusedSimpArgs false
open Go.RowKit Go.Maps
set_option maxRecDepth 100000 in
set_option maxHeartbeats 2000000 in
theorem hSame (rs : List RwN) (B1 B2 : Nat) (u v : Value) (w : World) (h1 : w.ownsRow B1 73 3 u rs.length (rs.flatMap enRw)) (h2 : w.ownsRow B2 78 3 v rs.length (rs.flatMap enRw)) :
    Calls Try.prog 32 #[u, v] w fun e w' => e = .returned (.bool true) ∧ Kp none' w w' := by
  obtain ⟨ao, ac, rfl⟩ := own_shape h1
  obtain ⟨bo, bc, rfl⟩ := own_shape h2
  have hmx := (own_sl h1).max
  have H1 := Lib.hid (own_sl h1); have H2 := Lib.hid (own_sl h2)
  clear h1 h2
  go_enter Try.func32, Try.ntmps32
  go_wp2
  go_loopw [13] (fun i0 wr => ∃ i : Nat, i0 = .int .i64 i ∧ i ≤ rs.length ∧ Hid (Kp none' w wr)) (fun i0 _ => rs.length - (Go.Proofs.intOf i0).toNat)
  case atStart => exact ⟨0, rfl, by omega, Kp.refl _ _⟩
  case round =>
    obtain ⟨i, rfl, hi, hr⟩ := hrel
    by_cases hlt : i < rs.length
    · have hii : (i : Int) < rs.length := by omega
      obtain ⟨g1, o1, c1, e1, hc1⟩ := (H1.out.old hr.out).at enRw_len (by decide) i hlt
      obtain ⟨g2, o2, c2, e2, hc2⟩ := (H2.out.old hr.out).at enRw_len (by decide) i hlt
      injection e1 with e1 _ e3
      injection e2 with e2 _ e4
      subst e1 e3 e2 e4
      obtain ⟨⟨x, y, z⟩, hx⟩ : ∃ r, rs[i] = r := ⟨_, rfl⟩
      rw [hx] at hc1 hc2
      have a0 : wr.cell? ⟨g1, o1 + i * 3 + 0, none⟩ = some (.int .u64 (x : Nat)) := hc1 0 _ rfl
      have a1 : wr.cell? ⟨g1, o1 + i * 3 + 1, none⟩ = some (.int .u64 (y : Nat)) := hc1 1 _ rfl
      have a2 : wr.cell? ⟨g1, o1 + i * 3 + 2, none⟩ = some (.int .u64 (z : Nat)) := hc1 2 _ rfl
      have b0 : wr.cell? ⟨g2, o2 + i * 3 + 0, none⟩ = some (.int .u64 (x : Nat)) := hc2 0 _ rfl
      have b1 : wr.cell? ⟨g2, o2 + i * 3 + 1, none⟩ = some (.int .u64 (y : Nat)) := hc2 1 _ rfl
      have b2 : wr.cell? ⟨g2, o2 + i * 3 + 2, none⟩ = some (.int .u64 (z : Nat)) := hc2 2 _ rfl
      simp only [Nat.add_zero] at a0 b0
      have HR := Lib.hid hr.out
      clear hc1 hc2 hx hr
      go_wp2_with fail
      go_quiet (fail)
      have HD := Lib.hid (HR.out.drewN nq)
      generalize wr.drewN nq = w5 at *
      clear a0 a1 a2 b0 b1 b2
      go_wp2_with fail
      go_roundw
      case rel => exact ⟨i + 1, by go_num, by omega, HD.out⟩
      case measure => simp [Go.Proofs.intOf]; omega
    · obtain rfl : i = rs.length := by omega
      have HR := Lib.hid hr.out
      clear hr
      go_wp2
      go_ret
      exact ⟨rfl, HR.out⟩
/-- Two histograms, apart from one another. -/
structure Two (w wr : World) (ha f ma hb g mb : Nat) (la lb : List Ad) : Prop where
  a : ∃ n D, HMem wr ha f ma n D la
  b : ∃ n D, HMem wr hb g mb n D lb
  kp : Kp (fun b => w.heap.size ≤ b) w wr
structure Apart (w : World) (ha ma hb mb : Nat) : Prop where
  a1 : w.heap.size ≤ ha
  a2 : w.heap.size ≤ ma
  b1 : w.heap.size ≤ hb
  b2 : w.heap.size ≤ mb
  d1 : hb ≠ ma
  d2 : mb ≠ ma
  d3 : ha ≠ mb
theorem tTm : SlT Try.prog 60 62 (.agg #[.int .u64 0, .int .u64 0]) 2 16 := ⟨Try.underlying60, by kernel_rfl, rfl, by decide⟩
set_option maxRecDepth 100000 in
set_option maxHeartbeats 4000000 in
theorem mergesLaw (x y : Nat) (hx : x < 256) (hy : y < 256) (l m : List Ad) (hl : ∀ e ∈ l, e.1 < 18446744073709551616 ∧ e.2 < 18446744073709551616) (hm : ∀ e ∈ m, e.1 < 18446744073709551616 ∧ e.2 < 18446744073709551616) (u v : Value) (w : World) (h1 : Sl w u l.length 2 (l.flatMap enAd)) (h2 : Sl w v m.length 2 (m.flatMap enAd)) :
    Calls Try.prog 7 #[.agg #[.int .u8 x, .int .u8 y], u, v] w fun e w' => e = .returned (.bool true) ∧ Kp (fun b => w.heap.size ≤ b) w w' := by
  obtain ⟨ao, acap, rfl⟩ : ∃ ao cap, u = .slice ao l.length cap := by obtain ⟨ao, cap, rfl, _⟩ := h1.is; exact ⟨_, _, rfl⟩
  obtain ⟨bo, bcap, rfl⟩ : ∃ ao cap, v = .slice ao m.length cap := by obtain ⟨ao, cap, rfl, _⟩ := h2.is; exact ⟨_, _, rfl⟩
  have HX := Lib.hid h1; have HQ := Lib.hid h2
  have GL := Lib.hid (fun W (k : Kp (fun b => w.heap.size ≤ b) w W) => (lives38 W).mono fun e W' h => (⟨h.1, k.then h.2 (fun _ _ x => x.elim)⟩ : e = .returned (.bool true) ∧ Kp (fun b => w.heap.size ≤ b) w W'))
  have hkb := (Kp.refl none' w).alloc (.cells #[.int .u8 x, .int .u8 y] 59)
  have hbx := Blk.new w [.int .u8 x, .int .u8 y] 59
  have x1 := hbx.cell 0 rfl
  have x2 := hbx.cell 1 rfl
  have HKB := Lib.hid (hkb.mono (T := fun b => w.heap.size ≤ b) fun _ _ x => x.elim)
  have hll := h1.max
  have hml := h2.max
  clear h1 h2 hkb hbx
  go_enter Try.func7, Try.ntmps7
  go_wp2_with fail
  refine wp_region_kept2 [] [0, 1, 2, 3, 4] 5 (by kernel_rfl) (by kernel_rfl) (fun c a d u w h => by cases d <;> exact h) ?_
  simp only [pick, List.getElem?_cons_succ, List.getElem?_cons_zero, List.drop_succ_cons, List.drop_zero]
  show wpKL _ _ _ _ _ _
  repeat (first
    | (refine wpKL_op (by exact rfl) (by as_aux_lemma => intro W hK; have e0 := hK.cell x1 (fun x => x); have e1 := hK.cell x2 (fun x => x); go_simp; exact rfl) ?_; simp only [Act.put, List.setIfInBounds_toArray, List.set_cons_succ, List.set_cons_zero])
    | (refine wpKL_off (by exact rfl) ?_; simp only [Act.put, List.setIfInBounds_toArray, List.set_cons_succ, List.set_cons_zero]))
  show ∀ W, _ → wpList _ _ _ _ _ _
  intro W2 hK2
  have HK2 := Lib.hid (HKB.out.then hK2 (fun _ _ x => x.elim))
  clear hK2 x1 x2 HKB
  by_cases hfar : 80 < l.length
  · have hf : (80 : Int) < l.length := by omega
    go_wp2_with fail
    refine (GL.out _ HK2.out).mono ?_
    rintro e w3 ⟨rfl, k3⟩
    have K3 := Lib.hid k3
    clear k3
    go_wp2
    go_ret
    exact ⟨rfl, K3.out⟩
  · have hf : ¬ (80 : Int) < l.length := by omega
    by_cases hfar2 : 80 < m.length
    · have hf2 : (80 : Int) < m.length := by omega
      go_wp2_with fail
      refine (GL.out _ HK2.out).mono ?_
      rintro e w3 ⟨rfl, k3⟩
      have K3 := Lib.hid k3
      clear k3
      go_wp2
      go_ret
      exact ⟨rfl, K3.out⟩
    · have hf2 : ¬ (80 : Int) < m.length := by omega
      obtain ⟨f, hxf⟩ : ∃ f, x % 9 = f := ⟨_, rfl⟩
      obtain ⟨g, hyg⟩ : ∃ g, y % 9 = g := ⟨_, rfl⟩
      have hfi : (x : Int) % 9 = (f : Nat) := by omega
      have hgi : (y : Int) % 9 = (g : Nat) := by omega
      have hf8 : f ≤ 8 := by omega
      have hg8 : g ≤ 8 := by omega
      have T0 := Lib.hid (hNew f hf8 W2)
      clear hxf hyg
      go_wp2_with fail
      refine T0.out.mono ?_
      rintro e w3 ⟨ha, rfl, ⟨ma, na, Da, hma, hA1, hA2⟩, k3⟩
      have T1 := Lib.hid (hNew g hg8 w3)
      have K3 := Lib.hid k3
      have HMA := Lib.hid hma
      clear k3 hma T0
      go_wp2_with fail
      refine T1.out.mono ?_
      rintro e w4 ⟨hb, rfl, ⟨mb, nb, Db, hmb, hB1, hB2⟩, k4⟩
      have hz2 := HK2.out.size
      have hz3 := K3.out.size
      have hAP : Apart w ha ma hb mb := by
        have q1 := HMA.out.top.top.lt; have q2 := HMA.out.own.lt
        exact ⟨by omega, by omega, by omega, by omega, by omega, by omega, by omega⟩
      have I4 : Hid (Two w w4 ha f ma hb g mb [] []) := ⟨⟨na, Da, HMA.out.old k4⟩, ⟨nb, Db, hmb⟩, (HK2.out.then K3.out (fun _ _ x => x.elim)).then k4 (fun _ _ x => x.elim)⟩
      clear k4 hmb K3 HMA T1 HK2 hA1 hA2 hB1 hB2 hz2 hz3
      go_wp2
      go_loopw [59] (fun i0 wr => ∃ (i : Nat), i0 = .int .i64 i ∧ i ≤ l.length ∧ Hid (Two w wr ha f ma hb g mb (l.take i) [])) (fun i0 _ => l.length - (Go.Proofs.intOf i0).toNat)
      case atStart => exact ⟨0, rfl, by omega, I4.out⟩
      case round =>
        obtain ⟨i, rfl, hi, hr⟩ := hrel
        clear I4
        by_cases hlt : i < l.length
        · have hii : (i : Int) < l.length := by omega
          obtain ⟨⟨N, T⟩, he⟩ : ∃ e, l[i] = e := ⟨_, rfl⟩
          have hmem := hl l[i] (List.getElem_mem hlt)
          rw [he] at hmem
          obtain ⟨hN, hT⟩ := hmem
          obtain ⟨b, off, cap', e1, hc⟩ := (HX.out.kp hr.out.kp (fun b hb _ => by show ¬ _ ≤ b; omega)).at enAd_len (by decide) i hlt
          injection e1 with e1 _ e3
          subst e1 e3
          rw [he] at hc
          have x0 : wr.cell? ⟨b, off + i * 2 + 0, none⟩ = some (.int .u64 (N : Nat)) := hc 0 _ rfl
          have x1 : wr.cell? ⟨b, off + i * 2 + 1, none⟩ = some (.int .u64 (T : Nat)) := hc 1 _ rfl
          simp only [Nat.add_zero] at x0
          have hts : Hid (l.take (i + 1) = l.take i ++ [(N, T)]) := by show _ = _; rw [take_snoc l i hlt, he]
          have hlen : (l.take i).length ≤ 1000000 := by rw [List.length_take]; omega
          have k1 := (Kp.refl none' wr).alloc (.cells #[.int .u64 N, .int .u64 T] 62)
          obtain ⟨n1, D1, hm1⟩ := hr.out.a
          have TA := Lib.hid (hAddM ha f ma n1 N T D1 (l.take i) hf8 hN hT hlen _ (hm1.old k1))
          have R := Lib.hid hr.out
          have K1 := Lib.hid k1
          clear hc he hr hm1 k1
          go_wp2_with fail
          refine TA.out.mono ?_
          rintro e w5 ⟨rfl, hm5, k5⟩
          have I5 : Hid (Two w w5 ha f ma hb g mb (l.take (i + 1)) []) := by
            obtain ⟨n2, D2, hb2⟩ := R.out.b
            refine ⟨by rw [hts.out]; exact hm5, ⟨n2, D2, (hb2.old K1.out).kp k5 hAP.d1 hAP.d2⟩, (R.out.kp.then K1.out (fun _ _ x => x.elim)).then k5 (fun b hb h => by have := hAP.a2; omega)⟩
          clear hm5 k5 TA R K1 x0 x1
          go_wp2_with fail
          go_roundw
          case rel => exact ⟨i + 1, by go_num, by omega, I5.out⟩
          case measure => simp [Go.Proofs.intOf]; omega
        · obtain rfl : i = l.length := by omega
          have hr2 := hr.out
          rw [List.take_length] at hr2
          have R := Lib.hid hr2
          clear hr hr2
          go_wp2
          go_loopw [72] (fun i0 wq => ∃ (i : Nat), i0 = .int .i64 i ∧ i ≤ m.length ∧ Hid (Two w wq ha f ma hb g mb l (m.take i))) (fun i0 _ => m.length - (Go.Proofs.intOf i0).toNat)
          case atStart => exact ⟨0, rfl, by omega, R.out⟩
          case round =>
            obtain ⟨i, rfl, hi, hr⟩ := hrel
            clear R
            by_cases hlt : i < m.length
            · have hii : (i : Int) < m.length := by omega
              obtain ⟨⟨N, T⟩, he⟩ : ∃ e, m[i] = e := ⟨_, rfl⟩
              have hmem := hm m[i] (List.getElem_mem hlt)
              rw [he] at hmem
              obtain ⟨hN, hT⟩ := hmem
              obtain ⟨b, off, cap', e1, hc⟩ := (HQ.out.kp hr.out.kp (fun b hb _ => by show ¬ _ ≤ b; omega)).at enAd_len (by decide) i hlt
              injection e1 with e1 _ e3
              subst e1 e3
              rw [he] at hc
              have x0 : wr.cell? ⟨b, off + i * 2 + 0, none⟩ = some (.int .u64 (N : Nat)) := hc 0 _ rfl
              have x1 : wr.cell? ⟨b, off + i * 2 + 1, none⟩ = some (.int .u64 (T : Nat)) := hc 1 _ rfl
              simp only [Nat.add_zero] at x0
              have hts : Hid (m.take (i + 1) = m.take i ++ [(N, T)]) := by show _ = _; rw [take_snoc m i hlt, he]
              have hlen : (m.take i).length ≤ 1000000 := by rw [List.length_take]; omega
              have k1 := (Kp.refl none' wr).alloc (.cells #[.int .u64 N, .int .u64 T] 62)
              obtain ⟨n1, D1, hm1⟩ := hr.out.b
              have TA := Lib.hid (hAddM hb g mb n1 N T D1 (m.take i) hg8 hN hT hlen _ (hm1.old k1))
              have R := Lib.hid hr.out
              have K1 := Lib.hid k1
              clear hc he hr hm1 k1
              go_wp2_with fail
              refine TA.out.mono ?_
              rintro e w5 ⟨rfl, hm5, k5⟩
              have I5 : Hid (Two w w5 ha f ma hb g mb l (m.take (i + 1))) := by
                obtain ⟨n2, D2, ha2⟩ := R.out.a
                refine ⟨⟨n2, D2, (ha2.old K1.out).kp k5 hAP.d3 (fun h => hAP.d2 h.symm)⟩, by rw [hts.out]; exact hm5, (R.out.kp.then K1.out (fun _ _ x => x.elim)).then k5 (fun b hb h => by have := hAP.b2; omega)⟩
              clear hm5 k5 TA R K1 x0 x1
              go_wp2_with fail
              go_roundw
              case rel => exact ⟨i + 1, by go_num, by omega, I5.out⟩
              case measure => simp [Go.Proofs.intOf]; omega
            · obtain rfl : i = m.length := by omega
              have hr2 := hr.out
              rw [List.take_length] at hr2
              obtain ⟨⟨n1, D1, hA⟩, ⟨n2, D2, hB⟩, hK⟩ := hr2
              have hl1 : ∀ e ∈ l, e.1 < 18446744073709551616 := fun e he => (hl e he).1
              have hm1 : ∀ e ∈ m, e.1 < 18446744073709551616 := fun e he => (hm e he).1
              have HKR := Lib.hid hK
              have HAA := Lib.hid hA; have HBB := Lib.hid hB
              clear hr hA hB hK
              by_cases hfg : f = g
              · subst hfg
                have TM := Lib.hid (hMerge HAA.out HBB.out hf8 (by omega) (by omega) hm1 hAP.d1 hAP.d2)
                go_wp2_with fail
                refine TM.out.mono ?_
                rintro e w5 ⟨rfl, ⟨n5, D5, hm5⟩, k5⟩
                have I5 : Hid ((∃ n D, HMem w5 ha f ma n D (l ++ radds f m)) ∧ (∃ n D, HMem w5 hb f mb n D m) ∧ Kp (fun b => w.heap.size ≤ b) w w5) :=
                  ⟨⟨n5, D5, hm5⟩, ⟨n2, D2, HBB.out.kp k5 hAP.d1 hAP.d2⟩, HKR.out.then k5 (fun b hb h => by have := hAP.a2; omega)⟩
                clear hm5 k5 TM HAA HBB HKR
                have hone : ∀ L : List Ad, (L.flatMap enAd).all (·.oneCell') = true := fun L => by
                  rw [List.all_eq_true]; intro u hu
                  obtain ⟨e, _, hu⟩ := List.mem_flatMap.1 hu
                  simp [enAd] at hu
                  rcases hu with rfl | rfl <;> rfl
                have ke := (Kp.refl none' w5).alloc (.cells #[] 62)
                have HOE : Hid ((w5.alloc (.cells #[] 62)).ownsRow w5.heap.size 62 2 (.slice (some ⟨w5.heap.size, 0, none⟩) 0 0) 0 []) := ⟨rfl, .inr ⟨w5.heap.size, 0, #[], rfl, Nat.le_refl _, heap_new _ _, Nat.le_refl _, by unfold maxLen; omega, rfl, rfl⟩⟩
                have HXE := Lib.hid (HX.out.kp (I5.out.2.2.then ke (fun _ _ x => x.elim)) (fun b hb _ => by show ¬ _ ≤ b; omega))
                have KE5 := Lib.hid ke
                clear ke
                go_wp2_with (at_builtin; refine wp_appSl tTm (.tmp 86) (.tmp 87) rfl rfl w5.heap.size HOE.out rfl rfl HXE.out (hone l) (by omega) (by omega) (by simp) ?_)
                intro v6 w6 hown hgrow
                obtain ⟨ao6, cap6, rfl⟩ := own_shape hown
                have K6 : Hid (Kp none' w5 w6) := (KE5.out).grown hgrow (fun k e => .inr (by simp [Value.ownBlock] at e; omega))
                have HO6 := Lib.hid hown
                clear hown hgrow HOE HXE KE5
                have HQ6 := Lib.hid (HQ.out.kp (I5.out.2.2.then K6.out (fun _ _ x => x.elim)) (fun b hb _ => by show ¬ _ ≤ b; omega))
                have hz6 := K6.out.size
                go_wp2_with (at_builtin; refine wp_appSl tTm (.tmp 92) (.tmp 93) rfl rfl w5.heap.size HO6.out rfl rfl HQ6.out (hone m) (by omega) (by omega) (by omega) ?_)
                intro v7 w7 hown hgrow
                obtain ⟨ao7, cap7, rfl⟩ := own_shape hown
                have K7 : Hid (Kp none' w5 w7) := (K6.out).grown hgrow (fun k e => .inr (own_block HO6.out e).1)
                have hall : w7.ownsRow w5.heap.size 62 2 (.slice ao7 (l.length + m.length) cap7) (l.length + m.length) ((l ++ m).flatMap enAd) := by
                  rw [List.flatMap_append]
                  simpa using hown
                have I7 : Hid ((∃ n D, HMem w7 ha f ma n D (l ++ radds f m)) ∧ (∃ n D, HMem w7 hb f mb n D m) ∧ Kp (fun b => w.heap.size ≤ b) w w7) := by
                  obtain ⟨⟨n1, D1, h1⟩, ⟨n2, D2, h2⟩, h3⟩ := I5.out
                  exact ⟨⟨n1, D1, h1.old K7.out⟩, ⟨n2, D2, h2.old K7.out⟩, h3.then K7.out (fun _ _ x => x.elim)⟩
                clear hown hgrow I5 K6 K7 HO6 HQ6
                have hrl : (radds f m).length ≤ 80 := by unfold radds rowsN; rw [List.length_map, List.length_map]; exact Nat.le_trans (ks_len f m) (by omega)
                have hLA1 : (l ++ radds f m).length ≤ 1000000 := by rw [List.length_append]; omega
                have hLA2 : ∀ e ∈ l ++ radds f m, e.1 < 18446744073709551616 := fun e he => by
                  rcases List.mem_append.1 he with h | h
                  · exact hl1 e h
                  · unfold radds rowsN at h
                    rw [List.map_map] at h
                    obtain ⟨b, hb, rfl⟩ := List.mem_map.1 h
                    exact (lo_bnd hf8 (ks_bnd hf8 hm1 hb).1).1
                have hALL1 : (l ++ m).length ≤ 1000 := by rw [List.length_append]; omega
                have hALL2 : ∀ e ∈ l ++ m, e.1 < 18446744073709551616 ∧ e.2 < 18446744073709551616 := fun e he => by
                  rcases List.mem_append.1 he with h | h
                  · exact hl e h
                  · exact hm e h
                obtain ⟨⟨na, Da, hA⟩, ⟨nb, Db, hB⟩, hKK⟩ := I7.out
                have HAL := Lib.hid hall
                have TR := Lib.hid (hRows (w := w7) (B0 := 0) (hb := ha) (f := f) (l := l ++ radds f m) ⟨ma, na, Da, hA, Nat.zero_le _, Nat.zero_le _⟩ hf8 hLA1 hLA2)
                have HBB := Lib.hid hB
                have HKR := Lib.hid hKK
                clear hA hB hKK hall I7 hLA1 hLA2
                go_wp2_with fail
                refine TR.out.mono ?_
                rintro e w8 ⟨ra, rfl, o8, k8⟩
                rw [merged hf8 l m hm] at o8
                have O8 := Lib.hid o8
                have K8 := Lib.hid k8
                have TQ := Lib.hid (rRows f hf8 (l ++ m) hALL1 hALL2 _ w8 (by have := (own_sl HAL.out).old k8; rw [List.length_append]; exact this))
                clear o8 k8 TR hALL1 hALL2
                go_wp2_with fail
                refine TQ.out.mono ?_
                rintro e w9 ⟨rb, rfl, o9, k9⟩
                have TS := Lib.hid (hSame _ _ _ _ _ w9 (own_kp (S := none') O8.out k9 (fun _ _ h => h)) o9)
                have K9 := Lib.hid (K8.out.trans k9)
                clear o9 k9 TQ O8 K8
                go_wp2_with fail
                refine TS.out.mono ?_
                rintro e wA ⟨rfl, kA⟩
                have KA := Lib.hid (K9.out.trans kA)
                have TR2 := Lib.hid (hRows (w := wA) (B0 := 0) (hb := hb) (f := f) (l := m) ⟨mb, nb, Db, HBB.out.old KA.out, Nat.zero_le _, Nat.zero_le _⟩ hf8 (by omega) hm1)
                clear kA TS K9
                go_wp2_with fail
                refine TR2.out.mono ?_
                rintro e wB ⟨ra2, rfl, oB, kB⟩
                have OB := Lib.hid oB
                have KB := Lib.hid (KA.out.trans kB)
                have TQ2 := Lib.hid (rRows f hf8 m (by omega) hm _ wB (HQ.out.kp (HKR.out.then KB.out (fun _ _ x => x.elim)) (fun b hb _ => by show ¬ _ ≤ b; omega)))
                clear oB kB TR2 KA
                go_wp2_with fail
                refine TQ2.out.mono ?_
                rintro e wC ⟨rb2, rfl, oC, kC⟩
                have TS2 := Lib.hid (hSame _ _ _ _ _ wC (own_kp (S := none') OB.out kC (fun _ _ h => h)) oC)
                have KC := Lib.hid (KB.out.trans kC)
                clear oC kC TQ2 OB KB
                go_wp2_with fail
                refine TS2.out.mono ?_
                rintro e wD ⟨rfl, kD⟩
                have KD := Lib.hid (HKR.out.then (KC.out.trans kD) (fun _ _ x => x.elim))
                clear kD TS2 KC
                go_wp2_with fail
                refine (GL.out _ KD.out).mono ?_
                rintro e wE ⟨rfl, kE⟩
                have KE := Lib.hid kE
                clear kE
                go_wp2
                go_ret
                exact ⟨rfl, KE.out⟩
              · have TM := Lib.hid (hMergeNo HAA.out HBB.out hfg)
                have hfgi : ((f : Int) == (g : Int)) = false := by rw [beq_eq_false_iff_ne]; omega
                have hfgn : ((f : Int) != (g : Int)) = true := by rw [bne_iff_ne]; omega
                go_wp2_with fail
                refine TM.out.mono ?_
                rintro e w5 ⟨rfl, k5⟩
                have I5 : Hid ((∃ n D, HMem w5 ha f ma n D l) ∧ (∃ n D, HMem w5 hb g mb n D m) ∧ Kp (fun b => w.heap.size ≤ b) w w5) :=
                  ⟨⟨n1, D1, HAA.out.old k5⟩, ⟨n2, D2, HBB.out.old k5⟩, HKR.out.then k5 (fun _ _ x => x.elim)⟩
                clear k5 TM HAA HBB HKR
                have hone : ∀ L : List Ad, (L.flatMap enAd).all (·.oneCell') = true := fun L => by
                  rw [List.all_eq_true]; intro u hu
                  obtain ⟨e, _, hu⟩ := List.mem_flatMap.1 hu
                  simp [enAd] at hu
                  rcases hu with rfl | rfl <;> rfl
                have ke := (Kp.refl none' w5).alloc (.cells #[] 62)
                have HOE : Hid ((w5.alloc (.cells #[] 62)).ownsRow w5.heap.size 62 2 (.slice (some ⟨w5.heap.size, 0, none⟩) 0 0) 0 []) := ⟨rfl, .inr ⟨w5.heap.size, 0, #[], rfl, Nat.le_refl _, heap_new _ _, Nat.le_refl _, by unfold maxLen; omega, rfl, rfl⟩⟩
                have HXE := Lib.hid (HX.out.kp (I5.out.2.2.then ke (fun _ _ x => x.elim)) (fun b hb _ => by show ¬ _ ≤ b; omega))
                have KE5 := Lib.hid ke
                clear ke
                go_wp2_with (at_builtin; refine wp_appSl tTm (.tmp 86) (.tmp 87) rfl rfl w5.heap.size HOE.out rfl rfl HXE.out (hone l) (by omega) (by omega) (by simp) ?_)
                intro v6 w6 hown hgrow
                obtain ⟨ao6, cap6, rfl⟩ := own_shape hown
                have K6 : Hid (Kp none' w5 w6) := (KE5.out).grown hgrow (fun k e => .inr (by simp [Value.ownBlock] at e; omega))
                have HO6 := Lib.hid hown
                clear hown hgrow HOE HXE KE5
                have hall : w6.ownsRow w5.heap.size 62 2 (.slice ao6 l.length cap6) l.length (l.flatMap enAd) := by
                  simpa using HO6.out
                have I7 : Hid ((∃ n D, HMem w6 ha f ma n D l) ∧ (∃ n D, HMem w6 hb g mb n D m) ∧ Kp (fun b => w.heap.size ≤ b) w w6) := by
                  obtain ⟨⟨n1, D1, h1⟩, ⟨n2, D2, h2⟩, h3⟩ := I5.out
                  exact ⟨⟨n1, D1, h1.old K6.out⟩, ⟨n2, D2, h2.old K6.out⟩, h3.then K6.out (fun _ _ x => x.elim)⟩
                clear I5 K6 HO6
                have hLA1 : l.length ≤ 1000000 := by omega
                have hLA2 := hl1
                have hALL1 : l.length ≤ 1000 := by omega
                have hALL2 := hl
                obtain ⟨⟨na, Da, hA⟩, ⟨nb, Db, hB⟩, hKK⟩ := I7.out
                have HAL := Lib.hid hall
                have TR := Lib.hid (hRows (w := w6) (B0 := 0) (hb := ha) (f := f) (l := l) ⟨ma, na, Da, hA, Nat.zero_le _, Nat.zero_le _⟩ hf8 hLA1 hLA2)
                have HBB := Lib.hid hB
                have HKR := Lib.hid hKK
                clear hA hB hKK hall I7 hLA1 hLA2
                go_wp2_with fail
                refine TR.out.mono ?_
                rintro e w8 ⟨ra, rfl, o8, k8⟩
                rw [show rowsN f l = rowsN f l from rfl] at o8
                have O8 := Lib.hid o8
                have K8 := Lib.hid k8
                have TQ := Lib.hid (rRows f hf8 (l) hALL1 hALL2 _ w8 (((own_sl HAL.out)).old k8))
                clear o8 k8 TR hALL1 hALL2
                go_wp2_with fail
                refine TQ.out.mono ?_
                rintro e w9 ⟨rb, rfl, o9, k9⟩
                have TS := Lib.hid (hSame _ _ _ _ _ w9 (own_kp (S := none') O8.out k9 (fun _ _ h => h)) o9)
                have K9 := Lib.hid (K8.out.trans k9)
                clear o9 k9 TQ O8 K8
                go_wp2_with fail
                refine TS.out.mono ?_
                rintro e wA ⟨rfl, kA⟩
                have KA := Lib.hid (K9.out.trans kA)
                have TR2 := Lib.hid (hRows (w := wA) (B0 := 0) (hb := hb) (f := g) (l := m) ⟨mb, nb, Db, HBB.out.old KA.out, Nat.zero_le _, Nat.zero_le _⟩ hg8 (by omega) hm1)
                clear kA TS K9
                go_wp2_with fail
                refine TR2.out.mono ?_
                rintro e wB ⟨ra2, rfl, oB, kB⟩
                have OB := Lib.hid oB
                have KB := Lib.hid (KA.out.trans kB)
                have TQ2 := Lib.hid (rRows g hg8 m (by omega) hm _ wB (HQ.out.kp (HKR.out.then KB.out (fun _ _ x => x.elim)) (fun b hb _ => by show ¬ _ ≤ b; omega)))
                clear oB kB TR2 KA
                go_wp2_with fail
                refine TQ2.out.mono ?_
                rintro e wC ⟨rb2, rfl, oC, kC⟩
                have TS2 := Lib.hid (hSame _ _ _ _ _ wC (own_kp (S := none') OB.out kC (fun _ _ h => h)) oC)
                have KC := Lib.hid (KB.out.trans kC)
                clear oC kC TQ2 OB KB
                go_wp2_with fail
                refine TS2.out.mono ?_
                rintro e wD ⟨rfl, kD⟩
                have KD := Lib.hid (HKR.out.then (KC.out.trans kD) (fun _ _ x => x.elim))
                clear kD TS2 KC
                go_wp2_with fail
                refine (GL.out _ KD.out).mono ?_
                rintro e wE ⟨rfl, kE⟩
                have KE := Lib.hid kE
                clear kE
                go_wp2
                go_ret
                exact ⟨rfl, KE.out⟩
end Go.Proofs.Ytkhipbpjknfloaa
