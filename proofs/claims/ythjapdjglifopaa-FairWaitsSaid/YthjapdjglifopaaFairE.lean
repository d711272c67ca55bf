/- Walks of layer 27: the gap of two flows. -/
import Derived.Test.YthjapdjglifopaaFairH
import Derived.Test.YthjapdjglifopaaFairN
import Derived.Test.YthjapdjglifopaaRowSet
import Derived.Test.YthjapdjglifopaaKept
import Derived.Test.YthjapdjglifopaaFairD
namespace Go.Proofs.Ythjapdjglifopaa
set_option linter.unusedVariables false
set_option linter.unusedSimpArgs false
open Go.RowKit Go.Shelf

theorem enWd_one (v : Int) : ∀ x ∈ enWd v, x.oneCell' = true := by
  intro x hx
  simp only [enWd, List.mem_cons, List.not_mem_nil, or_false] at hx
  rcases hx with rfl | rfl <;> rfl
theorem infoD : (Try.prog.info? 87).map (·.size) = some 2 := by kernel_rfl
theorem infoS : (Try.prog.info? 24).map (·.size) = some 2 := by kernel_rfl
theorem enQ_one (q : RpR) (h : q.ok) : ∀ v ∈ enQ q, v.oneCell' = true := h.one
/-- What the inner loop keeps. -/
structure GpI (D : Nat → Int) (a b i : Nat) (wo wr : World) (ps p0 p1 p2 : Nat) : Prop where
  span : Blk wr ps (enSp (a, b)) 24
  now : Blk wr p0 (enWd (D i)) 87
  low : Blk wr p1 (enWd (loD D a (i - a))) 87
  high : Blk wr p2 (enWd (hiD D a (i - a))) 87
  kp : Kp none' wo wr
theorem lo_step (D : Nat → Int) (a i : Nat) (h : a ≤ i) : loD D a (i + 1 - a) = min (loD D a (i - a)) (D (i + 1)) := by
  rw [show i + 1 - a = (i - a) + 1 by omega, loD, show a + (i - a) + 1 = i + 1 by omega]
theorem hi_step (D : Nat → Int) (a i : Nat) (h : a ≤ i) : hiD D a (i + 1 - a) = max (hiD D a (i - a)) (D (i + 1)) := by
  rw [show i + 1 - a = (i - a) + 1 by omega, hiD, show a + (i - a) + 1 = i + 1 by omega]
theorem lo_in (D : Nat → Int) (a i : Nat) (h : a ≤ i) : loD D a (i - a) ≤ D i := by
  have := loD_le D a (i - a) (i - a) (Nat.le_refl _)
  rwa [show a + (i - a) = i by omega] at this
theorem hi_in (D : Nat → Int) (a i : Nat) (h : a ≤ i) : D i ≤ hiD D a (i - a) := by
  have := hiD_ge D a (i - a) (i - a) (Nat.le_refl _)
  rwa [show a + (i - a) = i by omega] at this
theorem GpI.next {D : Nat → Int} {a b i : Nat} {wo wr w : World} {ps p0 p1 p2 : Nat} (h : GpI D a b i wo wr ps p0 p1 p2) (k : Kp none' wr w) : GpI D a b i wo w ps p0 p1 p2 :=
  ⟨h.span.kp k id, h.now.kp k id, h.low.kp k id, h.high.kp k id, h.kp.trans k⟩
/-- A reply that turns nothing. -/
theorem GpI.skip {D : Nat → Int} {a b i : Nat} {wo wr : World} {ps p0 p1 p2 : Nat} (h : GpI D a b i wo wr ps p0 p1 p2) (ha : a ≤ i) (e : D (i + 1) = D i) : GpI D a b (i + 1) wo wr ps p0 p1 p2 := by
  have h1 := lo_in D a i ha
  have h2 := hi_in D a i ha
  refine ⟨h.span, by rw [e]; exact h.now, ?_, ?_, h.kp⟩
  · rw [lo_step D a i ha, e, Int.min_eq_left h1]; exact h.low
  · rw [hi_step D a i ha, e, Int.max_eq_left h2]; exact h.high
theorem difS_none (fl : List FlR) (f g d : Int) (q : RpR) (h : goesB q = false ∨ (findF fl q.flow ≠ f ∧ findF fl q.flow ≠ g)) : difS fl f g d q = d := by
  unfold difS
  rw [of_goes, of_goes]
  rcases h with h | ⟨h1, h2⟩
  · rw [h]; simp
  · rw [decide_eq_false h1, decide_eq_false h2]; simp
theorem difS_f (fl : List FlR) (f g d : Int) (q : RpR) (h1 : goesB q = true) (h2 : findF fl q.flow = f) : difS fl f g d q = d + (cst fl f * min q.len 65535 : Nat) := by
  unfold difS
  rw [of_goes, h1, decide_eq_true h2, if_pos (by rfl)]
theorem difS_g (fl : List FlR) (f g d : Int) (q : RpR) (h1 : goesB q = true) (h2 : findF fl q.flow = g) (hfg : f ≠ g) : difS fl f g d q = d - (cst fl g * min q.len 65535 : Nat) := by
  unfold difS
  rw [of_goes, of_goes, h1, decide_eq_true h2, decide_eq_false (fun e => hfg (e.symm.trans h2)), if_neg (by simp), if_pos (by rfl)]
theorem lo_bd (D : Nat → Int) (a n : Nat) {x y : Int} (h : ∀ i, x ≤ D i ∧ D i ≤ y) : x ≤ loD D a n ∧ loD D a n ≤ y := by obtain ⟨j, _, e⟩ := loD_is D a n; rw [e]; exact h _
theorem hi_bd (D : Nat → Int) (a n : Nat) {x y : Int} (h : ∀ i, x ≤ D i ∧ D i ≤ y) : x ≤ hiD D a n ∧ hiD D a n ≤ y := by obtain ⟨j, _, e⟩ := hiD_is D a n; rw [e]; exact h _
set_option maxRecDepth 100000 in
set_option maxHeartbeats 4000000 in
theorem fGapIn (fl : List FlR) (l : List RpR) (hfl : ∀ x ∈ fl, x.ok) (hq : ∀ q ∈ l, q.ok) (hfn : fl.length ≤ 1000) (hln : l.length ≤ 1000) (f g : Nat) (hf : f < fl.length) (hg : g < fl.length) (hfg : f ≠ g) (u v : Value) (w : World) (h1 : Sl w u fl.length 5 (fl.flatMap enFl)) (h2 : Sl w v l.length 42 (l.flatMap enQ)) :
    Calls Try.prog 14 #[u, v, .int .i64 f, .int .i64 g] w fun e w' => e = .returned (.int .u64 (gapF fl l f g (spans fl l f g))) ∧ Kp none' w w' := by
  obtain ⟨ao, acap, rfl⟩ : ∃ ao cap, u = .slice ao fl.length cap := by obtain ⟨ao, cap, rfl, _⟩ := h1.is; exact ⟨_, _, rfl⟩
  obtain ⟨bo, bcap, rfl⟩ : ∃ ao cap, v = .slice ao l.length cap := by obtain ⟨ao, cap, rfl, _⟩ := h2.is; exact ⟨_, _, rfl⟩
  obtain ⟨gf, off, cf, e1, hcf⟩ := h1.at enFl_len (by decide) f hf
  injection e1 with e1 _ e3
  subst e1 e3
  have hcell : ∀ k (hk : k < fl.length), w.cell? ⟨gf, off + k * 5 + 1, none⟩ = some (.int .u64 (cst fl k)) := fun k hk => by
    obtain ⟨gf2, off2, cf2, e2, hcf2⟩ := h1.at enFl_len (by decide) k hk
    injection e2 with e2 _ _
    injection e2 with e2
    injection e2 with e4 e5 _
    subst e4 e5
    rw [cst_at fl k hk]
    exact hcf2 1 _ rfl
  have HCF := Lib.hid (hcell f hf); have HCG := Lib.hid (hcell g hg)
  have cf64 : cst fl f < 18446744073709551616 := by rw [cst_at fl f hf]; exact (hfl _ (List.getElem_mem hf)).cost
  have cg64 : cst fl g < 18446744073709551616 := by rw [cst_at fl g hg]; exact (hfl _ (List.getElem_mem hg)).cost
  have d5 : ((f : Int) == (g : Int)) = false := by rw [beq_eq_false_iff_ne]; omega
  have hfi : (f : Int) < fl.length := by omega
  have hgi : (g : Int) < fl.length := by omega
  have HX := Lib.hid h1; have HQ := Lib.hid h2
  clear hcf hcell
  have HSP := Lib.hid (fSpans fl l hq hfn hln f g _ _ w h1 h2)
  have HIN := Lib.hid (spans_in fl l f g)
  have hsl := spans_len fl l f g
  have HDB := Lib.hid (fun a i => difD_bound fl hfl l hln f g a i)
  generalize spans fl l f g = sp at *
  clear h1 h2
  go_enter Try.func14, Try.ntmps14
  go_wp2_with fail
  refine HSP.out.mono ?_
  rintro e w1 ⟨r, rfl, ho, k1⟩
  obtain ⟨ro, rcap, rfl⟩ := own_shape ho
  have HO := Lib.hid ho; have HK1 := Lib.hid k1
  clear ho k1 HSP
  go_wp2_with fail
  go_loopw [9, 24] (fun m0 s0 wr => ∃ s m : Nat, m0 = .int .u64 m ∧ s0 = .int .i64 s ∧ s ≤ sp.length ∧ m < 18446744073709551616 ∧ Hid (m = gapF fl l f g (sp.take s) ∧ Kp none' w1 wr)) (fun _ s0 _ => sp.length - (intOf s0).toNat)
  case atStart => exact ⟨0, 0, rfl, rfl, by omega, by omega, rfl, Kp.refl _ _⟩
  case round =>
    obtain ⟨s, m, rfl, rfl, hs, hm, hr⟩ := hrel
    by_cases hlt : s < sp.length
    · have hsi : (s : Int) < sp.length := by omega
      obtain ⟨gg, gc, e1, hgg⟩ := own_shape1 HO.out (by omega)
      injection e1 with e1 _ e3
      subst e1 e3
      have hsin := HIN.out sp[s] (List.getElem_mem hlt)
      have HT : Hid (gapF fl l f g (sp.take (s + 1)) = gapS fl l f g m sp[s]) := by show _ = _; rw [List.take_succ_eq_append_getElem hlt, gapF_snoc, hr.out.1]
      have d0 := own_cell (own_kp (S := none') HO.out hr.out.2 (fun _ _ h => h)) (s * 2 + 0) (by rw [flat_get enSp 2 enSp_len sp s 0 (by omega), List.getElem?_eq_getElem hlt]; rfl)
      have d1 := own_cell (own_kp (S := none') HO.out hr.out.2 (fun _ _ h => h)) (s * 2 + 1) (by rw [flat_get enSp 2 enSp_len sp s 1 (by omega), List.getElem?_eq_getElem hlt]; rfl)
      obtain ⟨⟨a, b⟩, hab⟩ : ∃ x, sp[s] = x := ⟨_, rfl⟩
      rw [hab] at d0 d1 hsin HT
      obtain ⟨hab1, hb⟩ := hsin
      simp only [Nat.add_zero] at d0 d1 hab1 hb
      have HKR := Lib.hid (HK1.out.trans hr.out.2)
      have HK0 := Lib.hid hr.out.2
      have hbd := HDB.out a
      have hst := fun i h1 h2 => difD_step fl l f g (by omega) a i h1 h2
      have h00 := difD_start fl l f g a
      obtain ⟨D, hD⟩ : ∃ D, difD fl l f g a = D := ⟨_, rfl⟩
      have HG : Hid (gapF fl l f g (sp.take (s + 1)) = max m (spG D a b)) := by show _ = _; rw [HT.out, ← hD]; rfl
      rw [hD] at hbd hst h00
      have HBD := Lib.hid hbd; have HST := Lib.hid hst; have H00 := Lib.hid h00
      clear hab hD hr HT hbd hst h00
      obtain ⟨wo, hwo⟩ : ∃ wo : World, wo = wr := ⟨_, rfl⟩
      subst hwo
      have hsz := HK0.out.size
      have HI : Hid (GpI D a b a wo ((((wo.alloc (.cells (enSp (a, b)).toArray 24)).alloc (.cells (enWd 0).toArray 87)).alloc (.cells (enWd 0).toArray 87)).alloc (.cells (enWd 0).toArray 87)) wo.heap.size (wo.heap.size + 1) (wo.heap.size + 1 + 1) (wo.heap.size + 1 + 1 + 1)) := by
        have b0 := (((Blk.new wo (enSp (a, b)) 24).alloc (.cells (enWd 0).toArray 87)).alloc (.cells (enWd 0).toArray 87)).alloc (.cells (enWd 0).toArray 87)
        have b1 := ((Blk.new (wo.alloc (.cells (enSp (a, b)).toArray 24)) (enWd 0) 87).alloc (.cells (enWd 0).toArray 87)).alloc (.cells (enWd 0).toArray 87)
        have b2 := (Blk.new ((wo.alloc (.cells (enSp (a, b)).toArray 24)).alloc (.cells (enWd 0).toArray 87)) (enWd 0) 87).alloc (.cells (enWd 0).toArray 87)
        have b3 := Blk.new (((wo.alloc (.cells (enSp (a, b)).toArray 24)).alloc (.cells (enWd 0).toArray 87)).alloc (.cells (enWd 0).toArray 87)) (enWd 0) 87
        simp only [World.size_alloc] at b1 b2 b3
        refine ⟨b0, by rw [H00.out]; exact b1, ?_, ?_, ((((Kp.refl _ _).alloc _).alloc _).alloc _).alloc _⟩
        · rw [Nat.sub_self]; show Blk _ _ (enWd (D a)) _; rw [H00.out]; exact b2
        · rw [Nat.sub_self]; show Blk _ _ (enWd (D a)) _; rw [H00.out]; exact b3
      go_wp2_with fail
      obtain ⟨ps, hps⟩ : ∃ p, wo.heap.size = p := ⟨_, rfl⟩
      obtain ⟨p0, hp0⟩ : ∃ p, ps + 1 = p := ⟨_, rfl⟩
      obtain ⟨p1, hp1⟩ : ∃ p, p0 + 1 = p := ⟨_, rfl⟩
      obtain ⟨p2, hp2⟩ : ∃ p, p1 + 1 = p := ⟨_, rfl⟩
      rw [hps, hp0, hp1, hp2] at HI ⊢
      have hz : wo.heap.size ≤ ps := by omega
      have n01 : p0 ≠ ps := by omega
      have n02 : p1 ≠ ps := by omega
      have n03 : p2 ≠ ps := by omega
      have n12 : p1 ≠ p0 := by omega
      have n13 : p2 ≠ p0 := by omega
      have n23 : p2 ≠ p1 := by omega
      have z0 : wo.heap.size ≤ p0 := by omega
      have z1 : wo.heap.size ≤ p1 := by omega
      have z2 : wo.heap.size ≤ p2 := by omega
      clear hps hp0 hp1 hp2 H00 d0 d1
      go_loopw [15] (fun i0 wr => ∃ i : Nat, i0 = .int .i64 ((i + 1 : Nat)) ∧ a ≤ i ∧ i ≤ b ∧ Hid (GpI D a b i wo wr ps p0 p1 p2)) (fun i0 _ => b + 1 - (intOf i0).toNat)
      case atStart => exact ⟨a, by go_num, by omega, by omega, HI.out⟩
      case round =>
        obtain ⟨i, rfl, hi1, hi2, hri⟩ := hrel
        have s1 := hri.out.span.cell 1 rfl
        by_cases hib : i + 1 ≤ b
        · have hibi : ((i : Int) + 1) ≤ b := by omega
          have hil : i + 1 < l.length := by omega
          have hili : ((i : Int) + 1) < l.length := by omega
          have hkw := (HK1.out.trans HK0.out).trans hri.out.kp
          obtain ⟨gq, oq, cq, e1, hcq⟩ := (HQ.out.old hkw).range enQ_len (by decide) (i + 1) hil
          injection e1 with e1 _ e3
          subst e1 e3
          have hqo := hq l[i + 1] (List.getElem_mem hil)
          have hst := HST.out i hi1 hil
          obtain ⟨q, hqj⟩ : ∃ q, l[i + 1] = q := ⟨_, rfl⟩
          rw [hqj] at hqo hcq hst
          have HSTQ := Lib.hid hst
          have HQO := Lib.hid hqo
          have HKW := Lib.hid hkw
          have HCQ := Lib.hid hcq
          have HRI := Lib.hid hri.out
          have hqn := hqo.hn
          clear hqj hst hkw hri HI hcq
          go_wp2_with (first
            | (refine wpList_load_mid rfl 77 (.tmp 39) rfl gq (oq + (i + 1) * 42) rfl (enQ q) _ HCQ.out Try.underlying77 rfl (infoQ q) ?_)
            | (refine wp_make_row rfl 77 (.tmp 16) (.tmp 40) rfl (enQ q) rfl rfl (infoQ q) (by rw [enQ_len]; rfl) HQO.out.one ?_
               intro W2 hB2 hK2
               have c2 := hB2.cell 2 HQO.out.f
               have HB2 := Lib.hid hB2
               have HK2 := Lib.hid hK2
               clear hB2 hK2))
          have HFF := Lib.hid (fun W h => fFind fl (by omega) q.flow (.slice (some ⟨gf, off, none⟩) fl.length acap) W h)
          refine (HFF.out _ (HX.out.old (HKW.out.trans HK2.out))).mono ?_
          rintro e w3 ⟨rfl, k3⟩
          have HB3 := Lib.hid (HB2.out.kp k3 id)
          have HRI3 := Lib.hid ((HRI.out.next HK2.out).next k3)
          have HKW3 := Lib.hid ((HKW.out.trans HK2.out).trans k3)
          have hgl := fun W => fGoes q HQO.out W
          have HDN := Lib.hid (fun h => HSTQ.out.trans (difS_none fl f g (D i) q h))
          have HDF := Lib.hid (fun h1 h2 => HSTQ.out.trans (difS_f fl f g (D i) q h1 h2))
          have HDG := Lib.hid (fun h1 h2 => HSTQ.out.trans (difS_g fl f g (D i) q h1 h2 (by omega)))
          obtain ⟨pb, hpb⟩ : ∃ p, wr.heap.size = p := ⟨_, rfl⟩
          rw [hpb] at HB3 ⊢
          clear hpb k3 c2 HB2 HK2 HKW HRI HFF HSTQ
          generalize findF fl q.flow = at0 at *
          cases hgo : goesB q with
          | false =>
            have HE := Lib.hid (HDN.out (.inl hgo))
            rw [hgo] at hgl
            have HGL := Lib.hid hgl
            clear hgo hgl HDN HDF HDG
            go_wp2_with (refine wp_get_row rfl 77 (.tmp 16) rfl HB3.out _ rfl Try.underlying77 rfl (infoQ q) ?_)
            refine (HGL.out _).mono ?_
            rintro e w4 ⟨rfl, k4⟩
            have HRI4 := Lib.hid ((HRI3.out.next k4).skip hi1 HE.out)
            clear k4
            go_wp2_with fail
            go_roundw
            case rel => exact ⟨i + 1, by go_num, by omega, by omega, HRI4.out⟩
            case measure => simp [intOf]; omega
          | true =>
            rw [hgo] at hgl
            have HGL := Lib.hid hgl
            by_cases haf : at0 = f
            · have HE := Lib.hid (HDF.out hgo haf)
              subst haf
              clear hgo hgl HDN HDF HDG
              go_wp2_with (refine wp_get_row rfl 77 (.tmp 16) rfl HB3.out _ rfl Try.underlying77 rfl (infoQ q) ?_)
              refine (HGL.out _).mono ?_
              rintro e w4 ⟨rfl, k4⟩
              have hcc := (HKW3.out.trans k4).cell HCF.out id
              have hpl := fun W => fPlusA (D i) (cst fl f) (min q.len 65535) cf64 (by omega) W
              have HRI4 := Lib.hid (HRI3.out.next k4)
              have HB4 := Lib.hid (HB3.out.kp k4 id)
              have hqc := HB4.out.cell 4 HQO.out.n
              have hn0 := HRI4.out.now.cell 0 rfl
              have hn1 := HRI4.out.now.cell 1 rfl
              have hlit : enWd (D i) = [.int .u64 ↑(hiW (D i)), .int .u64 ↑(loW (D i))] := rfl
              have em : ((min q.len 65535 : Nat) : Int) = min (q.len : Int) 65535 := by omega
              rw [← HE.out, em, hlit] at hpl
              have HPL := Lib.hid hpl
              have hb0 := HBD.out (i + 1)
              have HBL := Lib.hid (fun W => fBelow (D (i + 1)) (loD D a (i - a)) hb0 (lo_bd D a (i - a) HBD.out) W)
              have HBH := Lib.hid (fun W => fBelow (hiD D a (i - a)) (D (i + 1)) (hi_bd D a (i - a) HBD.out) hb0 W)
              have hlh := Int.le_trans (lo_in D a i hi1) (hi_in D a i hi1)
              have HLS := Lib.hid (lo_step D a i hi1)
              have HHS := Lib.hid (hi_step D a i hi1)
              have on := enWd_one (D (i + 1))
              clear k4 hlit em hpl hb0
              go_wp2_with fail
              refine wp_region_kept2 [] [0, 1, 2, 3, 4, 5, 6, 7, 8, 9, 10, 11, 12, 13] 14 (by kernel_rfl) (by kernel_rfl) (fun c a d u w h => by cases d <;> exact h) ?_
              simp only [pick, List.getElem?_cons_succ, List.getElem?_cons_zero, List.drop_succ_cons, List.drop_zero]
              show wpKL _ _ _ _ _ _
              repeat (first
                | (refine wpKL_op (by exact rfl) (by as_aux_lemma => intro W hK; have e0 := hK.cell hcc id; have e1 := hK.cell hqc id; have e2 := hK.cell hn0 id; have e3 := hK.cell hn1 id; go_simp; exact rfl) ?_; simp only [Act.put, List.setIfInBounds_toArray, List.set_cons_succ, List.set_cons_zero])
                | (refine wpKL_off (by exact rfl) ?_; simp only [Act.put, List.setIfInBounds_toArray, List.set_cons_succ, List.set_cons_zero])
                | (refine wpKL_call (by exact rfl) (by as_aux_lemma => intro W; go_simp; exact ⟨rfl, rfl⟩) (by intro W hK; with_reducible first | exact HPL.out W) ?_; simp only [Act.put, List.setIfInBounds_toArray, List.set_cons_succ, List.set_cons_zero]))
              show ∀ W, _ → wpList _ _ _ _ _ _
              intro W5 hK5
              have HRI5 := Lib.hid (HRI4.out.next hK5)
              clear hK5 hcc hqc hn0 hn1 HRI4
              go_wp2_with (first
                | (refine wp_set_row rfl 87 (.tmp 12) (.tmp 72) rfl HRI5.out.now (enWd (D (i + 1))) rfl rfl infoD rfl on ?_
                   intro W6 hB6 hO6 hK6
                   have HN6 := Lib.hid hB6; have HL6 := Lib.hid (hO6 _ _ _ HRI5.out.low n12); have HH6 := Lib.hid (hO6 _ _ _ HRI5.out.high n13); have HS6 := Lib.hid (hO6 _ _ _ HRI5.out.span n01.symm); have HK6 := Lib.hid (hK6 _ _ HRI5.out.kp (.inr z0))
                   clear hB6 hO6 hK6)
                | (refine wp_get_row rfl 87 (.tmp 12) rfl HN6.out _ rfl Try.underlying87 rfl infoD ?_)
                | (refine wp_get_row rfl 87 (.tmp 13) rfl HL6.out _ rfl Try.underlying87 rfl infoD ?_))
              refine (HBL.out _).mono ?_
              rintro e w7 ⟨rfl, k7⟩
              have HN7 := Lib.hid (HN6.out.kp k7 id); have HL7 := Lib.hid (HL6.out.kp k7 id); have HH7 := Lib.hid (HH6.out.kp k7 id); have HS7 := Lib.hid (HS6.out.kp k7 id); have HK7 := Lib.hid (HK6.out.trans k7)
              clear k7 HN6 HL6 HH6 HS6 HK6 HRI5
              by_cases hlo : D (i + 1) < loD D a (i - a)
              · have hdl : decide (D (i + 1) < loD D a (i - a)) = true := decide_eq_true hlo
                have hdh : decide (hiD D a (i - a) < D (i + 1)) = false := decide_eq_false (by omega)
                have HEL : Hid (loD D a (i + 1 - a) = D (i + 1)) := by show _ = _; rw [HLS.out]; omega
                have HEH : Hid (hiD D a (i + 1 - a) = hiD D a (i - a)) := by show _ = _; rw [HHS.out]; omega
                clear hlo
                go_wp2_with (first
                  | (refine wp_get_row rfl 87 (.tmp 12) rfl HN7.out _ rfl Try.underlying87 rfl infoD ?_)
                  | (refine wp_set_row rfl 87 (.tmp 13) (.tmp 76) rfl HL7.out (enWd (D (i + 1))) rfl rfl infoD rfl on ?_
                     intro W8 hB8 hO8 hK8
                     have HL8 := Lib.hid hB8; have HN8 := Lib.hid (hO8 _ _ _ HN7.out n12.symm); have HH8 := Lib.hid (hO8 _ _ _ HH7.out n23); have HS8 := Lib.hid (hO8 _ _ _ HS7.out n02.symm); have HK8 := Lib.hid (hK8 _ _ HK7.out (.inr z1))
                     clear hB8 hO8 hK8)
                  | (refine wp_get_row rfl 87 (.tmp 12) rfl HN8.out _ rfl Try.underlying87 rfl infoD ?_)
                  | (refine wp_get_row rfl 87 (.tmp 14) rfl HH8.out _ rfl Try.underlying87 rfl infoD ?_))
                refine (HBH.out _).mono ?_
                rintro e w9 ⟨rfl, k9⟩
                have HF : Hid (GpI D a b (i + 1) wo w9 ps p0 p1 p2) := ⟨HS8.out.kp k9 id, HN8.out.kp k9 id, by rw [HEL.out]; exact HL8.out.kp k9 id, by rw [HEH.out]; exact HH8.out.kp k9 id, HK8.out.trans k9⟩
                clear k9
                go_wp2_with fail
                go_roundw
                case rel => exact ⟨i + 1, by go_num, by omega, by omega, HF.out⟩
                case measure => simp [intOf]; omega
              · have hdl : decide (D (i + 1) < loD D a (i - a)) = false := decide_eq_false hlo
                have HEL : Hid (loD D a (i + 1 - a) = loD D a (i - a)) := by show _ = _; rw [HLS.out]; omega
                clear hlo
                go_wp2_with (first
                  | (refine wp_get_row rfl 87 (.tmp 12) rfl HN7.out _ rfl Try.underlying87 rfl infoD ?_)
                  | (refine wp_get_row rfl 87 (.tmp 14) rfl HH7.out _ rfl Try.underlying87 rfl infoD ?_))
                refine (HBH.out _).mono ?_
                rintro e w9 ⟨rfl, k9⟩
                have HN9 := Lib.hid (HN7.out.kp k9 id); have HL9 := Lib.hid (HL7.out.kp k9 id); have HH9 := Lib.hid (HH7.out.kp k9 id); have HS9 := Lib.hid (HS7.out.kp k9 id); have HK9 := Lib.hid (HK7.out.trans k9)
                clear k9
                by_cases hhi : hiD D a (i - a) < D (i + 1)
                · have hdh : decide (hiD D a (i - a) < D (i + 1)) = true := decide_eq_true hhi
                  have HEH : Hid (hiD D a (i + 1 - a) = D (i + 1)) := by show _ = _; rw [HHS.out]; omega
                  clear hhi
                  go_wp2_with (first
                    | (refine wp_get_row rfl 87 (.tmp 12) rfl HN9.out _ rfl Try.underlying87 rfl infoD ?_)
                    | (refine wp_set_row rfl 87 (.tmp 14) (.tmp 80) rfl HH9.out (enWd (D (i + 1))) rfl rfl infoD rfl on ?_
                       intro W8 hB8 hO8 hK8
                       have HF : Hid (GpI D a b (i + 1) wo W8 ps p0 p1 p2) := ⟨hO8 _ _ _ HS9.out n03.symm, hO8 _ _ _ HN9.out n13.symm, by rw [HEL.out]; exact hO8 _ _ _ HL9.out n23.symm, by rw [HEH.out]; exact hB8, hK8 _ _ HK9.out (.inr z2)⟩
                       clear hB8 hO8 hK8))
                  go_roundw
                  case rel => exact ⟨i + 1, by go_num, by omega, by omega, HF.out⟩
                  case measure => simp [intOf]; omega
                · have hdh : decide (hiD D a (i - a) < D (i + 1)) = false := decide_eq_false hhi
                  have HEH : Hid (hiD D a (i + 1 - a) = hiD D a (i - a)) := by show _ = _; rw [HHS.out]; omega
                  clear hhi
                  go_wp2_with fail
                  go_roundw
                  case rel => exact ⟨i + 1, by go_num, by omega, by omega, HS9.out, HN9.out, by rw [HEL.out]; exact HL9.out, by rw [HEH.out]; exact HH9.out, HK9.out⟩
                  case measure => simp [intOf]; omega
            · by_cases hag : at0 = g
              · have HE := Lib.hid (HDG.out hgo hag)
                subst hag
                have d6 : ((g : Int) == (f : Int)) = false := by rw [beq_eq_false_iff_ne]; omega
                clear hgo hgl HDN HDF HDG
                go_wp2_with (refine wp_get_row rfl 77 (.tmp 16) rfl HB3.out _ rfl Try.underlying77 rfl (infoQ q) ?_)
                refine (HGL.out _).mono ?_
                rintro e w4 ⟨rfl, k4⟩
                have hcc := (HKW3.out.trans k4).cell HCG.out id
                have hpl := fun W => fPlusS (D i) (cst fl g) (min q.len 65535) cg64 (by omega) W
                have HRI4 := Lib.hid (HRI3.out.next k4)
                have HB4 := Lib.hid (HB3.out.kp k4 id)
                have hqc := HB4.out.cell 4 HQO.out.n
                have hn0 := HRI4.out.now.cell 0 rfl
                have hn1 := HRI4.out.now.cell 1 rfl
                have hlit : enWd (D i) = [.int .u64 ↑(hiW (D i)), .int .u64 ↑(loW (D i))] := rfl
                have em : ((min q.len 65535 : Nat) : Int) = min (q.len : Int) 65535 := by omega
                rw [← HE.out, em, hlit] at hpl
                have HPL := Lib.hid hpl
                have hb0 := HBD.out (i + 1)
                have HBL := Lib.hid (fun W => fBelow (D (i + 1)) (loD D a (i - a)) hb0 (lo_bd D a (i - a) HBD.out) W)
                have HBH := Lib.hid (fun W => fBelow (hiD D a (i - a)) (D (i + 1)) (hi_bd D a (i - a) HBD.out) hb0 W)
                have hlh := Int.le_trans (lo_in D a i hi1) (hi_in D a i hi1)
                have HLS := Lib.hid (lo_step D a i hi1)
                have HHS := Lib.hid (hi_step D a i hi1)
                have on := enWd_one (D (i + 1))
                clear k4 hlit em hpl hb0
                go_wp2_with fail
                refine wp_region_kept2 [] [0, 1, 2, 3, 4, 5, 6, 7, 8, 9, 10, 11, 12, 13] 14 (by kernel_rfl) (by kernel_rfl) (fun c a d u w h => by cases d <;> exact h) ?_
                simp only [pick, List.getElem?_cons_succ, List.getElem?_cons_zero, List.drop_succ_cons, List.drop_zero]
                show wpKL _ _ _ _ _ _
                repeat (first
                  | (refine wpKL_op (by exact rfl) (by as_aux_lemma => intro W hK; have e0 := hK.cell hcc id; have e1 := hK.cell hqc id; have e2 := hK.cell hn0 id; have e3 := hK.cell hn1 id; go_simp; exact rfl) ?_; simp only [Act.put, List.setIfInBounds_toArray, List.set_cons_succ, List.set_cons_zero])
                  | (refine wpKL_off (by exact rfl) ?_; simp only [Act.put, List.setIfInBounds_toArray, List.set_cons_succ, List.set_cons_zero])
                  | (refine wpKL_call (by exact rfl) (by as_aux_lemma => intro W; go_simp; exact ⟨rfl, rfl⟩) (by intro W hK; with_reducible first | exact HPL.out W) ?_; simp only [Act.put, List.setIfInBounds_toArray, List.set_cons_succ, List.set_cons_zero]))
                show ∀ W, _ → wpList _ _ _ _ _ _
                intro W5 hK5
                have HRI5 := Lib.hid (HRI4.out.next hK5)
                clear hK5 hcc hqc hn0 hn1 HRI4
                go_wp2_with (first
                  | (refine wp_set_row rfl 87 (.tmp 12) (.tmp 72) rfl HRI5.out.now (enWd (D (i + 1))) rfl rfl infoD rfl on ?_
                     intro W6 hB6 hO6 hK6
                     have HN6 := Lib.hid hB6; have HL6 := Lib.hid (hO6 _ _ _ HRI5.out.low n12); have HH6 := Lib.hid (hO6 _ _ _ HRI5.out.high n13); have HS6 := Lib.hid (hO6 _ _ _ HRI5.out.span n01.symm); have HK6 := Lib.hid (hK6 _ _ HRI5.out.kp (.inr z0))
                     clear hB6 hO6 hK6)
                  | (refine wp_get_row rfl 87 (.tmp 12) rfl HN6.out _ rfl Try.underlying87 rfl infoD ?_)
                  | (refine wp_get_row rfl 87 (.tmp 13) rfl HL6.out _ rfl Try.underlying87 rfl infoD ?_))
                refine (HBL.out _).mono ?_
                rintro e w7 ⟨rfl, k7⟩
                have HN7 := Lib.hid (HN6.out.kp k7 id); have HL7 := Lib.hid (HL6.out.kp k7 id); have HH7 := Lib.hid (HH6.out.kp k7 id); have HS7 := Lib.hid (HS6.out.kp k7 id); have HK7 := Lib.hid (HK6.out.trans k7)
                clear k7 HN6 HL6 HH6 HS6 HK6 HRI5
                by_cases hlo : D (i + 1) < loD D a (i - a)
                · have hdl : decide (D (i + 1) < loD D a (i - a)) = true := decide_eq_true hlo
                  have hdh : decide (hiD D a (i - a) < D (i + 1)) = false := decide_eq_false (by omega)
                  have HEL : Hid (loD D a (i + 1 - a) = D (i + 1)) := by show _ = _; rw [HLS.out]; omega
                  have HEH : Hid (hiD D a (i + 1 - a) = hiD D a (i - a)) := by show _ = _; rw [HHS.out]; omega
                  clear hlo
                  go_wp2_with (first
                    | (refine wp_get_row rfl 87 (.tmp 12) rfl HN7.out _ rfl Try.underlying87 rfl infoD ?_)
                    | (refine wp_set_row rfl 87 (.tmp 13) (.tmp 76) rfl HL7.out (enWd (D (i + 1))) rfl rfl infoD rfl on ?_
                       intro W8 hB8 hO8 hK8
                       have HL8 := Lib.hid hB8; have HN8 := Lib.hid (hO8 _ _ _ HN7.out n12.symm); have HH8 := Lib.hid (hO8 _ _ _ HH7.out n23); have HS8 := Lib.hid (hO8 _ _ _ HS7.out n02.symm); have HK8 := Lib.hid (hK8 _ _ HK7.out (.inr z1))
                       clear hB8 hO8 hK8)
                    | (refine wp_get_row rfl 87 (.tmp 12) rfl HN8.out _ rfl Try.underlying87 rfl infoD ?_)
                    | (refine wp_get_row rfl 87 (.tmp 14) rfl HH8.out _ rfl Try.underlying87 rfl infoD ?_))
                  refine (HBH.out _).mono ?_
                  rintro e w9 ⟨rfl, k9⟩
                  have HF : Hid (GpI D a b (i + 1) wo w9 ps p0 p1 p2) := ⟨HS8.out.kp k9 id, HN8.out.kp k9 id, by rw [HEL.out]; exact HL8.out.kp k9 id, by rw [HEH.out]; exact HH8.out.kp k9 id, HK8.out.trans k9⟩
                  clear k9
                  go_wp2_with fail
                  go_roundw
                  case rel => exact ⟨i + 1, by go_num, by omega, by omega, HF.out⟩
                  case measure => simp [intOf]; omega
                · have hdl : decide (D (i + 1) < loD D a (i - a)) = false := decide_eq_false hlo
                  have HEL : Hid (loD D a (i + 1 - a) = loD D a (i - a)) := by show _ = _; rw [HLS.out]; omega
                  clear hlo
                  go_wp2_with (first
                    | (refine wp_get_row rfl 87 (.tmp 12) rfl HN7.out _ rfl Try.underlying87 rfl infoD ?_)
                    | (refine wp_get_row rfl 87 (.tmp 14) rfl HH7.out _ rfl Try.underlying87 rfl infoD ?_))
                  refine (HBH.out _).mono ?_
                  rintro e w9 ⟨rfl, k9⟩
                  have HN9 := Lib.hid (HN7.out.kp k9 id); have HL9 := Lib.hid (HL7.out.kp k9 id); have HH9 := Lib.hid (HH7.out.kp k9 id); have HS9 := Lib.hid (HS7.out.kp k9 id); have HK9 := Lib.hid (HK7.out.trans k9)
                  clear k9
                  by_cases hhi : hiD D a (i - a) < D (i + 1)
                  · have hdh : decide (hiD D a (i - a) < D (i + 1)) = true := decide_eq_true hhi
                    have HEH : Hid (hiD D a (i + 1 - a) = D (i + 1)) := by show _ = _; rw [HHS.out]; omega
                    clear hhi
                    go_wp2_with (first
                      | (refine wp_get_row rfl 87 (.tmp 12) rfl HN9.out _ rfl Try.underlying87 rfl infoD ?_)
                      | (refine wp_set_row rfl 87 (.tmp 14) (.tmp 80) rfl HH9.out (enWd (D (i + 1))) rfl rfl infoD rfl on ?_
                         intro W8 hB8 hO8 hK8
                         have HF : Hid (GpI D a b (i + 1) wo W8 ps p0 p1 p2) := ⟨hO8 _ _ _ HS9.out n03.symm, hO8 _ _ _ HN9.out n13.symm, by rw [HEL.out]; exact hO8 _ _ _ HL9.out n23.symm, by rw [HEH.out]; exact hB8, hK8 _ _ HK9.out (.inr z2)⟩
                         clear hB8 hO8 hK8))
                    go_roundw
                    case rel => exact ⟨i + 1, by go_num, by omega, by omega, HF.out⟩
                    case measure => simp [intOf]; omega
                  · have hdh : decide (hiD D a (i - a) < D (i + 1)) = false := decide_eq_false hhi
                    have HEH : Hid (hiD D a (i + 1 - a) = hiD D a (i - a)) := by show _ = _; rw [HHS.out]; omega
                    clear hhi
                    go_wp2_with fail
                    go_roundw
                    case rel => exact ⟨i + 1, by go_num, by omega, by omega, HS9.out, HN9.out, by rw [HEL.out]; exact HL9.out, by rw [HEH.out]; exact HH9.out, HK9.out⟩
                    case measure => simp [intOf]; omega
              · have HE := Lib.hid (HDN.out (.inr ⟨haf, hag⟩))
                have d6 : (at0 != (f : Int)) = true := by rw [bne_iff_ne]; exact haf
                have d7 : (at0 != (g : Int)) = true := by rw [bne_iff_ne]; exact hag
                clear hgo hgl HDN HDF HDG haf hag
                go_wp2_with (refine wp_get_row rfl 77 (.tmp 16) rfl HB3.out _ rfl Try.underlying77 rfl (infoQ q) ?_)
                refine (HGL.out _).mono ?_
                rintro e w4 ⟨rfl, k4⟩
                have HRI4 := Lib.hid ((HRI3.out.next k4).skip hi1 HE.out)
                clear k4
                go_wp2_with fail
                go_roundw
                case rel => exact ⟨i + 1, by go_num, by omega, by omega, HRI4.out⟩
                case measure => simp [intOf]; omega
        · have hie : i = b := by omega
          subst hie
          have hibi : ¬ ((i : Int) + 1) ≤ i := by omega
          have hlh := Int.le_trans (lo_in D a i hi1) (hi_in D a i hi1)
          have hb1 := lo_bd D a (i - a) HBD.out
          have hb2 := hi_bd D a (i - a) HBD.out
          obtain ⟨d, hd⟩ : ∃ d : Nat, hiD D a (i - a) - loD D a (i - a) = d := ⟨(hiD D a (i - a) - loD D a (i - a)).toNat, by omega⟩
          have HFR := Lib.hid (fun W => fFrom (hiD D a (i - a)) (loD D a (i - a)) d (by omega) hd W)
          have hc64 := capN_lt d
          have HE : Hid (gapF fl l f g (sp.take (s + 1)) = max m (capW d)) := by
            show _ = _
            rw [HG.out]; unfold spG; rw [hd, Int.toNat_natCast]; rfl
          have HRI := Lib.hid hri.out
          clear hri hb1 hb2 hlh hd
          go_wp2_with (first
            | (refine wp_get_row rfl 87 (.tmp 14) rfl HRI.out.high _ rfl Try.underlying87 rfl infoD ?_)
            | (refine wp_get_row rfl 87 (.tmp 13) rfl HRI.out.low _ rfl Try.underlying87 rfl infoD ?_))
          refine (HFR.out _).mono ?_
          rintro e w4 ⟨rfl, k4⟩
          have HK4 := Lib.hid (HK0.out.trans (HRI.out.kp.trans k4))
          clear k4
          have hcw : capW d < 18446744073709551616 := hc64
          obtain ⟨n, hn⟩ : ∃ n, capW d = n := ⟨_, rfl⟩
          rw [hn] at HE hcw ⊢
          clear hn hc64
          go_wp2_with fail
          go_roundw
          case rel => exact ⟨s + 1, max m n, by go_num, by go_num, by omega, by omega, HE.out.symm, HK4.out⟩
          case measure => simp [intOf]; omega
    · have hss : s = sp.length := by omega
      have HE : Hid (m = gapF fl l f g sp) := by
        have := hr.out.1
        rwa [List.take_of_length_le (by omega)] at this
      have HKZ := Lib.hid (HK1.out.trans hr.out.2)
      clear hr
      go_wp2
      go_ret
      exact ⟨by rw [HE.out]; rfl, HKZ.out⟩
set_option maxRecDepth 100000 in
set_option maxHeartbeats 4000000 in
theorem fGapOut (fl : List FlR) (l : List RpR) (hq : ∀ q ∈ l, q.ok) (hfn : fl.length ≤ 1000) (hln : l.length ≤ 1000) (f g : Int) (hout : outB fl f g = true) (u v : Value) (w : World) (h1 : Sl w u fl.length 5 (fl.flatMap enFl)) (h2 : Sl w v l.length 42 (l.flatMap enQ)) :
    Calls Try.prog 14 #[u, v, .int .i64 f, .int .i64 g] w fun e w' => e = .returned (.int .u64 (gapF fl l f g (spans fl l f g))) ∧ Kp none' w w' := by
  have hsp := fSpans fl l hq hfn hln f g _ _ w h1 h2
  rw [spans_out fl l f g hout] at hsp ⊢
  have HSP := Lib.hid hsp
  have HG : Hid (gapF fl l f g [] = 0) := rfl
  clear h1 h2 hsp
  go_enter Try.func14, Try.ntmps14
  go_wp2_with fail
  refine HSP.out.mono ?_
  rintro e w1 ⟨r, rfl, ho, k1⟩
  obtain ⟨ro, rcap, rfl⟩ := own_shape ho
  have HK1 := Lib.hid k1
  clear ho k1 HSP
  rw [List.length_nil]
  go_wp2_with fail
  refine wp_loop_rounds 1 ?_
  rw [rounds_succ]
  go_wp2
  go_ret
  exact ⟨by rw [HG.out]; rfl, HK1.out⟩
theorem fGap (fl : List FlR) (l : List RpR) (hfl : ∀ x ∈ fl, x.ok) (hq : ∀ q ∈ l, q.ok) (hfn : fl.length ≤ 1000) (hln : l.length ≤ 1000) (f g : Int) (u v : Value) (w : World) (h1 : Sl w u fl.length 5 (fl.flatMap enFl)) (h2 : Sl w v l.length 42 (l.flatMap enQ)) :
    Calls Try.prog 14 #[u, v, .int .i64 f, .int .i64 g] w fun e w' => e = .returned (.int .u64 (gapF fl l f g (spans fl l f g))) ∧ Kp none' w w' := by
  cases ho : outB fl f g with
  | true => exact fGapOut fl l hq hfn hln f g ho u v w h1 h2
  | false =>
    unfold outB at ho
    simp only [Bool.or_eq_false_iff, decide_eq_false_iff_not] at ho
    obtain ⟨a, rfl⟩ : ∃ a : Nat, f = a := ⟨f.toNat, by omega⟩
    obtain ⟨b, rfl⟩ : ∃ a : Nat, g = a := ⟨g.toNat, by omega⟩
    exact fGapIn fl l hfl hq hfn hln a b (by omega) (by omega) (by omega) u v w h1 h2
end Go.Proofs.Ythjapdjglifopaa
