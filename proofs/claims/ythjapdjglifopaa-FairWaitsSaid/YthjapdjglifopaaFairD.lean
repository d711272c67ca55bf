/- Walks of layer 27, the document's: the gap of two flows. -/
import Derived.Test.YthjapdjglifopaaFairC
import Derived.Test.YthjapdjglifopaaFairN
import Derived.Test.YthjapdjglifopaaRowSet
namespace Go.Proofs.Ythjapdjglifopaa
set_option linter.unusedVariables false
set_option linter.unusedSimpArgs false
open Go.RowKit Go.Shelf

theorem spans_in (fl : List FlR) (l : List RpR) (f g : Int) : ∀ s ∈ spans fl l f g, s.1 ≤ s.2 ∧ s.2 < l.length := fun s hs => by
  have := spR_in (bitsF fl l f g) false 0 s hs
  rw [bitsF_len] at this
  omega
theorem spans_len (fl : List FlR) (l : List RpR) (f g : Int) : (spans fl l f g).length ≤ l.length := by
  have := spF_len (bitsF fl l f g) [] false 0
  rw [spF_eq, bitsF_len] at this
  show (spR false 0 (bitsF fl l f g)).length ≤ l.length
  simpa using this

set_option maxRecDepth 100000 in
set_option maxHeartbeats 4000000 in
theorem rGapIn (fl : List FlR) (l : List RpR) (hfl : ∀ x ∈ fl, x.ok) (hq : ∀ q ∈ l, q.ok) (hfn : fl.length ≤ 1000) (hln : l.length ≤ 1000) (f g : Nat) (hf : f < fl.length) (hg : g < fl.length) (u v : Value) (w : World) (h1 : Sl w u fl.length 5 (fl.flatMap enFl)) (h2 : Sl w v l.length 42 (l.flatMap enQ)) :
    Calls Try.prog 15 #[u, v, .int .i64 f, .int .i64 g] w fun e w' => e = .returned (.int .u64 (gapF fl l f g (spans fl l f g))) ∧ Kp none' w w' := by
  obtain ⟨ao, acap, rfl⟩ : ∃ ao cap, u = .slice ao fl.length cap := by obtain ⟨ao, cap, rfl, _⟩ := h1.is; exact ⟨_, _, rfl⟩
  obtain ⟨bo, bcap, rfl⟩ : ∃ ao cap, v = .slice ao l.length cap := by obtain ⟨ao, cap, rfl, _⟩ := h2.is; exact ⟨_, _, rfl⟩
  have HX := Lib.hid h1; have HQ := Lib.hid h2
  have HSP := Lib.hid (rSpans fl l hq hfn hln f g _ _ w h1 h2)
  have HIN := Lib.hid (spans_in fl l f g)
  have hsl := spans_len fl l f g
  have HCF := Lib.hid (fun a k hak hk W h h' => rCost fl l hfl hq hfn hln f hf a k hak hk (.slice ao fl.length acap) (.slice bo l.length bcap) W h h')
  have HCG := Lib.hid (fun a k hak hk W h h' => rCost fl l hfl hq hfn hln g hg a k hak hk (.slice ao fl.length acap) (.slice bo l.length bcap) W h h')
  rw [← cst_at fl f hf] at HCF
  rw [← cst_at fl g hg] at HCG
  have HBF := Lib.hid (fun a k => cost_bound fl hfl l hln f a k)
  have HBG := Lib.hid (fun a k => cost_bound fl hfl l hln g a k)
  generalize spans fl l f g = sp at *
  clear h1 h2
  go_enter Try.func15, Try.ntmps15
  go_wp2_with fail
  refine HSP.out.mono ?_
  rintro e w1 ⟨r, rfl, ho, k1⟩
  obtain ⟨ro, rcap, rfl⟩ := own_shape ho
  have HO := Lib.hid ho; have HK1 := Lib.hid k1
  clear ho k1 HSP
  go_wp2_with fail
  go_loopw [9, 11] (fun m0 s0 wr => ∃ s m : Nat, m0 = .int .u64 m ∧ s0 = .int .i64 s ∧ s ≤ sp.length ∧ m < 18446744073709551616 ∧ Hid (m = gapF fl l f g (sp.take s) ∧ Kp none' w1 wr)) (fun _ s0 _ => sp.length - (intOf s0).toNat)
  case atStart => exact ⟨0, 0, rfl, rfl, by omega, by omega, rfl, Kp.refl _ _⟩
  case round =>
    obtain ⟨s, m, rfl, rfl, hs, hm, hr⟩ := hrel
    by_cases hlt : s < sp.length
    · have hsi : (s : Int) < sp.length := by omega
      obtain ⟨gg, gc, e1, hgg⟩ := own_shape1 HO.out (by omega)
      injection e1 with e1 _ e3
      subst e1 e3
      have hsin := HIN.out sp[s] (List.getElem_mem hlt)
      have HT : Hid (gapF fl l f g (sp.take (s + 1)) = gapS fl l f g m sp[s]) := by show _ = _; rw [List.take_succ_eq_append_getElem hlt, gapF_snoc, hr.out.1]
      have d0 := own_cell (own_kp (S := none') HO.out hr.out.2 (fun _ _ h => h)) (s * 2 + 0) (by rw [flat_get enSp 2 enSp_len sp s 0 (by omega), List.getElem?_eq_getElem hlt]; rfl)
      have d1 := own_cell (own_kp (S := none') HO.out hr.out.2 (fun _ _ h => h)) (s * 2 + 1) (by rw [flat_get enSp 2 enSp_len sp s 1 (by omega), List.getElem?_eq_getElem hlt]; rfl)
      obtain ⟨⟨a, b⟩, hab⟩ : ∃ x, sp[s] = x := ⟨_, rfl⟩
      rw [hab] at d0 d1 hsin HT
      obtain ⟨hab1, hb⟩ := hsin
      simp only [Nat.add_zero] at d0 d1 hab1 hb
      have HKR := Lib.hid (HK1.out.trans hr.out.2)
      have HK0 := Lib.hid hr.out.2
      have HD1 := Lib.hid d1
      obtain ⟨D, hD⟩ : ∃ D, difD fl l f g a = D := ⟨_, rfl⟩
      have HG : Hid (gapF fl l f g (sp.take (s + 1)) = max m (spG D a b)) := by show _ = _; rw [HT.out, ← hD]; rfl
      have HDC : Hid (∀ i k, a ≤ i → i ≤ k → (costF fl f (cst fl f) (seg l (i + 1) (k + 1)) : Int) - (costF fl g (cst fl g) (seg l (i + 1) (k + 1)) : Int) = D k - D i) := fun i k h1 h2 => by
        have := difD_cost fl l f g a i k h1 h2
        rwa [hD] at this
      clear hab hD hr HT
      obtain ⟨wo, hwo⟩ : ∃ wo : World, wo = wr := ⟨_, rfl⟩
      subst hwo
      go_wp2_with fail
      go_loopw [9, 12] (fun m0 i0 wi => ∃ i m2 : Nat, m0 = .int .u64 m2 ∧ i0 = .int .i64 i ∧ a ≤ i ∧ i ≤ b + 1 ∧ m2 < 18446744073709551616 ∧ Hid (m2 = max m (allM D a b (i - a)) ∧ Kp none' wo wi)) (fun _ i0 _ => b + 1 - (intOf i0).toNat)
      case atStart => exact ⟨a, m, rfl, rfl, by omega, by omega, hm, by rw [Nat.sub_self]; simp [allM], Kp.refl _ _⟩
      case round =>
        obtain ⟨i, m2, rfl, rfl, hi1, hi2, hm2, hri⟩ := hrel
        have dd1 := hri.out.2.cell HD1.out id
        by_cases hib : i ≤ b
        · have hibi : (i : Int) ≤ b := by omega
          have HM2 := Lib.hid hri.out.1
          have HKI := Lib.hid hri.out.2
          clear hri
          go_wp2_with fail
          go_loopw [9, 13] (fun m0 k0 wj => ∃ k m3 : Nat, m0 = .int .u64 m3 ∧ k0 = .int .i64 k ∧ i ≤ k ∧ k ≤ b + 1 ∧ m3 < 18446744073709551616 ∧ Hid (m3 = max m2 (rowM D i (k - i)) ∧ Kp none' wo wj)) (fun _ k0 _ => b + 1 - (intOf k0).toNat)
          case atStart => exact ⟨i, m2, rfl, rfl, by omega, by omega, hm2, by rw [Nat.sub_self]; simp [rowM], HKI.out⟩
          case round =>
            obtain ⟨k, m3, rfl, rfl, hk1, hk2, hm3, hrk⟩ := hrel
            have dk1 := hrk.out.2.cell HD1.out id
            by_cases hkb : k ≤ b
            · have hkbi : (k : Int) ≤ b := by omega
              have HM3 := Lib.hid hrk.out.1
              have HKJ := Lib.hid (HKR.out.trans hrk.out.2)
              have HKJ0 := Lib.hid hrk.out.2
              have hdc := HDC.out i k hi1 hk1
              have ba := HBF.out (i + 1) (k + 1)
              have bb := HBG.out (i + 1) (k + 1)
              have HCA := Lib.hid (fun W h h' => HCF.out i k hk1 (by omega) W h h')
              have HCB := Lib.hid (fun W h h' => HCG.out i k hk1 (by omega) W h h')
              generalize costF fl f (cst fl f) (seg l (i + 1) (k + 1)) = A at *
              generalize costF fl g (cst fl g) (seg l (i + 1) (k + 1)) = B at *
              have HL := Lib.hid (fun W => rLessN A B (by omega) (by omega) W)
              obtain ⟨n, hn⟩ : ∃ n, vD D i k = n := ⟨_, rfl⟩
              have hn64 : n < 18446744073709551616 := by rw [← hn]; exact capN_lt _
              have HNX : Hid (max m2 (rowM D i (k + 1 - i)) = max m3 n) := by
                show _ = _
                rw [show k + 1 - i = (k - i) + 1 by omega, rowM, show i + (k - i) = k by omega, hn, HM3.out, Nat.max_assoc]
              have HV1 : Hid (¬ A < B → capN (A - B) = n) := fun h => by rw [← hn]; unfold vD; congr 1; omega
              have HV2 : Hid (A < B → capN (B - A) = n) := fun h => by rw [← hn]; unfold vD; congr 1; omega
              clear hdc hn hrk dd1
              go_wp2_with fail
              refine (HCA.out _ (HX.out.old HKJ.out) (HQ.out.old HKJ.out)).mono ?_
              rintro e w4 ⟨rfl, k4⟩
              have HK4 := Lib.hid (HKJ.out.trans k4)
              have HK40 := Lib.hid (HKJ0.out.trans k4)
              clear k4
              go_wp2_with fail
              refine (HCB.out _ (HX.out.old HK4.out) (HQ.out.old HK4.out)).mono ?_
              rintro e w5 ⟨rfl, k5⟩
              have HK50 := Lib.hid (HK40.out.trans k5)
              have hz5 := HK50.out.size
              clear k5 HCA HCB
              have h14 : Blk ((w5.alloc (.cells (wq 0 0 0 0).toArray 93)).alloc (.cells (wq 0 0 0 0).toArray 93)) w5.heap.size (wq 0 0 0 0) 93 := (Blk.new w5 _ _).alloc _
              have h15 : Blk ((w5.alloc (.cells (wq 0 0 0 0).toArray 93)).alloc (.cells (wq 0 0 0 0).toArray 93)) (w5.heap.size + 1) (wq 0 0 0 0) 93 := by
                have := Blk.new (w5.alloc (.cells (wq 0 0 0 0).toArray 93)) (wq 0 0 0 0) 93
                rwa [World.size_alloc] at this
              have H14 := Lib.hid h14; have H15 := Lib.hid h15
              have HKA := Lib.hid ((HK50.out.alloc (.cells (wq 0 0 0 0).toArray 93)).alloc (.cells (wq 0 0 0 0).toArray 93))
              have hpne : w5.heap.size + 1 ≠ w5.heap.size := by omega
              have hz6 : wo.heap.size ≤ w5.heap.size + 1 := by omega
              have oa := wN_one A
              have ob := wN_one B
              clear h14 h15
              go_wp2_with (first
                | (refine wp_set_row rfl 93 (.tmp 14) (.tmp 57) rfl H14.out (wN A) rfl rfl infoW rfl oa ?_
                   intro W6 hB6 hO6 hK6
                   have I14 := Lib.hid hB6; have I15 := Lib.hid (hO6 _ _ _ H15.out hpne); have HK6 := Lib.hid (hK6 _ _ HKA.out (.inr hz5))
                   clear hB6 hO6 hK6)
                | (refine wp_set_row rfl 93 (.tmp 15) (.tmp 63) rfl I15.out (wN B) rfl rfl infoW rfl ob ?_
                   intro W7 hB7 hO7 hK7
                   have L15 := Lib.hid hB7; have L14 := Lib.hid (hO7 _ _ _ I14.out hpne.symm); have HK7 := Lib.hid (hK7 _ _ HK6.out (.inr hz6))
                   clear hB7 hO7 hK7)
                | (refine wp_get_row rfl 93 (.tmp 14) rfl L14.out _ rfl Try.underlying93 rfl infoW ?_)
                | (refine wp_get_row rfl 93 (.tmp 15) rfl L15.out _ rfl Try.underlying93 rfl infoW ?_))
              refine (HL.out _).mono ?_
              rintro e w8 ⟨rfl, k8⟩
              have M14 := Lib.hid (L14.out.kp k8 id)
              have M15 := Lib.hid (L15.out.kp k8 id)
              have HK8 := Lib.hid (HK7.out.trans k8)
              clear k8 H14 H15 L14 L15 HK7 HK50 I14 I15 HK6 HKA
              obtain ⟨p, hp⟩ : ∃ p, w5.heap.size = p := ⟨_, rfl⟩
              rw [hp] at M14 M15 hz5 hz6 hpne ⊢
              clear hp
              by_cases hl : A < B
              · have HN := Lib.hid (HV2.out hl)
                have hdl : decide (A < B) = true := decide_eq_true hl
                have HMI := Lib.hid (fun W => rMinusN B A (by omega) (by omega) W)
                have HCP := Lib.hid (fun W => rCapN (B - A) (by omega) W)
                clear hl HV1 HV2
                go_wp2_with (first
                  | (refine wp_get_row rfl 93 (.tmp 15) rfl M15.out _ rfl Try.underlying93 rfl infoW ?_)
                  | (refine wp_get_row rfl 93 (.tmp 14) rfl M14.out _ rfl Try.underlying93 rfl infoW ?_)
                  | (refine wp_set_row rfl 93 (.tmp 14) (.tmp 67) rfl M14.out (wN B) rfl rfl infoW rfl ob ?_
                     intro W9 hB9 hO9 hK9
                     have N14 := Lib.hid hB9; have N15 := Lib.hid (hO9 _ _ _ M15.out hpne); have HK9 := Lib.hid (hK9 _ _ HK8.out (.inr hz5))
                     clear hB9 hO9 hK9)
                  | (refine wp_set_row rfl 93 (.tmp 15) (.tmp 68) rfl N15.out (wN A) rfl rfl infoW rfl oa ?_
                     intro W10 hB10 hO10 hK10
                     have P15 := Lib.hid hB10; have P14 := Lib.hid (hO10 _ _ _ N14.out hpne.symm); have HK10 := Lib.hid (hK10 _ _ HK9.out (.inr hz6))
                     clear hB10 hO10 hK10)
                  | (refine wp_get_row rfl 93 (.tmp 14) rfl P14.out _ rfl Try.underlying93 rfl infoW ?_)
                  | (refine wp_get_row rfl 93 (.tmp 15) rfl P15.out _ rfl Try.underlying93 rfl infoW ?_))
                refine (HMI.out _).mono ?_
                rintro e w11 ⟨rfl, k11⟩
                have HK11 := Lib.hid (HK10.out.trans k11)
                clear k11 N14 N15 P14 P15
                go_wp2_with fail
                refine (HCP.out _).mono ?_
                rintro e w12 ⟨rfl, k12⟩
                rw [HN.out]
                have HK12 := Lib.hid (HK11.out.trans k12)
                clear k12
                by_cases hgt : m3 < n
                · have HEX : Hid (n = max m2 (rowM D i (k + 1 - i))) := by show _ = _; rw [HNX.out]; omega
                  have hgi : (m3 : Int) < n := by omega
                  clear hgt
                  go_wp2_with fail
                  go_roundw
                  case rel => exact ⟨k + 1, n, rfl, by go_num, by omega, by omega, hn64, HEX.out, HK12.out⟩
                  case measure => simp [intOf]; omega
                · have HEX : Hid (m3 = max m2 (rowM D i (k + 1 - i))) := by show _ = _; rw [HNX.out]; omega
                  have hgi : ¬ (m3 : Int) < n := by omega
                  clear hgt
                  go_wp2_with fail
                  go_roundw
                  case rel => exact ⟨k + 1, m3, rfl, by go_num, by omega, by omega, hm3, HEX.out, HK12.out⟩
                  case measure => simp [intOf]; omega
              · have HN := Lib.hid (HV1.out hl)
                have hdl : decide (A < B) = false := decide_eq_false hl
                have HMI := Lib.hid (fun W => rMinusN A B (by omega) (by omega) W)
                have HCP := Lib.hid (fun W => rCapN (A - B) (by omega) W)
                clear hl HV1 HV2
                go_wp2_with (first
                  | (refine wp_get_row rfl 93 (.tmp 14) rfl M14.out _ rfl Try.underlying93 rfl infoW ?_)
                  | (refine wp_get_row rfl 93 (.tmp 15) rfl M15.out _ rfl Try.underlying93 rfl infoW ?_))
                refine (HMI.out _).mono ?_
                rintro e w11 ⟨rfl, k11⟩
                have HK11 := Lib.hid (HK8.out.trans k11)
                clear k11
                go_wp2_with fail
                refine (HCP.out _).mono ?_
                rintro e w12 ⟨rfl, k12⟩
                rw [HN.out]
                have HK12 := Lib.hid (HK11.out.trans k12)
                clear k12
                by_cases hgt : m3 < n
                · have HEX : Hid (n = max m2 (rowM D i (k + 1 - i))) := by show _ = _; rw [HNX.out]; omega
                  have hgi : (m3 : Int) < n := by omega
                  clear hgt
                  go_wp2_with fail
                  go_roundw
                  case rel => exact ⟨k + 1, n, rfl, by go_num, by omega, by omega, hn64, HEX.out, HK12.out⟩
                  case measure => simp [intOf]; omega
                · have HEX : Hid (m3 = max m2 (rowM D i (k + 1 - i))) := by show _ = _; rw [HNX.out]; omega
                  have hgi : ¬ (m3 : Int) < n := by omega
                  clear hgt
                  go_wp2_with fail
                  go_roundw
                  case rel => exact ⟨k + 1, m3, rfl, by go_num, by omega, by omega, hm3, HEX.out, HK12.out⟩
                  case measure => simp [intOf]; omega
            · have hkk : k = b + 1 := by omega
              subst hkk
              have hkbi : ¬ ((b + 1 : Nat) : Int) ≤ b := by omega
              have HE : Hid (m3 = max m (allM D a b (i + 1 - a))) := by
                show _ = _
                rw [hrk.out.1, HM2.out, show i + 1 - a = (i - a) + 1 by omega, allM, show a + (i - a) = i by omega, Nat.max_assoc]
              have HK3 := Lib.hid hrk.out.2
              clear hrk
              go_wp2_with fail
              go_roundw
              case rel => exact ⟨i + 1, m3, rfl, by go_num, by omega, by omega, hm3, HE.out, HK3.out⟩
              case measure => simp [intOf]; omega
        · have hii : i = b + 1 := by omega
          subst hii
          have hibi : ¬ ((b + 1 : Nat) : Int) ≤ b := by omega
          have HE : Hid (m2 = gapF fl l f g (sp.take (s + 1))) := by
            show _ = _
            rw [HG.out, hri.out.1, allM_eq D a b hab1]
          have HK3 := Lib.hid ((hri.out.2))
          have HKZ := Lib.hid HK0.out
          clear hri
          go_wp2_with fail
          go_roundw
          case rel => exact ⟨s + 1, m2, rfl, by go_num, by omega, hm2, HE.out, HKZ.out.trans HK3.out⟩
          case measure => simp [intOf]; omega
    · have hss : s = sp.length := by omega
      have HE : Hid (m = gapF fl l f g sp) := by
        have := hr.out.1
        rwa [List.take_of_length_le (by omega)] at this
      have HKZ := Lib.hid (HK1.out.trans hr.out.2)
      clear hr
      go_wp2
      go_ret
      exact ⟨by rw [HE.out]; rfl, HKZ.out⟩
set_option maxRecDepth 100000 in
set_option maxHeartbeats 4000000 in
theorem rGapOut (fl : List FlR) (l : List RpR) (hq : ∀ q ∈ l, q.ok) (hfn : fl.length ≤ 1000) (hln : l.length ≤ 1000) (f g : Int) (hout : outB fl f g = true) (u v : Value) (w : World) (h1 : Sl w u fl.length 5 (fl.flatMap enFl)) (h2 : Sl w v l.length 42 (l.flatMap enQ)) :
    Calls Try.prog 15 #[u, v, .int .i64 f, .int .i64 g] w fun e w' => e = .returned (.int .u64 (gapF fl l f g (spans fl l f g))) ∧ Kp none' w w' := by
  have hsp := rSpans fl l hq hfn hln f g _ _ w h1 h2
  rw [spans_out fl l f g hout] at hsp ⊢
  have HSP := Lib.hid hsp
  have HG : Hid (gapF fl l f g [] = 0) := rfl
  clear h1 h2 hsp
  go_enter Try.func15, Try.ntmps15
  go_wp2_with fail
  refine HSP.out.mono ?_
  rintro e w1 ⟨r, rfl, ho, k1⟩
  obtain ⟨ro, rcap, rfl⟩ := own_shape ho
  have HK1 := Lib.hid k1
  clear ho k1 HSP
  rw [List.length_nil]
  go_wp2_with fail
  refine wp_loop_rounds 1 ?_
  rw [rounds_succ]
  go_wp2
  go_ret
  exact ⟨by rw [HG.out]; rfl, HK1.out⟩
theorem rGap (fl : List FlR) (l : List RpR) (hfl : ∀ x ∈ fl, x.ok) (hq : ∀ q ∈ l, q.ok) (hfn : fl.length ≤ 1000) (hln : l.length ≤ 1000) (f g : Int) (u v : Value) (w : World) (h1 : Sl w u fl.length 5 (fl.flatMap enFl)) (h2 : Sl w v l.length 42 (l.flatMap enQ)) :
    Calls Try.prog 15 #[u, v, .int .i64 f, .int .i64 g] w fun e w' => e = .returned (.int .u64 (gapF fl l f g (spans fl l f g))) ∧ Kp none' w w' := by
  cases ho : outB fl f g with
  | true => exact rGapOut fl l hq hfn hln f g ho u v w h1 h2
  | false =>
    unfold outB at ho
    simp only [Bool.or_eq_false_iff, decide_eq_false_iff_not] at ho
    obtain ⟨a, rfl⟩ : ∃ a : Nat, f = a := ⟨f.toNat, by omega⟩
    obtain ⟨b, rfl⟩ : ∃ a : Nat, g = a := ⟨g.toNat, by omega⟩
    exact rGapIn fl l hfl hq hfn hln a b (by omega) (by omega) u v w h1 h2
end Go.Proofs.Ythjapdjglifopaa
