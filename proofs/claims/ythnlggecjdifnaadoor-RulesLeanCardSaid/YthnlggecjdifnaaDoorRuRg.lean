/- The document's rules: whether they may be; which are dead. -/
import Derived.Test.YthnlggecjdifnaaDoorRuRf
import Derived.Test.YthnlggecjdifnaaDoorRuDe
import Derived.Test.YthnlggecjdifnaaDoorRuK
namespace Go.Proofs.YthnlggecjdifnaaDoor
set_option linter.unusedVariables false
set_option linter.unusedSimpArgs false
open Go.RowKit

set_option maxRecDepth 100000 in
set_option maxHeartbeats 8000000 in
theorem rCheck34 (l : List RuN) (hok : ∀ r ∈ l, r.Ok) (v : Value) (w : World) (h : Sl w v l.length 7 (l.flatMap enR7)) :
    Calls Tryd.prog 10 #[v] w fun e w' => e = .returned (.int .i64 (chkN l : Nat)) ∧ Kp none' w w' := by
  have hmax := h.max
  obtain ⟨ao, cap, rfl⟩ : ∃ ao cap, v = .slice ao l.length cap := by obtain ⟨ao, cap, rfl, _⟩ := h.is; exact ⟨_, _, rfl⟩
  have HS := Lib.hid h
  have HO := Lib.hid hok
  clear h hok
  by_cases hbig : 64 < l.length
  · have hc : chkN l = 20 := by unfold chkN; rw [if_pos hbig]
    obtain ⟨c, hcc⟩ : ∃ c, chkN l = c := ⟨_, rfl⟩
    rw [hcc] at hc ⊢
    subst hc
    have hbi : (64 : Int) < l.length := by omega
    clear hcc
    go_enter Tryd.func10, Tryd.ntmps10
    go_wp2
    go_ret
    exact ⟨rfl, Kp.refl _ _⟩
  · have hbi : ¬ (64 : Int) < l.length := by omega
    obtain ⟨c, hcc⟩ : ∃ c, chkN l = c := ⟨_, rfl⟩
    rw [hcc]
    have HC := Lib.hid hcc
    clear hcc
    go_enter Tryd.func10, Tryd.ntmps10
    go_wp2_with fail
    go_loopw [3] (fun i wr => ∃ j : Nat, i = .int .i64 j ∧ j ≤ l.length ∧ Hid ((∀ r ∈ l.take j, badR r = false) ∧ Kp none' w wr)) (fun i _ => l.length - (intOf i).toNat)
    case atStart => exact ⟨0, rfl, Nat.zero_le _, by simp, Kp.refl _ _⟩
    case round =>
      obtain ⟨j, rfl, hj, HI⟩ := hrel
      by_cases hlt : j < l.length
      · obtain ⟨g, off, cap', e1, hc⟩ := (HS.out.old HI.out.2).at enR7_len (by decide) j hlt
        injection e1 with e1 _ e3
        subst e1 e3
        have hji : (j : Int) < l.length := by omega
        have hbad := bad_at hlt (by omega)
        have hgood := fun h => good_snoc hlt h HI.out.1
        obtain ⟨r, hrr⟩ : ∃ r, l[j] = r := ⟨_, rfl⟩
        have hro := HO.out r (by rw [← hrr]; exact List.getElem_mem hlt)
        rw [hrr] at hc hbad hgood
        have HBAD := Lib.hid hbad; have HGOOD := Lib.hid hgood
        have c0 : wr.cell? ⟨g, off + j * 7, none⟩ = some (.int .u32 r.s.1) := hc 0 _ rfl
        have c1 := hc 1 _ rfl
        have c2 := hc 2 _ rfl
        have c3 := hc 3 _ rfl
        have c4 := hc 4 _ rfl
        have c5 := hc 5 _ rfl
        have HRs := Lib.hid (fun W => rRight r.s.1 r.s.2 W hro.s.1 hro.s.2)
        have HRd := Lib.hid (fun W => rRight r.d.1 r.d.2 W hro.d.1 hro.d.2)
        clear hc hrr hbad hgood hro
        cases hs : rightB r.s.1 r.s.2 with
        | false =>
          have hb : badR r = true := by unfold badR; rw [hs]; rfl
          have HE := Lib.hid (HC.out.symm.trans (HBAD.out hb))
          rw [hs] at HRs
          clear hb hs
          go_wp2_with fail
          refine wp_region_kept2 [] [0, 1, 2, 3, 4, 5, 6, 7, 8, 9, 10, 11, 12, 13, 14, 15, 16, 17, 18, 19, 20, 21, 22, 23, 24, 25, 26, 27] 28 (by kernel_rfl) (by kernel_rfl) (fun c a d u w h => by cases d <;> exact h) ?_
          simp only [pick, List.getElem?_cons_succ, List.getElem?_cons_zero, List.drop_succ_cons, List.drop_zero]
          show wpKL _ _ _ _ _ _
          repeat (first
            | (refine wpKL_op (by exact rfl) (by as_aux_lemma => intro W hK; have e0 := hK.cell c0 (fun x => x); have e1 := hK.cell c1 (fun x => x); have e2 := hK.cell c2 (fun x => x); have e3 := hK.cell c3 (fun x => x); have e4 := hK.cell c4 (fun x => x); have e5 := hK.cell c5 (fun x => x); go_simp; exact rfl) ?_; simp only [Act.put, List.setIfInBounds_toArray, List.set_cons_succ, List.set_cons_zero])
            | (refine wpKL_off (by exact rfl) ?_; simp only [Act.put, List.setIfInBounds_toArray, List.set_cons_succ, List.set_cons_zero])
            | (refine wpKL_call (by exact rfl) (by as_aux_lemma => intro W; go_simp; exact ⟨rfl, rfl⟩) (by intro W hK; with_reducible first | exact HRs.out W | exact HRd.out W) ?_; simp only [Act.put, List.setIfInBounds_toArray, List.set_cons_succ, List.set_cons_zero]))
          show ∀ W, _ → wpList _ _ _ _ _ _
          intro W5 hK5
          have HK5 := Lib.hid (HI.out.2.trans hK5)
          clear hK5 c0 c1 c2 c3 c4 c5
          go_wp2_with fail
          go_ret
          exact ⟨by rw [HE.out]; rfl, HK5.out⟩
        | true =>
          rw [hs] at HRs
          cases hd : rightB r.d.1 r.d.2 with
          | false =>
            have hb : badR r = true := by unfold badR; rw [hs, hd]; rfl
            have HE := Lib.hid (HC.out.symm.trans (HBAD.out hb))
            rw [hd] at HRd
            clear hb hs hd
            go_wp2_with fail
            refine wp_region_kept2 [] [0, 1, 2, 3, 4, 5, 6, 7, 8, 9, 10, 11, 12, 13, 14, 15, 16, 17, 18, 19, 20, 21, 22, 23, 24, 25, 26, 27] 28 (by kernel_rfl) (by kernel_rfl) (fun c a d u w h => by cases d <;> exact h) ?_
            simp only [pick, List.getElem?_cons_succ, List.getElem?_cons_zero, List.drop_succ_cons, List.drop_zero]
            show wpKL _ _ _ _ _ _
            repeat (first
              | (refine wpKL_op (by exact rfl) (by as_aux_lemma => intro W hK; have e0 := hK.cell c0 (fun x => x); have e1 := hK.cell c1 (fun x => x); have e2 := hK.cell c2 (fun x => x); have e3 := hK.cell c3 (fun x => x); have e4 := hK.cell c4 (fun x => x); have e5 := hK.cell c5 (fun x => x); go_simp; exact rfl) ?_; simp only [Act.put, List.setIfInBounds_toArray, List.set_cons_succ, List.set_cons_zero])
              | (refine wpKL_off (by exact rfl) ?_; simp only [Act.put, List.setIfInBounds_toArray, List.set_cons_succ, List.set_cons_zero])
              | (refine wpKL_call (by exact rfl) (by as_aux_lemma => intro W; go_simp; exact ⟨rfl, rfl⟩) (by intro W hK; with_reducible first | exact HRs.out W | exact HRd.out W) ?_; simp only [Act.put, List.setIfInBounds_toArray, List.set_cons_succ, List.set_cons_zero]))
            show ∀ W, _ → wpList _ _ _ _ _ _
            intro W5 hK5
            have HK5 := Lib.hid (HI.out.2.trans hK5)
            clear hK5 c0 c1 c2 c3 c4 c5
            go_wp2_with fail
            go_ret
            exact ⟨by rw [HE.out]; rfl, HK5.out⟩
          | true =>
            rw [hd] at HRd
            by_cases hlh : r.lo ≤ r.hi
            · have hb : badR r = false := bad_false.2 ⟨hs, hd, hlh⟩
              have HG := Lib.hid (HGOOD.out hb)
              have hlh2 : ¬ r.hi < r.lo := by omega
              clear hb hs hd
              go_wp2_with fail
              refine wp_region_kept2 [] [0, 1, 2, 3, 4, 5, 6, 7, 8, 9, 10, 11, 12, 13, 14, 15, 16, 17, 18, 19, 20, 21, 22, 23, 24, 25, 26, 27] 28 (by kernel_rfl) (by kernel_rfl) (fun c a d u w h => by cases d <;> exact h) ?_
              simp only [pick, List.getElem?_cons_succ, List.getElem?_cons_zero, List.drop_succ_cons, List.drop_zero]
              show wpKL _ _ _ _ _ _
              repeat (first
                | (refine wpKL_op (by exact rfl) (by as_aux_lemma => intro W hK; have e0 := hK.cell c0 (fun x => x); have e1 := hK.cell c1 (fun x => x); have e2 := hK.cell c2 (fun x => x); have e3 := hK.cell c3 (fun x => x); have e4 := hK.cell c4 (fun x => x); have e5 := hK.cell c5 (fun x => x); go_simp; exact rfl) ?_; simp only [Act.put, List.setIfInBounds_toArray, List.set_cons_succ, List.set_cons_zero])
                | (refine wpKL_off (by exact rfl) ?_; simp only [Act.put, List.setIfInBounds_toArray, List.set_cons_succ, List.set_cons_zero])
                | (refine wpKL_call (by exact rfl) (by as_aux_lemma => intro W; go_simp; exact ⟨rfl, rfl⟩) (by intro W hK; with_reducible first | exact HRs.out W | exact HRd.out W) ?_; simp only [Act.put, List.setIfInBounds_toArray, List.set_cons_succ, List.set_cons_zero]))
              show ∀ W, _ → wpList _ _ _ _ _ _
              intro W5 hK5
              have HK5 := Lib.hid (HI.out.2.trans hK5)
              clear hK5 c0 c1 c2 c3 c4 c5
              go_wp2_with fail
              go_roundw
              case rel => exact ⟨j + 1, by go_num, by omega, HG.out, HK5.out⟩
              case measure => simp [intOf]; omega
            · have hb : badR r = true := by unfold badR; rw [hs, hd, decide_eq_false hlh]; rfl
              have HE := Lib.hid (HC.out.symm.trans (HBAD.out hb))
              have hlh2 : r.hi < r.lo := by omega
              clear hb hs hd
              go_wp2_with fail
              refine wp_region_kept2 [] [0, 1, 2, 3, 4, 5, 6, 7, 8, 9, 10, 11, 12, 13, 14, 15, 16, 17, 18, 19, 20, 21, 22, 23, 24, 25, 26, 27] 28 (by kernel_rfl) (by kernel_rfl) (fun c a d u w h => by cases d <;> exact h) ?_
              simp only [pick, List.getElem?_cons_succ, List.getElem?_cons_zero, List.drop_succ_cons, List.drop_zero]
              show wpKL _ _ _ _ _ _
              repeat (first
                | (refine wpKL_op (by exact rfl) (by as_aux_lemma => intro W hK; have e0 := hK.cell c0 (fun x => x); have e1 := hK.cell c1 (fun x => x); have e2 := hK.cell c2 (fun x => x); have e3 := hK.cell c3 (fun x => x); have e4 := hK.cell c4 (fun x => x); have e5 := hK.cell c5 (fun x => x); go_simp; exact rfl) ?_; simp only [Act.put, List.setIfInBounds_toArray, List.set_cons_succ, List.set_cons_zero])
                | (refine wpKL_off (by exact rfl) ?_; simp only [Act.put, List.setIfInBounds_toArray, List.set_cons_succ, List.set_cons_zero])
                | (refine wpKL_call (by exact rfl) (by as_aux_lemma => intro W; go_simp; exact ⟨rfl, rfl⟩) (by intro W hK; with_reducible first | exact HRs.out W | exact HRd.out W) ?_; simp only [Act.put, List.setIfInBounds_toArray, List.set_cons_succ, List.set_cons_zero]))
              show ∀ W, _ → wpList _ _ _ _ _ _
              intro W5 hK5
              have HK5 := Lib.hid (HI.out.2.trans hK5)
              clear hK5 c0 c1 c2 c3 c4 c5
              go_wp2_with fail
              go_ret
              exact ⟨by rw [HE.out]; rfl, HK5.out⟩
      · have hjn : j = l.length := by omega
        subst hjn
        have hg := HI.out.1
        rw [List.take_length] at hg
        have HE := Lib.hid (HC.out.symm.trans (good_all (by omega) hg))
        clear hg
        go_wp2_with fail
        go_ret
        exact ⟨by rw [HE.out]; rfl, HI.out.2⟩
set_option maxRecDepth 100000 in
set_option maxHeartbeats 8000000 in
theorem rDead34 (l : List RuN) (hok : ∀ r ∈ l, r.Ok) (k : Nat) (hkl : k < l.length) (v : Value) (w : World) (hS : Sl w v l.length 7 (l.flatMap enR7)) :
    Calls Tryd.prog 16 #[v, .int .i64 k] w fun e w' => e = .returned (.bool (deadN l k)) ∧ Kp none' w w' := by
  have hmax := hS.max
  obtain ⟨g, off, cap, rfl, hcb⟩ := hS.at enR7_len (by decide) k hkl
  have hgk := getD_at (default : RuN) hkl
  obtain ⟨b, hb⟩ : ∃ b, l[k] = b := ⟨_, rfl⟩
  have hbo := hok b (by rw [← hb]; exact List.getElem_mem hkl)
  rw [hb] at hcb hgk
  have HS := Lib.hid hS; have HO := Lib.hid hok; have HBO := Lib.hid hbo
  have k0 : w.cell? ⟨g, off + k * 7, none⟩ = some (.int .u32 b.s.1) := hcb 0 _ rfl
  have k1 := hcb 1 _ rfl
  have k2 := hcb 2 _ rfl
  have k3 := hcb 3 _ rfl
  have k4 := hcb 4 _ rfl
  have k5 := hcb 5 _ rfl
  have k6 := hcb 6 _ rfl
  have hki : (k : Int) < l.length := by omega
  have HB0 := Lib.hid (Blk.new w (enR7 b) 48)
  have HK0 := Lib.hid ((Kp.refl none' w).alloc (.cells (enR7 b).toArray 48))
  obtain ⟨R, hR⟩ : ∃ R, deadN l k = R := ⟨_, rfl⟩
  rw [hR]
  unfold deadN at hR
  rw [any_first l (fun o => covR o (l.getD k default)) k (by omega), hgk] at hR
  have HR := Lib.hid hR
  clear hS hok hbo hb hcb hgk hR
  go_enter Tryd.func16, Tryd.ntmps16
  go_wp2_with fail
  clear k0 k1 k2 k3 k4 k5 k6
  go_loopw [6] (fun i wr => ∃ j : Nat, i = .int .i64 j ∧ j ≤ k ∧ Hid ((∀ q, q < j → covR (l.getD q default) b = false) ∧ Kp none' w wr ∧ Blk wr w.heap.size (enR7 b) 48)) (fun i _ => k - (intOf i).toNat)
  case atStart => exact ⟨0, rfl, Nat.zero_le _, fun q hq => by omega, HK0.out, HB0.out⟩
  case round =>
    obtain ⟨j, rfl, hj, HI⟩ := hrel
    by_cases hlt : j < k
    · have hlt2 : j < l.length := by omega
      obtain ⟨g', off', cap', e1, hc⟩ := (HS.out.old HI.out.2.1).at enR7_len (by decide) j hlt2
      injection e1 with e1 _ e3
      cases e1
      subst e3
      have hji : (j : Int) < l.length := by omega
      have hjk : (j : Int) < k := by omega
      have hgd := getD_at (default : RuN) hlt2
      obtain ⟨a, ho⟩ : ∃ o, l[j] = o := ⟨_, rfl⟩
      have hao := HO.out a (by rw [← ho]; exact List.getElem_mem hlt2)
      rw [ho] at hc hgd
      have HGD : Hid (covR (l.getD j default) b = covR a b) := by show _ = _; rw [hgd]
      have c0 : wr.cell? ⟨g, off + j * 7, none⟩ = some (.int .u32 a.s.1) := hc 0 _ rfl
      have c1 := hc 1 _ rfl
      have c2 := hc 2 _ rfl
      have c3 := hc 3 _ rfl
      have c4 := hc 4 _ rfl
      have c5 := hc 5 _ rfl
      have c6 := hc 6 _ rfl
      have HCs := Lib.hid (fun W => rCovers a.s.1 b.s.1 a.s.2 b.s.2 W hao.s.1 HBO.out.s.1 hao.s.2 HBO.out.s.2)
      have HCd := Lib.hid (fun W => rCovers a.d.1 b.d.1 a.d.2 b.d.2 W hao.d.1 HBO.out.d.1 hao.d.2 HBO.out.d.2)
      have hkA : Kp none' wr (wr.alloc (.cells #[.int .u32 a.s.1, .int .i64 a.s.2, .int .u32 a.d.1, .int .i64 a.d.2, .int .u16 a.lo, .int .u16 a.hi, .int .u32 a.fl] 48)) := (Kp.refl none' wr).alloc _
      have hbA : Blk (wr.alloc (.cells #[.int .u32 a.s.1, .int .i64 a.s.2, .int .u32 a.d.1, .int .i64 a.d.2, .int .u16 a.lo, .int .u16 a.hi, .int .u32 a.fl] 48)) wr.heap.size (enR7 a) 48 := Blk.new wr (enR7 a) _
      have HBA := Lib.hid hbA
      have HBB := Lib.hid (HI.out.2.2.kp hkA (fun x => x)); have HKA := Lib.hid (HI.out.2.1.trans hkA)
      have b0 := HBB.out.cell 0 rfl
      have b1 := HBB.out.cell 1 rfl
      clear hc ho hao hgd hkA hbA
      obtain ⟨C, hC⟩ : ∃ C, covR a b = C := ⟨_, rfl⟩
      have HCV := Lib.hid hC
      unfold covR at hC
      have HCC := Lib.hid hC
      have HN : Hid (C = false → ∀ q, q < j + 1 → covR (l.getD q default) b = false) := fun hf q hq => by
        rcases Nat.lt_or_ge q j with h1 | h1
        · exact HI.out.1 q h1
        · have : q = j := by omega
          subst this; rw [HGD.out, HCV.out]; exact hf
      have HY : Hid (C = true → R = true) := fun ht => by
        rw [← HR.out, firstOf_some.2 ⟨hlt, by show covR (l.getD j default) b = true; rw [HGD.out, HCV.out]; exact ht, HI.out.1⟩]; rfl
      clear hC
      cases hs : covB a.s.1 a.s.2 b.s.1 b.s.2 with
      | false =>
        rw [hs] at HCs
        have HNN := Lib.hid (HN.out (by rw [← HCC.out, hs]; rfl))
        clear hs
        go_wp2_with fail
        refine (HCs.out _).mono ?_
        rintro e w1 ⟨rfl, hk1⟩
        have HK1 := Lib.hid (HKA.out.trans hk1)
        have HB1 := Lib.hid (HBB.out.kp hk1 (fun x => x)); have HA1 := Lib.hid (HBA.out.kp hk1 (fun x => x))
        clear hk1
        go_wp2_with fail
        go_roundw
        case rel => exact ⟨j + 1, by go_num, by omega, HNN.out, HK1.out, HB1.out⟩
        case measure => simp [intOf]; omega
      | true =>
        rw [hs] at HCs
        cases hd : covB a.d.1 a.d.2 b.d.1 b.d.2 with
        | false =>
          rw [hd] at HCd
          have HNN := Lib.hid (HN.out (by rw [← HCC.out, hs, hd]; rfl))
          clear hs hd
          go_wp2_with fail
          refine (HCs.out _).mono ?_
          rintro e w1 ⟨rfl, hk1⟩
          have HK1 := Lib.hid (HKA.out.trans hk1)
          have HB1 := Lib.hid (HBB.out.kp hk1 (fun x => x)); have HA1 := Lib.hid (HBA.out.kp hk1 (fun x => x))
          have a2 := HA1.out.cell 2 rfl
          have a3 := HA1.out.cell 3 rfl
          have b2 := HB1.out.cell 2 rfl
          have b3 := HB1.out.cell 3 rfl
          clear hk1
          go_wp2_with fail
          refine (HCd.out _).mono ?_
          rintro e w2 ⟨rfl, hk2⟩
          have HK2 := Lib.hid (HK1.out.trans hk2)
          have HB2 := Lib.hid (HB1.out.kp hk2 (fun x => x)); have HA2 := Lib.hid (HA1.out.kp hk2 (fun x => x))
          clear hk2 a2 a3 b2 b3
          go_wp2_with fail
          go_roundw
          case rel => exact ⟨j + 1, by go_num, by omega, HNN.out, HK2.out, HB2.out⟩
          case measure => simp [intOf]; omega
        | true =>
          rw [hd] at HCd
          by_cases h1 : a.lo ≤ b.lo
          · by_cases h2 : b.hi ≤ a.hi
            · have HE := Lib.hid (HY.out (by rw [← HCC.out, hs, hd, decide_eq_true h1, decide_eq_true h2]; rfl))
              clear hs hd
              go_wp2_with fail
              refine (HCs.out _).mono ?_
              rintro e w1 ⟨rfl, hk1⟩
              have HK1 := Lib.hid (HKA.out.trans hk1)
              have HB1 := Lib.hid (HBB.out.kp hk1 (fun x => x)); have HA1 := Lib.hid (HBA.out.kp hk1 (fun x => x))
              have a2 := HA1.out.cell 2 rfl
              have a3 := HA1.out.cell 3 rfl
              have b2 := HB1.out.cell 2 rfl
              have b3 := HB1.out.cell 3 rfl
              clear hk1
              go_wp2_with fail
              refine (HCd.out _).mono ?_
              rintro e w2 ⟨rfl, hk2⟩
              have HK2 := Lib.hid (HK1.out.trans hk2)
              have HB2 := Lib.hid (HB1.out.kp hk2 (fun x => x)); have HA2 := Lib.hid (HA1.out.kp hk2 (fun x => x))
              clear hk2 a2 a3 b2 b3
              have a4 := HA2.out.cell 4 rfl
              have a5 := HA2.out.cell 5 rfl
              have b4 := HB2.out.cell 4 rfl
              have b5 := HB2.out.cell 5 rfl
              go_wp2_with fail
              go_ret
              exact ⟨by rw [HE.out]; rfl, HK2.out⟩
            · have HNN := Lib.hid (HN.out (by rw [← HCC.out, hs, hd, decide_eq_true h1, decide_eq_false h2]; rfl))
              clear hs hd
              go_wp2_with fail
              refine (HCs.out _).mono ?_
              rintro e w1 ⟨rfl, hk1⟩
              have HK1 := Lib.hid (HKA.out.trans hk1)
              have HB1 := Lib.hid (HBB.out.kp hk1 (fun x => x)); have HA1 := Lib.hid (HBA.out.kp hk1 (fun x => x))
              have a2 := HA1.out.cell 2 rfl
              have a3 := HA1.out.cell 3 rfl
              have b2 := HB1.out.cell 2 rfl
              have b3 := HB1.out.cell 3 rfl
              clear hk1
              go_wp2_with fail
              refine (HCd.out _).mono ?_
              rintro e w2 ⟨rfl, hk2⟩
              have HK2 := Lib.hid (HK1.out.trans hk2)
              have HB2 := Lib.hid (HB1.out.kp hk2 (fun x => x)); have HA2 := Lib.hid (HA1.out.kp hk2 (fun x => x))
              clear hk2 a2 a3 b2 b3
              have a4 := HA2.out.cell 4 rfl
              have a5 := HA2.out.cell 5 rfl
              have b4 := HB2.out.cell 4 rfl
              have b5 := HB2.out.cell 5 rfl
              go_wp2_with fail
              go_roundw
              case rel => exact ⟨j + 1, by go_num, by omega, HNN.out, HK2.out, HB2.out⟩
              case measure => simp [intOf]; omega
          · have HNN := Lib.hid (HN.out (by rw [← HCC.out, hs, hd, decide_eq_false h1]; rfl))
            clear hs hd
            go_wp2_with fail
            refine (HCs.out _).mono ?_
            rintro e w1 ⟨rfl, hk1⟩
            have HK1 := Lib.hid (HKA.out.trans hk1)
            have HB1 := Lib.hid (HBB.out.kp hk1 (fun x => x)); have HA1 := Lib.hid (HBA.out.kp hk1 (fun x => x))
            have a2 := HA1.out.cell 2 rfl
            have a3 := HA1.out.cell 3 rfl
            have b2 := HB1.out.cell 2 rfl
            have b3 := HB1.out.cell 3 rfl
            clear hk1
            go_wp2_with fail
            refine (HCd.out _).mono ?_
            rintro e w2 ⟨rfl, hk2⟩
            have HK2 := Lib.hid (HK1.out.trans hk2)
            have HB2 := Lib.hid (HB1.out.kp hk2 (fun x => x)); have HA2 := Lib.hid (HA1.out.kp hk2 (fun x => x))
            clear hk2 a2 a3 b2 b3
            have a4 := HA2.out.cell 4 rfl
            have a5 := HA2.out.cell 5 rfl
            have b4 := HB2.out.cell 4 rfl
            have b5 := HB2.out.cell 5 rfl
            go_wp2_with fail
            go_roundw
            case rel => exact ⟨j + 1, by go_num, by omega, HNN.out, HK2.out, HB2.out⟩
            case measure => simp [intOf]; omega
    · have hjn : j = k := by omega
      subst hjn
      have he : R = false := by rw [← HR.out, firstOf_none.2 HI.out.1]; rfl
      have HE := Lib.hid he
      clear he
      go_wp2_with fail
      go_ret
      exact ⟨by rw [HE.out]; rfl, HI.out.2.1⟩
end Go.Proofs.YthnlggecjdifnaaDoor
