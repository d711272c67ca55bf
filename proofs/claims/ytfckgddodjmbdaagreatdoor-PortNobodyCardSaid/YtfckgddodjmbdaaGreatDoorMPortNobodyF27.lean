/- The prefixes of rules (their srcs) as a tree. -/
import Derived.Test.YtfckgddodjmbdaaGreatDoorMPortNobodyF26
namespace Go.Proofs.YtfckgddodjmbdaaGreatDoor
set_option linter.unusedVariables false
set_option linter.unusedSimpArgs false
open Go.RowKit

theorem pSrcOk {r : RuN} (h : r.Ok) : pfOk (pSrc r) := h.s
theorem px_getSrc (l : List RuN) {j : Nat} (h : j < l.length) : (l.map (fun r => pxOf (pSrc r))).getD j (0, 0) = pxOf (pSrc l[j]) := by
  rw [getD_at _ (by simpa using h)]; simp
structure PISrc (w wr : World) (l : List RuN) (v : Value) (tb n j : Nat) (T : Tr) : Prop where
  tab : TabM wr w.heap.size tb T n
  at_ : TreeAt (l.map (fun r => pxOf (pSrc r))) j T
  kp : Kp none' w wr
  n_le : n ≤ j
theorem PISrc.old {w wr w' : World} {l : List RuN} {v : Value} {tb n j : Nat} {T : Tr} (h : PISrc w wr l v tb n j T) (k : Kp none' wr w') : PISrc w w' l v tb n j T := ⟨h.tab.old k, h.at_, h.kp.trans k, h.n_le⟩
set_option maxRecDepth 100000 in
set_option maxHeartbeats 8000000 in
theorem prefixesSrc (l : List RuN) (hok : ∀ r ∈ l, r.Ok) (hr : ∀ r ∈ l, rightB (pSrc r).1 (pSrc r).2 = true) (hn : l.length ≤ 64) (v : Value) (w : World) (h : Sl w v l.length 7 (l.flatMap enR7)) :
    Calls Tryz.prog 88 #[v, .func (.func 89) #[] #[]] w fun e w' => ∃ tb T n, e = .returned (.pointer (some ⟨tb, 0, none⟩)) ∧ TabM w' w.heap.size tb T n ∧ TreeOf (l.map (fun r => pxOf (pSrc r))) T ∧ Kp none' w w' := by
  obtain ⟨ao, cap, rfl⟩ : ∃ ao cap, v = .slice ao l.length cap := by obtain ⟨ao, cap, rfl, _⟩ := h.is; exact ⟨_, _, rfl⟩
  have HS := Lib.hid h
  have HO := Lib.hid hok; have HR := Lib.hid hr
  have HNW := Lib.hid (fun W => tNew W)
  clear h hok hr
  go_enter Tryz.func88, Tryz.ntmps88
  go_wp2_with (go_at_call 117; refine (HNW.out _).mono ?_; rintro e w1 ⟨tb, T, rfl, hT, hk1, b1, hb1⟩
               have HP : Hid (PISrc w w1 l (.slice ao l.length cap) tb 0 0 T) := ⟨hT, by rw [hb1]; exact TreeAt.start _ _, hk1, Nat.le_refl _⟩
               clear hT hk1 hb1)
  go_loopw [14] (fun i wr => ∃ (j n : Nat) (T : Tr), i = .int .i64 j ∧ j ≤ l.length ∧ Hid (PISrc w wr l (.slice ao l.length cap) tb n j T)) (fun i _ => l.length - (intOf i).toNat)
  case atStart => exact ⟨0, 0, T, rfl, Nat.zero_le _, HP.out⟩
  case round =>
    clear HP
    obtain ⟨j, n, T1, rfl, hj, HI⟩ := hrel
    obtain ⟨wo, hwo⟩ : ∃ wo : World, wo = wr := ⟨_, rfl⟩
    subst hwo
    by_cases hlt : j < l.length
    · obtain ⟨g, off, cap', e1, hc⟩ := (HS.out.old HI.out.kp).at enR7_len (by decide) j hlt
      injection e1 with e1 _ e3
      subst e1 e3
      have hji : (j : Int) < l.length := by omega
      obtain ⟨r, hrr⟩ : ∃ r, l[j] = r := ⟨_, rfl⟩
      have hmem : r ∈ l := by rw [← hrr]; exact List.getElem_mem hlt
      rw [hrr] at hc
      have c0 : wo.cell? ⟨g, off + j * 7, none⟩ = some (.int .u32 r.s.1) := hc 0 _ rfl
      have c1 := hc 1 _ rfl
      have c2 := hc 2 _ rfl
      have c3 := hc 3 _ rfl
      have c4 := hc 4 _ rfl
      have c5 := hc 5 _ rfl
      have c6 := hc 6 _ rfl
      have HRR := Lib.hid hrr; have HM := Lib.hid hmem
      have hRl := (pxOf_ok (HR.out r hmem) (pSrcOk (HO.out r hmem)))
      have HRP := Lib.hid hRl
      have HGJ := Lib.hid (px_getSrc l (j := j) hlt |>.trans (by rw [hrr]))
      clear hc hrr hmem hRl
      go_wp2_with fail
      have hK0 : Kp none' wo (wo.alloc (.cells #[.int .u32 r.s.1, .int .i64 r.s.2, .int .u32 r.d.1, .int .i64 r.d.2, .int .u16 r.lo, .int .u16 r.hi, .int .u32 r.fl] 160)) := (Kp.refl none' wo).alloc _
      have hB7 : Blk (wo.alloc (.cells #[.int .u32 r.s.1, .int .i64 r.s.2, .int .u32 r.d.1, .int .i64 r.d.2, .int .u16 r.lo, .int .u16 r.hi, .int .u32 r.fl] 160)) wo.heap.size (enR7 r) 160 := Blk.new wo (enR7 r) _
      obtain ⟨W0, hW0⟩ : ∃ W, wo.alloc (.cells #[.int .u32 r.s.1, .int .i64 r.s.2, .int .u32 r.d.1, .int .i64 r.d.2, .int .u16 r.lo, .int .u16 r.hi, .int .u32 r.fl] 160) = W := ⟨_, rfl⟩
      obtain ⟨g7, hg7⟩ : ∃ g, wo.heap.size = g := ⟨_, rfl⟩
      rw [hW0] at hK0 hB7 ⊢
      rw [hg7] at hB7 ⊢
      have HB7 := Lib.hid hB7; have HI0 := Lib.hid (HI.out.old hK0)
      obtain ⟨f, hf⟩ : ∃ f : Nat → Bool, f = fun i => covP ((l.map (fun r => pxOf (pSrc r))).getD i (0, 0)) (pxOf (pSrc r)) := ⟨_, rfl⟩
      have HF := Lib.hid hf
      have HCR : Hid (∀ W, Calls Tryz.prog 89 #[.agg #[.int .u32 r.s.1, .int .i64 r.s.2, .int .u32 r.d.1, .int .i64 r.d.2, .int .u16 r.lo, .int .u16 r.hi, .int .u32 r.fl]] W fun e w' => e = .returned (.agg #[.int .u32 (pSrc r).1, .int .i64 (pSrc r).2]) ∧ Kp none' W w') := fun W => cSrc r.s r.d r.lo r.hi r.fl W
      clear hW0 hg7 hK0 hB7 hf c0 c1 c2 c3 c4 c5 c6
      go_loopw [8, 20] (fun m i wr => ∃ k : Nat, i = .int .i64 k ∧ k ≤ l.length ∧ m = .int .u64 (bitsOf f k : Nat) ∧ Hid (Kp none' W0 wr)) (fun _ i _ => l.length - (intOf i).toNat)
      case atStart => exact ⟨0, rfl, Nat.zero_le _, rfl, Kp.refl _ _⟩
      case round =>
        obtain ⟨k, rfl, hk, rfl, HK⟩ := hrel
        by_cases hkl : k < l.length
        · obtain ⟨g, off, cap2, e1, hc⟩ := (HS.out.old (HI0.out.kp.trans HK.out)).at enR7_len (by decide) k hkl
          injection e1 with e1 _ e3
          cases e1
          subst e3
          have hki : (k : Int) < l.length := by omega
          have hk64 : k < 64 := by omega
          obtain ⟨o, ho⟩ : ∃ o, l[k] = o := ⟨_, rfl⟩
          have hom : o ∈ l := by rw [← ho]; exact List.getElem_mem hkl
          rw [ho] at hc
          have c0 : wr.cell? ⟨g, off + k * 7, none⟩ = some (.int .u32 o.s.1) := hc 0 _ rfl
          have c1 := hc 1 _ rfl
          have c2 := hc 2 _ rfl
          have c3 := hc 3 _ rfl
          have c4 := hc 4 _ rfl
          have c5 := hc 5 _ rfl
          have c6 := hc 6 _ rfl
          have HOP := Lib.hid (pxOf_ok (HR.out o hom) (pSrcOk (HO.out o hom)))
          have HGK := Lib.hid (px_getSrc l (j := k) hkl |>.trans (by rw [ho]))
          have hfk : f k = covB (pSrc o).1 (pSrc o).2 (pSrc r).1 (pSrc r).2 := by
            rw [HF.out]
            show covP ((l.map (fun r => pxOf (pSrc r))).getD k (0, 0)) (pxOf (pSrc r)) = _
            rw [HGK.out]
            unfold covP
            rw [HOP.out.2, HRP.out.2]; rfl
          have bo := pSrcOk (HO.out o hom)
          have HCO : Hid (∀ W, Calls Tryz.prog 89 #[.agg #[.int .u32 o.s.1, .int .i64 o.s.2, .int .u32 o.d.1, .int .i64 o.d.2, .int .u16 o.lo, .int .u16 o.hi, .int .u32 o.fl]] W fun e w' => e = .returned (.agg #[.int .u32 (pSrc o).1, .int .i64 (pSrc o).2]) ∧ Kp none' W w') := fun W => cSrc o.s o.d o.lo o.hi o.fl W
          have HCV := Lib.hid (fun W => aCovers (pSrc o).1 (pSrc r).1 (pSrc o).2 (pSrc r).2 W bo.1 (pSrcOk (HO.out r HM.out)).1 ⟨bo.2.1, bo.2.2⟩ (pSrcOk (HO.out r HM.out)).2)
          rw [← hfk] at HCV
          obtain ⟨b7, hb7⟩ : ∃ W, W = wr := ⟨_, rfl⟩
          subst hb7
          have HBR := Lib.hid (HB7.out.kp HK.out (fun x => x))
          have hk9 : Kp none' b7 (b7.alloc (.cells #[.int .u32 o.s.1, .int .i64 o.s.2, .int .u32 o.d.1, .int .i64 o.d.2, .int .u16 o.lo, .int .u16 o.hi, .int .u32 o.fl] 160)) := (Kp.refl none' b7).alloc _
          have hB9 : Blk (b7.alloc (.cells #[.int .u32 o.s.1, .int .i64 o.s.2, .int .u32 o.d.1, .int .i64 o.d.2, .int .u16 o.lo, .int .u16 o.hi, .int .u32 o.fl] 160)) b7.heap.size (enR7 o) 160 := Blk.new b7 (enR7 o) _
          have HBR9 := Lib.hid (HBR.out.kp hk9 (fun x => x))
          have HB9 := Lib.hid hB9; have HK9 := Lib.hid hk9
          have r0 := HBR9.out.cell 0 rfl
          have r1 := HBR9.out.cell 1 rfl
          have r2 := HBR9.out.cell 2 rfl
          have r3 := HBR9.out.cell 3 rfl
          have r4 := HBR9.out.cell 4 rfl
          have r5 := HBR9.out.cell 5 rfl
          have r6 := HBR9.out.cell 6 rfl
          have o0 := hB9.cell 0 rfl
          have o1 := hB9.cell 1 rfl
          have o2 := hB9.cell 2 rfl
          have o3 := hB9.cell 3 rfl
          have o4 := hB9.cell 4 rfl
          have o5 := hB9.cell 5 rfl
          have o6 := hB9.cell 6 rfl
          clear hk9 hB9 hc ho hom bo
          cases hfv : f k with
          | true =>
            have hor := bits_step hk64 hfv
            rw [hfv] at HCV
            obtain ⟨m, hm⟩ : ∃ m, bitsOf f k = m := ⟨_, rfl⟩
            obtain ⟨m', hm'⟩ : ∃ m, bitsOf f (k + 1) = m := ⟨_, rfl⟩
            rw [hm, hm'] at hor
            have HM' := Lib.hid hm'
            simp only [hm]
            clear hm hm' hfv hfk
            go_wp2_with fail
            refine wp_region_kept2 [] [0, 1, 2, 3, 4, 5] 6 (by kernel_rfl) (by kernel_rfl) (fun c a d u w h => by cases d <;> exact h) ?_
            simp only [pick, List.getElem?_cons_succ, List.getElem?_cons_zero, List.drop_succ_cons, List.drop_zero]
            show wpKL _ _ _ _ _ _
            repeat (first
              | (refine wpKL_op (by exact rfl) (by as_aux_lemma => intro W hK; have e0 := hK.cell r0 (fun x => x); have e1 := hK.cell r1 (fun x => x); have e2 := hK.cell r2 (fun x => x); have e3 := hK.cell r3 (fun x => x); have e4 := hK.cell r4 (fun x => x); have e5 := hK.cell r5 (fun x => x); have e6 := hK.cell r6 (fun x => x); have f0 := hK.cell o0 (fun x => x); have f1 := hK.cell o1 (fun x => x); have f2 := hK.cell o2 (fun x => x); have f3 := hK.cell o3 (fun x => x); have f4 := hK.cell o4 (fun x => x); have f5 := hK.cell o5 (fun x => x); have f6 := hK.cell o6 (fun x => x); go_simp; exact rfl) ?_; simp only [Act.put, List.setIfInBounds_toArray, List.set_cons_succ, List.set_cons_zero])
              | (refine wpKL_off (by exact rfl) ?_; simp only [Act.put, List.setIfInBounds_toArray, List.set_cons_succ, List.set_cons_zero])
              | (refine wpKL_call (by exact rfl) (by as_aux_lemma => intro W; go_simp; exact ⟨rfl, rfl⟩) (by intro W hK; with_reducible first | exact HCO.out W | exact HCR.out W) ?_; simp only [Act.put, List.setIfInBounds_toArray, List.set_cons_succ, List.set_cons_zero]))
            show ∀ W, _ → wpList _ _ _ _ _ _
            intro W5 hK5
            have HK5 := Lib.hid ((HK.out.trans HK9.out).trans hK5)
            clear hK5 r0 r1 r2 r3 r4 r5 r6 o0 o1 o2 o3 o4 o5 o6 c0 c1 c2 c3 c4 c5 c6 HCO
            go_wp2_with (go_at_call 118; refine (HCV.out _).mono ?_; rintro e w6 ⟨rfl, hk6⟩; have HK6 := Lib.hid (HK5.out.trans hk6); clear hk6)
            go_roundw
            case rel => exact ⟨k + 1, by go_num, by omega, by rw [HM'.out], HK6.out⟩
            case measure => simp [intOf]; omega
          | false =>
            have hsk := bits_skip hfv
            have HSK := Lib.hid hsk
            rw [hfv] at HCV
            obtain ⟨m, hm⟩ : ∃ m, bitsOf f k = m := ⟨_, rfl⟩
            have HM' := Lib.hid hm
            simp only [hm]
            clear hm hsk hfv hfk
            go_wp2_with fail
            refine wp_region_kept2 [] [0, 1, 2, 3, 4, 5] 6 (by kernel_rfl) (by kernel_rfl) (fun c a d u w h => by cases d <;> exact h) ?_
            simp only [pick, List.getElem?_cons_succ, List.getElem?_cons_zero, List.drop_succ_cons, List.drop_zero]
            show wpKL _ _ _ _ _ _
            repeat (first
              | (refine wpKL_op (by exact rfl) (by as_aux_lemma => intro W hK; have e0 := hK.cell r0 (fun x => x); have e1 := hK.cell r1 (fun x => x); have e2 := hK.cell r2 (fun x => x); have e3 := hK.cell r3 (fun x => x); have e4 := hK.cell r4 (fun x => x); have e5 := hK.cell r5 (fun x => x); have e6 := hK.cell r6 (fun x => x); have f0 := hK.cell o0 (fun x => x); have f1 := hK.cell o1 (fun x => x); have f2 := hK.cell o2 (fun x => x); have f3 := hK.cell o3 (fun x => x); have f4 := hK.cell o4 (fun x => x); have f5 := hK.cell o5 (fun x => x); have f6 := hK.cell o6 (fun x => x); go_simp; exact rfl) ?_; simp only [Act.put, List.setIfInBounds_toArray, List.set_cons_succ, List.set_cons_zero])
              | (refine wpKL_off (by exact rfl) ?_; simp only [Act.put, List.setIfInBounds_toArray, List.set_cons_succ, List.set_cons_zero])
              | (refine wpKL_call (by exact rfl) (by as_aux_lemma => intro W; go_simp; exact ⟨rfl, rfl⟩) (by intro W hK; with_reducible first | exact HCO.out W | exact HCR.out W) ?_; simp only [Act.put, List.setIfInBounds_toArray, List.set_cons_succ, List.set_cons_zero]))
            show ∀ W, _ → wpList _ _ _ _ _ _
            intro W5 hK5
            have HK5 := Lib.hid ((HK.out.trans HK9.out).trans hK5)
            clear hK5 r0 r1 r2 r3 r4 r5 r6 o0 o1 o2 o3 o4 o5 o6 c0 c1 c2 c3 c4 c5 c6 HCO
            go_wp2_with (go_at_call 118; refine (HCV.out _).mono ?_; rintro e w6 ⟨rfl, hk6⟩; have HK6 := Lib.hid (HK5.out.trans hk6); clear hk6)
            go_roundw
            case rel => exact ⟨k + 1, by go_num, by omega, by rw [HSK.out, HM'.out], HK6.out⟩
            case measure => simp [intOf]; omega
        · have hkn : k = l.length := by omega
          subst hkn
          have hset : bitsOf f l.length = setP (l.map (fun r => pxOf (pSrc r))) (pxOf (pSrc r)) := by rw [HF.out]; unfold setP; rw [List.length_map]
          have HI1 := Lib.hid (HI0.out.old HK.out)
          have HT := Lib.hid (fun W (k : Kp none' wr W) => tPut W w.heap.size tb n (setP (l.map (fun r => pxOf (pSrc r))) (pxOf (pSrc r))) T1 (HI1.out.tab.old k) (pxOf (pSrc r)) HRP.out.1 (by have := HI1.out.n_le; omega))
          have hpx : (pxOf (pSrc r)).1 = (pSrc r).1 := rfl
          rw [HRP.out.2, ← hset, hpx] at HT
          have HSET := Lib.hid hset
          have HBR := Lib.hid (HB7.out.kp HK.out (fun x => x))
          have r0 := HBR.out.cell 0 rfl
          have r1 := HBR.out.cell 1 rfl
          have r2 := HBR.out.cell 2 rfl
          have r3 := HBR.out.cell 3 rfl
          have r4 := HBR.out.cell 4 rfl
          have r5 := HBR.out.cell 5 rfl
          have r6 := HBR.out.cell 6 rfl
          clear hset hpx
          obtain ⟨m, hm⟩ : ∃ m, bitsOf f l.length = m := ⟨_, rfl⟩
          rw [hm] at HT HSET
          simp only [hm]
          clear hm
          go_wp2_with (first
            | (go_at_call 89; refine (HCR.out _).mono ?_; rintro e w2 ⟨rfl, hk2⟩; have HK2 := Lib.hid hk2; clear hk2)
            | (go_at_call 119; refine (HT.out _ HK2.out).mono ?_; rintro e w3 ⟨c, nb, fb, n', rfl, hn', hT', hk3⟩
               have HT3 := Lib.hid hT'; have HN3 := Lib.hid hn'; have HK3 := Lib.hid hk3; clear hT' hn' hk3))
          have hat : TreeAt (l.map (fun r => pxOf (pSrc r))) (j + 1) (T1.put nb (pxOf (pSrc r)) m fb) := by
            have := HI.out.at_.put (k := j) (by rw [List.length_map]; exact hlt) (by rw [HGJ.out]; exact HRP.out.1) nb fb
            rw [HGJ.out] at this
            rw [HSET.out]; exact this
          have HAT := Lib.hid hat
          have HKE : Hid (Kp none' w wr) := HI1.out.kp
          have HKF := Lib.hid ((HKE.out.trans HK2.out).then HK3.out (fun i hi e => by omega))
          clear hat
          go_roundw
          case rel => exact ⟨j + 1, n', _, by go_num, by omega, HT3.out, HAT.out, HKF.out, Nat.le_trans HN3.out (Nat.succ_le_succ HI.out.n_le)⟩
          case measure => simp [intOf]; omega
    · have hjn : j = l.length := by omega
      subst hjn
      go_wp2_with fail
      go_ret
      refine ⟨tb, T1, n, rfl, HI.out.tab, ?_, HI.out.kp⟩
      have := HI.out.at_
      have e : l.length = (l.map (fun r => pxOf (pSrc r))).length := (List.length_map ..).symm
      rw [e] at this
      exact this.full
end Go.Proofs.YtfckgddodjmbdaaGreatDoor

namespace Go.Proofs.YtfckgddodjmbdaaGreatDoor
set_option linter.unusedVariables false
set_option linter.unusedSimpArgs false
open Go.RowKit

theorem pDstOk {r : RuN} (h : r.Ok) : pfOk (pDst r) := h.d
theorem px_getDst (l : List RuN) {j : Nat} (h : j < l.length) : (l.map (fun r => pxOf (pDst r))).getD j (0, 0) = pxOf (pDst l[j]) := by
  rw [getD_at _ (by simpa using h)]; simp
structure PIDst (w wr : World) (l : List RuN) (v : Value) (tb n j : Nat) (T : Tr) : Prop where
  tab : TabM wr w.heap.size tb T n
  at_ : TreeAt (l.map (fun r => pxOf (pDst r))) j T
  kp : Kp none' w wr
  n_le : n ≤ j
theorem PIDst.old {w wr w' : World} {l : List RuN} {v : Value} {tb n j : Nat} {T : Tr} (h : PIDst w wr l v tb n j T) (k : Kp none' wr w') : PIDst w w' l v tb n j T := ⟨h.tab.old k, h.at_, h.kp.trans k, h.n_le⟩
set_option maxRecDepth 100000 in
set_option maxHeartbeats 8000000 in
theorem prefixesDst (l : List RuN) (hok : ∀ r ∈ l, r.Ok) (hr : ∀ r ∈ l, rightB (pDst r).1 (pDst r).2 = true) (hn : l.length ≤ 64) (v : Value) (w : World) (h : Sl w v l.length 7 (l.flatMap enR7)) :
    Calls Tryz.prog 88 #[v, .func (.func 90) #[] #[]] w fun e w' => ∃ tb T n, e = .returned (.pointer (some ⟨tb, 0, none⟩)) ∧ TabM w' w.heap.size tb T n ∧ TreeOf (l.map (fun r => pxOf (pDst r))) T ∧ Kp none' w w' := by
  obtain ⟨ao, cap, rfl⟩ : ∃ ao cap, v = .slice ao l.length cap := by obtain ⟨ao, cap, rfl, _⟩ := h.is; exact ⟨_, _, rfl⟩
  have HS := Lib.hid h
  have HO := Lib.hid hok; have HR := Lib.hid hr
  have HNW := Lib.hid (fun W => tNew W)
  clear h hok hr
  go_enter Tryz.func88, Tryz.ntmps88
  go_wp2_with (go_at_call 117; refine (HNW.out _).mono ?_; rintro e w1 ⟨tb, T, rfl, hT, hk1, b1, hb1⟩
               have HP : Hid (PIDst w w1 l (.slice ao l.length cap) tb 0 0 T) := ⟨hT, by rw [hb1]; exact TreeAt.start _ _, hk1, Nat.le_refl _⟩
               clear hT hk1 hb1)
  go_loopw [14] (fun i wr => ∃ (j n : Nat) (T : Tr), i = .int .i64 j ∧ j ≤ l.length ∧ Hid (PIDst w wr l (.slice ao l.length cap) tb n j T)) (fun i _ => l.length - (intOf i).toNat)
  case atStart => exact ⟨0, 0, T, rfl, Nat.zero_le _, HP.out⟩
  case round =>
    clear HP
    obtain ⟨j, n, T1, rfl, hj, HI⟩ := hrel
    obtain ⟨wo, hwo⟩ : ∃ wo : World, wo = wr := ⟨_, rfl⟩
    subst hwo
    by_cases hlt : j < l.length
    · obtain ⟨g, off, cap', e1, hc⟩ := (HS.out.old HI.out.kp).at enR7_len (by decide) j hlt
      injection e1 with e1 _ e3
      subst e1 e3
      have hji : (j : Int) < l.length := by omega
      obtain ⟨r, hrr⟩ : ∃ r, l[j] = r := ⟨_, rfl⟩
      have hmem : r ∈ l := by rw [← hrr]; exact List.getElem_mem hlt
      rw [hrr] at hc
      have c0 : wo.cell? ⟨g, off + j * 7, none⟩ = some (.int .u32 r.s.1) := hc 0 _ rfl
      have c1 := hc 1 _ rfl
      have c2 := hc 2 _ rfl
      have c3 := hc 3 _ rfl
      have c4 := hc 4 _ rfl
      have c5 := hc 5 _ rfl
      have c6 := hc 6 _ rfl
      have HRR := Lib.hid hrr; have HM := Lib.hid hmem
      have hRl := (pxOf_ok (HR.out r hmem) (pDstOk (HO.out r hmem)))
      have HRP := Lib.hid hRl
      have HGJ := Lib.hid (px_getDst l (j := j) hlt |>.trans (by rw [hrr]))
      clear hc hrr hmem hRl
      go_wp2_with fail
      have hK0 : Kp none' wo (wo.alloc (.cells #[.int .u32 r.s.1, .int .i64 r.s.2, .int .u32 r.d.1, .int .i64 r.d.2, .int .u16 r.lo, .int .u16 r.hi, .int .u32 r.fl] 160)) := (Kp.refl none' wo).alloc _
      have hB7 : Blk (wo.alloc (.cells #[.int .u32 r.s.1, .int .i64 r.s.2, .int .u32 r.d.1, .int .i64 r.d.2, .int .u16 r.lo, .int .u16 r.hi, .int .u32 r.fl] 160)) wo.heap.size (enR7 r) 160 := Blk.new wo (enR7 r) _
      obtain ⟨W0, hW0⟩ : ∃ W, wo.alloc (.cells #[.int .u32 r.s.1, .int .i64 r.s.2, .int .u32 r.d.1, .int .i64 r.d.2, .int .u16 r.lo, .int .u16 r.hi, .int .u32 r.fl] 160) = W := ⟨_, rfl⟩
      obtain ⟨g7, hg7⟩ : ∃ g, wo.heap.size = g := ⟨_, rfl⟩
      rw [hW0] at hK0 hB7 ⊢
      rw [hg7] at hB7 ⊢
      have HB7 := Lib.hid hB7; have HI0 := Lib.hid (HI.out.old hK0)
      obtain ⟨f, hf⟩ : ∃ f : Nat → Bool, f = fun i => covP ((l.map (fun r => pxOf (pDst r))).getD i (0, 0)) (pxOf (pDst r)) := ⟨_, rfl⟩
      have HF := Lib.hid hf
      have HCR : Hid (∀ W, Calls Tryz.prog 90 #[.agg #[.int .u32 r.s.1, .int .i64 r.s.2, .int .u32 r.d.1, .int .i64 r.d.2, .int .u16 r.lo, .int .u16 r.hi, .int .u32 r.fl]] W fun e w' => e = .returned (.agg #[.int .u32 (pDst r).1, .int .i64 (pDst r).2]) ∧ Kp none' W w') := fun W => cDst r.s r.d r.lo r.hi r.fl W
      clear hW0 hg7 hK0 hB7 hf c0 c1 c2 c3 c4 c5 c6
      go_loopw [8, 20] (fun m i wr => ∃ k : Nat, i = .int .i64 k ∧ k ≤ l.length ∧ m = .int .u64 (bitsOf f k : Nat) ∧ Hid (Kp none' W0 wr)) (fun _ i _ => l.length - (intOf i).toNat)
      case atStart => exact ⟨0, rfl, Nat.zero_le _, rfl, Kp.refl _ _⟩
      case round =>
        obtain ⟨k, rfl, hk, rfl, HK⟩ := hrel
        by_cases hkl : k < l.length
        · obtain ⟨g, off, cap2, e1, hc⟩ := (HS.out.old (HI0.out.kp.trans HK.out)).at enR7_len (by decide) k hkl
          injection e1 with e1 _ e3
          cases e1
          subst e3
          have hki : (k : Int) < l.length := by omega
          have hk64 : k < 64 := by omega
          obtain ⟨o, ho⟩ : ∃ o, l[k] = o := ⟨_, rfl⟩
          have hom : o ∈ l := by rw [← ho]; exact List.getElem_mem hkl
          rw [ho] at hc
          have c0 : wr.cell? ⟨g, off + k * 7, none⟩ = some (.int .u32 o.s.1) := hc 0 _ rfl
          have c1 := hc 1 _ rfl
          have c2 := hc 2 _ rfl
          have c3 := hc 3 _ rfl
          have c4 := hc 4 _ rfl
          have c5 := hc 5 _ rfl
          have c6 := hc 6 _ rfl
          have HOP := Lib.hid (pxOf_ok (HR.out o hom) (pDstOk (HO.out o hom)))
          have HGK := Lib.hid (px_getDst l (j := k) hkl |>.trans (by rw [ho]))
          have hfk : f k = covB (pDst o).1 (pDst o).2 (pDst r).1 (pDst r).2 := by
            rw [HF.out]
            show covP ((l.map (fun r => pxOf (pDst r))).getD k (0, 0)) (pxOf (pDst r)) = _
            rw [HGK.out]
            unfold covP
            rw [HOP.out.2, HRP.out.2]; rfl
          have bo := pDstOk (HO.out o hom)
          have HCO : Hid (∀ W, Calls Tryz.prog 90 #[.agg #[.int .u32 o.s.1, .int .i64 o.s.2, .int .u32 o.d.1, .int .i64 o.d.2, .int .u16 o.lo, .int .u16 o.hi, .int .u32 o.fl]] W fun e w' => e = .returned (.agg #[.int .u32 (pDst o).1, .int .i64 (pDst o).2]) ∧ Kp none' W w') := fun W => cDst o.s o.d o.lo o.hi o.fl W
          have HCV := Lib.hid (fun W => aCovers (pDst o).1 (pDst r).1 (pDst o).2 (pDst r).2 W bo.1 (pDstOk (HO.out r HM.out)).1 ⟨bo.2.1, bo.2.2⟩ (pDstOk (HO.out r HM.out)).2)
          rw [← hfk] at HCV
          obtain ⟨b7, hb7⟩ : ∃ W, W = wr := ⟨_, rfl⟩
          subst hb7
          have HBR := Lib.hid (HB7.out.kp HK.out (fun x => x))
          have hk9 : Kp none' b7 (b7.alloc (.cells #[.int .u32 o.s.1, .int .i64 o.s.2, .int .u32 o.d.1, .int .i64 o.d.2, .int .u16 o.lo, .int .u16 o.hi, .int .u32 o.fl] 160)) := (Kp.refl none' b7).alloc _
          have hB9 : Blk (b7.alloc (.cells #[.int .u32 o.s.1, .int .i64 o.s.2, .int .u32 o.d.1, .int .i64 o.d.2, .int .u16 o.lo, .int .u16 o.hi, .int .u32 o.fl] 160)) b7.heap.size (enR7 o) 160 := Blk.new b7 (enR7 o) _
          have HBR9 := Lib.hid (HBR.out.kp hk9 (fun x => x))
          have HB9 := Lib.hid hB9; have HK9 := Lib.hid hk9
          have r0 := HBR9.out.cell 0 rfl
          have r1 := HBR9.out.cell 1 rfl
          have r2 := HBR9.out.cell 2 rfl
          have r3 := HBR9.out.cell 3 rfl
          have r4 := HBR9.out.cell 4 rfl
          have r5 := HBR9.out.cell 5 rfl
          have r6 := HBR9.out.cell 6 rfl
          have o0 := hB9.cell 0 rfl
          have o1 := hB9.cell 1 rfl
          have o2 := hB9.cell 2 rfl
          have o3 := hB9.cell 3 rfl
          have o4 := hB9.cell 4 rfl
          have o5 := hB9.cell 5 rfl
          have o6 := hB9.cell 6 rfl
          clear hk9 hB9 hc ho hom bo
          cases hfv : f k with
          | true =>
            have hor := bits_step hk64 hfv
            rw [hfv] at HCV
            obtain ⟨m, hm⟩ : ∃ m, bitsOf f k = m := ⟨_, rfl⟩
            obtain ⟨m', hm'⟩ : ∃ m, bitsOf f (k + 1) = m := ⟨_, rfl⟩
            rw [hm, hm'] at hor
            have HM' := Lib.hid hm'
            simp only [hm]
            clear hm hm' hfv hfk
            go_wp2_with fail
            refine wp_region_kept2 [] [0, 1, 2, 3, 4, 5] 6 (by kernel_rfl) (by kernel_rfl) (fun c a d u w h => by cases d <;> exact h) ?_
            simp only [pick, List.getElem?_cons_succ, List.getElem?_cons_zero, List.drop_succ_cons, List.drop_zero]
            show wpKL _ _ _ _ _ _
            repeat (first
              | (refine wpKL_op (by exact rfl) (by as_aux_lemma => intro W hK; have e0 := hK.cell r0 (fun x => x); have e1 := hK.cell r1 (fun x => x); have e2 := hK.cell r2 (fun x => x); have e3 := hK.cell r3 (fun x => x); have e4 := hK.cell r4 (fun x => x); have e5 := hK.cell r5 (fun x => x); have e6 := hK.cell r6 (fun x => x); have f0 := hK.cell o0 (fun x => x); have f1 := hK.cell o1 (fun x => x); have f2 := hK.cell o2 (fun x => x); have f3 := hK.cell o3 (fun x => x); have f4 := hK.cell o4 (fun x => x); have f5 := hK.cell o5 (fun x => x); have f6 := hK.cell o6 (fun x => x); go_simp; exact rfl) ?_; simp only [Act.put, List.setIfInBounds_toArray, List.set_cons_succ, List.set_cons_zero])
              | (refine wpKL_off (by exact rfl) ?_; simp only [Act.put, List.setIfInBounds_toArray, List.set_cons_succ, List.set_cons_zero])
              | (refine wpKL_call (by exact rfl) (by as_aux_lemma => intro W; go_simp; exact ⟨rfl, rfl⟩) (by intro W hK; with_reducible first | exact HCO.out W | exact HCR.out W) ?_; simp only [Act.put, List.setIfInBounds_toArray, List.set_cons_succ, List.set_cons_zero]))
            show ∀ W, _ → wpList _ _ _ _ _ _
            intro W5 hK5
            have HK5 := Lib.hid ((HK.out.trans HK9.out).trans hK5)
            clear hK5 r0 r1 r2 r3 r4 r5 r6 o0 o1 o2 o3 o4 o5 o6 c0 c1 c2 c3 c4 c5 c6 HCO
            go_wp2_with (go_at_call 118; refine (HCV.out _).mono ?_; rintro e w6 ⟨rfl, hk6⟩; have HK6 := Lib.hid (HK5.out.trans hk6); clear hk6)
            go_roundw
            case rel => exact ⟨k + 1, by go_num, by omega, by rw [HM'.out], HK6.out⟩
            case measure => simp [intOf]; omega
          | false =>
            have hsk := bits_skip hfv
            have HSK := Lib.hid hsk
            rw [hfv] at HCV
            obtain ⟨m, hm⟩ : ∃ m, bitsOf f k = m := ⟨_, rfl⟩
            have HM' := Lib.hid hm
            simp only [hm]
            clear hm hsk hfv hfk
            go_wp2_with fail
            refine wp_region_kept2 [] [0, 1, 2, 3, 4, 5] 6 (by kernel_rfl) (by kernel_rfl) (fun c a d u w h => by cases d <;> exact h) ?_
            simp only [pick, List.getElem?_cons_succ, List.getElem?_cons_zero, List.drop_succ_cons, List.drop_zero]
            show wpKL _ _ _ _ _ _
            repeat (first
              | (refine wpKL_op (by exact rfl) (by as_aux_lemma => intro W hK; have e0 := hK.cell r0 (fun x => x); have e1 := hK.cell r1 (fun x => x); have e2 := hK.cell r2 (fun x => x); have e3 := hK.cell r3 (fun x => x); have e4 := hK.cell r4 (fun x => x); have e5 := hK.cell r5 (fun x => x); have e6 := hK.cell r6 (fun x => x); have f0 := hK.cell o0 (fun x => x); have f1 := hK.cell o1 (fun x => x); have f2 := hK.cell o2 (fun x => x); have f3 := hK.cell o3 (fun x => x); have f4 := hK.cell o4 (fun x => x); have f5 := hK.cell o5 (fun x => x); have f6 := hK.cell o6 (fun x => x); go_simp; exact rfl) ?_; simp only [Act.put, List.setIfInBounds_toArray, List.set_cons_succ, List.set_cons_zero])
              | (refine wpKL_off (by exact rfl) ?_; simp only [Act.put, List.setIfInBounds_toArray, List.set_cons_succ, List.set_cons_zero])
              | (refine wpKL_call (by exact rfl) (by as_aux_lemma => intro W; go_simp; exact ⟨rfl, rfl⟩) (by intro W hK; with_reducible first | exact HCO.out W | exact HCR.out W) ?_; simp only [Act.put, List.setIfInBounds_toArray, List.set_cons_succ, List.set_cons_zero]))
            show ∀ W, _ → wpList _ _ _ _ _ _
            intro W5 hK5
            have HK5 := Lib.hid ((HK.out.trans HK9.out).trans hK5)
            clear hK5 r0 r1 r2 r3 r4 r5 r6 o0 o1 o2 o3 o4 o5 o6 c0 c1 c2 c3 c4 c5 c6 HCO
            go_wp2_with (go_at_call 118; refine (HCV.out _).mono ?_; rintro e w6 ⟨rfl, hk6⟩; have HK6 := Lib.hid (HK5.out.trans hk6); clear hk6)
            go_roundw
            case rel => exact ⟨k + 1, by go_num, by omega, by rw [HSK.out, HM'.out], HK6.out⟩
            case measure => simp [intOf]; omega
        · have hkn : k = l.length := by omega
          subst hkn
          have hset : bitsOf f l.length = setP (l.map (fun r => pxOf (pDst r))) (pxOf (pDst r)) := by rw [HF.out]; unfold setP; rw [List.length_map]
          have HI1 := Lib.hid (HI0.out.old HK.out)
          have HT := Lib.hid (fun W (k : Kp none' wr W) => tPut W w.heap.size tb n (setP (l.map (fun r => pxOf (pDst r))) (pxOf (pDst r))) T1 (HI1.out.tab.old k) (pxOf (pDst r)) HRP.out.1 (by have := HI1.out.n_le; omega))
          have hpx : (pxOf (pDst r)).1 = (pDst r).1 := rfl
          rw [HRP.out.2, ← hset, hpx] at HT
          have HSET := Lib.hid hset
          have HBR := Lib.hid (HB7.out.kp HK.out (fun x => x))
          have r0 := HBR.out.cell 0 rfl
          have r1 := HBR.out.cell 1 rfl
          have r2 := HBR.out.cell 2 rfl
          have r3 := HBR.out.cell 3 rfl
          have r4 := HBR.out.cell 4 rfl
          have r5 := HBR.out.cell 5 rfl
          have r6 := HBR.out.cell 6 rfl
          clear hset hpx
          obtain ⟨m, hm⟩ : ∃ m, bitsOf f l.length = m := ⟨_, rfl⟩
          rw [hm] at HT HSET
          simp only [hm]
          clear hm
          go_wp2_with (first
            | (go_at_call 90; refine (HCR.out _).mono ?_; rintro e w2 ⟨rfl, hk2⟩; have HK2 := Lib.hid hk2; clear hk2)
            | (go_at_call 119; refine (HT.out _ HK2.out).mono ?_; rintro e w3 ⟨c, nb, fb, n', rfl, hn', hT', hk3⟩
               have HT3 := Lib.hid hT'; have HN3 := Lib.hid hn'; have HK3 := Lib.hid hk3; clear hT' hn' hk3))
          have hat : TreeAt (l.map (fun r => pxOf (pDst r))) (j + 1) (T1.put nb (pxOf (pDst r)) m fb) := by
            have := HI.out.at_.put (k := j) (by rw [List.length_map]; exact hlt) (by rw [HGJ.out]; exact HRP.out.1) nb fb
            rw [HGJ.out] at this
            rw [HSET.out]; exact this
          have HAT := Lib.hid hat
          have HKE : Hid (Kp none' w wr) := HI1.out.kp
          have HKF := Lib.hid ((HKE.out.trans HK2.out).then HK3.out (fun i hi e => by omega))
          clear hat
          go_roundw
          case rel => exact ⟨j + 1, n', _, by go_num, by omega, HT3.out, HAT.out, HKF.out, Nat.le_trans HN3.out (Nat.succ_le_succ HI.out.n_le)⟩
          case measure => simp [intOf]; omega
    · have hjn : j = l.length := by omega
      subst hjn
      go_wp2_with fail
      go_ret
      refine ⟨tb, T1, n, rfl, HI.out.tab, ?_, HI.out.kp⟩
      have := HI.out.at_
      have e : l.length = (l.map (fun r => pxOf (pDst r))).length := (List.length_map ..).symm
      rw [e] at this
      exact this.full
end Go.Proofs.YtfckgddodjmbdaaGreatDoor
