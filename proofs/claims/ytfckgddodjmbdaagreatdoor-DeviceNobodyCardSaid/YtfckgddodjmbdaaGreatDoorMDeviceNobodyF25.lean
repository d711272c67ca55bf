/- The prefixes of rules (their dsts) as a tree. -/
import Derived.Test.YtfckgddodjmbdaaGreatDoorMDeviceNobodyF24
import Derived.Test.YtfckgddodjmbdaaGreatDoorMDeviceNobodyF0
import Derived.Sort.AssemblyPlain
import Derived.Sort.Walk13a
import Derived.Sort.WalkA
import Derived.BigGuard
import Derived.BigCall
import Derived.CellFam
import Derived.Deep.Draws
import Derived.Deep.QuietTactic
import Derived.BigQuiet
import Derived.Test.YtfckgddodjmbdaaGreatDoorProg
import Derived.Test.YtfckgddodjmbdaaGreatDoorShelf
import Derived.Deep.LoopGhost
import Derived.Sort.WalkA14
namespace Go.Proofs.YtfckgddodjmbdaaGreatDoor
set_option linter.unusedVariables false
set_option linter.unusedSimpArgs false
open Go.RowKit
theorem pDstOk {r : RuN} (h : r.Ok) : pfOk (pDst r) := h.d
theorem px_getDst (l : List RuN) {j : Nat} (h : j < l.length) : (l.map (fun r => pxOf (pDst r))).getD j (0, 0) = pxOf (pDst l[j]) := by
  rw [getD_at _ (by simpa using h)]; simp
structure PIDst (w wr : World) (l : List RuN) (v : Value) (tb n j : Nat) (T : Tr) : Prop where
  tab : TabM wr w.heap.size tb T n
  at_ : TreeAt (l.map (fun r => pxOf (pDst r))) j T
  kp : Kp none' w wr
  n_le : n ≤ j
theorem PIDst.old {w wr w' : World} {l : List RuN} {v : Value} {tb n j : Nat} {T : Tr} (h : PIDst w wr l v tb n j T) (k : Kp none' wr w') : PIDst w w' l v tb n j T := ⟨h.tab.old k, h.at_, h.kp.trans k, h.n_le⟩
set_option maxRecDepth 100000 in
set_option maxHeartbeats 8000000 in
theorem prefixesDst (l : List RuN) (hok : ∀ r ∈ l, r.Ok) (hr : ∀ r ∈ l, rightB (pDst r).1 (pDst r).2 = true) (hn : l.length ≤ 64) (v : Value) (w : World) (h : Sl w v l.length 7 (l.flatMap enR7)) :
    Calls Tryz.prog 88 #[v, .func (.func 90) #[] #[]] w fun e w' => ∃ tb T n, e = .returned (.pointer (some ⟨tb, 0, none⟩)) ∧ TabM w' w.heap.size tb T n ∧ TreeOf (l.map (fun r => pxOf (pDst r))) T ∧ Kp none' w w' := by
  obtain ⟨ao, cap, rfl⟩ : ∃ ao cap, v = .slice ao l.length cap := by obtain ⟨ao, cap, rfl, _⟩ := h.is; exact ⟨_, _, rfl⟩
  have HS := Lib.hid h
  have HO := Lib.hid hok; have HR := Lib.hid hr
  have HNW := Lib.hid (fun W => tNew W)
  clear h hok hr
  go_enter Tryz.func88, Tryz.ntmps88
  go_wp2_with (go_at_call 117; refine (HNW.out _).mono ?_; rintro e w1 ⟨tb, T, rfl, hT, hk1, b1, hb1⟩
               have HP : Hid (PIDst w w1 l (.slice ao l.length cap) tb 0 0 T) := ⟨hT, by rw [hb1]; exact TreeAt.start _ _, hk1, Nat.le_refl _⟩
               clear hT hk1 hb1)
  go_loopw [14] (fun i wr => ∃ (j n : Nat) (T : Tr), i = .int .i64 j ∧ j ≤ l.length ∧ Hid (PIDst w wr l (.slice ao l.length cap) tb n j T)) (fun i _ => l.length - (intOf i).toNat)
  case atStart => exact ⟨0, 0, T, rfl, Nat.zero_le _, HP.out⟩
  case round =>
    clear HP
    obtain ⟨j, n, T1, rfl, hj, HI⟩ := hrel
    obtain ⟨wo, hwo⟩ : ∃ wo : World, wo = wr := ⟨_, rfl⟩
    subst hwo
    by_cases hlt : j < l.length
    · obtain ⟨g, off, cap', e1, hc⟩ := (HS.out.old HI.out.kp).at enR7_len (by decide) j hlt
      injection e1 with e1 _ e3
      subst e1 e3
      have hji : (j : Int) < l.length := by omega
      obtain ⟨r, hrr⟩ : ∃ r, l[j] = r := ⟨_, rfl⟩
      have hmem : r ∈ l := by rw [← hrr]; exact List.getElem_mem hlt
      rw [hrr] at hc
      have c0 : wo.cell? ⟨g, off + j * 7, none⟩ = some (.int .u32 r.s.1) := hc 0 _ rfl
      have c1 := hc 1 _ rfl
      have c2 := hc 2 _ rfl
      have c3 := hc 3 _ rfl
      have c4 := hc 4 _ rfl
      have c5 := hc 5 _ rfl
      have c6 := hc 6 _ rfl
      have HRR := Lib.hid hrr; have HM := Lib.hid hmem
      have hRl := (pxOf_ok (HR.out r hmem) (pDstOk (HO.out r hmem)))
      have HRP := Lib.hid hRl
      have HGJ := Lib.hid (px_getDst l (j := j) hlt |>.trans (by rw [hrr]))
      clear hc hrr hmem hRl
      go_wp2_with fail
      have hK0 : Kp none' wo (wo.alloc (.cells #[.int .u32 r.s.1, .int .i64 r.s.2, .int .u32 r.d.1, .int .i64 r.d.2, .int .u16 r.lo, .int .u16 r.hi, .int .u32 r.fl] 160)) := (Kp.refl none' wo).alloc _
      have hB7 : Blk (wo.alloc (.cells #[.int .u32 r.s.1, .int .i64 r.s.2, .int .u32 r.d.1, .int .i64 r.d.2, .int .u16 r.lo, .int .u16 r.hi, .int .u32 r.fl] 160)) wo.heap.size (enR7 r) 160 := Blk.new wo (enR7 r) _
      obtain ⟨W0, hW0⟩ : ∃ W, wo.alloc (.cells #[.int .u32 r.s.1, .int .i64 r.s.2, .int .u32 r.d.1, .int .i64 r.d.2, .int .u16 r.lo, .int .u16 r.hi, .int .u32 r.fl] 160) = W := ⟨_, rfl⟩
      obtain ⟨g7, hg7⟩ : ∃ g, wo.heap.size = g := ⟨_, rfl⟩
      rw [hW0] at hK0 hB7 ⊢
      rw [hg7] at hB7 ⊢
      have HB7 := Lib.hid hB7; have HI0 := Lib.hid (HI.out.old hK0)
      obtain ⟨f, hf⟩ : ∃ f : Nat → Bool, f = fun i => covP ((l.map (fun r => pxOf (pDst r))).getD i (0, 0)) (pxOf (pDst r)) := ⟨_, rfl⟩
      have HF := Lib.hid hf
      have HCR : Hid (∀ W, Calls Tryz.prog 90 #[.agg #[.int .u32 r.s.1, .int .i64 r.s.2, .int .u32 r.d.1, .int .i64 r.d.2, .int .u16 r.lo, .int .u16 r.hi, .int .u32 r.fl]] W fun e w' => e = .returned (.agg #[.int .u32 (pDst r).1, .int .i64 (pDst r).2]) ∧ Kp none' W w') := fun W => cDst r.s r.d r.lo r.hi r.fl W
      clear hW0 hg7 hK0 hB7 hf c0 c1 c2 c3 c4 c5 c6
      go_loopw [8, 20] (fun m i wr => ∃ k : Nat, i = .int .i64 k ∧ k ≤ l.length ∧ m = .int .u64 (bitsOf f k : Nat) ∧ Hid (Kp none' W0 wr)) (fun _ i _ => l.length - (intOf i).toNat)
      case atStart => exact ⟨0, rfl, Nat.zero_le _, rfl, Kp.refl _ _⟩
      case round =>
        obtain ⟨k, rfl, hk, rfl, HK⟩ := hrel
        by_cases hkl : k < l.length
        · obtain ⟨g, off, cap2, e1, hc⟩ := (HS.out.old (HI0.out.kp.trans HK.out)).at enR7_len (by decide) k hkl
          injection e1 with e1 _ e3
          cases e1
          subst e3
          have hki : (k : Int) < l.length := by omega
          have hk64 : k < 64 := by omega
          obtain ⟨o, ho⟩ : ∃ o, l[k] = o := ⟨_, rfl⟩
          have hom : o ∈ l := by rw [← ho]; exact List.getElem_mem hkl
          rw [ho] at hc
          have c0 : wr.cell? ⟨g, off + k * 7, none⟩ = some (.int .u32 o.s.1) := hc 0 _ rfl
          have c1 := hc 1 _ rfl
          have c2 := hc 2 _ rfl
          have c3 := hc 3 _ rfl
          have c4 := hc 4 _ rfl
          have c5 := hc 5 _ rfl
          have c6 := hc 6 _ rfl
          have HOP := Lib.hid (pxOf_ok (HR.out o hom) (pDstOk (HO.out o hom)))
          have HGK := Lib.hid (px_getDst l (j := k) hkl |>.trans (by rw [ho]))
          have hfk : f k = covB (pDst o).1 (pDst o).2 (pDst r).1 (pDst r).2 := by
            rw [HF.out]
            show covP ((l.map (fun r => pxOf (pDst r))).getD k (0, 0)) (pxOf (pDst r)) = _
            rw [HGK.out]
            unfold covP
            rw [HOP.out.2, HRP.out.2]; rfl
          have bo := pDstOk (HO.out o hom)
          have HCO : Hid (∀ W, Calls Tryz.prog 90 #[.agg #[.int .u32 o.s.1, .int .i64 o.s.2, .int .u32 o.d.1, .int .i64 o.d.2, .int .u16 o.lo, .int .u16 o.hi, .int .u32 o.fl]] W fun e w' => e = .returned (.agg #[.int .u32 (pDst o).1, .int .i64 (pDst o).2]) ∧ Kp none' W w') := fun W => cDst o.s o.d o.lo o.hi o.fl W
          have HCV := Lib.hid (fun W => aCovers (pDst o).1 (pDst r).1 (pDst o).2 (pDst r).2 W bo.1 (pDstOk (HO.out r HM.out)).1 ⟨bo.2.1, bo.2.2⟩ (pDstOk (HO.out r HM.out)).2)
          rw [← hfk] at HCV
          obtain ⟨b7, hb7⟩ : ∃ W, W = wr := ⟨_, rfl⟩
          subst hb7
          have HBR := Lib.hid (HB7.out.kp HK.out (fun x => x))
          have hk9 : Kp none' b7 (b7.alloc (.cells #[.int .u32 o.s.1, .int .i64 o.s.2, .int .u32 o.d.1, .int .i64 o.d.2, .int .u16 o.lo, .int .u16 o.hi, .int .u32 o.fl] 160)) := (Kp.refl none' b7).alloc _
          have hB9 : Blk (b7.alloc (.cells #[.int .u32 o.s.1, .int .i64 o.s.2, .int .u32 o.d.1, .int .i64 o.d.2, .int .u16 o.lo, .int .u16 o.hi, .int .u32 o.fl] 160)) b7.heap.size (enR7 o) 160 := Blk.new b7 (enR7 o) _
          have HBR9 := Lib.hid (HBR.out.kp hk9 (fun x => x))
          have HB9 := Lib.hid hB9; have HK9 := Lib.hid hk9
          have r0 := HBR9.out.cell 0 rfl
          have r1 := HBR9.out.cell 1 rfl
          have r2 := HBR9.out.cell 2 rfl
          have r3 := HBR9.out.cell 3 rfl
          have r4 := HBR9.out.cell 4 rfl
          have r5 := HBR9.out.cell 5 rfl
          have r6 := HBR9.out.cell 6 rfl
          have o0 := hB9.cell 0 rfl
          have o1 := hB9.cell 1 rfl
          have o2 := hB9.cell 2 rfl
          have o3 := hB9.cell 3 rfl
          have o4 := hB9.cell 4 rfl
          have o5 := hB9.cell 5 rfl
          have o6 := hB9.cell 6 rfl
          clear hk9 hB9 hc ho hom bo
          cases hfv : f k with
          | true =>
            have hor := bits_step hk64 hfv
            rw [hfv] at HCV
            obtain ⟨m, hm⟩ : ∃ m, bitsOf f k = m := ⟨_, rfl⟩
            obtain ⟨m', hm'⟩ : ∃ m, bitsOf f (k + 1) = m := ⟨_, rfl⟩
            rw [hm, hm'] at hor
            have HM' := Lib.hid hm'
            simp only [hm]
            clear hm hm' hfv hfk
            go_wp2_with fail
            refine wp_region_kept2 [] [0, 1, 2, 3, 4, 5] 6 (by kernel_rfl) (by kernel_rfl) (fun c a d u w h => by cases d <;> exact h) ?_
            simp only [pick, List.getElem?_cons_succ, List.getElem?_cons_zero, List.drop_succ_cons, List.drop_zero]
            show wpKL _ _ _ _ _ _
            repeat (first
              | (refine wpKL_op (by exact rfl) (by as_aux_lemma => intro W hK; have e0 := hK.cell r0 (fun x => x); have e1 := hK.cell r1 (fun x => x); have e2 := hK.cell r2 (fun x => x); have e3 := hK.cell r3 (fun x => x); have e4 := hK.cell r4 (fun x => x); have e5 := hK.cell r5 (fun x => x); have e6 := hK.cell r6 (fun x => x); have f0 := hK.cell o0 (fun x => x); have f1 := hK.cell o1 (fun x => x); have f2 := hK.cell o2 (fun x => x); have f3 := hK.cell o3 (fun x => x); have f4 := hK.cell o4 (fun x => x); have f5 := hK.cell o5 (fun x => x); have f6 := hK.cell o6 (fun x => x); go_simp; exact rfl) ?_; simp only [Act.put, List.setIfInBounds_toArray, List.set_cons_succ, List.set_cons_zero])
              | (refine wpKL_off (by exact rfl) ?_; simp only [Act.put, List.setIfInBounds_toArray, List.set_cons_succ, List.set_cons_zero])
              | (refine wpKL_call (by exact rfl) (by as_aux_lemma => intro W; go_simp; exact ⟨rfl, rfl⟩) (by intro W hK; with_reducible first | exact HCO.out W | exact HCR.out W) ?_; simp only [Act.put, List.setIfInBounds_toArray, List.set_cons_succ, List.set_cons_zero]))
            show ∀ W, _ → wpList _ _ _ _ _ _
            intro W5 hK5
            have HK5 := Lib.hid ((HK.out.trans HK9.out).trans hK5)
            clear hK5 r0 r1 r2 r3 r4 r5 r6 o0 o1 o2 o3 o4 o5 o6 c0 c1 c2 c3 c4 c5 c6 HCO
            go_wp2_with (go_at_call 118; refine (HCV.out _).mono ?_; rintro e w6 ⟨rfl, hk6⟩; have HK6 := Lib.hid (HK5.out.trans hk6); clear hk6)
            go_roundw
            case rel => exact ⟨k + 1, by go_num, by omega, by rw [HM'.out], HK6.out⟩
            case measure => simp [intOf]; omega
          | false =>
            have hsk := bits_skip hfv
            have HSK := Lib.hid hsk
            rw [hfv] at HCV
            obtain ⟨m, hm⟩ : ∃ m, bitsOf f k = m := ⟨_, rfl⟩
            have HM' := Lib.hid hm
            simp only [hm]
            clear hm hsk hfv hfk
            go_wp2_with fail
            refine wp_region_kept2 [] [0, 1, 2, 3, 4, 5] 6 (by kernel_rfl) (by kernel_rfl) (fun c a d u w h => by cases d <;> exact h) ?_
            simp only [pick, List.getElem?_cons_succ, List.getElem?_cons_zero, List.drop_succ_cons, List.drop_zero]
            show wpKL _ _ _ _ _ _
            repeat (first
              | (refine wpKL_op (by exact rfl) (by as_aux_lemma => intro W hK; have e0 := hK.cell r0 (fun x => x); have e1 := hK.cell r1 (fun x => x); have e2 := hK.cell r2 (fun x => x); have e3 := hK.cell r3 (fun x => x); have e4 := hK.cell r4 (fun x => x); have e5 := hK.cell r5 (fun x => x); have e6 := hK.cell r6 (fun x => x); have f0 := hK.cell o0 (fun x => x); have f1 := hK.cell o1 (fun x => x); have f2 := hK.cell o2 (fun x => x); have f3 := hK.cell o3 (fun x => x); have f4 := hK.cell o4 (fun x => x); have f5 := hK.cell o5 (fun x => x); have f6 := hK.cell o6 (fun x => x); go_simp; exact rfl) ?_; simp only [Act.put, List.setIfInBounds_toArray, List.set_cons_succ, List.set_cons_zero])
              | (refine wpKL_off (by exact rfl) ?_; simp only [Act.put, List.setIfInBounds_toArray, List.set_cons_succ, List.set_cons_zero])
              | (refine wpKL_call (by exact rfl) (by as_aux_lemma => intro W; go_simp; exact ⟨rfl, rfl⟩) (by intro W hK; with_reducible first | exact HCO.out W | exact HCR.out W) ?_; simp only [Act.put, List.setIfInBounds_toArray, List.set_cons_succ, List.set_cons_zero]))
            show ∀ W, _ → wpList _ _ _ _ _ _
            intro W5 hK5
            have HK5 := Lib.hid ((HK.out.trans HK9.out).trans hK5)
            clear hK5 r0 r1 r2 r3 r4 r5 r6 o0 o1 o2 o3 o4 o5 o6 c0 c1 c2 c3 c4 c5 c6 HCO
            go_wp2_with (go_at_call 118; refine (HCV.out _).mono ?_; rintro e w6 ⟨rfl, hk6⟩; have HK6 := Lib.hid (HK5.out.trans hk6); clear hk6)
            go_roundw
            case rel => exact ⟨k + 1, by go_num, by omega, by rw [HSK.out, HM'.out], HK6.out⟩
            case measure => simp [intOf]; omega
        · have hkn : k = l.length := by omega
          subst hkn
          have hset : bitsOf f l.length = setP (l.map (fun r => pxOf (pDst r))) (pxOf (pDst r)) := by rw [HF.out]; unfold setP; rw [List.length_map]
          have HI1 := Lib.hid (HI0.out.old HK.out)
          have HT := Lib.hid (fun W (k : Kp none' wr W) => tPut W w.heap.size tb n (setP (l.map (fun r => pxOf (pDst r))) (pxOf (pDst r))) T1 (HI1.out.tab.old k) (pxOf (pDst r)) HRP.out.1 (by have := HI1.out.n_le; omega))
          have hpx : (pxOf (pDst r)).1 = (pDst r).1 := rfl
          rw [HRP.out.2, ← hset, hpx] at HT
          have HSET := Lib.hid hset
          have HBR := Lib.hid (HB7.out.kp HK.out (fun x => x))
          have r0 := HBR.out.cell 0 rfl
          have r1 := HBR.out.cell 1 rfl
          have r2 := HBR.out.cell 2 rfl
          have r3 := HBR.out.cell 3 rfl
          have r4 := HBR.out.cell 4 rfl
          have r5 := HBR.out.cell 5 rfl
          have r6 := HBR.out.cell 6 rfl
          clear hset hpx
          obtain ⟨m, hm⟩ : ∃ m, bitsOf f l.length = m := ⟨_, rfl⟩
          rw [hm] at HT HSET
          simp only [hm]
          clear hm
          go_wp2_with (first
            | (go_at_call 90; refine (HCR.out _).mono ?_; rintro e w2 ⟨rfl, hk2⟩; have HK2 := Lib.hid hk2; clear hk2)
            | (go_at_call 119; refine (HT.out _ HK2.out).mono ?_; rintro e w3 ⟨c, nb, fb, n', rfl, hn', hT', hk3⟩
               have HT3 := Lib.hid hT'; have HN3 := Lib.hid hn'; have HK3 := Lib.hid hk3; clear hT' hn' hk3))
          have hat : TreeAt (l.map (fun r => pxOf (pDst r))) (j + 1) (T1.put nb (pxOf (pDst r)) m fb) := by
            have := HI.out.at_.put (k := j) (by rw [List.length_map]; exact hlt) (by rw [HGJ.out]; exact HRP.out.1) nb fb
            rw [HGJ.out] at this
            rw [HSET.out]; exact this
          have HAT := Lib.hid hat
          have HKE : Hid (Kp none' w wr) := HI1.out.kp
          have HKF := Lib.hid ((HKE.out.trans HK2.out).then HK3.out (fun i hi e => by omega))
          clear hat
          go_roundw
          case rel => exact ⟨j + 1, n', _, by go_num, by omega, HT3.out, HAT.out, HKF.out, Nat.le_trans HN3.out (Nat.succ_le_succ HI.out.n_le)⟩
          case measure => simp [intOf]; omega
    · have hjn : j = l.length := by omega
      subst hjn
      go_wp2_with fail
      go_ret
      refine ⟨tb, T1, n, rfl, HI.out.tab, ?_, HI.out.kp⟩
      have := HI.out.at_
      have e : l.length = (l.map (fun r => pxOf (pDst r))).length := (List.length_map ..).symm
      rw [e] at this
      exact this.full
end Go.Proofs.YtfckgddodjmbdaaGreatDoor

namespace Go.Proofs.YtfckgddodjmbdaaGreatDoor.sortUint16
set_option linter.unusedVariables false
set_option linter.unusedSimpArgs false
open Go.RowKit Go.Sort Go.Proofs.YtfckgddodjmbdaaGreatDoor
abbrev en (x : Nat) : Value := .int .u16 x
def ltn (x y : Nat) : Bool := decide (x < y)
theorem ltn_swo : SWO ltn := ⟨fun x => by simp [ltn], fun x y z => by simp only [ltn, decide_eq_true_eq]; omega, fun x y z => by simp only [ltn, decide_eq_false_iff_not]; omega⟩
set_option maxHeartbeats 1000000 in
theorem isNaN (x : Nat) (w : World) : Calls Tryz.prog 161 #[en x] w fun e w' => e = .returned (.bool false) ∧ w' = w := by
  go_enter Tryz.func161, Tryz.ntmps161
  go_wp2
  go_ret
  exact ⟨by simp, rfl⟩
set_option maxHeartbeats 1000000 in
theorem less (x y : Nat) (w : World) : Calls Tryz.prog 151 #[en x, en y] w fun e w' => e = .returned (.bool (ltn x y)) ∧ w' = w := by
  go_enter Tryz.func151, Tryz.ntmps151
  go_wp2_with (go_at_call 161; refine (isNaN _ _).mono ?_; rintro e w' ⟨rfl, rfl⟩)
  go_ret
  exact ⟨rfl, rfl⟩
def intO : Value → Int | .int _ q => q | _ => 0
set_option maxRecDepth 100000 in
set_option maxHeartbeats 8000000 in
theorem insertion (blk off cap a b : Nat) (d : Array Nat) (w : World) (hH : Holds en w blk off d) (hab : a ≤ b) (hb : b ≤ d.size) (hsz : d.size < 4611686018427387904) :
    Calls Tryz.prog 145 #[.slice (some ⟨blk, off, none⟩) d.size cap, .int .i64 a, .int .i64 b] w fun e w' => e = .returned (.tuple #[]) ∧ ∃ n, w' = putRow en (Sort.ahead w n) blk off (Sort.insertionSort ltn d a b) := by
  go_enter Tryz.func145, Tryz.ntmps145
  go_wp2
  go_loopw [6] (fun vi wr => ∃ (i n : Nat) (D : Array Nat), vi = .int .i64 i ∧ a < i ∧ i ≤ b + 1 ∧ D.size = d.size ∧ wr = putRow en (Sort.ahead w n) blk off D ∧ Hid (insOuter ltn a b i D = insOuter ltn a b (a + 1) d)) (fun vi _ => b + 1 - (intO vi).toNat)
  case atStart => exact ⟨a + 1, 0, d, by go_num, by omega, by omega, rfl, (putRow_self _ _ _ _ _ hH).symm, rfl⟩
  case round =>
    obtain ⟨i, n, D, rfl, hai, hib, hDs, hwr, hO⟩ := hrel
    go_wp2
    · have hlt : i < b := by assumption
      go_loopw [7] (fun vj wr2 => ∃ (j m : Nat) (E : Array Nat), vj = .int .i64 j ∧ a ≤ j ∧ j ≤ i ∧ E.size = d.size ∧ wr2 = putRow en (Sort.ahead w m) blk off E ∧ Hid (insInner ltn a j E = insInner ltn a i D)) (fun vj _ => (intO vj).toNat)
      case atStart => exact ⟨i, n, D, rfl, by omega, Nat.le_refl _, hDs, rfl, rfl⟩
      case round =>
        obtain ⟨j, m, E, rfl, haj, hji, hEs, hw2, hI⟩ := hrel
        obtain ⟨G, hG⟩ : ∃ G : Nat → Nat, ∀ t, G t = E[t]! := ⟨fun t => E[t]!, fun _ => rfl⟩
        have hcw : ∀ t, t < d.size → wr.cell? ⟨blk, off + t, none⟩ = some (en (G t)) := fun t ht => by
          rw [hw2, hG]; exact cell?_putRow _ _ _ _ d E (holds_ahead _ _ _ _ _ _ hH) hEs t (by omega)
        have hfw : ∀ t, t < d.size → wr.frozen? ⟨blk, off + t, none⟩ = false := fun t ht => by
          rw [hw2, frozen?_putRow]; exact ((holds_ahead _ _ m _ _ _ hH) t ht).2
        have HW := Lib.hid hw2
        have HG := Lib.hid hG
        clear hw2 hG hH hwr
        have out : (j ≤ a ∨ ltn E[j]! E[j - 1]! = false) → ∀ q, ∃ i' n' E', Value.int .i64 ((i : Int) + 1) = .int .i64 (i' : Nat) ∧ a < i' ∧ i' ≤ b + 1 ∧ E'.size = d.size ∧
            wr.drewN q = putRow en (Sort.ahead w n') blk off E' ∧ Hid (insOuter ltn a b i' E' = insOuter ltn a b (a + 1) d) := fun hs q =>
          ⟨i + 1, m + q, E, by go_num, by omega, by omega, hEs, by rw [HW.out]; exact putRow_drewN _ _ _ _ _ _ _,
            by show _ = _; rw [← hO.out, insOuter_go _ _ _ _ _ hlt, ← hI.out, insInner_stop _ _ _ _ hs]⟩
        have OUT := Lib.hid out
        clear out
        go_wp2
        by_cases hja : a < j
        · go_quiet (first | (go_at_call 151; refine Calls.quiet_of_same (less _ _ _)))
          go_wp2
          · have hl : ltn (G j) (G (j - 1)) = true := by assumption
            go_region
            all_goals go_wp2
            go_roundw
            case rel =>
              refine ⟨j - 1, m + (nq + 1), Sort.swp E j (j - 1), by congr 1; omega, by omega, by omega, by rw [size_swp]; exact hEs, ?_, ?_⟩
              · rw [HW.out, HG.out, HG.out]
                exact swap_worldA _ w m (nq + 1) blk off E j (j - 1) (by omega) (by omega)
              · show _ = _; rw [← hI.out, insInner_go ltn a j E hja (by rw [← HG.out, ← HG.out]; exact hl)]
            case measure => simp [intO]; omega
          · have hl : ltn (G j) (G (j - 1)) = false := by assumption
            go_roundw
            case rel => exact OUT.out (Or.inr (by rw [← HG.out, ← HG.out]; exact hl)) nq
            case measure => simp [intO]; omega
        · go_quiet (first | (go_at_call 151; refine Calls.quiet_of_same (less _ _ _)))
          go_wp2
          go_roundw
          case rel => exact OUT.out (Or.inl (by omega)) nq
          case measure => simp [intO]; omega
    · have hge : ¬ i < b := by assumption
      go_end0
      exact ⟨rfl, n, by unfold Sort.insertionSort; rw [← hO.out, insOuter_stop _ _ _ _ _ hge]⟩
end Go.Proofs.YtfckgddodjmbdaaGreatDoor.sortUint16
namespace Go.Proofs.YtfckgddodjmbdaaGreatDoor.sortUint16
set_option linter.unusedVariables false
set_option linter.unusedSimpArgs false
open Go.RowKit Go.Sort Go.Proofs.YtfckgddodjmbdaaGreatDoor
set_option maxRecDepth 100000 in
set_option maxHeartbeats 8000000 in
theorem pdqSmall (blk off cap a b limit : Nat) (d : Array Nat) (w : World) (hH : Holds en w blk off d) (hab : a ≤ b) (hb : b ≤ d.size) (hsz : d.size < 4611686018427387904) (h12 : b - a ≤ 12) :
    Calls Tryz.prog 138 #[.slice (some ⟨blk, off, none⟩) d.size cap, .int .i64 a, .int .i64 b, .int .i64 limit] w fun e w' => e = .returned (.tuple #[]) ∧ ∃ n, w' = putRow en (Sort.ahead w n) blk off (pdq ltn d a b limit true true) := by
  rw [pdq_small h12]
  have hi := Lib.hid (insertion blk off cap a b d w hH hab hb hsz)
  have h12z : (b : Int) - (a : Int) ≤ 12 := by omega
  clear hH
  go_enter Tryz.func138, Tryz.ntmps138
  go_wp2
  go_loopg [1, 2, 3, 8, 9] 0 (fun k s1 s2 s3 s8 s9 wr => s1 = .int .i64 a ∧ s2 = .int .i64 b ∧ wr = w)
  case atStart => exact ⟨rfl, rfl, rfl⟩
  case round =>
    obtain ⟨rfl, rfl, rfl⟩ := hrel
    go_wp2_with (go_at_call 145; refine hi.out.mono ?_; rintro e w1 ⟨rfl, hw1⟩)
    (try simp only [Exit.inBlock, Exit.then]); refine bodyPost_ret (results_none rfl _ _ _) rfl ?_
    exact ⟨rfl, hw1⟩
end Go.Proofs.YtfckgddodjmbdaaGreatDoor.sortUint16
namespace Go.Proofs.YtfckgddodjmbdaaGreatDoor.sortUint16
set_option linter.unusedVariables false
set_option linter.unusedSimpArgs false
open Go.RowKit Go.Sort Go.Proofs.YtfckgddodjmbdaaGreatDoor
theorem heap_putRow (w : World) (blk off : Nat) (d : Array Nat) : (putRow en w blk off d).heap[blk]? = (w.heap[blk]?).map (onCells (putCells en off d)) := by
  simp [putRow, mapBlock, Array.getElem?_modify]
theorem holds_block {w w' : World} {blk off : Nat} {d : Array Nat} (h : Holds en w blk off d) (e : w'.heap[blk]? = w.heap[blk]?) : Holds en w' blk off d := by
  intro j hj
  obtain ⟨h1, h2⟩ := h j hj
  exact ⟨by simp only [World.cell?] at h1 ⊢; rw [e]; exact h1, by simp only [World.frozen?] at h2 ⊢; rw [e]; exact h2⟩
structure Rw (w : World) (blk off : Nat) (d : Array Nat) (W : World) : Prop where
  lt : blk < w.heap.size
  row : W.heap[blk]? = (putRow en w blk off d).heap[blk]?
  kp : Kp (fun b => b = blk) w W
theorem Rw.refl {w : World} {blk off : Nat} {d : Array Nat} (h : Holds en w blk off d) (hb : blk < w.heap.size) : Rw w blk off d w :=
  ⟨hb, by rw [putRow_self _ _ _ _ _ h], Kp.refl _ _⟩
theorem Rw.old {w W W' : World} {blk off : Nat} {d : Array Nat} (h : Rw w blk off d W) (k : Kp none' W W') : Rw w blk off d W' :=
  ⟨h.lt, (k.block blk (Nat.lt_of_lt_of_le h.lt h.kp.size) id).trans h.row, h.kp.then k (fun _ _ x => x.elim)⟩
theorem Rw.holds {w W : World} {blk off : Nat} {d d0 : Array Nat} (h : Rw w blk off d W) (h0 : Holds en w blk off d0) (hs : d.size = d0.size) : Holds en W blk off d :=
  holds_block (holds_putRow en w blk off d0 d h0 hs) h.row
theorem Rw.blk {w W : World} {blk off : Nat} {d : Array Nat} (h : Rw w blk off d W) : blk < W.heap.size := Nat.lt_of_lt_of_le h.lt h.kp.size
theorem kp_putRow (w : World) (blk off n : Nat) (d : Array Nat) : Kp (fun b => b = blk) w (putRow en (Sort.ahead w n) blk off d) := by
  refine ⟨rfl, rfl, rfl, by simp [putRow, mapBlock, Sort.ahead], fun k hk hne => ?_⟩
  have : blk ≠ k := fun e => hne e.symm
  simp [putRow, mapBlock, Sort.ahead, Array.getElem?_modify, this]
theorem Rw.put {w W W' : World} {blk off : Nat} {d d' : Array Nat} (h : Rw w blk off d W) (hs : d'.size = d.size) (e : ∃ n, W' = putRow en (Sort.ahead W n) blk off d') : Rw w blk off d' W' := by
  obtain ⟨n, rfl⟩ := e
  refine ⟨h.lt, ?_, h.kp.then (kp_putRow W blk off n d') (fun i _ x => x)⟩
  have e1 : (putRow en (Sort.ahead W n) blk off d').heap[blk]? = (W.heap[blk]?).map (onCells (putCells en off d')) := heap_putRow _ _ _ _
  have e2 : (putRow en (putRow en w blk off d) blk off d').heap[blk]? = ((putRow en w blk off d).heap[blk]?).map (onCells (putCells en off d')) := heap_putRow _ _ _ _
  rw [e1, h.row, ← e2]
  have := putRow_ahead_putRow en w 0 0 blk off d d' hs
  rw [ahead_zero, ahead_zero] at this
  rw [this]
theorem Rw.trans {w W W' : World} {blk off : Nat} {d d' : Array Nat} (h : Rw w blk off d W) (hs : d'.size = d.size) (k : Rw W blk off d' W') : Rw w blk off d' W' := by
  refine ⟨h.lt, ?_, h.kp.then k.kp (fun i _ x => x)⟩
  have := (h.put hs ⟨0, rfl⟩).row
  rw [ahead_zero] at this
  rw [k.row, this]
end Go.Proofs.YtfckgddodjmbdaaGreatDoor.sortUint16
namespace Go.Proofs.YtfckgddodjmbdaaGreatDoor.sortUint16
set_option linter.unusedVariables false
set_option linter.unusedSimpArgs false
open Go.RowKit Go.Sort Go.Proofs.YtfckgddodjmbdaaGreatDoor
theorem holdsRow {w : World} {g : Nat} {cur : Array Value} {e : TypeId} {xs : List Nat} (hb : w.heap[g]? = some (.cells cur e (0, 0))) (ht : cur.toList.take xs.length = xs.map en) : Holds en w g 0 xs.toArray := by
  intro j hj
  have hj' : j < xs.length := by simpa using hj
  refine ⟨?_, by simp [World.frozen?, hb]⟩
  have h1 : (cur.toList.take xs.length)[j]? = (xs.map en)[j]? := by rw [ht]
  rw [List.getElem?_take_of_lt hj'] at h1
  simp only [World.cell?, hb, Nat.zero_add, Option.isSome_none, Bool.false_eq_true, if_false]
  rw [← Array.getElem?_toList, h1]
  simp [hj']
theorem rowBlock {w w' : World} {g : Nat} {d : Array Nat} {cur : Array Value} {e : TypeId} {fr : Nat × Nat} (h : Rw w g 0 d w') (hb : w.heap[g]? = some (.cells cur e fr)) : w'.heap[g]? = some (.cells (putCells en 0 d cur) e fr) := by
  rw [h.row, heap_putRow, hb]; rfl
theorem takeRow (cur : Array Value) (ts : List Nat) (h : ts.length ≤ cur.size) : (putCells en 0 ts.toArray cur).toList.take ts.length = ts.map en := by
  apply List.ext_getElem?
  intro j
  by_cases hj : j < ts.length
  · rw [List.getElem?_take_of_lt hj, Array.getElem?_toList]
    simp [putCells, hj, show j < cur.size by omega]
  · rw [List.getElem?_take_eq_none (by omega), List.getElem?_eq_none (by simp; omega)]
structure Rising (xs ys : List Nat) : Prop where
  perm : ys.Perm xs
  up : ys.Pairwise (· ≤ ·)
theorem pdq_rises (xs : List Nat) (lim : Nat) : Rising xs (pdq ltn xs.toArray 0 xs.length lim true true).toList := by
  obtain ⟨h1, h2⟩ := pdq_sorts ltn ltn_swo xs.toArray 0 xs.length lim true true (Nat.zero_le _) (by simp) (.inl rfl)
  have hs : (pdq ltn xs.toArray 0 xs.length lim true true).size = xs.length := by simpa using h1.1
  refine ⟨?_, ?_⟩
  · have := h1.2.2
    rw [Array.extract_eq_self_of_le (by omega)] at this
    simpa using this
  · rw [List.pairwise_iff_getElem]
    intro i j hi hj hij
    simp only [Array.length_toList] at hi hj
    have := h2 i j (Nat.zero_le _) hij (by omega)
    rw [getElem!_pos (pdq ltn xs.toArray 0 xs.length lim true true) i hi, getElem!_pos (pdq ltn xs.toArray 0 xs.length lim true true) j hj] at this
    simp only [ltn, decide_eq_false_iff_not] at this
    simp only [Array.getElem_toList]
    omega
def PdqAt (most : Nat) : Prop := ∀ (blk cap limit : Nat) (d : Array Nat) (w : World), Holds en w blk 0 d → blk < w.heap.size → d.size ≤ most → limit < 4611686018427387904 →
    Calls Tryz.prog 138 #[.slice (some ⟨blk, 0, none⟩) d.size cap, .int .i64 0, .int .i64 d.size, .int .i64 limit] w fun e w' => e = .returned (.tuple #[]) ∧ Rw w blk 0 (pdq ltn d 0 d.size limit true true) w'
theorem pdqAt12 : PdqAt 12 := fun blk cap limit d w hH hb hs _ => by
  have := pdqSmall blk 0 cap 0 d.size limit d w hH (Nat.zero_le _) (Nat.le_refl _) (by omega) (by omega)
  refine Calls.mono this fun e w' h => ⟨h.1, (Rw.refl hH hb).put ?_ h.2⟩
  exact (pdq_sorts ltn ltn_swo d 0 d.size limit true true (Nat.zero_le _) (Nat.le_refl _) (.inl rfl)).1.1
theorem bitLen_lt (n : Nat) (h : n < 4611686018427387904) : Lib.bitLen n < 4611686018427387904 := by
  rw [bitLen_eq n (by omega)]
  have := (bitsLen_le_iff n 62).2 (by omega)
  omega
set_option maxRecDepth 100000 in
set_option maxHeartbeats 4000000 in
theorem sortNone (w : World) : Calls Tryz.prog 120 #[.slice none 0 0] w fun e w' => e = .returned (.tuple #[]) ∧ w' = w := by
  have hl := Lib.hid (Tryz.bits_Len 0 w (by omega) (by omega))
  have hi : Calls Tryz.prog 145 #[.slice none 0 0, .int .i64 0, .int .i64 0] w fun e w' => e = .returned (.tuple #[]) ∧ w' = w := by
    go_enter Tryz.func145, Tryz.ntmps145
    go_wp2
    go_loopw [6] (fun vi wr => vi = .int .i64 1 ∧ wr = w) (fun _ _ => 0)
    case atStart => exact ⟨rfl, rfl⟩
    case round =>
      obtain ⟨rfl, rfl⟩ := hrel
      go_wp2
      go_end0
      exact ⟨rfl, rfl⟩
  have HI := Lib.hid hi
  have hp : Calls Tryz.prog 138 #[.slice none 0 0, .int .i64 0, .int .i64 0, .int .i64 (Lib.bitLen (Int.toNat 0) : Nat)] w fun e w' => e = .returned (.tuple #[]) ∧ w' = w := by
    clear hi
    go_enter Tryz.func138, Tryz.ntmps138
    go_wp2
    go_loopg [1, 2, 3, 8, 9] 0 (fun k s1 s2 s3 s8 s9 wr => s1 = .int .i64 0 ∧ s2 = .int .i64 0 ∧ wr = w)
    case atStart => exact ⟨rfl, rfl, rfl⟩
    case round =>
      obtain ⟨rfl, rfl, rfl⟩ := hrel
      go_wp2_with (go_at_call 145; refine HI.out.mono ?_; rintro e w1 ⟨rfl, hw1⟩)
      (try simp only [Exit.inBlock, Exit.then]); refine bodyPost_ret (results_none rfl _ _ _) rfl ?_
      exact ⟨rfl, by first | exact hw1 | rfl⟩
  have HP := Lib.hid hp
  clear hi hp HI
  go_enter Tryz.func120, Tryz.ntmps120
  go_wp2_with (first | (go_at_call 139; refine hl.out.mono ?_; rintro e w' ⟨rfl, rfl⟩) | (go_at_call 138; refine HP.out.mono ?_; rintro e w' ⟨rfl, rfl⟩))
  go_end0
  exact ⟨rfl, rfl⟩
set_option maxRecDepth 100000 in
set_option maxHeartbeats 4000000 in
theorem sortOf {most : Nat} (HP0 : PdqAt most) (hmost : most < 4611686018427387904) (w : World) (base : Nat) (e0 : TypeId) (v : Value) (xs : List Nat) (own : w.ownsRow base e0 1 v xs.length (xs.map en)) (hm : xs.length ≤ most) :
    Calls Tryz.prog 120 #[v] w fun e w' => e = .returned (.tuple #[]) ∧ ∃ ys, Rising xs ys ∧ w'.ownsRow base e0 1 v ys.length (ys.map en) ∧ Kp (fun b => v.ownBlock = some b) w w' := by
  rcases own.2 with ⟨rfl, hn⟩ | ⟨g, cap, cur, rfl, hg, hb, h1, h2, h3, h4⟩
  · have hx : xs = [] := List.eq_nil_of_length_eq_zero hn
    subst hx
    refine (sortNone w).mono fun e w' h => ⟨h.1, [], ⟨List.Perm.refl _, List.Pairwise.nil⟩, ?_, ?_⟩
    · rw [h.2]; exact own
    · rw [h.2]; exact Kp.refl _ _
  · rw [Nat.mul_one] at h3 h4
    have hH := holdsRow hb h4
    have hsz : xs.toArray.size = xs.length := by simp
    have hl := Lib.hid (Tryz.bits_Len (xs.length : Nat) w (by omega) (by omega))
    have hp := fun lim (hlim : lim < 4611686018427387904) => HP0 g cap lim xs.toArray w hH (Array.getElem?_eq_some_iff.1 hb).1 (by omega) hlim
    rw [hsz] at hp
    rw [Int.toNat_natCast] at hl
    have HP := Lib.hid (hp _ (bitLen_lt xs.length (by omega)))
    clear hp HP0 own hH
    go_enter Tryz.func120, Tryz.ntmps120
    go_wp2_with (first | (go_at_call 139; refine hl.out.mono ?_; rintro e w' ⟨rfl, rfl⟩) | (go_at_call 138; refine HP.out.mono ?_; rintro e w2 ⟨rfl, hAt⟩))
    go_end0
    have hr := pdq_rises xs (Lib.bitLen xs.length)
    have hyl := hr.perm.length_eq
    refine ⟨rfl, _, hr, ?_, ?_⟩
    · refine ⟨by simp, .inr ⟨g, cap, _, by rw [hyl], hg, rowBlock hAt hb, by omega, h2, by simp [putCells, h3], ?_⟩⟩
      rw [Nat.mul_one]
      exact takeRow cur _ (by omega)
    · refine hAt.kp.mono fun b _ hbg => ?_
      subst hbg; rfl
end Go.Proofs.YtfckgddodjmbdaaGreatDoor.sortUint16
