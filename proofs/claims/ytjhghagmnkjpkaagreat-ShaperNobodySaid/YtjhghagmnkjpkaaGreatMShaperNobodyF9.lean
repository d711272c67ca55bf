/- Rings (layer 6): At, Head, Take. -/
import Derived.Test.YtjhghagmnkjpkaaGreatMShaperNobodyF8
import Derived.Lib.SliceRun
namespace Go.Proofs.YtjhghagmnkjpkaaGreat
set_option linter.unusedVariables false
set_option linter.unusedSimpArgs false
open Go Go.RowKit Go.Shelf

set_option maxRecDepth 100000 in
set_option maxHeartbeats 2000000 in
theorem rgAtNo (p : Option Addr) (w : World) (HL : ∀ W, Kp none' w W → Calls Tryz.prog 100 #[.pointer p] W fun e w' => e = .returned (.int .i64 0) ∧ W = w') : Calls Tryz.prog 101 #[.pointer p, .int .i64 0] w fun e w' => e = .returned (.tuple #[.agg (enI zIt).toArray, .bool false]) ∧ Kp none' w w' := by
  have HL := Lib.hid HL
  show Calls _ _ _ _ fun e w' => e = .returned (.tuple #[.agg #[.int .u64 0, .int .u32 0, .int .u32 0, .int .u64 0], .bool false]) ∧ Kp none' w w'
  have HB4 := Lib.hid ((Blk.new w [.int .u64 0, .int .u32 0, .int .u32 0, .int .u64 0] 75).alloc (.cells #[.int .u64 0, .int .u32 0, .int .u32 0, .int .u64 0] 75))
  have hB6 := Blk.new (w.alloc (.cells #[.int .u64 0, .int .u32 0, .int .u32 0, .int .u64 0] 75)) [.int .u64 0, .int .u32 0, .int .u32 0, .int .u64 0] 75
  rw [World.size_alloc] at hB6
  have HB6 := Lib.hid hB6
  have HK1 := Lib.hid (((Kp.refl none' w).alloc (.cells #[.int .u64 0, .int .u32 0, .int .u32 0, .int .u64 0] 75)).alloc (.cells #[.int .u64 0, .int .u32 0, .int .u32 0, .int .u64 0] 75))
  clear hB6
  go_enter Tryz.func101, Tryz.ntmps101
  go_wp2_with fail
  refine (HL.out _ HK1.out).mono ?_
  rintro e w1 ⟨rfl, rfl⟩
  have x0 := HB6.out.cell 0 rfl
  have x1 := HB6.out.cell 1 rfl
  have x2 := HB6.out.cell 2 rfl
  have x3 := HB6.out.cell 3 rfl
  have y0 := HB4.out.cell 0 rfl
  have y1 := HB4.out.cell 1 rfl
  have y2 := HB4.out.cell 2 rfl
  have y3 := HB4.out.cell 3 rfl
  have yf := fun j => HB4.out.fz j
  go_wp2_with fail
  exact ret_row2 (by exact rfl) HB4.out _ Tryz.underlying75 rfl (infoIt zIt) (by exact rfl) ⟨rfl, HK1.out⟩
set_option maxHeartbeats 400000 in
theorem rgLenNil (w : World) : Calls Tryz.prog 100 #[.pointer none] w fun e w' => e = .returned (.int .i64 0) ∧ w = w' := by
  go_enter Tryz.func100, Tryz.ntmps100
  go_wp2
  go_ret
  exact ⟨rfl, rfl⟩
set_option maxRecDepth 100000 in
set_option maxHeartbeats 2000000 in
theorem rgAtSome {w : World} {F : Nat → Prop} {rb room : Nat} {q : It} {Q : List It} (h : Rg w F rb room (q :: Q)) : Calls Tryz.prog 101 #[.pointer (some ⟨rb, 0, none⟩), .int .i64 0] w fun e w' => e = .returned (.tuple #[.agg (enI q).toArray, .bool true]) ∧ Kp none' w w' := by
  obtain ⟨v, S, fr, n, rfl, hm, ok, hroom⟩ := h
  have hn0 : 0 < n := by have := ok.len; rw [List.length_cons] at this; omega
  have hni : (0 : Int) < n := by omega
  have hSn := ok.n_le
  have hfr := ok.frlt (by omega)
  have hfit := ok.fits
  have hg := (ok.take zIt).1
  have e0 : slN S.length fr 0 = fr := by unfold slN; rw [if_pos (by omega)]; omega
  have HL := Lib.hid (fun W (k : Kp none' w W) => rgLen (hm.old k))
  have hsl0 := fun W (k : Kp none' w W) => rgSlot (hm.old k) hfr (by omega) 0 (by omega)
  rw [e0] at hsl0
  have hsl : ∀ W, Kp none' w W → Calls Tryz.prog 102 #[.pointer (some ⟨rb, 0, none⟩), .int .i64 0] W fun e w' => e = .returned (.int .i64 fr) ∧ Kp none' W w' := hsl0
  have HSL := Lib.hid hsl
  obtain ⟨g, cap, rfl, _⟩ := own_shape1 hm.row (by omega)
  have HLD := Lib.hid (it_load hm.row fr q hg)
  have c0 := hm.top.cell 0 rfl
  have hfi : (fr : Int) < S.length := by omega
  have HX := Lib.hid hm
  clear hsl hsl0 e0 hg hm ok
  generalize S.length = N at *
  have HB4 := Lib.hid ((Blk.new w [.int .u64 0, .int .u32 0, .int .u32 0, .int .u64 0] 75).alloc (.cells #[.int .u64 0, .int .u32 0, .int .u32 0, .int .u64 0] 75))
  have hB6 := Blk.new (w.alloc (.cells #[.int .u64 0, .int .u32 0, .int .u32 0, .int .u64 0] 75)) [.int .u64 0, .int .u32 0, .int .u32 0, .int .u64 0] 75
  rw [World.size_alloc] at hB6
  have HB6 := Lib.hid hB6
  have HK1 := Lib.hid (((Kp.refl none' w).alloc (.cells #[.int .u64 0, .int .u32 0, .int .u32 0, .int .u64 0] 75)).alloc (.cells #[.int .u64 0, .int .u32 0, .int .u32 0, .int .u64 0] 75))
  clear hB6
  go_enter Tryz.func101, Tryz.ntmps101
  go_wp2_with fail
  obtain ⟨W1, hW1⟩ : ∃ W1, (w.alloc (.cells #[.int .u64 0, .int .u32 0, .int .u32 0, .int .u64 0] 75)).alloc (.cells #[.int .u64 0, .int .u32 0, .int .u32 0, .int .u64 0] 75) = W1 := ⟨_, rfl⟩
  rw [hW1] at HB4 HB6 HK1
  simp only [List.toArray] at hW1
  change Calls _ _ _ ((w.alloc (.cells #[.int .u64 0, .int .u32 0, .int .u32 0, .int .u64 0] 75)).alloc (.cells #[.int .u64 0, .int .u32 0, .int .u32 0, .int .u64 0] 75)) _
  rw [hW1]
  clear hW1
  refine (HL.out W1 HK1.out).mono ?_
  rintro e w1 ⟨rfl, rfl⟩
  have d0 := HK1.out.cell c0 (fun x => x)
  clear c0
  go_wp2_with fail
  refine wp_region_kept2 [] [0, 1, 2, 3, 4, 5, 6, 7, 8] 9 (by kernel_rfl) (by kernel_rfl) (fun c a d u w h => by cases d <;> exact h) ?_
  simp only [pick, List.getElem?_cons_succ, List.getElem?_cons_zero, List.drop_succ_cons, List.drop_zero]
  show wpKL _ _ _ _ _ _
  repeat (first
    | (refine wpKL_op (by exact rfl) (load_at rfl rfl (fun W k => HLD.out W (HK1.out.trans k))) ?_; simp only [Act.put, List.setIfInBounds_toArray, List.set_cons_succ, List.set_cons_zero])
    | (refine wpKL_op (by exact rfl) (by as_aux_lemma => intro W hK; have e0 := hK.cell d0 (fun x => x); go_simp; exact rfl) ?_; simp only [Act.put, List.setIfInBounds_toArray, List.set_cons_succ, List.set_cons_zero])
    | (refine wpKL_off (by exact rfl) ?_; simp only [Act.put, List.setIfInBounds_toArray, List.set_cons_succ, List.set_cons_zero])
    | (refine wpKL_call (by exact rfl) (by as_aux_lemma => intro W; go_simp; exact ⟨rfl, rfl⟩) (by intro W hK; with_reducible first | exact HSL.out W (HK1.out.trans hK)) ?_; simp only [Act.put, List.setIfInBounds_toArray, List.set_cons_succ, List.set_cons_zero]))
  show ∀ W, _ → wpList _ _ _ _ _ _
  intro W3 hK3
  have HB4' := Lib.hid (HB4.out.kp hK3 (fun x => x))
  have HK3 := Lib.hid (HK1.out.trans hK3)
  clear hK3 d0
  refine wp_set_row (by exact rfl) 75 (.tmp 4) (.tmp 24) (by exact rfl) HB4'.out (enI q) (by exact rfl) (by exact rfl) (infoIt q) rfl (by intro v hv; simp only [enI, List.mem_cons, List.not_mem_nil, or_false] at hv; rcases hv with rfl | rfl | rfl | rfl <;> rfl) ?_
  intro W4 hB4 _ hK4
  have HB5 := Lib.hid hB4
  have HK4 := Lib.hid (hK4 none' w HK3.out (.inr (Nat.le_refl _)))
  clear hB4 hK4
  simp only [Act.put]
  go_wp2_with fail
  exact ret_row2 (by exact rfl) HB5.out _ Tryz.underlying75 rfl (infoIt q) (by exact rfl) ⟨rfl, HK4.out⟩
theorem oneIt (q : It) : ∀ v ∈ enI q, v.oneCell' = true := by
  intro v hv; simp only [enI, List.mem_cons, List.not_mem_nil, or_false] at hv; rcases hv with rfl | rfl | rfl | rfl <;> rfl
set_option maxRecDepth 100000 in
set_option maxHeartbeats 2000000 in
theorem rgHeadR (p : Option Addr) (w : World) (q : It) (is : Bool) (HA : ∀ W, Kp none' w W → Calls Tryz.prog 101 #[.pointer p, .int .i64 0] W fun e w' => e = .returned (.tuple #[.agg (enI q).toArray, .bool is]) ∧ Kp none' W w') : Calls Tryz.prog 96 #[.pointer p] w fun e w' => e = .returned (.tuple #[.agg (enI q).toArray, .bool is]) ∧ Kp none' w w' := by
  have HA := Lib.hid HA
  have HB := Lib.hid (Blk.new w [.int .u64 0, .int .u32 0, .int .u32 0, .int .u64 0] 75)
  have HK := Lib.hid ((Kp.refl none' w).alloc (.cells #[.int .u64 0, .int .u32 0, .int .u32 0, .int .u64 0] 75))
  go_enter Tryz.func96, Tryz.ntmps96
  go_wp2_with fail
  refine (HA.out _ HK.out).mono ?_
  rintro e w1 ⟨rfl, hk1⟩
  have HB1 := Lib.hid (HB.out.kp hk1 (fun x => x))
  have HK1 := Lib.hid (HK.out.trans hk1)
  clear hk1
  go_wp2_with (first
    | (refine wp_set_row rfl 75 (.tmp 2) (.tmp 6) rfl HB1.out (enI q) rfl rfl (infoIt q) rfl (oneIt q) ?_
       intro W4 hB4 _ hK4
       have HB5 := Lib.hid hB4
       have HK4 := Lib.hid (hK4 none' w HK1.out (.inr (Nat.le_refl _)))
       clear hB4 hK4))
  exact ret_row2 (by exact rfl) HB5.out _ Tryz.underlying75 rfl (infoIt q) (by exact rfl) ⟨rfl, HK4.out⟩
def hdI : List It → It × Bool
  | [] => (zIt, false)
  | q :: _ => (q, true)
theorem rgHead {w : World} {F : Nat → Prop} {rb room : Nat} {Q : List It} (h : Rg w F rb room Q) : Calls Tryz.prog 96 #[.pointer (some ⟨rb, 0, none⟩)] w fun e w' => e = .returned (.tuple #[.agg (enI (hdI Q).1).toArray, .bool (hdI Q).2]) ∧ Kp none' w w' := by
  refine rgHeadR _ w _ _ (fun W k => ?_)
  cases Q with
  | nil =>
    refine rgAtNo _ W (fun W' k' => ?_)
    obtain ⟨v, S, fr, n, rfl, hm, ok, hroom⟩ := h
    have hn : n = 0 := ok.len.symm
    subst hn
    exact rgLen (hm.old (k.trans k'))
  | cons q Q => exact rgAtSome (h.old k)
theorem rgHeadNil (w : World) : Calls Tryz.prog 96 #[.pointer none] w fun e w' => e = .returned (.tuple #[.agg (enI zIt).toArray, .bool false]) ∧ Kp none' w w' :=
  rgHeadR _ w _ _ (fun W _ => rgAtNo _ W (fun W' _ => rgLenNil W'))
end Go.Proofs.YtjhghagmnkjpkaaGreat

namespace Go.Proofs.YtjhghagmnkjpkaaGreat
set_option linter.unusedVariables false
set_option linter.unusedSimpArgs false
open Go Go.RowKit Go.Shelf

/-- 'clear(s)', s a slice of one thing of some cells. -/
theorem run_clear_one {P : Program} (w : World) (t e ty : TypeId) (z : Value) (zs : List Value) (ht : P.underlying t = some (.slice e)) (hv : ∀ w, (zeroValue e).run P w = .ok z w) (hz : z.cells = zs.toArray) (h1 : ∀ v ∈ zs, v.oneCell' = true) (b o c : Nat)
    (hc : ∀ j, j < zs.length → (w.cell? ⟨b, o + j, none⟩).isSome = true) (hf : ∀ j, j < zs.length → w.frozen? ⟨b, o + j, none⟩ = false) :
    (Builtin.clear_ #[t] ty #[.slice (some ⟨b, o, none⟩) 1 c]).run P w = .ok (.tuple #[]) (w.setCells b o zs) := by
  have hzc : (Builtin.zeroCells z.cells 1).toList = zs := by
    rw [hz]
    simp [Builtin.zeroCells]
    apply List.ext_getElem
    · simp
    · intro i h1 h2
      simp [Nat.mod_eq_of_lt h2, List.getElem?_eq_getElem h2]
  have hst := run_storeCells_cells (P := P) b o zs 0 w (by simpa using hc) (by simpa using hf) h1
  simp only [Nat.add_zero] at hst
  simp [Builtin.clear_, run_underlying ht, hv, hzc, hst]
theorem zvItem : ∀ w : World, (zeroValue 75).run Tryz.prog w = .ok (.agg (enI zIt).toArray) w := fun _ => by kernel_rfl
set_option maxRecDepth 100000 in
set_option maxHeartbeats 4000000 in
theorem rgTake {w : World} {F : Nat → Prop} {rb room : Nat} {q : It} {Q : List It} (h : Rg w F rb room (q :: Q)) : Calls Tryz.prog 97 #[.pointer (some ⟨rb, 0, none⟩)] w fun e w' => e = .returned (.tuple #[.agg (enI q).toArray, .bool true]) ∧ Rg w' F rb room Q ∧ Kp F w w' := by
  have HH := Lib.hid (fun W (k : Kp none' w W) => rgHead (h.old k))
  simp only [hdI] at HH
  obtain ⟨v, S, fr, n, rfl, hm, ok, hroom⟩ := h
  have hn0 : 0 < n := by have := ok.len; rw [List.length_cons] at this; omega
  have hSn := ok.n_le
  have hfr := ok.frlt (by omega)
  have hfit := ok.fits
  have HT := Lib.hid (ok.take zIt).2
  obtain ⟨g, cap, rfl, _⟩ := own_shape1 hm.row (by omega)
  have hcap := own_cap hm.row
  have hgr : g ≠ rb := fun e => own_ne_blk hm.row hm.top (by decide) (by rw [e]; rfl)
  have HM := Lib.hid hm
  have hm4 : slN S.length fr 1 < S.length := slN_lt hfr (by omega)
  clear hm ok
  have hfc : (fr : Int) + 1 ≤ cap := by omega
  have hf1 : (fr : Int) < cap := by omega
  have HW : Hid (IntKind.i64.wrap ((fr : Int) + 1) = (fr : Int) + 1) := Lib.hid (by rw [IntKind.wrap_i64]; omega)
  have HB := Lib.hid (Blk.new w [.int .u64 0, .int .u32 0, .int .u32 0, .int .u64 0] 75)
  have HK := Lib.hid ((Kp.refl none' w).alloc (.cells #[.int .u64 0, .int .u32 0, .int .u32 0, .int .u64 0] 75))
  go_enter Tryz.func97, Tryz.ntmps97
  go_wp2_with fail
  refine (HH.out _ HK.out).mono ?_
  rintro e w1 ⟨rfl, hk1⟩
  have HB1 := Lib.hid (HB.out.kp hk1 (fun x => x))
  have HK1 := Lib.hid (HK.out.trans hk1)
  have HM1 := Lib.hid (HM.out.old HK1.out)
  clear hk1
  have hw1 : w.heap.size < w1.heap.size := HB1.out.lt
  have hrl : rb < w1.heap.size := HM1.out.top.lt
  go_wp2_with (first
    | (refine wp_set_row rfl 75 (.tmp 4) (.tmp 9) rfl (Blk.new w1 [.int .u64 0, .int .u32 0, .int .u32 0, .int .u64 0] 75) (enI q) rfl rfl (infoIt q) rfl (oneIt q) ?_
       intro W2 hB2 hO2 hK2
       have HY2 := Lib.hid hB2
       have HB2 := Lib.hid (hO2 _ _ _ (HB1.out.alloc _) (by omega))
       have HK2' := Lib.hid (hK2 none' w1 ((Kp.refl none' w1).alloc _) (.inr (Nat.le_refl _)))
       clear hB2 hO2 hK2))
  have HM2 := Lib.hid (HM1.out.old HK2'.out)
  have HK2 := Lib.hid (HK1.out.trans HK2'.out)
  obtain ⟨y, hy⟩ : ∃ y, w1.heap.size = y := ⟨_, rfl⟩
  rw [hy] at HY2 hw1 hrl ⊢
  clear hy
  have c0 := HM2.out.top.cell 0 rfl
  have c1 := HM2.out.top.cell 1 rfl
  refine wp_region_kept2 [] [0, 1, 2, 3, 4, 5, 6, 7, 8, 9, 10, 11, 12, 13] 14 (by kernel_rfl) (by kernel_rfl) (fun c a d u w h => by cases d <;> exact h) ?_
  simp only [pick, List.getElem?_cons_succ, List.getElem?_cons_zero, List.drop_succ_cons, List.drop_zero]
  show wpKL _ _ _ _ _ _
  repeat (first
    | (refine wpKL_op (by exact rfl) (by as_aux_lemma => intro W hK; have e0 := hK.cell c0 (fun x => x); have e1 := hK.cell c1 (fun x => x); have e2 := HW.out; go_simp; exact rfl) ?_; simp only [Act.put, List.setIfInBounds_toArray, List.set_cons_succ, List.set_cons_zero])
    | (refine wpKL_off (by exact rfl) ?_; simp only [Act.put, List.setIfInBounds_toArray, List.set_cons_succ, List.set_cons_zero]))
  show ∀ W, _ → wpList _ _ _ _ _ _
  intro W3 hK3
  have HM3 := Lib.hid (HM2.out.old hK3)
  have HY3 := Lib.hid (HY2.out.kp hK3 (fun x => x))
  have HB3 := Lib.hid (HB2.out.kp hK3 (fun x => x))
  have HK3 := Lib.hid (HK2.out.trans hK3)
  clear hK3 c0 c1
  have hcl : ∀ ty c, (Builtin.clear_ #[73] ty #[.slice (some ⟨g, fr * 4, none⟩) 1 c]).run Tryz.prog W3 = .ok (.tuple #[]) (W3.setCells g (fr * 4) (enI zIt)) := fun ty c =>
    run_clear_one W3 _ _ ty _ (enI zIt) Tryz.underlying73 zvItem rfl (oneIt zIt) g (fr * 4) c (fun j hj => by
      rw [enI_len] at hj
      have hl : (S.flatMap enI).length = S.length * 4 := flat_len enI 4 enI_len S
      rw [own_cell HM3.out.row (fr * 4 + j) (List.getElem?_eq_getElem (show fr * 4 + j < (S.flatMap enI).length by omega))]; rfl) (fun j _ => own_fz HM3.out.row _)
  have ho4 := own_setCells (enI zIt) (fr * 4) _ _ HM3.out.row
  have hk4 : Kp (fun b => b = g) W3 (W3.setCells g (fr * 4) (enI zIt)) := kp_setCells (S := fun b => b = g) (.inl rfl) _ _ _ (Kp.refl _ _)
  rw [← flat_set enI 4 enI_len S fr zIt hfr] at ho4
  obtain ⟨W4, hW4⟩ : ∃ W4, W3.setCells g (fr * 4) (enI zIt) = W4 := ⟨_, rfl⟩
  rw [hW4] at ho4 hk4
  simp only [hW4] at hcl
  clear hW4
  have hg0 : g < w.heap.size := (own_block HM.out.row rfl).2
  have hgy : y ≠ g := by omega
  have hgw : w.heap.size ≠ g := by omega
  have HY4 := Lib.hid (HY3.out.kp hk4 hgy)
  have HB4 := Lib.hid (HB3.out.kp hk4 hgw)
  have HM4 : Hid (RgM W4 rb (.slice (some ⟨g, 0, none⟩) S.length cap) (S.set fr zIt) fr n room) := Lib.hid ⟨HM3.out.top.kp hk4 (fun e => hgr e.symm), by rw [List.length_set]; exact ho4⟩
  have HK4 : Hid (Kp (RgF rb (.slice (some ⟨g, 0, none⟩) S.length cap)) w W4) := Lib.hid ((HK3.out.mono (fun _ _ x => x.elim)).trans (hk4.mono (fun b _ e => .inr (by rw [e]; rfl))))
  clear ho4 hk4
  go_wp2_with fail
  have hsl := rgSlot HM4.out (by rw [List.length_set]; exact hfr) (by rw [List.length_set]; omega) 1 (by rw [List.length_set]; omega)
  rw [List.length_set] at hsl
  obtain ⟨fr2, hf2⟩ : ∃ f, slN S.length fr 1 = f := ⟨_, rfl⟩
  rw [hf2] at hsl HT hm4
  refine Calls.mono hsl ?_
  rintro e w5 ⟨rfl, hk5⟩
  have HM5 := Lib.hid (HM4.out.old hk5)
  have HY5 := Lib.hid (HY4.out.kp hk5 (fun x => x))
  have HB5 := Lib.hid (HB4.out.kp hk5 (fun x => x))
  have HK5 : Hid (Kp (RgF rb (.slice (some ⟨g, 0, none⟩) S.length cap)) w w5) := Lib.hid (HK4.out.trans (hk5.mono (fun _ _ x => x.elim)))
  clear hk5 hsl hf2 hcl
  have r1 := HM5.out.top.cell 1 rfl
  have r2 := HM5.out.top.cell 2 rfl
  have rf := fun j => HM5.out.top.fz j
  have hyr : y ≠ rb := by omega
  have hbr : w.heap.size ≠ rb := fun e => blk_ne HB5.out HM5.out.top (by decide) e
  have hks : Kp (fun b => b = rb) w5 ((w5.setCell ⟨rb, 1, none⟩ (.int .i64 (fr2 : Int))).setCell ⟨rb, 2, none⟩ (.int .i64 ((n : Int) - 1))) := ((Kp.refl (fun b => b = rb) w5).set (p := ⟨rb, 1, none⟩) (.inl rfl) _).set (p := ⟨rb, 2, none⟩) (.inl rfl) _
  have HT6 := Lib.hid ((HM5.out.top.set 1 (.int .i64 (fr2 : Int))).set 2 (.int .i64 ((n : Int) - 1)))
  have HR6 := Lib.hid (own_kp HM5.out.row hks (fun b hb e => by have h9 : g = b := Option.some.inj hb; omega))
  have HY6 := Lib.hid (HY5.out.kp hks hyr)
  have HB6 := Lib.hid (HB5.out.kp hks hbr)
  have HK6 : Hid (Kp (RgF rb (.slice (some ⟨g, 0, none⟩) S.length cap)) w ((w5.setCell ⟨rb, 1, none⟩ (.int .i64 (fr2 : Int))).setCell ⟨rb, 2, none⟩ (.int .i64 ((n : Int) - 1)))) := Lib.hid (HK5.out.trans (hks.mono (fun b _ e => .inl e)))
  clear hks
  go_wp2_with (first
    | (refine wp_get_row rfl 75 (.tmp 4) rfl HY6.out _ rfl Tryz.underlying75 rfl (infoIt q) ?_)
    | (refine wp_set_row rfl 75 (.tmp 2) (.tmp 38) rfl HB6.out (enI q) rfl rfl (infoIt q) rfl (oneIt q) ?_
       intro W7 hB7 hO7 hK7
       have HB7 := Lib.hid hB7
       have HT7 := Lib.hid (hO7 _ _ _ HT6.out hbr.symm)
       have HK7 := Lib.hid hK7
       clear hB7 hO7 hK7))
  have hk67 := HK7.out (fun b => b = w.heap.size) _ (Kp.refl _ _) (.inl rfl)
  refine ret_row2 (by exact rfl) HB7.out _ Tryz.underlying75 rfl (infoIt q) (by exact rfl) ⟨rfl, ⟨.slice (some ⟨g, 0, none⟩) S.length cap, S.set fr zIt, fr2, n - 1, rfl, ⟨?_, ?_⟩, HT.out, hroom⟩, HK7.out _ _ HK6.out (.inr (Nat.le_refl _))⟩
  · have e : ((n - 1 : Nat) : Int) = (n : Int) - 1 := by omega
    rw [e]; exact HT7.out
  · exact own_kp HR6.out hk67 (fun b hb e => by have h9 : g = b := Option.some.inj hb; omega)
end Go.Proofs.YtjhghagmnkjpkaaGreat
