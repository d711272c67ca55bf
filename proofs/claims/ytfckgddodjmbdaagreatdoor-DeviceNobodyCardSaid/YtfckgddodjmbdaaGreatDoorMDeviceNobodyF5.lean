/- Rings (layer 6): grow, Put. -/
import Derived.Test.YtfckgddodjmbdaaGreatDoorMDeviceNobodyF4
namespace Go.Proofs.YtfckgddodjmbdaaGreatDoor
set_option linter.unusedVariables false
set_option linter.unusedSimpArgs false
open Go Go.RowKit Go.Shelf
theorem own_of_blk {w : World} {g : Nat} {cs : List Value} {t : TypeId} (size n : Nat) (h : Blk w g cs t) (hl : cs.length = n * size) (hn : n ≤ maxLen) : w.ownsRow 0 t size (.slice (some ⟨g, 0, none⟩) n n) n cs :=
  ⟨hl, .inr ⟨g, n, cs.toArray, rfl, Nat.zero_le _, h.is, Nat.le_refl _, hn, by simpa using hl, by rw [List.take_of_length_le (by simp [hl])]⟩⟩
theorem it_load {w : World} {B g cap n : Nat} {m : List It} (h : w.ownsRow B 314 4 (.slice (some ⟨g, 0, none⟩) n cap) n (m.flatMap enI)) (i : Nat) (x : It) (hx : m[i]? = some x) :
    ∀ W, Kp none' w W → (Instr.loadAt 314 (.pointer (some ⟨g, i * 4, none⟩))).run Tryz.prog W = .ok (.agg (enI x).toArray) W := fun W hK =>
  run_loadAt_mid W g (i * 4) 314 (enI x) _ (fun j v hv => hK.cell (own_cell h (i * 4 + j) (by
    have hj : j < 4 := by have := (List.getElem?_eq_some_iff.1 hv).1; rwa [enI_len] at this
    rw [flat_get enI 4 enI_len m i j hj, hx]; exact hv)) (fun x => x)) Tryz.underlying314 rfl (infoIt _)
structure GwI (w wr : World) (rb : Nat) (v : Value) (S : List It) (fr n room nb : Nat) (Q S2 : List It) (M i : Nat) : Prop where
  old : RgM wr rb v S fr n room
  new : wr.ownsRow 0 314 4 (.slice (some ⟨nb, 0, none⟩) M M) M (S2.flatMap enI)
  len : S2.length = M
  get : ∀ j, j < i → S2[j]? = Q[j]?
  kp : Kp none' w wr
  nbn : w.heap.size ≤ nb
set_option maxRecDepth 100000 in
set_option maxHeartbeats 4000000 in
theorem rgGrowNo {w : World} {rb : Nat} {v : Value} {S : List It} {fr n room : Nat} (h : RgM w rb v S fr n room) (hn : n < S.length) : Calls Tryz.prog 237 #[.pointer (some ⟨rb, 0, none⟩)] w fun e w' => e = .returned (.tuple #[]) ∧ Kp none' w w' := by
  have c0 := h.top.cell 0 rfl
  have c2 := h.top.cell 2 rfl
  obtain ⟨ao, cap, rfl⟩ := own_shape h.row
  have hn' : (n : Int) < S.length := by omega
  clear h
  go_enter Tryz.func237, Tryz.ntmps237
  go_wp2_with fail
  go_region
  all_goals
    go_wp2_with fail
    refine bodyPost_ret (results_none rfl _ _ _) rfl ?_
    exact ⟨rfl, (Kp.refl none' w).drew⟩
set_option maxRecDepth 100000 in
set_option maxHeartbeats 4000000 in
theorem rgGrow {w : World} {rb : Nat} {v : Value} {S : List It} {fr n room : Nat} {Q : List It} (h : RgM w rb v S fr n room) (ok : RgOk S fr n room Q) (hn : n = S.length) (hr : n < room) (hr2 : room ≤ 4096) : Calls Tryz.prog 237 #[.pointer (some ⟨rb, 0, none⟩)] w fun e w' => e = .returned (.tuple #[]) ∧ ∃ nb S2 M, n < M ∧ M ≤ room ∧ S2.length = M ∧ (∀ j, j < n → S2[j]? = Q[j]?) ∧ RgM w' rb (.slice (some ⟨nb, 0, none⟩) M M) S2 0 n room ∧ w.heap.size ≤ nb ∧ Kp (fun b => b = rb) w w' := by
  have c0 := h.top.cell 0 rfl
  have c2 := h.top.cell 2 rfl
  have c3 := h.top.cell 3 rfl
  obtain ⟨ao, cap, rfl⟩ := own_shape h.row
  have hn' : ¬ (n : Int) < S.length := by omega
  obtain ⟨M, hM⟩ : ∃ M, min (max (2 * S.length) 4) room = M := ⟨_, rfl⟩
  have hMi : min (max (2 * (S.length : Int)) 4) (room : Int) = (M : Int) := by omega
  have hM1 : n < M := by omega
  have hM2 : M ≤ room := by omega
  have hMp : 0 < M := by omega
  have hS4 : S.length ≤ 4096 := by omega
  have HLT : Hid (∀ b, RgF rb (.slice ao S.length cap) b → b < w.heap.size) := Lib.hid (fun b hb => by
    rcases hb with rfl | hb
    · exact h.top.lt
    · exact (own_block h.row hb).2)
  have HM := Lib.hid h
  have HOK := Lib.hid ok
  have HN := Lib.hid hn
  have HMI := Lib.hid hMi
  have hmk := fun W => run_make_flat tIt enI enI_len zIt rfl M (by omega) (by omega) W
  clear h ok hM hMi
  generalize hSL : S.length = N at *
  have HSL := Lib.hid hSL
  have HW2 : Hid (IntKind.i64.wrap (2 * (N : Int)) = 2 * (N : Int)) := Lib.hid (by rw [IntKind.wrap_i64]; omega)
  clear hSL
  go_enter Tryz.func237, Tryz.ntmps237
  go_wp2_with fail
  refine wp_region_kept2 [] [0, 1, 2, 3, 4, 5, 6, 7, 8] 9 (by kernel_rfl) (by kernel_rfl) (fun c a d u w h => by cases d <;> exact h) ?_
  simp only [pick, List.getElem?_cons_succ, List.getElem?_cons_zero, List.drop_succ_cons, List.drop_zero]
  show wpKL _ _ _ _ _ _
  repeat (first
    | (refine wpKL_op (by exact rfl) (by as_aux_lemma => intro W hK; have e0 := hK.cell c2 (fun x => x); have e1 := hK.cell c0 (fun x => x); go_simp; exact rfl) ?_; simp only [Act.put, List.setIfInBounds_toArray, List.set_cons_succ, List.set_cons_zero])
    | (refine wpKL_off (by exact rfl) ?_; simp only [Act.put, List.setIfInBounds_toArray, List.set_cons_succ, List.set_cons_zero]))
  show ∀ W, _ → wpList _ _ _ _ _ _
  intro W2 hK2
  have HM2 := Lib.hid (HM.out.old hK2)
  have HK2 := Lib.hid hK2
  have d0 := hK2.cell c0 (fun x => x)
  have d3 := hK2.cell c3 (fun x => x)
  clear hK2 c0 c2 c3
  go_wp2_with fail
  refine wp_region_kept2 [] [0, 1, 2, 3, 4, 5, 6, 7, 8, 9, 10, 11] 12 (by kernel_rfl) (by kernel_rfl) (fun c a d u w h => by cases d <;> exact h) ?_
  simp only [pick, List.getElem?_cons_succ, List.getElem?_cons_zero, List.drop_succ_cons, List.drop_zero]
  show wpKL _ _ _ _ _ _
  repeat (first
    | (refine wpKL_op (by exact rfl) (by as_aux_lemma => intro W hK; have e0 := hK.cell d0 (fun x => x); have e1 := hK.cell d3 (fun x => x); have e2 := HMI.out; have e3 := HW2.out; go_simp; exact rfl) ?_; simp only [Act.put, List.setIfInBounds_toArray, List.set_cons_succ, List.set_cons_zero])
    | (refine wpKL_off (by exact rfl) ?_; simp only [Act.put, List.setIfInBounds_toArray, List.set_cons_succ, List.set_cons_zero]))
  show ∀ W, _ → wpList _ _ _ _ _ _
  intro W3 hK3
  have HM3 := Lib.hid (HM2.out.old hK3)
  have HK3 := Lib.hid (HK2.out.trans hK3)
  clear hK3 d0 d3
  have hmk3 := hmk W3
  clear hmk
  obtain ⟨L0, hL0⟩ : ∃ L0, (List.replicate M zIt).flatMap enI = L0 := ⟨_, rfl⟩
  rw [hL0] at hmk3
  have d2 := HM3.out.top.cell 2 rfl
  have hrl3 := HM3.out.top.lt
  have hal := (Kp.refl none' W3).alloc (.cells L0.toArray 314)
  have HI : Hid (GwI w (W3.alloc (.cells L0.toArray 314)) rb (.slice ao N cap) S fr n room W3.heap.size Q (List.replicate M zIt) M 0) := by
    refine ⟨HM3.out.old hal, ?_, List.length_replicate, fun j hj => by omega, HK3.out.trans hal, HK3.out.size⟩
    rw [hL0]
    exact own_of_blk 4 M (Blk.new W3 L0 _) (by rw [← hL0, flat_len enI 4 enI_len, List.length_replicate]) (by unfold maxLen; omega)
  clear hal hL0
  go_wp2_with fail
  generalize W3.alloc (.cells L0.toArray 314) = W4 at *
  obtain ⟨nb, hnb⟩ : ∃ nb, W3.heap.size = nb := ⟨_, rfl⟩
  rw [hnb] at HI ⊢
  clear hmk3 d2 hrl3 hnb HM3 HK3 HM2 HK2
  go_loopw [31] (fun i0 wr => ∃ (i : Nat) (S2 : List It), i0 = .int .i64 i ∧ i ≤ n ∧ Hid (GwI w wr rb (.slice ao N cap) S fr n room nb Q S2 M i)) (fun i0 _ => n - (intOf i0).toNat)
  case atStart => exact ⟨0, _, rfl, Nat.zero_le _, HI.out⟩
  case round =>
    clear HI
    obtain ⟨i, S2, rfl, hi, hr⟩ := hrel
    by_cases hlt : i < n
    · have hii : (i : Int) < n := by omega
      have hiM : (i : Int) < M := by omega
      have hfr : fr < S.length := HOK.out.frlt (by rw [HSL.out]; omega)
      have hslt := slN_lt (i := i) hfr (by rw [HSL.out]; omega)
      have HSLT := Lib.hid (fun W (k : Kp none' wr W) => rgSlot (hr.out.old.old k) hfr (by rw [HSL.out]; omega) i (by rw [HSL.out]; omega))
      have hgt := HOK.out.get i hlt
      obtain ⟨x, hx⟩ : ∃ x, Q[i]? = some x := ⟨_, List.getElem?_eq_getElem (by rw [HOK.out.len]; exact hlt)⟩
      rw [hx] at hgt
      obtain ⟨g0, cap0, e0, _⟩ := own_shape1 hr.out.old.row (by rw [HSL.out]; omega)
      injection e0 with e1 e2 e3
      subst e1 e3
      have hrow := hr.out.old.row
      rw [HSL.out] at hrow
      have HLD := Lib.hid (it_load hrow _ x hgt)
      clear hrow
      have c0 := hr.out.old.top.cell 0 rfl
      rw [HSL.out] at hslt HSLT HLD
      generalize slN N fr i = q at *
      have hqi : (q : Int) < N := by omega
      have HX := Lib.hid hx
      clear hgt hfr hx e2
      go_wp2_with fail
      refine wp_region_kept2 [] [0, 1, 2, 3, 4, 5, 6, 7, 8, 9, 10] 11 (by kernel_rfl) (by kernel_rfl) (fun c a d u w h => by cases d <;> exact h) ?_
      simp only [pick, List.getElem?_cons_succ, List.getElem?_cons_zero, List.drop_succ_cons, List.drop_zero]
      show wpKL _ _ _ _ _ _
      repeat (first
        | (refine wpKL_op (by exact rfl) (load_at rfl rfl HLD.out) ?_; simp only [Act.put, List.setIfInBounds_toArray, List.set_cons_succ, List.set_cons_zero])
        | (refine wpKL_op (by exact rfl) (by as_aux_lemma => intro W hK; have e0 := hK.cell c0 (fun x => x); go_simp; exact rfl) ?_; simp only [Act.put, List.setIfInBounds_toArray, List.set_cons_succ, List.set_cons_zero])
        | (refine wpKL_off (by exact rfl) ?_; simp only [Act.put, List.setIfInBounds_toArray, List.set_cons_succ, List.set_cons_zero])
        | (refine wpKL_call (by exact rfl) (by as_aux_lemma => intro W; go_simp; exact ⟨rfl, rfl⟩) (by intro W hK; with_reducible first | exact HSLT.out W hK) ?_; simp only [Act.put, List.setIfInBounds_toArray, List.set_cons_succ, List.set_cons_zero]))
      show ∀ W, _ → wpList _ _ _ _ _ _
      intro W5 hK5
      have HM5 := Lib.hid (hr.out.old.old hK5)
      have HN5 := Lib.hid (own_kp hr.out.new hK5 (fun _ _ x => x))
      have HK5 := Lib.hid (hr.out.kp.trans hK5)
      clear hK5 c0
      go_wp2_with (first
        | (refine wp_set_ent rfl 314 (.tmp 45) (.tmp 44) rfl enI 4 enI_len S2 HN5.out i (by rw [hr.out.len]; omega) x rfl rfl rfl (infoIt x) rfl ?_
           intro W6 ho6 hk6
           have HO6 := Lib.hid ho6
           have HK6 := Lib.hid hk6
           clear ho6 hk6))
      have hnbw := hr.out.nbn
      have HG : Hid (GwI w W6 rb (.slice (some ⟨g0, 0, none⟩) N cap) S fr n room nb Q (S2.set i x) M (i + 1)) := by
        refine ⟨HM5.out.kp HK6.out (fun b hb e => ?_), HO6.out, by rw [List.length_set]; exact hr.out.len, fun j hj => ?_, HK5.out.then HK6.out (fun b hb e => by omega), hnbw⟩
        · have := HLT.out b hb; omega
        · by_cases e : j = i
          · subst e; rw [List.getElem?_set_self (by rw [hr.out.len]; omega), HX.out]
          · rw [List.getElem?_set_ne (fun e2 => e e2.symm)]; exact hr.out.get j (by omega)
      clear HM5 HN5 HK5 HO6 HK6
      go_roundw
      case rel => exact ⟨i + 1, _, by go_num, by omega, HG.out⟩
      case measure => simp [intOf]; omega
    · have hie : i = n := by omega
      subst hie
      have c0 := hr.out.old.top.cell 0 rfl
      have c1 := hr.out.old.top.cell 1 rfl
      have cf := fun j => hr.out.old.top.fz j
      go_wp2_with fail
      go_end0
      have hks : Kp (fun b => b = rb) wr ((wr.setCell ⟨rb, 0, none⟩ (.slice (some ⟨nb, 0, none⟩) M M)).setCell ⟨rb, 1, none⟩ (.int .i64 0)) := ((Kp.refl (fun b => b = rb) wr).set (p := ⟨rb, 0, none⟩) (.inl rfl) _).set (p := ⟨rb, 1, none⟩) (.inl rfl) _
      have hrb := HLT.out rb (.inl rfl)
      have hnbw := hr.out.nbn
      refine ⟨rfl, nb, S2, M, hM1, hM2, hr.out.len, hr.out.get, ⟨(hr.out.old.top.set 0 _).set 1 _, ?_⟩, hnbw, (hr.out.kp.mono (fun _ _ x => x.elim)).trans hks⟩
      rw [hr.out.len]
      exact own_kp hr.out.new hks (fun b hb e => by have h9 : nb = b := Option.some.inj hb; omega)
def Rg (w : World) (F : Nat → Prop) (rb room : Nat) (Q : List It) : Prop := ∃ v S fr n, F = RgF rb v ∧ RgM w rb v S fr n room ∧ RgOk S fr n room Q ∧ room ≤ 4096
theorem Rg.kp {T : Nat → Prop} {w w' : World} {F : Nat → Prop} {rb room : Nat} {Q : List It} (h : Rg w F rb room Q) (k : Kp T w w') (hT : ∀ b, F b → ¬ T b) : Rg w' F rb room Q := by
  obtain ⟨v, S, fr, n, rfl, hm, ok, h4⟩ := h
  exact ⟨v, S, fr, n, rfl, hm.kp k hT, ok, h4⟩
theorem Rg.old {w w' : World} {F : Nat → Prop} {rb room : Nat} {Q : List It} (h : Rg w F rb room Q) (k : Kp none' w w') : Rg w' F rb room Q := h.kp k (fun _ _ x => x)
theorem Rg.lt {w : World} {F : Nat → Prop} {rb room : Nat} {Q : List It} (h : Rg w F rb room Q) {b : Nat} (hb : F b) : b < w.heap.size := by
  obtain ⟨v, S, fr, n, rfl, hm, ok, h4⟩ := h
  rcases hb with rfl | hb
  · exact hm.top.lt
  · exact (own_block hm.row hb).2
set_option maxRecDepth 100000 in
set_option maxHeartbeats 4000000 in
theorem rgPut {w : World} {F : Nat → Prop} {rb room : Nat} {Q : List It} (h : Rg w F rb room Q) (hl : Q.length < room) (x : It) : Calls Tryz.prog 232 #[.pointer (some ⟨rb, 0, none⟩), .agg (enI x).toArray] w fun e w' => e = .returned (.bool true) ∧ ∃ F', Rg w' F' rb room (Q ++ [x]) ∧ Kp F w w' ∧ Nw w F F' := by
  obtain ⟨v, S, fr, n, rfl, hm, ok, hroom⟩ := h
  obtain ⟨r, ⟨fl, id, ln⟩⟩ := x
  rw [ok.len] at hl
  have HR := Lib.hid (fun W (k : Kp none' w W) => rgRoom (hm.old k) (by omega) (by omega))
  obtain ⟨R, hR⟩ : ∃ R, room - n = R := ⟨_, rfl⟩
  have hR0 : ((R : Int) == 0) = false := by rw [beq_eq_false_iff_ne]; omega
  rw [hR] at HR
  clear hR
  have HM := Lib.hid hm
  have HOK := Lib.hid ok
  clear hm
  show Calls Tryz.prog _ #[.pointer (some ⟨rb, 0, none⟩), .agg #[.int .u64 (r : Int), .int .u32 (fl : Int), .int .u32 (id : Int), .int .u64 (ln : Int)]] w _
  go_enter Tryz.func232, Tryz.ntmps232
  go_wp2_with fail
  refine (HR.out _ ((Kp.refl none' w).alloc _)).mono ?_
  rintro e w1 ⟨rfl, hk0⟩
  have HX0 := Lib.hid ((Blk.new w [.int .u64 (r : Int), .int .u32 (fl : Int), .int .u32 (id : Int), .int .u64 (ln : Int)] 314).kp hk0 (fun x => x))
  have hk1 := ((Kp.refl none' w).alloc (.cells #[.int .u64 (r : Int), .int .u32 (fl : Int), .int .u32 (id : Int), .int .u64 (ln : Int)] 314)).trans hk0
  have HM0 := Lib.hid (HM.out.old hk1)
  have HK0 := Lib.hid hk1
  clear hk0 hk1
  have hrw : rb < w.heap.size := HM.out.top.lt
  go_wp2_with fail
  by_cases hlt : n < S.length
  · refine (rgGrowNo HM0.out hlt).mono ?_
    rintro e W1 ⟨rfl, hk⟩
    have HM1 := Lib.hid (HM0.out.old hk)
    have HX1 := Lib.hid (HX0.out.kp hk (fun x => x))
    have HK1 : Hid (Kp (RgF rb v) w W1) := Lib.hid ((HK0.out.trans hk).mono (fun _ _ x => x.elim))
    have HNW1 : Hid (Nw w (RgF rb v) (RgF rb v)) := Lib.hid (Nw.refl _ _)
    obtain ⟨S1, hS1⟩ : ∃ S1, S1 = S := ⟨_, rfl⟩
    obtain ⟨fr1, hf1⟩ : ∃ f, f = fr := ⟨_, rfl⟩
    subst hS1 hf1
    have HOK1 := HOK
    have hn1 := hlt
    have hfr1 := HOK1.out.frlt (by omega)
    have hS4 : S1.length ≤ 4096 := by have := HOK1.out.fits; omega
    clear hk
    have HSLT := Lib.hid (fun W (k : Kp none' W1 W) => rgSlot (HM1.out.old k) hfr1 (by omega) n (by omega))
    have hslt := slN_lt (i := n) hfr1 (by omega)
    have HOK2 := Lib.hid (HOK1.out.put hn1 ⟨r, ⟨fl, id, ln⟩⟩)
    have c0 := HM1.out.top.cell 0 rfl
    have c2 := HM1.out.top.cell 2 rfl
    have b0 := HX1.out.cell 0 rfl
    have b1 := HX1.out.cell 1 rfl
    have b2 := HX1.out.cell 2 rfl
    have b3 := HX1.out.cell 3 rfl
    obtain ⟨g1, cap1, e1, _⟩ := own_shape1 HM1.out.row (by omega)
    subst e1
    obtain ⟨q, hq⟩ : ∃ q, slN S1.length fr1 n = q := ⟨_, rfl⟩
    rw [hq] at hslt HOK2 HSLT
    clear hq
    have hqi : (q : Int) < S1.length := by omega
    go_wp2_with fail
    refine wp_region_kept2 [] [0, 1, 2, 3, 4, 5, 6, 7, 8, 9, 10] 11 (by kernel_rfl) (by kernel_rfl) (fun c a d u w h => by cases d <;> exact h) ?_
    simp only [pick, List.getElem?_cons_succ, List.getElem?_cons_zero, List.drop_succ_cons, List.drop_zero]
    show wpKL _ _ _ _ _ _
    repeat (first
      | (refine wpKL_op (by exact rfl) (by as_aux_lemma => intro W hK; have e0 := hK.cell c0 (fun x => x); have e1 := hK.cell c2 (fun x => x); have e2 := hK.cell b0 (fun x => x); have e3 := hK.cell b1 (fun x => x); have e4 := hK.cell b2 (fun x => x); have e5 := hK.cell b3 (fun x => x); go_simp; exact rfl) ?_; simp only [Act.put, List.setIfInBounds_toArray, List.set_cons_succ, List.set_cons_zero])
      | (refine wpKL_off (by exact rfl) ?_; simp only [Act.put, List.setIfInBounds_toArray, List.set_cons_succ, List.set_cons_zero])
      | (refine wpKL_call (by exact rfl) (by as_aux_lemma => intro W; go_simp; exact ⟨rfl, rfl⟩) (by intro W hK; with_reducible first | exact HSLT.out W hK) ?_; simp only [Act.put, List.setIfInBounds_toArray, List.set_cons_succ, List.set_cons_zero]))
    show ∀ W, _ → wpList _ _ _ _ _ _
    intro W5 hK5
    have HM5 := Lib.hid (HM1.out.old hK5)
    have HK5 := Lib.hid (HK1.out.trans (hK5.mono (fun _ _ x => x.elim)))
    clear hK5 c0 c2 b0 b1 b2 b3
    go_wp2_with (first
      | (refine wp_set_ent rfl 314 (.tmp 21) (.tmp 20) rfl enI 4 enI_len S1 HM5.out.row q (by omega) ⟨r, ⟨fl, id, ln⟩⟩ rfl rfl rfl (infoIt _) rfl ?_
         intro W6 ho6 hk6
         have HO6 := Lib.hid ho6
         have HB6 := Lib.hid (HM5.out.top.kp hk6 (fun e => own_ne_blk HM5.out.row HM5.out.top (by decide) (by rw [e]; rfl)))
         have HK6 := Lib.hid hk6
         have d2 := HB6.out.cell 2 rfl
         have df := HB6.out.fz 2
         clear ho6 hk6))
    go_ret
    have hks : Kp (fun b => b = rb) W6 (W6.setCell ⟨rb, 2, none⟩ (.int .i64 ((n : Int) + 1))) := (Kp.refl (fun b => b = rb) W6).set (p := ⟨rb, 2, none⟩) (.inl rfl) _
    have hgr : g1 ≠ rb := fun e => own_ne_blk HM5.out.row HM5.out.top (by decide) (by rw [e]; rfl)
    refine ⟨rfl, _, ⟨.slice (some ⟨g1, 0, none⟩) S1.length cap1, S1.set q ⟨r, ⟨fl, id, ln⟩⟩, fr1, n + 1, rfl, ⟨HB6.out.set 2 _, ?_⟩, HOK2.out, hroom⟩, ?_, ?_⟩
    · rw [List.length_set]; exact own_kp HO6.out hks (fun b hb e => by have h9 : g1 = b := Option.some.inj hb; omega)
    · exact (HK5.out.steps HNW1.out ((HK6.out.mono (fun b _ e => .inr (by rw [e]; rfl))).trans (hks.mono (fun b _ e => .inl e))))
    · exact HNW1.out
  · have hnN : n = S.length := by have := HOK.out.n_le; omega
    refine (rgGrow HM0.out HOK.out hnN hl hroom).mono ?_
    rintro e W1 ⟨rfl, nb, S1, M, a1, a2, a3, a4, a5, a6, a7⟩
    have hw0 : w.heap.size ≤ w1.heap.size := HK0.out.size
    have HM1 := Lib.hid a5
    have HX1 := Lib.hid (HX0.out.kp a7 (fun e => by omega))
    have HK1 : Hid (Kp (RgF rb v) w W1) := Lib.hid ((HK0.out.mono (fun _ _ x => x.elim)).trans (a7.mono (fun b _ e => .inl e)))
    have HNW1 : Hid (Nw w (RgF rb v) (RgF rb (.slice (some ⟨nb, 0, none⟩) M M))) := Lib.hid (fun b hb => by
      rcases hb with rfl | hb
      · exact .inl (.inl rfl)
      · have h9 : nb = b := Option.some.inj hb
        exact .inr (by omega))
    have HOK1 := Lib.hid (HOK.out.anew (S2 := S1) (by omega) (by omega) a4)
    obtain ⟨fr1, hf1⟩ : ∃ f, f = 0 := ⟨_, rfl⟩
    obtain ⟨v1, hv1⟩ : ∃ v1, v1 = Value.slice (some ⟨nb, 0, none⟩) M M := ⟨_, rfl⟩
    rw [← hv1] at HM1 HNW1
    rw [← hf1] at HOK1 HM1
    have hn1 : n < S1.length := by omega
    have hfr1 := HOK1.out.frlt (by omega)
    have hS4 : S1.length ≤ 4096 := by omega
    clear a4 a5 a6 a7 hf1 hv1 hnN hlt a3 a1 a2
    have HSLT := Lib.hid (fun W (k : Kp none' W1 W) => rgSlot (HM1.out.old k) hfr1 (by omega) n (by omega))
    have hslt := slN_lt (i := n) hfr1 (by omega)
    have HOK2 := Lib.hid (HOK1.out.put hn1 ⟨r, ⟨fl, id, ln⟩⟩)
    have c0 := HM1.out.top.cell 0 rfl
    have c2 := HM1.out.top.cell 2 rfl
    have b0 := HX1.out.cell 0 rfl
    have b1 := HX1.out.cell 1 rfl
    have b2 := HX1.out.cell 2 rfl
    have b3 := HX1.out.cell 3 rfl
    obtain ⟨g1, cap1, e1, _⟩ := own_shape1 HM1.out.row (by omega)
    subst e1
    obtain ⟨q, hq⟩ : ∃ q, slN S1.length fr1 n = q := ⟨_, rfl⟩
    rw [hq] at hslt HOK2 HSLT
    clear hq
    have hqi : (q : Int) < S1.length := by omega
    go_wp2_with fail
    refine wp_region_kept2 [] [0, 1, 2, 3, 4, 5, 6, 7, 8, 9, 10] 11 (by kernel_rfl) (by kernel_rfl) (fun c a d u w h => by cases d <;> exact h) ?_
    simp only [pick, List.getElem?_cons_succ, List.getElem?_cons_zero, List.drop_succ_cons, List.drop_zero]
    show wpKL _ _ _ _ _ _
    repeat (first
      | (refine wpKL_op (by exact rfl) (by as_aux_lemma => intro W hK; have e0 := hK.cell c0 (fun x => x); have e1 := hK.cell c2 (fun x => x); have e2 := hK.cell b0 (fun x => x); have e3 := hK.cell b1 (fun x => x); have e4 := hK.cell b2 (fun x => x); have e5 := hK.cell b3 (fun x => x); go_simp; exact rfl) ?_; simp only [Act.put, List.setIfInBounds_toArray, List.set_cons_succ, List.set_cons_zero])
      | (refine wpKL_off (by exact rfl) ?_; simp only [Act.put, List.setIfInBounds_toArray, List.set_cons_succ, List.set_cons_zero])
      | (refine wpKL_call (by exact rfl) (by as_aux_lemma => intro W; go_simp; exact ⟨rfl, rfl⟩) (by intro W hK; with_reducible first | exact HSLT.out W hK) ?_; simp only [Act.put, List.setIfInBounds_toArray, List.set_cons_succ, List.set_cons_zero]))
    show ∀ W, _ → wpList _ _ _ _ _ _
    intro W5 hK5
    have HM5 := Lib.hid (HM1.out.old hK5)
    have HK5 := Lib.hid (HK1.out.trans (hK5.mono (fun _ _ x => x.elim)))
    clear hK5 c0 c2 b0 b1 b2 b3
    go_wp2_with (first
      | (refine wp_set_ent rfl 314 (.tmp 21) (.tmp 20) rfl enI 4 enI_len S1 HM5.out.row q (by omega) ⟨r, ⟨fl, id, ln⟩⟩ rfl rfl rfl (infoIt _) rfl ?_
         intro W6 ho6 hk6
         have HO6 := Lib.hid ho6
         have HB6 := Lib.hid (HM5.out.top.kp hk6 (fun e => own_ne_blk HM5.out.row HM5.out.top (by decide) (by rw [e]; rfl)))
         have HK6 := Lib.hid hk6
         have d2 := HB6.out.cell 2 rfl
         have df := HB6.out.fz 2
         clear ho6 hk6))
    go_ret
    have hks : Kp (fun b => b = rb) W6 (W6.setCell ⟨rb, 2, none⟩ (.int .i64 ((n : Int) + 1))) := (Kp.refl (fun b => b = rb) W6).set (p := ⟨rb, 2, none⟩) (.inl rfl) _
    have hgr : g1 ≠ rb := fun e => own_ne_blk HM5.out.row HM5.out.top (by decide) (by rw [e]; rfl)
    refine ⟨rfl, _, ⟨.slice (some ⟨g1, 0, none⟩) S1.length cap1, S1.set q ⟨r, ⟨fl, id, ln⟩⟩, fr1, n + 1, rfl, ⟨HB6.out.set 2 _, ?_⟩, HOK2.out, hroom⟩, ?_, ?_⟩
    · rw [List.length_set]; exact own_kp HO6.out hks (fun b hb e => by have h9 : g1 = b := Option.some.inj hb; omega)
    · exact (HK5.out.steps HNW1.out ((HK6.out.mono (fun b _ e => .inr (by rw [e]; rfl))).trans (hks.mono (fun b _ e => .inl e))))
    · exact HNW1.out

set_option maxRecDepth 100000 in
set_option maxHeartbeats 2000000 in
theorem rgAtNo (p : Option Addr) (w : World) (HL : ∀ W, Kp none' w W → Calls Tryz.prog 233 #[.pointer p] W fun e w' => e = .returned (.int .i64 0) ∧ W = w') : Calls Tryz.prog 234 #[.pointer p, .int .i64 0] w fun e w' => e = .returned (.tuple #[.agg (enI zIt).toArray, .bool false]) ∧ Kp none' w w' := by
  have HL := Lib.hid HL
  show Calls _ _ _ _ fun e w' => e = .returned (.tuple #[.agg #[.int .u64 0, .int .u32 0, .int .u32 0, .int .u64 0], .bool false]) ∧ Kp none' w w'
  have HB4 := Lib.hid ((Blk.new w [.int .u64 0, .int .u32 0, .int .u32 0, .int .u64 0] 314).alloc (.cells #[.int .u64 0, .int .u32 0, .int .u32 0, .int .u64 0] 314))
  have hB6 := Blk.new (w.alloc (.cells #[.int .u64 0, .int .u32 0, .int .u32 0, .int .u64 0] 314)) [.int .u64 0, .int .u32 0, .int .u32 0, .int .u64 0] 314
  rw [World.size_alloc] at hB6
  have HB6 := Lib.hid hB6
  have HK1 := Lib.hid (((Kp.refl none' w).alloc (.cells #[.int .u64 0, .int .u32 0, .int .u32 0, .int .u64 0] 314)).alloc (.cells #[.int .u64 0, .int .u32 0, .int .u32 0, .int .u64 0] 314))
  clear hB6
  go_enter Tryz.func234, Tryz.ntmps234
  go_wp2_with fail
  refine (HL.out _ HK1.out).mono ?_
  rintro e w1 ⟨rfl, rfl⟩
  have x0 := HB6.out.cell 0 rfl
  have x1 := HB6.out.cell 1 rfl
  have x2 := HB6.out.cell 2 rfl
  have x3 := HB6.out.cell 3 rfl
  have y0 := HB4.out.cell 0 rfl
  have y1 := HB4.out.cell 1 rfl
  have y2 := HB4.out.cell 2 rfl
  have y3 := HB4.out.cell 3 rfl
  have yf := fun j => HB4.out.fz j
  go_wp2_with fail
  exact ret_row2 (by exact rfl) HB4.out _ Tryz.underlying314 rfl (infoIt zIt) (by exact rfl) ⟨rfl, HK1.out⟩
set_option maxHeartbeats 400000 in
theorem rgLenNil (w : World) : Calls Tryz.prog 233 #[.pointer none] w fun e w' => e = .returned (.int .i64 0) ∧ w = w' := by
  go_enter Tryz.func233, Tryz.ntmps233
  go_wp2
  go_ret
  exact ⟨rfl, rfl⟩
set_option maxRecDepth 100000 in
set_option maxHeartbeats 2000000 in
theorem rgAtSome {w : World} {F : Nat → Prop} {rb room : Nat} {q : It} {Q : List It} (h : Rg w F rb room (q :: Q)) : Calls Tryz.prog 234 #[.pointer (some ⟨rb, 0, none⟩), .int .i64 0] w fun e w' => e = .returned (.tuple #[.agg (enI q).toArray, .bool true]) ∧ Kp none' w w' := by
  obtain ⟨v, S, fr, n, rfl, hm, ok, hroom⟩ := h
  have hn0 : 0 < n := by have := ok.len; rw [List.length_cons] at this; omega
  have hni : (0 : Int) < n := by omega
  have hSn := ok.n_le
  have hfr := ok.frlt (by omega)
  have hfit := ok.fits
  have hg := (ok.take zIt).1
  have e0 : slN S.length fr 0 = fr := by unfold slN; rw [if_pos (by omega)]; omega
  have HL := Lib.hid (fun W (k : Kp none' w W) => rgLen (hm.old k))
  have hsl0 := fun W (k : Kp none' w W) => rgSlot (hm.old k) hfr (by omega) 0 (by omega)
  rw [e0] at hsl0
  have hsl : ∀ W, Kp none' w W → Calls Tryz.prog 235 #[.pointer (some ⟨rb, 0, none⟩), .int .i64 0] W fun e w' => e = .returned (.int .i64 fr) ∧ Kp none' W w' := hsl0
  have HSL := Lib.hid hsl
  obtain ⟨g, cap, rfl, _⟩ := own_shape1 hm.row (by omega)
  have HLD := Lib.hid (it_load hm.row fr q hg)
  have c0 := hm.top.cell 0 rfl
  have hfi : (fr : Int) < S.length := by omega
  have HX := Lib.hid hm
  clear hsl hsl0 e0 hg hm ok
  generalize S.length = N at *
  have HB4 := Lib.hid ((Blk.new w [.int .u64 0, .int .u32 0, .int .u32 0, .int .u64 0] 314).alloc (.cells #[.int .u64 0, .int .u32 0, .int .u32 0, .int .u64 0] 314))
  have hB6 := Blk.new (w.alloc (.cells #[.int .u64 0, .int .u32 0, .int .u32 0, .int .u64 0] 314)) [.int .u64 0, .int .u32 0, .int .u32 0, .int .u64 0] 314
  rw [World.size_alloc] at hB6
  have HB6 := Lib.hid hB6
  have HK1 := Lib.hid (((Kp.refl none' w).alloc (.cells #[.int .u64 0, .int .u32 0, .int .u32 0, .int .u64 0] 314)).alloc (.cells #[.int .u64 0, .int .u32 0, .int .u32 0, .int .u64 0] 314))
  clear hB6
  go_enter Tryz.func234, Tryz.ntmps234
  go_wp2_with fail
  obtain ⟨W1, hW1⟩ : ∃ W1, (w.alloc (.cells #[.int .u64 0, .int .u32 0, .int .u32 0, .int .u64 0] 314)).alloc (.cells #[.int .u64 0, .int .u32 0, .int .u32 0, .int .u64 0] 314) = W1 := ⟨_, rfl⟩
  rw [hW1] at HB4 HB6 HK1
  simp only [List.toArray] at hW1
  change Calls _ _ _ ((w.alloc (.cells #[.int .u64 0, .int .u32 0, .int .u32 0, .int .u64 0] 314)).alloc (.cells #[.int .u64 0, .int .u32 0, .int .u32 0, .int .u64 0] 314)) _
  rw [hW1]
  clear hW1
  refine (HL.out W1 HK1.out).mono ?_
  rintro e w1 ⟨rfl, rfl⟩
  have d0 := HK1.out.cell c0 (fun x => x)
  clear c0
  go_wp2_with fail
  refine wp_region_kept2 [] [0, 1, 2, 3, 4, 5, 6, 7, 8] 9 (by kernel_rfl) (by kernel_rfl) (fun c a d u w h => by cases d <;> exact h) ?_
  simp only [pick, List.getElem?_cons_succ, List.getElem?_cons_zero, List.drop_succ_cons, List.drop_zero]
  show wpKL _ _ _ _ _ _
  repeat (first
    | (refine wpKL_op (by exact rfl) (load_at rfl rfl (fun W k => HLD.out W (HK1.out.trans k))) ?_; simp only [Act.put, List.setIfInBounds_toArray, List.set_cons_succ, List.set_cons_zero])
    | (refine wpKL_op (by exact rfl) (by as_aux_lemma => intro W hK; have e0 := hK.cell d0 (fun x => x); go_simp; exact rfl) ?_; simp only [Act.put, List.setIfInBounds_toArray, List.set_cons_succ, List.set_cons_zero])
    | (refine wpKL_off (by exact rfl) ?_; simp only [Act.put, List.setIfInBounds_toArray, List.set_cons_succ, List.set_cons_zero])
    | (refine wpKL_call (by exact rfl) (by as_aux_lemma => intro W; go_simp; exact ⟨rfl, rfl⟩) (by intro W hK; with_reducible first | exact HSL.out W (HK1.out.trans hK)) ?_; simp only [Act.put, List.setIfInBounds_toArray, List.set_cons_succ, List.set_cons_zero]))
  show ∀ W, _ → wpList _ _ _ _ _ _
  intro W3 hK3
  have HB4' := Lib.hid (HB4.out.kp hK3 (fun x => x))
  have HK3 := Lib.hid (HK1.out.trans hK3)
  clear hK3 d0
  refine wp_set_row (by exact rfl) 314 (.tmp 4) (.tmp 24) (by exact rfl) HB4'.out (enI q) (by exact rfl) (by exact rfl) (infoIt q) rfl (by intro v hv; simp only [enI, List.mem_cons, List.not_mem_nil, or_false] at hv; rcases hv with rfl | rfl | rfl | rfl <;> rfl) ?_
  intro W4 hB4 _ hK4
  have HB5 := Lib.hid hB4
  have HK4 := Lib.hid (hK4 none' w HK3.out (.inr (Nat.le_refl _)))
  clear hB4 hK4
  simp only [Act.put]
  go_wp2_with fail
  exact ret_row2 (by exact rfl) HB5.out _ Tryz.underlying314 rfl (infoIt q) (by exact rfl) ⟨rfl, HK4.out⟩
theorem oneIt (q : It) : ∀ v ∈ enI q, v.oneCell' = true := by
  intro v hv; simp only [enI, List.mem_cons, List.not_mem_nil, or_false] at hv; rcases hv with rfl | rfl | rfl | rfl <;> rfl
set_option maxRecDepth 100000 in
set_option maxHeartbeats 2000000 in
theorem rgHeadR (p : Option Addr) (w : World) (q : It) (is : Bool) (HA : ∀ W, Kp none' w W → Calls Tryz.prog 234 #[.pointer p, .int .i64 0] W fun e w' => e = .returned (.tuple #[.agg (enI q).toArray, .bool is]) ∧ Kp none' W w') : Calls Tryz.prog 230 #[.pointer p] w fun e w' => e = .returned (.tuple #[.agg (enI q).toArray, .bool is]) ∧ Kp none' w w' := by
  have HA := Lib.hid HA
  have HB := Lib.hid (Blk.new w [.int .u64 0, .int .u32 0, .int .u32 0, .int .u64 0] 314)
  have HK := Lib.hid ((Kp.refl none' w).alloc (.cells #[.int .u64 0, .int .u32 0, .int .u32 0, .int .u64 0] 314))
  go_enter Tryz.func230, Tryz.ntmps230
  go_wp2_with fail
  refine (HA.out _ HK.out).mono ?_
  rintro e w1 ⟨rfl, hk1⟩
  have HB1 := Lib.hid (HB.out.kp hk1 (fun x => x))
  have HK1 := Lib.hid (HK.out.trans hk1)
  clear hk1
  go_wp2_with (first
    | (refine wp_set_row rfl 314 (.tmp 2) (.tmp 6) rfl HB1.out (enI q) rfl rfl (infoIt q) rfl (oneIt q) ?_
       intro W4 hB4 _ hK4
       have HB5 := Lib.hid hB4
       have HK4 := Lib.hid (hK4 none' w HK1.out (.inr (Nat.le_refl _)))
       clear hB4 hK4))
  exact ret_row2 (by exact rfl) HB5.out _ Tryz.underlying314 rfl (infoIt q) (by exact rfl) ⟨rfl, HK4.out⟩
def hdI : List It → It × Bool
  | [] => (zIt, false)
  | q :: _ => (q, true)
theorem rgHead {w : World} {F : Nat → Prop} {rb room : Nat} {Q : List It} (h : Rg w F rb room Q) : Calls Tryz.prog 230 #[.pointer (some ⟨rb, 0, none⟩)] w fun e w' => e = .returned (.tuple #[.agg (enI (hdI Q).1).toArray, .bool (hdI Q).2]) ∧ Kp none' w w' := by
  refine rgHeadR _ w _ _ (fun W k => ?_)
  cases Q with
  | nil =>
    refine rgAtNo _ W (fun W' k' => ?_)
    obtain ⟨v, S, fr, n, rfl, hm, ok, hroom⟩ := h
    have hn : n = 0 := ok.len.symm
    subst hn
    exact rgLen (hm.old (k.trans k'))
  | cons q Q => exact rgAtSome (h.old k)
theorem rgHeadNil (w : World) : Calls Tryz.prog 230 #[.pointer none] w fun e w' => e = .returned (.tuple #[.agg (enI zIt).toArray, .bool false]) ∧ Kp none' w w' :=
  rgHeadR _ w _ _ (fun W _ => rgAtNo _ W (fun W' _ => rgLenNil W'))
end Go.Proofs.YtfckgddodjmbdaaGreatDoor
