/- Walks of layer 27, the document's: what left costs. -/
import Derived.Test.YthjapdjglifopaaFairV
import Derived.Test.YthjapdjglifopaaFairM
import Derived.Test.YthjapdjglifopaaWideT
import Derived.Test.YthjapdjglifopaaWideL
import Derived.Test.YthjapdjglifopaaKept
namespace Go.Proofs.Ythjapdjglifopaa
set_option linter.unusedVariables false
set_option linter.unusedSimpArgs false
open Go.RowKit Go.Shelf

theorem wN_one (n : Nat) : ∀ v ∈ wN n, v.oneCell' = true := by
  intro v hv
  simp only [wN, wq, List.mem_cons, List.not_mem_nil, or_false] at hv
  rcases hv with rfl | rfl | rfl | rfl <;> rfl
theorem wN_lit (n : Nat) : ∃ a b c d : Int, wN n = [.int .u64 a, .int .u64 b, .int .u64 c, .int .u64 d] := ⟨_, _, _, _, rfl⟩
theorem infoW : (Try.prog.info? 93).map (·.size) = some 4 := by kernel_rfl
/-- What the loop keeps. -/
structure CoI (n : Nat) (w wr : World) (b : Nat) : Prop where
  box : Blk wr b (wN n) 93
  res : Blk wr w.heap.size (wq 0 0 0 0) 93
  kp : Kp none' w wr

set_option maxRecDepth 100000 in
set_option maxHeartbeats 4000000 in
theorem rCost (fl : List FlR) (l : List RpR) (hfl : ∀ x ∈ fl, x.ok) (hq : ∀ q ∈ l, q.ok) (hfn : fl.length ≤ 1000) (hln : l.length ≤ 1000) (f : Nat) (hf : f < fl.length) (a k : Nat) (hak : a ≤ k) (hk : k < l.length) (u v : Value) (w : World) (h1 : Sl w u fl.length 5 (fl.flatMap enFl)) (h2 : Sl w v l.length 42 (l.flatMap enQ)) :
    Calls Try.prog 44 #[u, v, .int .i64 f, .int .i64 a, .int .i64 k] w fun e w' => e = .returned (.agg (wN (costF fl f fl[f].cost (seg l (a + 1) (k + 1)))).toArray) ∧ Kp none' w w' := by
  obtain ⟨ao, acap, rfl⟩ : ∃ ao cap, u = .slice ao fl.length cap := by obtain ⟨ao, cap, rfl, _⟩ := h1.is; exact ⟨_, _, rfl⟩
  obtain ⟨bo, bcap, rfl⟩ : ∃ ao cap, v = .slice ao l.length cap := by obtain ⟨ao, cap, rfl, _⟩ := h2.is; exact ⟨_, _, rfl⟩
  obtain ⟨gf, off, cf, e1, hcf⟩ := h1.at enFl_len (by decide) f hf
  injection e1 with e1 _ e3
  subst e1 e3
  have hfo := (hfl fl[f] (List.getElem_mem hf)).cost
  have hcc : w.cell? ⟨gf, off + f * 5 + 1, none⟩ = some (.int .u64 fl[f].cost) := hcf 1 _ rfl
  obtain ⟨c, hc⟩ : ∃ c, fl[f].cost = c := ⟨_, rfl⟩
  rw [hc] at hfo hcc ⊢
  have HX := Lib.hid h1; have HQ := Lib.hid h2
  have HCC := Lib.hid hcc
  have HO := Lib.hid (fun W => rOfN 0 (by omega) W)
  clear h1 h2 hcf hcc hc
  go_enter Try.func44, Try.ntmps44
  go_wp2_with fail
  refine (HO.out _).mono ?_
  rintro e w1 ⟨rfl, k1⟩
  have HR1 := Lib.hid ((Blk.new w (wq 0 0 0 0) 93).kp k1 id)
  have HK1 := Lib.hid (((Kp.refl none' w).alloc (.cells (wq 0 0 0 0).toArray 93)).trans k1)
  have hsz1 := HR1.out.lt
  clear k1
  go_wp2_with (refine wp_new_row (old := wq 0 0 0 0) rfl 93 (.tmp 11) (.tmp 14) rfl (wN 0) rfl rfl infoW rfl (wN_one 0) ?_
               intro W2 hB2 hK2)
  have HI : Hid (CoI (costF fl f c (seg l (a + 1) (a + 1))) w W2 w1.heap.size) := ⟨by rw [seg_nil]; exact hB2, HR1.out.kp hK2 id, HK1.out.trans hK2⟩
  clear hB2 hK2
  obtain ⟨b, hb⟩ : ∃ b, w1.heap.size = b := ⟨_, rfl⟩
  rw [hb] at HI hsz1 ⊢
  go_wp2_with fail
  go_loopw [12] (fun i0 wr => ∃ i : Nat, i0 = .int .i64 i ∧ a + 1 ≤ i ∧ i ≤ k + 1 ∧ Hid (CoI (costF fl f c (seg l (a + 1) i)) w wr b)) (fun i0 _ => k + 1 - (intOf i0).toNat)
  case atStart => exact ⟨a + 1, by go_num, by omega, by omega, HI.out⟩
  case round =>
    obtain ⟨i, rfl, hi1, hi2, hr⟩ := hrel
    by_cases hlt : i ≤ k
    · have hil : i < l.length := by omega
      have hti : (i : Int) ≤ k := by omega
      obtain ⟨gq, oq, cq, e1, hcq⟩ := (HQ.out.old hr.out.kp).range enQ_len (by decide) i hil
      injection e1 with e1 _ e3
      subst e1 e3
      have hqo := hq l[i] (List.getElem_mem hil)
      have hst : costF fl f c (seg l (a + 1) (i + 1)) = costS fl f c (costF fl f c (seg l (a + 1) i)) l[i] := by rw [seg_snoc l (a + 1) i hi1 hil, costF_snoc]
      have hle := costF_le fl f c 18446744073709551616 (by omega) (seg l (a + 1) i)
      have hsl : (seg l (a + 1) i).length ≤ 1000 := by unfold seg; rw [List.length_drop, List.length_take]; omega
      obtain ⟨q, hqj⟩ : ∃ q, l[i] = q := ⟨_, rfl⟩
      rw [hqj] at hqo hcq hst
      obtain ⟨n, hn⟩ : ∃ n, costF fl f c (seg l (a + 1) i) = n := ⟨_, rfl⟩
      rw [hn] at hr hst hle
      have hnb : n ≤ 1000 * (18446744073709551616 * 65535) := Nat.le_trans hle (Nat.mul_le_mul_right _ hsl)
      have HCQ := Lib.hid hcq
      have HST := Lib.hid hst
      have HA := Lib.hid (fun W h => rOfQ fl (by omega) q hqo f 2 (.slice (some ⟨gf, off, none⟩) fl.length acap) W h)
      have HB := Lib.hid hr.out.box; have HR := Lib.hid hr.out.res; have HK := Lib.hid hr.out.kp
      have HQN := Lib.hid hqo.n
      have hqn := hqo.hn
      clear hqj hn hst hle hsl hcq hr HI
      go_wp2_with (refine wpList_load_mid rfl 77 (.tmp 25) rfl gq (oq + i * 42) rfl (enQ q) _ HCQ.out Try.underlying77 rfl (infoQ q) ?_)
      refine (HA.out _ (HX.out.old HK.out)).mono ?_
      rintro e w3 ⟨rfl, k3⟩
      have HK3 := Lib.hid (HK.out.trans k3)
      have HB3 := Lib.hid (HB.out.kp k3 id)
      have HR3 := Lib.hid (HR.out.kp k3 id)
      have c4 : w3.cell? ⟨gq, oq + i * 42 + 4, none⟩ = some (.int .u64 q.len) := k3.cell (HCQ.out 4 _ HQN.out) id
      clear k3
      cases ha : ofB fl q f 2 with
      | false =>
        have HE : Hid (costF fl f c (seg l (a + 1) (i + 1)) = n) := by show _ = _; rw [HST.out]; unfold costS; rw [if_neg (by simp [ha])]
        clear ha
        go_wp2_with fail
        go_roundw
        case rel => exact ⟨i + 1, by go_num, by omega, by omega, by rw [HE.out]; exact ⟨HB3.out, HR3.out, HK3.out⟩⟩
        case measure => simp [intOf]; omega
      | true =>
        obtain ⟨m, hm⟩ : ∃ m, min q.len 65535 = m := ⟨_, rfl⟩
        have HE : Hid (costF fl f c (seg l (a + 1) (i + 1)) = n + c * m) := by show _ = _; rw [HST.out]; unfold costS; rw [if_pos ha, hm]
        have hm64 : m < 18446744073709551616 := by omega
        have hcm : c * m ≤ 18446744073709551616 * 65535 := Nat.mul_le_mul (by omega) (by omega)
        have ht := fun W => rTimesN c m hfo hm64 W
        have hp := fun W => rPlusN n (c * m) (by omega) W
        have HF : Hid (∀ W, Blk W b (wN n) 93 → Blk (W.setRow b (wN (n + c * m)).toArray) b (wN (n + c * m)) 93) := fun W h => blk_setRow h
        have hone := wN_one (n + c * m)
        have hc3 := HK3.out.cell HCC.out id
        obtain ⟨x0, x1, x2, x3, hx⟩ := wN_lit n
        obtain ⟨y0, y1, y2, y3, hy⟩ := wN_lit (c * m)
        obtain ⟨p, hpn⟩ : ∃ p, n + c * m = p := ⟨_, rfl⟩
        rw [hpn] at hp HE hone HF
        obtain ⟨z0, z1, z2, z3, hz⟩ := wN_lit p
        rw [hx, hy, hz] at hp
        rw [hy] at ht
        have HT := Lib.hid ht; have HP := Lib.hid hp
        have b0 := HB3.out.cell 0 (by rw [hx]; rfl)
        have b1 := HB3.out.cell 1 (by rw [hx]; rfl)
        have b2 := HB3.out.cell 2 (by rw [hx]; rfl)
        have b3 := HB3.out.cell 3 (by rw [hx]; rfl)
        have HZ : Hid (wN p = [.int .u64 z0, .int .u64 z1, .int .u64 z2, .int .u64 z3]) := hz
        have hcase : (65535 < q.len ∧ m = 65535) ∨ (¬ 65535 < q.len ∧ m = q.len) := by omega
        have hbs : w.heap.size < b := by omega
        have HNE : Hid (w.heap.size ≠ b) := by show _ ≠ _; omega
        clear hx hy hz hpn ht hp hm ha hcm hnb
        rcases hcase with ⟨hgt, rfl⟩ | ⟨hgt, rfl⟩
        · have hgi : (65535 : Int) < q.len := by omega
          have e65 : ((65535 : Nat) : Int) = 65535 := rfl
          rw [e65] at HT
          go_wp2_with fail
          refine wp_region_kept2 [] [0, 1, 2, 3, 4, 5, 6, 7, 8] 9 (by kernel_rfl) (by kernel_rfl) (fun c a d u w h => by cases d <;> exact h) ?_
          simp only [pick, List.getElem?_cons_succ, List.getElem?_cons_zero, List.drop_succ_cons, List.drop_zero]
          show wpKL _ _ _ _ _ _
          repeat (first
            | (refine wpKL_op (by exact rfl) (by as_aux_lemma => intro W hK; have e0 := hK.cell b0 id; have e1 := hK.cell b1 id; have e2 := hK.cell b2 id; have e3 := hK.cell b3 id; have e4 := hK.cell hc3 id; go_simp; exact rfl) ?_; simp only [Act.put, List.setIfInBounds_toArray, List.set_cons_succ, List.set_cons_zero])
            | (refine wpKL_off (by exact rfl) ?_; simp only [Act.put, List.setIfInBounds_toArray, List.set_cons_succ, List.set_cons_zero])
            | (refine wpKL_call (by exact rfl) (by as_aux_lemma => intro W; go_simp; exact ⟨rfl, rfl⟩) (by intro W hK; with_reducible first | exact HT.out W | exact HP.out W) ?_; simp only [Act.put, List.setIfInBounds_toArray, List.set_cons_succ, List.set_cons_zero]))
          show ∀ W, _ → wpList _ _ _ _ _ _
          intro W5 hK5
          have HB5 := Lib.hid (HB3.out.kp hK5 id)
          have HR5 := Lib.hid ((HR3.out.kp hK5 id).kp (S := fun x => x = b) (kp_setRow (S := fun x => x = b) (g := b) (Kp.refl _ W5) (.inl rfl) (wN p).toArray) HNE.out)
          have HK5 := Lib.hid (kp_setRow (HK3.out.trans hK5) (g := b) (.inr (by omega)) (wN p).toArray)
          have HF5 := Lib.hid (HF.out W5 HB5.out)
          rw [HZ.out] at HR5 HK5 HF5 hone
          clear hK5
          go_wp2_with (refine wpList_store_row rfl 93 (.tmp 11) (.tmp 45) rfl b _ rfl rfl 93 (wN n).toArray HB5.out.is infoW rfl (all_oneCell_toArray hone) ?_)
          go_roundw
          case rel => exact ⟨i + 1, by go_num, by omega, by omega, by rw [HE.out]; exact ⟨by rw [HZ.out]; exact HF5.out, HR5.out, HK5.out⟩⟩
          case measure => simp [intOf]; omega
        · have hgi : ¬ (65535 : Int) < q.len := by omega
          go_wp2_with fail
          refine wp_region_kept2 [] [0, 1, 2, 3, 4, 5, 6, 7, 8] 9 (by kernel_rfl) (by kernel_rfl) (fun c a d u w h => by cases d <;> exact h) ?_
          simp only [pick, List.getElem?_cons_succ, List.getElem?_cons_zero, List.drop_succ_cons, List.drop_zero]
          show wpKL _ _ _ _ _ _
          repeat (first
            | (refine wpKL_op (by exact rfl) (by as_aux_lemma => intro W hK; have e0 := hK.cell b0 id; have e1 := hK.cell b1 id; have e2 := hK.cell b2 id; have e3 := hK.cell b3 id; have e4 := hK.cell hc3 id; go_simp; exact rfl) ?_; simp only [Act.put, List.setIfInBounds_toArray, List.set_cons_succ, List.set_cons_zero])
            | (refine wpKL_off (by exact rfl) ?_; simp only [Act.put, List.setIfInBounds_toArray, List.set_cons_succ, List.set_cons_zero])
            | (refine wpKL_call (by exact rfl) (by as_aux_lemma => intro W; go_simp; exact ⟨rfl, rfl⟩) (by intro W hK; with_reducible first | exact HT.out W | exact HP.out W) ?_; simp only [Act.put, List.setIfInBounds_toArray, List.set_cons_succ, List.set_cons_zero]))
          show ∀ W, _ → wpList _ _ _ _ _ _
          intro W5 hK5
          have HB5 := Lib.hid (HB3.out.kp hK5 id)
          have HR5 := Lib.hid ((HR3.out.kp hK5 id).kp (S := fun x => x = b) (kp_setRow (S := fun x => x = b) (g := b) (Kp.refl _ W5) (.inl rfl) (wN p).toArray) HNE.out)
          have HK5 := Lib.hid (kp_setRow (HK3.out.trans hK5) (g := b) (.inr (by omega)) (wN p).toArray)
          have HF5 := Lib.hid (HF.out W5 HB5.out)
          rw [HZ.out] at HR5 HK5 HF5 hone
          clear hK5
          go_wp2_with (refine wpList_store_row rfl 93 (.tmp 11) (.tmp 45) rfl b _ rfl rfl 93 (wN n).toArray HB5.out.is infoW rfl (all_oneCell_toArray hone) ?_)
          go_roundw
          case rel => exact ⟨i + 1, by go_num, by omega, by omega, by rw [HE.out]; exact ⟨by rw [HZ.out]; exact HF5.out, HR5.out, HK5.out⟩⟩
          case measure => simp [intOf]; omega
    · have hik : i = k + 1 := by omega
      subst hik
      have hti : ¬ ((k + 1 : Nat) : Int) ≤ k := by omega
      have HB := Lib.hid hr.out.box; have HR := Lib.hid hr.out.res; have HK := Lib.hid hr.out.kp
      have hone := wN_one (costF fl f c (seg l (a + 1) (k + 1)))
      clear hr HI
      go_wp2_with (first
        | (refine wpList_load_row rfl 93 (.tmp 11) rfl b rfl 93 _ (0, 0) _ HB.out.is Try.underlying93 rfl infoW ?_)
        | (refine wpList_store_row rfl 93 (.tmp 10) (.tmp 46) rfl w.heap.size _ rfl rfl 93 (wq 0 0 0 0).toArray HR.out.is infoW rfl (all_oneCell_toArray hone) ?_))
      exact wRet Try.results44 (blk_setRow HR.out) (kp_setRow HK.out (.inr (Nat.le_refl _)) _) rfl
end Go.Proofs.Ythjapdjglifopaa
