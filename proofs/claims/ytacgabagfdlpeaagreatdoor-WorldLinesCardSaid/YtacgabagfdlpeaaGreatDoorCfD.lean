/- Walks for layer 24: conf.Check, r24.Check. -/
import Derived.Test.YtacgabagfdlpeaaGreatDoorCfC
namespace Go.Proofs.YtacgabagfdlpeaaGreatDoor
set_option linter.unusedVariables false
set_option linter.unusedSimpArgs false
open Go Go.RowKit Go.Shelf

theorem chk_kind {c : CfR} (h : c.rank < 1 ∨ 3 < c.rank ∨ c.back < 1 ∨ 3 < c.back) : chk c = 22 := by unfold chk; rw [if_pos h]
theorem chk_lev {c : CfR} (h : ¬ (c.rank < 1 ∨ 3 < c.rank ∨ c.back < 1 ∨ 3 < c.back)) (h2 : c.levels < 1 ∨ 3 < c.levels) : chk c = 23 := by unfold chk; rw [if_neg h, if_pos h2]
theorem chk_que {c : CfR} (h : ¬ (c.rank < 1 ∨ 3 < c.rank ∨ c.back < 1 ∨ 3 < c.back)) (h2 : ¬ (c.levels < 1 ∨ 3 < c.levels)) (h3 : c.queues < 1 ∨ 32 < c.queues) : chk c = 24 := by unfold chk; rw [if_neg h, if_neg h2, if_pos h3]
theorem chk_rest {c : CfR} (h : ¬ (c.rank < 1 ∨ 3 < c.rank ∨ c.back < 1 ∨ 3 < c.back)) (h2 : ¬ (c.levels < 1 ∨ 3 < c.levels)) (h3 : ¬ (c.queues < 1 ∨ 32 < c.queues)) : chk c = if admE c ≠ 0 then admE c else if c.rate = 0 then 27 else if c.burst < c.mtu then 28 else 0 := by unfold chk; rw [if_neg h, if_neg h2, if_neg h3]
set_option maxRecDepth 100000 in
set_option maxHeartbeats 4000000 in
theorem gChk (c : CfR) (hc : c.ok) (v : Value) (w : World) (h : Sl w v c.flows.length 5 (c.flows.flatMap enFl)) : Calls Tryz.prog 30 #[.agg (enC c v).toArray] w fun e w' => e = .returned (.int .i64 (chk c)) ∧ Kp none' w w' := by
  have GA := Lib.hid (fun W hs => gAdm c hc v W hs)
  have H1 := Lib.hid (@chk_kind c); have H2 := Lib.hid (@chk_lev c); have H3 := Lib.hid (@chk_que c); have H4 := Lib.hid (@chk_rest c)
  have HS := Lib.hid h
  have b7 := hc.mtu; have b8 := hc.rate; have b9 := hc.burst
  unfold M64 at b7 b8 b9
  obtain ⟨ad, had⟩ : ∃ a, admE c = a := ⟨_, rfl⟩
  rw [had] at GA H4
  clear had
  obtain ⟨rk, bk, lv, qu, pk, bt, sh, mt, rt, bu, fl⟩ := c
  unfold enC at GA ⊢
  simp only at GA H1 H2 H3 H4 HS b7 b8 b9 ⊢
  clear h hc
  by_cases h1 : rk < 1
  · have HE := Lib.hid (H1.out (.inl h1))
    go_enter Tryz.func30, Tryz.ntmps30
    go_wp2
    go_ret
    exact ⟨by rw [HE.out]; rfl, (Kp.refl _ _).alloc _⟩
  · by_cases h2 : 3 < rk
    · have HE := Lib.hid (H1.out (.inr (.inl h2)))
      go_enter Tryz.func30, Tryz.ntmps30
      go_wp2
      go_ret
      exact ⟨by rw [HE.out]; rfl, (Kp.refl _ _).alloc _⟩
    · by_cases h3 : bk < 1
      · have HE := Lib.hid (H1.out (.inr (.inr (.inl h3))))
        go_enter Tryz.func30, Tryz.ntmps30
        go_wp2
        go_ret
        exact ⟨by rw [HE.out]; rfl, (Kp.refl _ _).alloc _⟩
      · by_cases h4 : 3 < bk
        · have HE := Lib.hid (H1.out (.inr (.inr (.inr h4))))
          go_enter Tryz.func30, Tryz.ntmps30
          go_wp2
          go_ret
          exact ⟨by rw [HE.out]; rfl, (Kp.refl _ _).alloc _⟩
        · have HN1 : Hid (¬ (rk < 1 ∨ 3 < rk ∨ bk < 1 ∨ 3 < bk)) := by show ¬ _; omega
          by_cases h5 : lv < 1
          · have HE := Lib.hid (H2.out HN1.out (.inl h5))
            go_enter Tryz.func30, Tryz.ntmps30
            go_wp2
            go_ret
            exact ⟨by rw [HE.out]; rfl, (Kp.refl _ _).alloc _⟩
          · by_cases h6 : 3 < lv
            · have HE := Lib.hid (H2.out HN1.out (.inr h6))
              go_enter Tryz.func30, Tryz.ntmps30
              go_wp2
              go_ret
              exact ⟨by rw [HE.out]; rfl, (Kp.refl _ _).alloc _⟩
            · have HN2 : Hid (¬ (lv < 1 ∨ 3 < lv)) := by show ¬ _; omega
              by_cases h7 : qu < 1
              · have HE := Lib.hid (H3.out HN1.out HN2.out (.inl h7))
                go_enter Tryz.func30, Tryz.ntmps30
                go_wp2
                go_ret
                exact ⟨by rw [HE.out]; rfl, (Kp.refl _ _).alloc _⟩
              · by_cases h8 : 32 < qu
                · have HE := Lib.hid (H3.out HN1.out HN2.out (.inr h8))
                  go_enter Tryz.func30, Tryz.ntmps30
                  go_wp2
                  go_ret
                  exact ⟨by rw [HE.out]; rfl, (Kp.refl _ _).alloc _⟩
                · have HE4 := Lib.hid (H4.out HN1.out HN2.out (by omega))
                  have hb0 := Blk.new w (enC ⟨rk, bk, lv, qu, pk, bt, sh, mt, rt, bu, fl⟩ v) 55
                  have hk0 := (Kp.refl none' w).alloc (.cells (enC ⟨rk, bk, lv, qu, pk, bt, sh, mt, rt, bu, fl⟩ v).toArray 55)
                  unfold enC at hb0 hk0
                  have HB0 := Lib.hid hb0; have HK0 := Lib.hid hk0
                  clear hb0 hk0 H1 H2 H3 H4
                  go_enter Tryz.func30, Tryz.ntmps30
                  go_wp2_with fail
                  refine (GA.out _ (HS.out.old HK0.out)).mono ?_
                  rintro e w2 ⟨rfl, k2⟩
                  have HK2 := Lib.hid (HK0.out.trans k2)
                  have hb2 := HB0.out.kp k2 (fun x => x)
                  have c7 := hb2.cell 7 rfl; have c8 := hb2.cell 8 rfl; have c9 := hb2.cell 9 rfl
                  clear k2 hb2 HB0 GA
                  by_cases ha : ad = 0
                  · subst ha
                    by_cases hr : rt = 0
                    · subst hr
                      have HE : Hid (chk ⟨rk, bk, lv, qu, pk, bt, sh, mt, 0, bu, fl⟩ = 27) := by show _ = _; rw [HE4.out]; rfl
                      go_wp2
                      go_ret
                      exact ⟨by rw [HE.out]; rfl, HK2.out⟩
                    · have hrb : ((rt : Int) == 0) = false := by rw [beq_eq_false_iff_ne]; omega
                      by_cases hm : bu < mt
                      · have HE : Hid (chk ⟨rk, bk, lv, qu, pk, bt, sh, mt, rt, bu, fl⟩ = 28) := by show _ = _; rw [HE4.out, if_neg (by simp), if_neg hr, if_pos hm]
                        have hmi : (bu : Int) < mt := by omega
                        clear hr hm
                        go_wp2
                        go_ret
                        exact ⟨by rw [HE.out]; rfl, HK2.out⟩
                      · have HE : Hid (chk ⟨rk, bk, lv, qu, pk, bt, sh, mt, rt, bu, fl⟩ = 0) := by show _ = _; rw [HE4.out, if_neg (by simp), if_neg hr, if_neg hm]
                        have hmi : ¬ (bu : Int) < mt := by omega
                        clear hr hm
                        go_wp2
                        go_ret
                        exact ⟨by rw [HE.out]; rfl, HK2.out⟩
                  · have HE : Hid (chk ⟨rk, bk, lv, qu, pk, bt, sh, mt, rt, bu, fl⟩ = ad) := by show _ = _; rw [HE4.out, if_pos ha]
                    have hab : (ad != 0) = true := by simpa using ha
                    clear ha
                    go_wp2
                    go_ret
                    exact ⟨by rw [HE.out]; rfl, HK2.out⟩
end Go.Proofs.YtacgabagfdlpeaaGreatDoor
