/- Walks for layer 24: admit.Check, r17.Check. -/
import Derived.Test.YtacgabagfdlpeaaGreatDoorCfB
namespace Go.Proofs.YtacgabagfdlpeaaGreatDoor
set_option linter.unusedVariables false
set_option linter.unusedSimpArgs false
open Go Go.RowKit Go.Shelf

def enC (c : CfR) (v : Value) : List Value := [.int .i64 c.rank, .int .i64 c.back, .int .i64 c.levels, .int .i64 c.queues, .int .i64 c.packets, .int .u64 c.bytes, .int .i64 c.share, .int .u64 c.mtu, .int .u64 c.rate, .int .u64 c.burst, v]
theorem enC_len (c : CfR) (v : Value) : (enC c v).length = 11 := rfl
theorem adm_caps {c : CfR} (h : c.packets < 1 ∨ 4096 < c.packets ∨ c.bytes = 0 ∨ c.share < 0 ∨ 16 < c.share) : admE c = 25 := by unfold admE; rw [if_pos h]
theorem adm_over {c : CfR} (h : ¬ (c.packets < 1 ∨ 4096 < c.packets ∨ c.bytes = 0 ∨ c.share < 0 ∨ 16 < c.share)) (h2 : 18446744073709551615 / 2 ^ c.share.toNat < c.bytes) : admE c = 25 := by unfold admE; rw [if_neg h, if_pos h2]
theorem adm_mtu {c : CfR} (h : ¬ (c.packets < 1 ∨ 4096 < c.packets ∨ c.bytes = 0 ∨ c.share < 0 ∨ 16 < c.share)) (h2 : ¬ 18446744073709551615 / 2 ^ c.share.toNat < c.bytes) (h3 : c.mtu < 1 ∨ 65535 < c.mtu) : admE c = 26 := by unfold admE; rw [if_neg h, if_neg h2, if_pos h3]
theorem adm_fl {c : CfR} (h : ¬ (c.packets < 1 ∨ 4096 < c.packets ∨ c.bytes = 0 ∨ c.share < 0 ∨ 16 < c.share)) (h2 : ¬ 18446744073709551615 / 2 ^ c.share.toNat < c.bytes) (h3 : ¬ (c.mtu < 1 ∨ 65535 < c.mtu)) : admE c = flowsE c.flows := by unfold admE; rw [if_neg h, if_neg h2, if_neg h3]
/-- What so many parts have at most. -/
def lim (s : Nat) : Nat := 18446744073709551615 / 2 ^ s
set_option maxRecDepth 100000 in
set_option maxHeartbeats 4000000 in
theorem gAdm (c : CfR) (hc : c.ok) (v : Value) (w : World) (h : Sl w v c.flows.length 5 (c.flows.flatMap enFl)) : Calls Tryz.prog 51 #[.agg (enC c v).toArray] w fun e w' => e = .returned (.int .i64 (admE c)) ∧ Kp none' w w' := by
  have GR := Lib.hid (fun W hs => gRank c.flows v W hs)
  have H1 := Lib.hid (@adm_caps c); have H2 := Lib.hid (@adm_over c); have H3 := Lib.hid (@adm_mtu c); have H4 := Lib.hid (@adm_fl c)
  have HS := Lib.hid h
  have b5 := hc.bytes; have b7 := hc.mtu
  unfold M64 at b5 b7
  obtain ⟨rk, bk, lv, qu, pk, bt, sh, mt, rt, bu, fl⟩ := c
  unfold enC
  simp only at GR H1 H2 H3 H4 HS b5 b7 ⊢
  clear h hc
  by_cases h1 : pk < 1
  · have HE := Lib.hid (H1.out (.inl h1))
    go_enter Tryz.func51, Tryz.ntmps51
    go_wp2
    go_ret
    exact ⟨by rw [HE.out]; rfl, (Kp.refl _ _).alloc _⟩
  · by_cases h2 : 4096 < pk
    · have HE := Lib.hid (H1.out (.inr (.inl h2)))
      go_enter Tryz.func51, Tryz.ntmps51
      go_wp2
      go_ret
      exact ⟨by rw [HE.out]; rfl, (Kp.refl _ _).alloc _⟩
    · by_cases h3 : bt = 0
      · have HE := Lib.hid (H1.out (.inr (.inr (.inl h3))))
        subst h3
        go_enter Tryz.func51, Tryz.ntmps51
        go_wp2
        go_ret
        exact ⟨by rw [HE.out]; rfl, (Kp.refl _ _).alloc _⟩
      · have h3b : ((bt : Int) == 0) = false := by rw [beq_eq_false_iff_ne]; omega
        by_cases h4 : sh < 0
        · have HE := Lib.hid (H1.out (.inr (.inr (.inr (.inl h4)))))
          clear h3
          go_enter Tryz.func51, Tryz.ntmps51
          go_wp2
          go_ret
          exact ⟨by rw [HE.out]; rfl, (Kp.refl _ _).alloc _⟩
        · by_cases h5 : 16 < sh
          · have HE := Lib.hid (H1.out (.inr (.inr (.inr (.inr h5)))))
            clear h3
            go_enter Tryz.func51, Tryz.ntmps51
            go_wp2
            go_ret
            exact ⟨by rw [HE.out]; rfl, (Kp.refl _ _).alloc _⟩
          · obtain ⟨s, rfl⟩ : ∃ s : Nat, sh = s := ⟨sh.toNat, by omega⟩
            have HN : Hid (¬ (pk < 1 ∨ 4096 < pk ∨ bt = 0 ∨ (s : Int) < 0 ∨ 16 < (s : Int))) := by show ¬ _; omega
            rw [Int.toNat_natCast] at H2 H3 H4
            have hs16 : s ≤ 16 := by omega
            clear h3
            have hl : (18446744073709551615 : Int) / 2 ^ s = (lim s : Nat) := by unfold lim; rw [Int.natCast_ediv, Int.natCast_pow]; rfl
            have hb0 := Blk.new w (enC ⟨rk, bk, lv, qu, pk, bt, s, mt, rt, bu, fl⟩ v) 55
            have hk0 := (Kp.refl none' w).alloc (.cells (enC ⟨rk, bk, lv, qu, pk, bt, s, mt, rt, bu, fl⟩ v).toArray 55)
            unfold enC at hb0 hk0
            have HL := Lib.hid hl; have HB0 := Lib.hid hb0; have HK0 := Lib.hid hk0
            clear hl hb0 hk0
            go_enter Tryz.func51, Tryz.ntmps51
            go_wp2
            go_quiet (fail)
            rw [HL.out]
            have hb1 := HB0.out.drewN nq
            have HK1 := Lib.hid (HK0.out.drewN nq)
            have c7 := hb1.cell 7 rfl
            have c10 := hb1.cell 10 rfl
            clear hb1 HB0 HK0
            generalize (w.alloc (.cells #[.int .i64 rk, .int .i64 bk, .int .i64 lv, .int .i64 qu, .int .i64 pk, .int .u64 bt, .int .i64 s, .int .u64 mt, .int .u64 rt, .int .u64 bu, v] 55)).drewN nq = w1 at *
            by_cases h6 : lim s < bt
            · have HE := Lib.hid (H2.out HN.out h6)
              have h6d : decide (((lim s : Nat) : Int) < (bt : Int)) = true := by rw [decide_eq_true_iff]; omega
              rw [h6d]
              clear h6d h6
              go_wp2
              go_ret
              exact ⟨by rw [HE.out]; rfl, HK1.out⟩
            · have h6d : decide (((lim s : Nat) : Int) < (bt : Int)) = false := by rw [decide_eq_false_iff_not]; omega
              have HL6 := Lib.hid h6
              rw [h6d]
              clear h6d h6
              by_cases h7 : mt < 1
              · have HE := Lib.hid (H3.out HN.out HL6.out (.inl h7))
                have h7i : (mt : Int) < 1 := by omega
                go_wp2
                go_ret
                exact ⟨by rw [HE.out]; rfl, HK1.out⟩
              · have h7i : ¬ (mt : Int) < 1 := by omega
                by_cases h8 : 65535 < mt
                · have HE := Lib.hid (H3.out HN.out HL6.out (.inr h8))
                  have h8i : (65535 : Int) < mt := by omega
                  clear h7
                  go_wp2
                  go_ret
                  exact ⟨by rw [HE.out]; rfl, HK1.out⟩
                · have HE := Lib.hid (H4.out HN.out HL6.out (by omega))
                  have h8i : ¬ (65535 : Int) < mt := by omega
                  clear h7 h8
                  go_wp2_with fail
                  refine (GR.out _ (HS.out.old HK1.out)).mono ?_
                  rintro e w2 ⟨⟨p, rfl⟩, k2⟩
                  have HK2 := Lib.hid (HK1.out.trans k2)
                  clear k2
                  go_wp2
                  go_ret
                  exact ⟨by rw [HE.out]; rfl, HK2.out⟩
theorem pow16 (s : Nat) (h : s ≤ 16) : 2 ^ s ≤ 65536 ∧ 0 < 2 ^ s := ⟨by have := Nat.pow_le_pow_right (show 0 < 2 by decide) h; exact this, Nat.pos_of_ne_zero (by intro e; simp at e)⟩
def pw2 (s : Nat) : Nat := 2 ^ s
theorem pw2_succ (s : Nat) : pw2 (s + 1) = pw2 s * 2 := by unfold pw2; rw [Nat.pow_succ]
end Go.Proofs.YtacgabagfdlpeaaGreatDoor
