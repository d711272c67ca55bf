/- Walks for layer 24: conf.Check, r24.Check. -/
import Derived.Test.YtfckgddodjmbdaaGreatDoorMPortNobodyF12
import Derived.Test.YtfckgddodjmbdaaGreatDoorMPortNobodyF15
import Derived.Test.YtfckgddodjmbdaaGreatDoorShelf
import Derived.Test.YtfckgddodjmbdaaGreatDoorMPortNobodyF8
import Derived.Test.YtfckgddodjmbdaaGreatDoorMPortNobodyF2
namespace Go.Proofs.YtfckgddodjmbdaaGreatDoor
set_option linter.unusedVariables false
set_option linter.unusedSimpArgs false
open Go Go.RowKit Go.Shelf

theorem chk_kind {c : CfR} (h : c.rank < 1 ∨ 3 < c.rank ∨ c.back < 1 ∨ 3 < c.back) : chk c = 22 := by unfold chk; rw [if_pos h]
theorem chk_lev {c : CfR} (h : ¬ (c.rank < 1 ∨ 3 < c.rank ∨ c.back < 1 ∨ 3 < c.back)) (h2 : c.levels < 1 ∨ 3 < c.levels) : chk c = 23 := by unfold chk; rw [if_neg h, if_pos h2]
theorem chk_que {c : CfR} (h : ¬ (c.rank < 1 ∨ 3 < c.rank ∨ c.back < 1 ∨ 3 < c.back)) (h2 : ¬ (c.levels < 1 ∨ 3 < c.levels)) (h3 : c.queues < 1 ∨ 32 < c.queues) : chk c = 24 := by unfold chk; rw [if_neg h, if_neg h2, if_pos h3]
theorem chk_rest {c : CfR} (h : ¬ (c.rank < 1 ∨ 3 < c.rank ∨ c.back < 1 ∨ 3 < c.back)) (h2 : ¬ (c.levels < 1 ∨ 3 < c.levels)) (h3 : ¬ (c.queues < 1 ∨ 32 < c.queues)) : chk c = if admE c ≠ 0 then admE c else if c.rate = 0 then 27 else if c.burst < c.mtu then 28 else 0 := by unfold chk; rw [if_neg h, if_neg h2, if_neg h3]
set_option maxRecDepth 100000 in
set_option maxHeartbeats 4000000 in
theorem gChk (c : CfR) (hc : c.ok) (v : Value) (w : World) (h : Sl w v c.flows.length 5 (c.flows.flatMap enFl)) : Calls Tryz.prog 82 #[.agg (enC c v).toArray] w fun e w' => e = .returned (.int .i64 (chk c)) ∧ Kp none' w w' := by
  have GA := Lib.hid (fun W hs => gAdm c hc v W hs)
  have H1 := Lib.hid (@chk_kind c); have H2 := Lib.hid (@chk_lev c); have H3 := Lib.hid (@chk_que c); have H4 := Lib.hid (@chk_rest c)
  have HS := Lib.hid h
  have b7 := hc.mtu; have b8 := hc.rate; have b9 := hc.burst
  unfold M64 at b7 b8 b9
  obtain ⟨ad, had⟩ : ∃ a, admE c = a := ⟨_, rfl⟩
  rw [had] at GA H4
  clear had
  obtain ⟨rk, bk, lv, qu, pk, bt, sh, mt, rt, bu, fl⟩ := c
  unfold enC at GA ⊢
  simp only at GA H1 H2 H3 H4 HS b7 b8 b9 ⊢
  clear h hc
  by_cases h1 : rk < 1
  · have HE := Lib.hid (H1.out (.inl h1))
    go_enter Tryz.func82, Tryz.ntmps82
    go_wp2
    go_ret
    exact ⟨by rw [HE.out]; rfl, (Kp.refl _ _).alloc _⟩
  · by_cases h2 : 3 < rk
    · have HE := Lib.hid (H1.out (.inr (.inl h2)))
      go_enter Tryz.func82, Tryz.ntmps82
      go_wp2
      go_ret
      exact ⟨by rw [HE.out]; rfl, (Kp.refl _ _).alloc _⟩
    · by_cases h3 : bk < 1
      · have HE := Lib.hid (H1.out (.inr (.inr (.inl h3))))
        go_enter Tryz.func82, Tryz.ntmps82
        go_wp2
        go_ret
        exact ⟨by rw [HE.out]; rfl, (Kp.refl _ _).alloc _⟩
      · by_cases h4 : 3 < bk
        · have HE := Lib.hid (H1.out (.inr (.inr (.inr h4))))
          go_enter Tryz.func82, Tryz.ntmps82
          go_wp2
          go_ret
          exact ⟨by rw [HE.out]; rfl, (Kp.refl _ _).alloc _⟩
        · have HN1 : Hid (¬ (rk < 1 ∨ 3 < rk ∨ bk < 1 ∨ 3 < bk)) := by show ¬ _; omega
          by_cases h5 : lv < 1
          · have HE := Lib.hid (H2.out HN1.out (.inl h5))
            go_enter Tryz.func82, Tryz.ntmps82
            go_wp2
            go_ret
            exact ⟨by rw [HE.out]; rfl, (Kp.refl _ _).alloc _⟩
          · by_cases h6 : 3 < lv
            · have HE := Lib.hid (H2.out HN1.out (.inr h6))
              go_enter Tryz.func82, Tryz.ntmps82
              go_wp2
              go_ret
              exact ⟨by rw [HE.out]; rfl, (Kp.refl _ _).alloc _⟩
            · have HN2 : Hid (¬ (lv < 1 ∨ 3 < lv)) := by show ¬ _; omega
              by_cases h7 : qu < 1
              · have HE := Lib.hid (H3.out HN1.out HN2.out (.inl h7))
                go_enter Tryz.func82, Tryz.ntmps82
                go_wp2
                go_ret
                exact ⟨by rw [HE.out]; rfl, (Kp.refl _ _).alloc _⟩
              · by_cases h8 : 32 < qu
                · have HE := Lib.hid (H3.out HN1.out HN2.out (.inr h8))
                  go_enter Tryz.func82, Tryz.ntmps82
                  go_wp2
                  go_ret
                  exact ⟨by rw [HE.out]; rfl, (Kp.refl _ _).alloc _⟩
                · have HE4 := Lib.hid (H4.out HN1.out HN2.out (by omega))
                  have hb0 := Blk.new w (enC ⟨rk, bk, lv, qu, pk, bt, sh, mt, rt, bu, fl⟩ v) 76
                  have hk0 := (Kp.refl none' w).alloc (.cells (enC ⟨rk, bk, lv, qu, pk, bt, sh, mt, rt, bu, fl⟩ v).toArray 76)
                  unfold enC at hb0 hk0
                  have HB0 := Lib.hid hb0; have HK0 := Lib.hid hk0
                  clear hb0 hk0 H1 H2 H3 H4
                  go_enter Tryz.func82, Tryz.ntmps82
                  go_wp2_with fail
                  refine (GA.out _ (HS.out.old HK0.out)).mono ?_
                  rintro e w2 ⟨rfl, k2⟩
                  have HK2 := Lib.hid (HK0.out.trans k2)
                  have hb2 := HB0.out.kp k2 (fun x => x)
                  have c7 := hb2.cell 7 rfl; have c8 := hb2.cell 8 rfl; have c9 := hb2.cell 9 rfl
                  clear k2 hb2 HB0 GA
                  by_cases ha : ad = 0
                  · subst ha
                    by_cases hr : rt = 0
                    · subst hr
                      have HE : Hid (chk ⟨rk, bk, lv, qu, pk, bt, sh, mt, 0, bu, fl⟩ = 27) := by show _ = _; rw [HE4.out]; rfl
                      go_wp2
                      go_ret
                      exact ⟨by rw [HE.out]; rfl, HK2.out⟩
                    · have hrb : ((rt : Int) == 0) = false := by rw [beq_eq_false_iff_ne]; omega
                      by_cases hm : bu < mt
                      · have HE : Hid (chk ⟨rk, bk, lv, qu, pk, bt, sh, mt, rt, bu, fl⟩ = 28) := by show _ = _; rw [HE4.out, if_neg (by simp), if_neg hr, if_pos hm]
                        have hmi : (bu : Int) < mt := by omega
                        clear hr hm
                        go_wp2
                        go_ret
                        exact ⟨by rw [HE.out]; rfl, HK2.out⟩
                      · have HE : Hid (chk ⟨rk, bk, lv, qu, pk, bt, sh, mt, rt, bu, fl⟩ = 0) := by show _ = _; rw [HE4.out, if_neg (by simp), if_neg hr, if_neg hm]
                        have hmi : ¬ (bu : Int) < mt := by omega
                        clear hr hm
                        go_wp2
                        go_ret
                        exact ⟨by rw [HE.out]; rfl, HK2.out⟩
                  · have HE : Hid (chk ⟨rk, bk, lv, qu, pk, bt, sh, mt, rt, bu, fl⟩ = ad) := by show _ = _; rw [HE4.out, if_pos ha]
                    have hab : (ad != 0) = true := by simpa using ha
                    clear ha
                    go_wp2
                    go_ret
                    exact ⟨by rw [HE.out]; rfl, HK2.out⟩
end Go.Proofs.YtfckgddodjmbdaaGreatDoor

namespace Go.Proofs.YtfckgddodjmbdaaGreatDoor
set_option linter.unusedVariables false
set_option linter.unusedSimpArgs false
open Go Go.RowKit Go.Shelf

theorem infoWt : (Tryz.prog.info? 230).map (·.size) = some 2 := by kernel_rfl
set_option maxRecDepth 100000 in
set_option maxHeartbeats 1000000 in
theorem gPlus (p : Int) (b n : Nat) (hp : 0 ≤ p ∧ p ≤ 1000000) (hb : b + n < 18446744073709551616) (w : World) : Calls Tryz.prog 127 #[.agg #[.int .i64 p, .int .u64 b], .int .u64 n] w fun e w' => e = .returned (.agg #[.int .i64 (p + 1), .int .u64 ((b : Int) + n)]) ∧ Kp none' w w' := by
  have hw : IntKind.u64.wrap ((b : Int) + n) = (b : Int) + n := by rw [IntKind.wrap_u64]; omega
  go_enter Tryz.func127, Tryz.ntmps127
  go_wp2
  have hb1 := Blk.new (w.alloc (.cells #[.int .i64 p, .int .u64 b] 230)) [.int .i64 (p + 1), .int .u64 ((b : Int) + n)] 230
  rw [World.size_alloc] at hb1
  exact ret_row (by exact rfl) hb1 _ Tryz.underlying230 rfl infoWt (by exact rfl) ⟨rfl, ((Kp.refl none' w).alloc _).alloc _⟩
set_option maxRecDepth 100000 in
set_option maxHeartbeats 1000000 in
theorem gLess (p : Int) (b n : Nat) (hp : 1 ≤ p ∧ p ≤ 1000000) (hb : n ≤ b) (hb2 : b < 18446744073709551616) (w : World) : Calls Tryz.prog 106 #[.agg #[.int .i64 p, .int .u64 b], .int .u64 n] w fun e w' => e = .returned (.agg #[.int .i64 (p - 1), .int .u64 ((b : Int) - n)]) ∧ Kp none' w w' := by
  have hw : IntKind.u64.wrap ((b : Int) - n) = (b : Int) - n := by rw [IntKind.wrap_u64]; omega
  go_enter Tryz.func106, Tryz.ntmps106
  go_wp2
  have hb1 := Blk.new (w.alloc (.cells #[.int .i64 p, .int .u64 b] 230)) [.int .i64 (p - 1), .int .u64 ((b : Int) - n)] 230
  rw [World.size_alloc] at hb1
  exact ret_row (by exact rfl) hb1 _ Tryz.underlying230 rfl infoWt (by exact rfl) ⟨rfl, ((Kp.refl none' w).alloc _).alloc _⟩

theorem shN_zero (s : Nat) : shN 0 s = 0 := by simp [shN]
theorem shN_nought (a : Nat) (h : a < 18446744073709551616) : shN a 0 = a := by simp [shN, h]
theorem shN_fit {a s : Nat} (L : Nat) (h1 : a < 2 ^ L) (h2 : L + s ≤ 64) : shN a s = a * 2 ^ s := by
  unfold shN
  rw [if_pos]
  have h3 : a * 2 ^ s < 2 ^ L * 2 ^ s := Nat.mul_lt_mul_of_pos_right h1 (Nat.pos_of_ne_zero (by simp))
  rw [← Nat.pow_add] at h3
  have h4 : 2 ^ (L + s) ≤ 2 ^ 64 := Nat.pow_le_pow_right (by decide) h2
  have h5 : (2 : Nat) ^ 64 = 18446744073709551616 := by decide
  omega
theorem shN_over {a s : Nat} (L : Nat) (h0 : 0 < L) (h1 : 2 ^ (L - 1) ≤ a) (h2 : 64 < L + s) : shN a s = 18446744073709551615 := by
  unfold shN
  rw [if_neg]
  have h3 : 2 ^ (L - 1) * 2 ^ s ≤ a * 2 ^ s := Nat.mul_le_mul_right _ h1
  rw [← Nat.pow_add] at h3
  have h4 : (2 : Nat) ^ 64 ≤ 2 ^ (L - 1 + s) := Nat.pow_le_pow_right (by decide) (by omega)
  have h5 : (2 : Nat) ^ 64 = 18446744073709551616 := by decide
  omega
theorem bl_zero (f : Nat) : Lib.bitLenAux f 0 = 0 := by cases f <;> simp [Lib.bitLenAux]
theorem bl_spec : ∀ (f x : Nat), x < 2 ^ f → 0 < x → 0 < Lib.bitLenAux f x ∧ Lib.bitLenAux f x ≤ f ∧ 2 ^ (Lib.bitLenAux f x - 1) ≤ x ∧ x < 2 ^ Lib.bitLenAux f x
  | 0, x, h, h0 => by simp at h; omega
  | f + 1, x, h, h0 => by
    have e : Lib.bitLenAux (f + 1) x = 1 + Lib.bitLenAux f (x / 2) := by
      show (if x = 0 then 0 else 1 + Lib.bitLenAux f (x / 2)) = _
      rw [if_neg (by omega)]
    rw [e]
    rw [Nat.pow_succ] at h
    by_cases h1 : x / 2 = 0
    · rw [h1, bl_zero]
      refine ⟨by omega, by omega, ?_, ?_⟩
      · show 2 ^ (1 + 0 - 1) ≤ x; simp; omega
      · show x < 2 ^ (1 + 0); simp; omega
    · obtain ⟨a1, a2, a3, a4⟩ := bl_spec f (x / 2) (by omega) (by omega)
      generalize Lib.bitLenAux f (x / 2) = L at *
      obtain ⟨K, rfl⟩ : ∃ K, L = K + 1 := ⟨L - 1, by omega⟩
      have p1 : 2 ^ (K + 1) = 2 ^ K * 2 := Nat.pow_succ ..
      have p2 : 2 ^ (1 + (K + 1)) = 2 ^ K * 2 * 2 := by rw [show 1 + (K + 1) = K + 1 + 1 by omega, Nat.pow_succ, Nat.pow_succ]
      rw [Nat.add_sub_cancel] at a3
      refine ⟨by omega, by omega, ?_, ?_⟩
      · rw [show 1 + (K + 1) - 1 = K + 1 by omega]; omega
      · omega
set_option maxRecDepth 100000 in
set_option maxHeartbeats 1000000 in
theorem sShift (a s : Nat) (ha : a < 18446744073709551616) (hs : s ≤ 16) (w : World) : Calls Tryz.prog 126 #[.int .u64 a, .int .i64 s] w fun e w' => e = .returned (.int .u64 (shN a s)) ∧ w = w' := by
  by_cases h0 : a = 0
  · subst h0
    rw [shN_zero]
    go_enter Tryz.func126, Tryz.ntmps126
    go_wp2
    go_ret
    exact ⟨rfl, rfl⟩
  · have h0' : ((a : Int) == 0) = false := by rw [beq_eq_false_iff_ne]; omega
    by_cases h1 : s = 0
    · subst h1
      rw [shN_nought a ha]
      go_enter Tryz.func126, Tryz.ntmps126
      go_wp2
      go_ret
      exact ⟨rfl, rfl⟩
    · have h1' : ¬ (s : Int) ≤ 0 := by omega
      have h2' : ¬ (64 : Int) ≤ s := by omega
      obtain ⟨b1, b2, b3, b4⟩ := bl_spec 64 a (by have : (2 : Nat) ^ 64 = 18446744073709551616 := (by decide); omega) (by omega)
      have hb := Tryz.bits_Len64 (a : Int) w (by omega) (by omega)
      rw [Int.toNat_natCast] at hb
      unfold Lib.bitLen at hb
      obtain ⟨L, hL⟩ : ∃ L, Lib.bitLenAux 64 a = L := ⟨_, rfl⟩
      rw [hL] at b1 b2 b3 b4 hb
      have HB := Lib.hid hb
      by_cases h3 : L + s ≤ 64
      · have h3' : ¬ (64 : Int) < (L : Int) + s := by omega
        have HS := Lib.hid (shN_fit L b4 h3)
        have HP : Hid (IntKind.u64.wrap ((a : Int) * 2 ^ s) = ((a * 2 ^ s : Nat) : Int)) := by
          show _ = _
          have h4 : a * 2 ^ s < 2 ^ L * 2 ^ s := Nat.mul_lt_mul_of_pos_right b4 (Nat.pos_of_ne_zero (by simp))
          rw [← Nat.pow_add] at h4
          have h5 : 2 ^ (L + s) ≤ 2 ^ 64 := Nat.pow_le_pow_right (by decide) h3
          have h6 : (2 : Nat) ^ 64 = 18446744073709551616 := by decide
          have h7 : ((a * 2 ^ s : Nat) : Int) = (a : Int) * 2 ^ s := by simp
          rw [← h7, IntKind.wrap_u64]; omega
        clear hb b3 b4 hL
        go_enter Tryz.func126, Tryz.ntmps126
        go_wp2_with (go_at_call 141; refine HB.out.mono ?_; rintro e w' ⟨rfl, rfl⟩)
        go_ret
        exact ⟨by rw [HS.out, ← HP.out]; rfl, rfl⟩
      · have h3' : (64 : Int) < (L : Int) + s := by omega
        have HS := Lib.hid (shN_over (s := s) L b1 b3 (by omega))
        clear hb b3 b4 hL
        go_enter Tryz.func126, Tryz.ntmps126
        go_wp2_with (go_at_call 141; refine HB.out.mono ?_; rintro e w' ⟨rfl, rfl⟩)
        go_ret
        exact ⟨by rw [HS.out]; rfl, rfl⟩
end Go.Proofs.YtfckgddodjmbdaaGreatDoor

namespace Go.Proofs.YtfckgddodjmbdaaGreatDoor
set_option linter.unusedVariables false
set_option linter.unusedSimpArgs false
open Go Go.RowKit Go.Shelf

def fitR (mtu n : Nat) (is : Bool) (P tp : Int) (By tbt b m : Nat) : Int :=
  if n = 0 ∨ mtu < n then 12 else if is = false then 13 else if P ≤ tp then 14 else if By - tbt < n then 15 else if m - b < n then 16 else 0
set_option maxRecDepth 100000 in
set_option maxHeartbeats 2000000 in
theorem gFitsR {w : World} {gb tb : Nat} (P tp : Int) (By tbt mtu id n : Nat) (p : Int) (b m : Nat) (is : Bool) (c4 : w.cell? ⟨gb, 4, none⟩ = some (.int .i64 P)) (c5 : w.cell? ⟨gb, 5, none⟩ = some (.int .u64 By)) (c7 : w.cell? ⟨gb, 7, none⟩ = some (.int .u64 mtu)) (c11 : w.cell? ⟨gb, 11, none⟩ = some (.int .i64 tp)) (c12 : w.cell? ⟨gb, 12, none⟩ = some (.int .u64 tbt)) (c13 : w.cell? ⟨gb, 13, none⟩ = some (.pointer (some ⟨tb, 0, none⟩)))
    (HG : ∀ W, Kp none' w W → Calls Tryz.prog 105 #[.pointer (some ⟨tb, 0, none⟩), .int .u32 id] W fun e w' => e = .returned (.tuple #[.agg #[.int .i64 p, .int .u64 b, .int .u64 m], .bool is]) ∧ Kp none' W w') (hle : tbt ≤ By) (hby : By < 18446744073709551616) (hbm : b ≤ m) (hm : m < 18446744073709551616) :
    Calls Tryz.prog 125 #[.pointer (some ⟨gb, 0, none⟩), .int .u32 id, .int .u64 n] w fun e w' => e = .returned (.int .i64 (fitR mtu n is P tp By tbt b m)) ∧ Kp none' w w' := by
  by_cases h1 : n = 0
  · subst h1
    have HR : Hid (fitR mtu 0 is P tp By tbt b m = 12) := by show _ = _; unfold fitR; rw [if_pos (.inl rfl)]
    clear HG
    go_enter Tryz.func125, Tryz.ntmps125
    go_wp2
    go_ret
    exact ⟨by rw [HR.out]; rfl, Kp.refl _ _⟩
  have h1' : ((n : Int) == 0) = false := by rw [beq_eq_false_iff_ne]; omega
  by_cases h2 : mtu < n
  · have h2' : (mtu : Int) < n := by omega
    have HR : Hid (fitR mtu n is P tp By tbt b m = 12) := by show _ = _; unfold fitR; rw [if_pos (.inr h2)]
    clear HG
    go_enter Tryz.func125, Tryz.ntmps125
    go_wp2
    go_ret
    exact ⟨by rw [HR.out]; rfl, Kp.refl _ _⟩
  have h2' : ¬ (mtu : Int) < n := by omega
  cases is with
  | false =>
    have HR : Hid (fitR mtu n false P tp By tbt b m = 13) := by show _ = _; unfold fitR; rw [if_neg (by omega), if_pos rfl]
    clear h1 h2
    go_enter Tryz.func125, Tryz.ntmps125
    go_wp2_with fail
    refine (HG w (Kp.refl _ _)).mono ?_
    rintro e w2 ⟨rfl, hk2⟩
    have HK2 := Lib.hid hk2
    have d4 := hk2.cell c4 (fun x => x)
    have d5 := hk2.cell c5 (fun x => x)
    have d11 := hk2.cell c11 (fun x => x)
    have d12 := hk2.cell c12 (fun x => x)
    clear hk2 c4 c5 c7 c11 c12 c13 HG
    go_wp2_with fail
    go_ret
    exact ⟨by rw [HR.out]; rfl, HK2.out.alloc _⟩
  | true =>
    have hR0 : fitR mtu n true P tp By tbt b m = if P ≤ tp then 14 else if By - tbt < n then 15 else if m - b < n then 16 else 0 := by unfold fitR; rw [if_neg (by omega), if_neg (by simp)]
    clear h1 h2
    by_cases h3 : P ≤ tp
    · have HR : Hid (fitR mtu n true P tp By tbt b m = 14) := by show _ = _; rw [hR0, if_pos h3]
      clear hR0
      go_enter Tryz.func125, Tryz.ntmps125
      go_wp2_with fail
      refine (HG w (Kp.refl _ _)).mono ?_
      rintro e w2 ⟨rfl, hk2⟩
      have HK2 := Lib.hid hk2
      have d4 := hk2.cell c4 (fun x => x)
      have d5 := hk2.cell c5 (fun x => x)
      have d11 := hk2.cell c11 (fun x => x)
      have d12 := hk2.cell c12 (fun x => x)
      clear hk2 c4 c5 c7 c11 c12 c13 HG
      go_wp2_with fail
      have HB3 := Lib.hid (Blk.new w2 [.int .i64 p, .int .u64 b, .int .u64 m] 232)
      have hk3 := (Kp.refl none' w2).alloc (.cells #[.int .i64 p, .int .u64 b, .int .u64 m] 232)
      have HK3 := Lib.hid (HK2.out.trans hk3)
      have f4 := hk3.cell d4 (fun x => x)
      have f5 := hk3.cell d5 (fun x => x)
      have f11 := hk3.cell d11 (fun x => x)
      have f12 := hk3.cell d12 (fun x => x)
      obtain ⟨y, hy⟩ : ∃ y, w2.heap.size = y := ⟨_, rfl⟩
      rw [hy] at HB3 ⊢
      change Code.wp _ _ _ _ (w2.alloc (.cells #[.int .i64 p, .int .u64 b, .int .u64 m] 232))
      generalize w2.alloc (.cells #[.int .i64 p, .int .u64 b, .int .u64 m] 232) = W3 at *
      clear hk3 d4 d5 d11 d12 hy
      refine wp_region_kept2 [] [0, 1, 2, 3, 4, 5, 6, 7, 8, 9, 10] 11 (by kernel_rfl) (by kernel_rfl) (fun c a d u w h => by cases d <;> exact h) ?_
      simp only [pick, List.getElem?_cons_succ, List.getElem?_cons_zero, List.drop_succ_cons, List.drop_zero]
      show wpKL _ _ _ _ _ _
      repeat (first
        | (refine wpKL_op (by exact rfl) (by as_aux_lemma => intro W hK; have e0 := hK.cell f4 (fun x => x); have e1 := hK.cell f11 (fun x => x); go_simp; exact rfl) ?_; simp only [Act.put, List.setIfInBounds_toArray, List.set_cons_succ, List.set_cons_zero])
        | (refine wpKL_off (by exact rfl) ?_; simp only [Act.put, List.setIfInBounds_toArray, List.set_cons_succ, List.set_cons_zero]))
      show ∀ W, _ → wpList _ _ _ _ _ _
      intro W4 hK4
      have HK4 := Lib.hid (HK3.out.trans hK4)
      have HB4 := Lib.hid (HB3.out.kp hK4 (fun x => x))
      have g5 := hK4.cell f5 (fun x => x)
      have g12 := hK4.cell f12 (fun x => x)
      clear hK4 f4 f5 f11 f12
      go_wp2_with fail
      go_ret
      exact ⟨by rw [HR.out]; rfl, HK4.out⟩
    rw [if_neg h3] at hR0
    have h3' : decide (P ≤ tp) = false := by simpa using h3
    clear h3
    obtain ⟨R, hRe⟩ : ∃ R, By - tbt = R := ⟨_, rfl⟩
    have hRi : (By : Int) - tbt = (R : Int) := by omega
    have HW : Hid (IntKind.u64.wrap (R : Int) = (R : Int)) := by show _ = _; rw [IntKind.wrap_u64]; omega
    rw [hRe] at hR0
    by_cases h4 : R < n
    · have h4' : (R : Int) < n := by omega
      have HR : Hid (fitR mtu n true P tp By tbt b m = 15) := by show _ = _; rw [hR0, if_pos h4]
      clear hR0 hRe h4
      go_enter Tryz.func125, Tryz.ntmps125
      go_wp2_with fail
      refine (HG w (Kp.refl _ _)).mono ?_
      rintro e w2 ⟨rfl, hk2⟩
      have HK2 := Lib.hid hk2
      have d4 := hk2.cell c4 (fun x => x)
      have d5 := hk2.cell c5 (fun x => x)
      have d11 := hk2.cell c11 (fun x => x)
      have d12 := hk2.cell c12 (fun x => x)
      clear hk2 c4 c5 c7 c11 c12 c13 HG
      go_wp2_with fail
      have HB3 := Lib.hid (Blk.new w2 [.int .i64 p, .int .u64 b, .int .u64 m] 232)
      have hk3 := (Kp.refl none' w2).alloc (.cells #[.int .i64 p, .int .u64 b, .int .u64 m] 232)
      have HK3 := Lib.hid (HK2.out.trans hk3)
      have f4 := hk3.cell d4 (fun x => x)
      have f5 := hk3.cell d5 (fun x => x)
      have f11 := hk3.cell d11 (fun x => x)
      have f12 := hk3.cell d12 (fun x => x)
      obtain ⟨y, hy⟩ : ∃ y, w2.heap.size = y := ⟨_, rfl⟩
      rw [hy] at HB3 ⊢
      change Code.wp _ _ _ _ (w2.alloc (.cells #[.int .i64 p, .int .u64 b, .int .u64 m] 232))
      generalize w2.alloc (.cells #[.int .i64 p, .int .u64 b, .int .u64 m] 232) = W3 at *
      clear hk3 d4 d5 d11 d12 hy
      refine wp_region_kept2 [] [0, 1, 2, 3, 4, 5, 6, 7, 8, 9, 10] 11 (by kernel_rfl) (by kernel_rfl) (fun c a d u w h => by cases d <;> exact h) ?_
      simp only [pick, List.getElem?_cons_succ, List.getElem?_cons_zero, List.drop_succ_cons, List.drop_zero]
      show wpKL _ _ _ _ _ _
      repeat (first
        | (refine wpKL_op (by exact rfl) (by as_aux_lemma => intro W hK; have e0 := hK.cell f4 (fun x => x); have e1 := hK.cell f11 (fun x => x); go_simp; exact rfl) ?_; simp only [Act.put, List.setIfInBounds_toArray, List.set_cons_succ, List.set_cons_zero])
        | (refine wpKL_off (by exact rfl) ?_; simp only [Act.put, List.setIfInBounds_toArray, List.set_cons_succ, List.set_cons_zero]))
      show ∀ W, _ → wpList _ _ _ _ _ _
      intro W4 hK4
      have HK4 := Lib.hid (HK3.out.trans hK4)
      have HB4 := Lib.hid (HB3.out.kp hK4 (fun x => x))
      have g5 := hK4.cell f5 (fun x => x)
      have g12 := hK4.cell f12 (fun x => x)
      clear hK4 f4 f5 f11 f12
      go_wp2_with fail
      refine wp_region_kept2 [] [0, 1, 2, 3, 4, 5, 6, 7, 8, 9, 10, 11, 12] 13 (by kernel_rfl) (by kernel_rfl) (fun c a d u w h => by cases d <;> exact h) ?_
      simp only [pick, List.getElem?_cons_succ, List.getElem?_cons_zero, List.drop_succ_cons, List.drop_zero]
      show wpKL _ _ _ _ _ _
      repeat (first
        | (refine wpKL_op (by exact rfl) (by as_aux_lemma => intro W hK; have e0 := hK.cell g5 (fun x => x); have e1 := hK.cell g12 (fun x => x); have e2 := HW.out; go_simp; exact rfl) ?_; simp only [Act.put, List.setIfInBounds_toArray, List.set_cons_succ, List.set_cons_zero])
        | (refine wpKL_off (by exact rfl) ?_; simp only [Act.put, List.setIfInBounds_toArray, List.set_cons_succ, List.set_cons_zero]))
      show ∀ W, _ → wpList _ _ _ _ _ _
      intro W5 hK5
      have HK5 := Lib.hid (HK4.out.trans hK5)
      have HB5 := Lib.hid (HB4.out.kp hK5 (fun x => x))
      clear hK5 g5 g12
      have y0 := HB5.out.cell 0 rfl
      have y1 := HB5.out.cell 1 rfl
      have y2 := HB5.out.cell 2 rfl
      go_wp2_with fail
      go_ret
      exact ⟨by rw [HR.out]; rfl, HK5.out⟩
    have h4' : ¬ (R : Int) < n := by omega
    rw [if_neg h4] at hR0
    have h6 : ¬ (m : Int) < b := by omega
    obtain ⟨Q, hQe⟩ : ∃ Q, m - b = Q := ⟨_, rfl⟩
    have hQi : (m : Int) - b = (Q : Int) := by omega
    have hw2 : IntKind.u64.wrap (Q : Int) = (Q : Int) := by rw [IntKind.wrap_u64]; omega
    have h6' : ¬ (m < b) := by omega
    rw [hQe] at hR0
    by_cases h5 : Q < n
    · have h5' : (Q : Int) < n := by omega
      have HR : Hid (fitR mtu n true P tp By tbt b m = 16) := by show _ = _; rw [hR0, if_pos h5]
      clear hR0 hRe h4 h5 hQe
      go_enter Tryz.func125, Tryz.ntmps125
      go_wp2_with fail
      refine (HG w (Kp.refl _ _)).mono ?_
      rintro e w2 ⟨rfl, hk2⟩
      have HK2 := Lib.hid hk2
      have d4 := hk2.cell c4 (fun x => x)
      have d5 := hk2.cell c5 (fun x => x)
      have d11 := hk2.cell c11 (fun x => x)
      have d12 := hk2.cell c12 (fun x => x)
      clear hk2 c4 c5 c7 c11 c12 c13 HG
      go_wp2_with fail
      have HB3 := Lib.hid (Blk.new w2 [.int .i64 p, .int .u64 b, .int .u64 m] 232)
      have hk3 := (Kp.refl none' w2).alloc (.cells #[.int .i64 p, .int .u64 b, .int .u64 m] 232)
      have HK3 := Lib.hid (HK2.out.trans hk3)
      have f4 := hk3.cell d4 (fun x => x)
      have f5 := hk3.cell d5 (fun x => x)
      have f11 := hk3.cell d11 (fun x => x)
      have f12 := hk3.cell d12 (fun x => x)
      obtain ⟨y, hy⟩ : ∃ y, w2.heap.size = y := ⟨_, rfl⟩
      rw [hy] at HB3 ⊢
      change Code.wp _ _ _ _ (w2.alloc (.cells #[.int .i64 p, .int .u64 b, .int .u64 m] 232))
      generalize w2.alloc (.cells #[.int .i64 p, .int .u64 b, .int .u64 m] 232) = W3 at *
      clear hk3 d4 d5 d11 d12 hy
      refine wp_region_kept2 [] [0, 1, 2, 3, 4, 5, 6, 7, 8, 9, 10] 11 (by kernel_rfl) (by kernel_rfl) (fun c a d u w h => by cases d <;> exact h) ?_
      simp only [pick, List.getElem?_cons_succ, List.getElem?_cons_zero, List.drop_succ_cons, List.drop_zero]
      show wpKL _ _ _ _ _ _
      repeat (first
        | (refine wpKL_op (by exact rfl) (by as_aux_lemma => intro W hK; have e0 := hK.cell f4 (fun x => x); have e1 := hK.cell f11 (fun x => x); go_simp; exact rfl) ?_; simp only [Act.put, List.setIfInBounds_toArray, List.set_cons_succ, List.set_cons_zero])
        | (refine wpKL_off (by exact rfl) ?_; simp only [Act.put, List.setIfInBounds_toArray, List.set_cons_succ, List.set_cons_zero]))
      show ∀ W, _ → wpList _ _ _ _ _ _
      intro W4 hK4
      have HK4 := Lib.hid (HK3.out.trans hK4)
      have HB4 := Lib.hid (HB3.out.kp hK4 (fun x => x))
      have g5 := hK4.cell f5 (fun x => x)
      have g12 := hK4.cell f12 (fun x => x)
      clear hK4 f4 f5 f11 f12
      go_wp2_with fail
      refine wp_region_kept2 [] [0, 1, 2, 3, 4, 5, 6, 7, 8, 9, 10, 11, 12] 13 (by kernel_rfl) (by kernel_rfl) (fun c a d u w h => by cases d <;> exact h) ?_
      simp only [pick, List.getElem?_cons_succ, List.getElem?_cons_zero, List.drop_succ_cons, List.drop_zero]
      show wpKL _ _ _ _ _ _
      repeat (first
        | (refine wpKL_op (by exact rfl) (by as_aux_lemma => intro W hK; have e0 := hK.cell g5 (fun x => x); have e1 := hK.cell g12 (fun x => x); have e2 := HW.out; go_simp; exact rfl) ?_; simp only [Act.put, List.setIfInBounds_toArray, List.set_cons_succ, List.set_cons_zero])
        | (refine wpKL_off (by exact rfl) ?_; simp only [Act.put, List.setIfInBounds_toArray, List.set_cons_succ, List.set_cons_zero]))
      show ∀ W, _ → wpList _ _ _ _ _ _
      intro W5 hK5
      have HK5 := Lib.hid (HK4.out.trans hK5)
      have HB5 := Lib.hid (HB4.out.kp hK5 (fun x => x))
      clear hK5 g5 g12
      have y0 := HB5.out.cell 0 rfl
      have y1 := HB5.out.cell 1 rfl
      have y2 := HB5.out.cell 2 rfl
      go_wp2_with fail
      go_ret
      exact ⟨by rw [HR.out]; rfl, HK5.out⟩
    · have h5' : ¬ (Q : Int) < n := by omega
      have HR : Hid (fitR mtu n true P tp By tbt b m = 0) := by show _ = _; rw [hR0, if_neg h5]
      clear hR0 hRe h4 h5 hQe
      go_enter Tryz.func125, Tryz.ntmps125
      go_wp2_with fail
      refine (HG w (Kp.refl _ _)).mono ?_
      rintro e w2 ⟨rfl, hk2⟩
      have HK2 := Lib.hid hk2
      have d4 := hk2.cell c4 (fun x => x)
      have d5 := hk2.cell c5 (fun x => x)
      have d11 := hk2.cell c11 (fun x => x)
      have d12 := hk2.cell c12 (fun x => x)
      clear hk2 c4 c5 c7 c11 c12 c13 HG
      go_wp2_with fail
      have HB3 := Lib.hid (Blk.new w2 [.int .i64 p, .int .u64 b, .int .u64 m] 232)
      have hk3 := (Kp.refl none' w2).alloc (.cells #[.int .i64 p, .int .u64 b, .int .u64 m] 232)
      have HK3 := Lib.hid (HK2.out.trans hk3)
      have f4 := hk3.cell d4 (fun x => x)
      have f5 := hk3.cell d5 (fun x => x)
      have f11 := hk3.cell d11 (fun x => x)
      have f12 := hk3.cell d12 (fun x => x)
      obtain ⟨y, hy⟩ : ∃ y, w2.heap.size = y := ⟨_, rfl⟩
      rw [hy] at HB3 ⊢
      change Code.wp _ _ _ _ (w2.alloc (.cells #[.int .i64 p, .int .u64 b, .int .u64 m] 232))
      generalize w2.alloc (.cells #[.int .i64 p, .int .u64 b, .int .u64 m] 232) = W3 at *
      clear hk3 d4 d5 d11 d12 hy
      refine wp_region_kept2 [] [0, 1, 2, 3, 4, 5, 6, 7, 8, 9, 10] 11 (by kernel_rfl) (by kernel_rfl) (fun c a d u w h => by cases d <;> exact h) ?_
      simp only [pick, List.getElem?_cons_succ, List.getElem?_cons_zero, List.drop_succ_cons, List.drop_zero]
      show wpKL _ _ _ _ _ _
      repeat (first
        | (refine wpKL_op (by exact rfl) (by as_aux_lemma => intro W hK; have e0 := hK.cell f4 (fun x => x); have e1 := hK.cell f11 (fun x => x); go_simp; exact rfl) ?_; simp only [Act.put, List.setIfInBounds_toArray, List.set_cons_succ, List.set_cons_zero])
        | (refine wpKL_off (by exact rfl) ?_; simp only [Act.put, List.setIfInBounds_toArray, List.set_cons_succ, List.set_cons_zero]))
      show ∀ W, _ → wpList _ _ _ _ _ _
      intro W4 hK4
      have HK4 := Lib.hid (HK3.out.trans hK4)
      have HB4 := Lib.hid (HB3.out.kp hK4 (fun x => x))
      have g5 := hK4.cell f5 (fun x => x)
      have g12 := hK4.cell f12 (fun x => x)
      clear hK4 f4 f5 f11 f12
      go_wp2_with fail
      refine wp_region_kept2 [] [0, 1, 2, 3, 4, 5, 6, 7, 8, 9, 10, 11, 12] 13 (by kernel_rfl) (by kernel_rfl) (fun c a d u w h => by cases d <;> exact h) ?_
      simp only [pick, List.getElem?_cons_succ, List.getElem?_cons_zero, List.drop_succ_cons, List.drop_zero]
      show wpKL _ _ _ _ _ _
      repeat (first
        | (refine wpKL_op (by exact rfl) (by as_aux_lemma => intro W hK; have e0 := hK.cell g5 (fun x => x); have e1 := hK.cell g12 (fun x => x); have e2 := HW.out; go_simp; exact rfl) ?_; simp only [Act.put, List.setIfInBounds_toArray, List.set_cons_succ, List.set_cons_zero])
        | (refine wpKL_off (by exact rfl) ?_; simp only [Act.put, List.setIfInBounds_toArray, List.set_cons_succ, List.set_cons_zero]))
      show ∀ W, _ → wpList _ _ _ _ _ _
      intro W5 hK5
      have HK5 := Lib.hid (HK4.out.trans hK5)
      have HB5 := Lib.hid (HB4.out.kp hK5 (fun x => x))
      clear hK5 g5 g12
      have y0 := HB5.out.cell 0 rfl
      have y1 := HB5.out.cell 1 rfl
      have y2 := HB5.out.cell 2 rfl
      go_wp2_with fail
      go_ret
      exact ⟨by rw [HR.out]; rfl, HK5.out⟩
end Go.Proofs.YtfckgddodjmbdaaGreatDoor
