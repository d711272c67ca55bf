/- Walks of layer 38: a bucket's numbers, by the document. -/
import Derived.Test.YtkhipbpjknfloaaHistY
namespace Go.Proofs.Ytkhipbpjknfloaa
set_option linter.unusedVariables false
set_option linter.unusedSimpArgs false
open Go.RowKit
/-- So many numbers lie in lesser buckets; so many in no greater one. -/
def cB (f : Nat) (b : Int) : Nat := if b < 0 then 0 else lo f b.toNat
def dB (f : Nat) (b : Int) : Nat := if b < 0 then 0 else lo f (b.toNat + 1)
theorem c_lt (f x : Nat) (b : Int) : ((bk f x : Nat) : Int) < b ↔ x < cB f b := by
  unfold cB
  split
  · constructor <;> intro <;> omega
  · have := bk_lt f x b.toNat
    omega
theorem d_le (f x : Nat) (b : Int) : ((bk f x : Nat) : Int) ≤ b ↔ x < dB f b := by
  unfold dB
  split
  · constructor <;> intro <;> omega
  · have := bk_lt f x (b.toNat + 1)
    omega
/-- What the halving keeps: i is the next place. -/
structure Hv (C i l : Nat) : Prop where
  le : l ≤ C
  lt : C < l + pw i
  top : l + pw i ≤ 18446744073709551616
theorem Hv.start (C : Nat) (h : C ≤ 18446744073709551615) : Hv C 64 0 := ⟨by omega, by rw [pw64]; omega, by rw [pw64]; omega⟩
theorem Hv.up {C i l : Nat} (h : Hv C (i + 1) l) (h2 : l + pw i ≤ C) : Hv C i (l + pw i) := by
  have := h.lt; have := h.top; have := pw_succ i
  exact ⟨h2, by omega, by omega⟩
theorem Hv.stay {C i l : Nat} (h : Hv C (i + 1) l) (h2 : ¬ l + pw i ≤ C) : Hv C i l := by
  have := h.le; have := h.top; have := pw_succ i
  exact ⟨by omega, by omega, by omega⟩
theorem Hv.done {C l : Nat} (h : Hv C 0 l) : l = C := by
  have := h.le; have := h.lt
  have e : pw 0 = 1 := by decide
  omega
def c4 (f : Nat) (b : Int) : Nat := min (cB f b) 18446744073709551615
def d4 (f : Nat) (b : Int) : Nat := min (dB f b) 18446744073709551615
set_option maxRecDepth 100000 in
set_option maxHeartbeats 4000000 in
theorem rRange (f : Nat) (b : Int) (hf : f ≤ 8) (w : World) : Calls Try.prog 19 #[.int .i64 f, .int .i64 b] w fun e w' => e = .returned (rgN f b) ∧ w = w' := by
  have P := Lib.hid (fun k (hk : k ≤ 63) => rPower k hk w)
  have B := Lib.hid (fun n (hn : n < 18446744073709551616) => rBucket f n hf hn w)
  have htl := top_le hf
  go_enter Try.func19, Try.ntmps19
  go_wp2
  go_loop [7, 8, 9] (fun l0 h0 i0 => ∃ (i l h : Nat), i0 = .int .i64 ((i : Int) - 1) ∧ l0 = .int .u64 l ∧ h0 = .int .u64 h ∧ i ≤ 64 ∧ Hid (Hv (c4 f b) i l ∧ Hv (d4 f b) i h)) (fun _ _ i0 => (Go.Proofs.intOf i0 + 1).toNat)
  case atStart => exact ⟨64, 0, 0, rfl, rfl, rfl, by omega, Hv.start _ (by unfold c4; omega), Hv.start _ (by unfold d4; omega)⟩
  case round =>
    obtain ⟨i, l, h, rfl, rfl, rfl, hi, hr⟩ := hrel
    cases i with
    | zero =>
      have e1 := hr.out.1.done
      have e2 := hr.out.2.done
      clear hr
      by_cases hb0 : b < 0
      · have hrg : Hid (rgN f b = .tuple #[.int .u64 0, .int .u64 0, .bool false]) := if_pos (.inl hb0)
        clear e1 e2
        go_wp2
        go_ret3
        exact ⟨congrArg Ending.returned hrg.out.symm, rfl⟩
      · obtain ⟨c, rfl⟩ : ∃ c : Nat, b = c := ⟨b.toNat, by omega⟩
        have h0d : decide ((c : Int) < 0) = false := by simp
        have BT := Lib.hid (B.out 18446744073709551615 (by omega))
        by_cases h1 : bk f 18446744073709551615 < c
        · have hrg : Hid (rgN f (c : Int) = .tuple #[.int .u64 0, .int .u64 0, .bool false]) := if_pos (.inr (by omega))
          have h1i : ((bk f 18446744073709551615 : Nat) : Int) < (c : Int) := by omega
          clear e1 e2
          go_wp2_with (go_at_call 21; refine BT.out.mono ?_; rintro e w' ⟨rfl, rfl⟩)
          go_ret3
          exact ⟨congrArg Ending.returned hrg.out.symm, rfl⟩
        · have h1i : ¬ ((bk f 18446744073709551615 : Nat) : Int) < (c : Int) := by omega
          have hrg : Hid (rgN f (c : Int) = .tuple #[.int .u64 (lo f c : Nat), .int .u64 ((lo f (c + 1) : Nat) - 1), .bool true]) := by
            show _ = _; unfold rgN; rw [if_neg (by omega)]; rfl
          obtain ⟨l1, l2, l3⟩ := lo_bnd (f := f) (b := c) hf (by omega)
          have ec : c4 f (c : Int) = lo f c := by unfold c4 cB; rw [if_neg (by omega)]; simp; omega
          have hl : l = lo f c := by omega
          have h2 : ¬ bk f l < c := by rw [bk_lt]; omega
          have h2i : ¬ ((bk f l : Nat) : Int) < (c : Int) := by omega
          have hl64 : l < 18446744073709551616 := by omega
          have BL := Lib.hid (B.out l hl64)
          have ed : d4 f (c : Int) = min (lo f (c + 1)) 18446744073709551615 := by unfold d4 dB; rw [if_neg (by omega)]; simp
          have hh64 : h < 18446744073709551616 := by omega
          have BH := Lib.hid (B.out h hh64)
          by_cases h3 : lo f (c + 1) ≤ 18446744073709551615
          · have hh : h = lo f (c + 1) := by omega
            have h4 : c < bk f h := by
              have := bk_lt f h (c + 1)
              omega
            have h4i : (c : Int) < ((bk f h : Nat) : Int) := by omega
            have hrg2 : Hid (rgN f (c : Int) = .tuple #[.int .u64 l, .int .u64 ((h : Nat) - 1), .bool true]) := by show _ = _; rw [hrg.out, ← hl, ← hh]
            have hh1 : (1 : Int) ≤ h := by omega
            clear hrg e1 e2 ec ed hl hh l1 l2 l3 h4 h2
            go_wp2_with fail
            refine BT.out.mono ?_
            rintro e w' ⟨rfl, rfl⟩
            go_wp2_with fail
            refine BL.out.mono ?_
            rintro e w' ⟨rfl, rfl⟩
            go_wp2_with fail
            refine BH.out.mono ?_
            rintro e w' ⟨rfl, rfl⟩
            go_wp2
            go_ret3
            exact ⟨congrArg Ending.returned hrg2.out.symm, rfl⟩
          · have hh : h = 18446744073709551615 := by omega
            have h4 : ¬ c < bk f h := by
              have := bk_lt f h (c + 1)
              omega
            have h4i : ¬ (c : Int) < ((bk f h : Nat) : Int) := by omega
            have hrg2 : Hid (rgN f (c : Int) = .tuple #[.int .u64 l, .int .u64 h, .bool true]) := by
              show _ = _; rw [hrg.out, ← hl, hh, show lo f (c + 1) = 18446744073709551616 by omega]; rfl
            clear hrg e1 e2 ec ed hl hh l1 l2 l3 h4 h2
            go_wp2_with fail
            refine BT.out.mono ?_
            rintro e w' ⟨rfl, rfl⟩
            go_wp2_with fail
            refine BL.out.mono ?_
            rintro e w' ⟨rfl, rfl⟩
            go_wp2_with fail
            refine BH.out.mono ?_
            rintro e w' ⟨rfl, rfl⟩
            go_wp2
            go_ret3
            exact ⟨congrArg Ending.returned hrg2.out.symm, rfl⟩
    | succ i =>
      have t1 := hr.out.1.top
      have t2 := hr.out.2.top
      have hps := pw_succ i
      have hpp := pw_pos i
      have hb1 : l + pw i < 18446744073709551616 := by omega
      have hb2 : h + pw i < 18446744073709551616 := by omega
      have hca := c_lt f (l + pw i - 1) b
      have hda := d_le f (h + pw i - 1) b
      have PI := Lib.hid (P.out i (by omega))
      have B1 := B.out (l + pw i - 1) (by omega)
      have B2 := B.out (h + pw i - 1) (by omega)
      rw [show ((l + pw i - 1 : Nat) : Int) = (l : Int) + (pw i : Nat) - 1 by omega] at B1
      rw [show ((h + pw i - 1 : Nat) : Int) = (h : Int) + (pw i : Nat) - 1 by omega] at B2
      have HB1 := Lib.hid B1; have HB2 := Lib.hid B2
      obtain ⟨x, hx⟩ : ∃ x, bk f (l + pw i - 1) = x := ⟨_, rfl⟩
      obtain ⟨y, hy⟩ : ∃ y, bk f (h + pw i - 1) = y := ⟨_, rfl⟩
      rw [hx] at hca HB1
      rw [hy] at hda HB2
      have H1 : Hid (∃ l' : Nat, Hv (c4 f b) i l' ∧ ((x : Int) < b → l' = l + pw i) ∧ (¬ (x : Int) < b → l' = l)) := by
        by_cases hc : (x : Int) < b
        · exact ⟨_, hr.out.1.up (by unfold c4; have := hca.1 hc; omega), fun _ => rfl, fun h => absurd hc h⟩
        · exact ⟨_, hr.out.1.stay (by unfold c4; have := fun h => hc (hca.2 h); omega), fun h => absurd h hc, fun _ => rfl⟩
      have H2 : Hid (∃ h' : Nat, Hv (d4 f b) i h' ∧ ((y : Int) ≤ b → h' = h + pw i) ∧ (¬ (y : Int) ≤ b → h' = h)) := by
        by_cases hc : (y : Int) ≤ b
        · exact ⟨_, hr.out.2.up (by unfold d4; have := hda.1 hc; omega), fun _ => rfl, fun h => absurd hc h⟩
        · exact ⟨_, hr.out.2.stay (by unfold d4; have := fun h => hc (hda.2 h); omega), fun h => absurd h hc, fun _ => rfl⟩
      clear hx hy hca hda hr B1 B2 hps t1 t2
      obtain ⟨l', v1, v2, v3⟩ := H1.out
      obtain ⟨h', u1, u2, u3⟩ := H2.out
      have V := Lib.hid v1; have U := Lib.hid u1
      clear H1 H2 v1 u1
      by_cases hc1 : (x : Int) < b
      · have hl' := v2 hc1
        clear v2 v3
        subst hl'
        by_cases hc2 : (y : Int) ≤ b
        · have hh' := u2 hc2
          clear u2 u3
          subst hh'
          go_wp2_with fail
          refine PI.out.mono ?_
          rintro e w' ⟨rfl, rfl⟩
          go_wp2_with fail
          refine HB1.out.mono ?_
          rintro e w' ⟨rfl, rfl⟩
          go_wp2_with fail
          refine PI.out.mono ?_
          rintro e w' ⟨rfl, rfl⟩
          go_wp2_with fail
          refine PI.out.mono ?_
          rintro e w' ⟨rfl, rfl⟩
          go_wp2_with fail
          refine HB2.out.mono ?_
          rintro e w' ⟨rfl, rfl⟩
          go_wp2_with fail
          refine PI.out.mono ?_
          rintro e w' ⟨rfl, rfl⟩
          go_wp2
          go_round
          case rel => exact ⟨i, _, _, by simp, by first | rfl | (congr 1; omega), by first | rfl | (congr 1; omega), by omega, V.out, U.out⟩
          case measure => simp [Go.Proofs.intOf]
        · have hh' := u3 hc2
          clear u2 u3
          subst hh'
          go_wp2_with fail
          refine PI.out.mono ?_
          rintro e w' ⟨rfl, rfl⟩
          go_wp2_with fail
          refine HB1.out.mono ?_
          rintro e w' ⟨rfl, rfl⟩
          go_wp2_with fail
          refine PI.out.mono ?_
          rintro e w' ⟨rfl, rfl⟩
          go_wp2_with fail
          refine PI.out.mono ?_
          rintro e w' ⟨rfl, rfl⟩
          go_wp2_with fail
          refine HB2.out.mono ?_
          rintro e w' ⟨rfl, rfl⟩
          go_wp2
          go_round
          case rel => exact ⟨i, _, _, by simp, by first | rfl | (congr 1; omega), by first | rfl | (congr 1; omega), by omega, V.out, U.out⟩
          case measure => simp [Go.Proofs.intOf]
      · have hl' := v3 hc1
        clear v2 v3
        subst hl'
        by_cases hc2 : (y : Int) ≤ b
        · have hh' := u2 hc2
          clear u2 u3
          subst hh'
          go_wp2_with fail
          refine PI.out.mono ?_
          rintro e w' ⟨rfl, rfl⟩
          go_wp2_with fail
          refine HB1.out.mono ?_
          rintro e w' ⟨rfl, rfl⟩
          go_wp2_with fail
          refine PI.out.mono ?_
          rintro e w' ⟨rfl, rfl⟩
          go_wp2_with fail
          refine HB2.out.mono ?_
          rintro e w' ⟨rfl, rfl⟩
          go_wp2_with fail
          refine PI.out.mono ?_
          rintro e w' ⟨rfl, rfl⟩
          go_wp2
          go_round
          case rel => exact ⟨i, _, _, by simp, by first | rfl | (congr 1; omega), by first | rfl | (congr 1; omega), by omega, V.out, U.out⟩
          case measure => simp [Go.Proofs.intOf]
        · have hh' := u3 hc2
          clear u2 u3
          subst hh'
          go_wp2_with fail
          refine PI.out.mono ?_
          rintro e w' ⟨rfl, rfl⟩
          go_wp2_with fail
          refine HB1.out.mono ?_
          rintro e w' ⟨rfl, rfl⟩
          go_wp2_with fail
          refine PI.out.mono ?_
          rintro e w' ⟨rfl, rfl⟩
          go_wp2_with fail
          refine HB2.out.mono ?_
          rintro e w' ⟨rfl, rfl⟩
          go_wp2
          go_round
          case rel => exact ⟨i, _, _, by simp, by first | rfl | (congr 1; omega), by first | rfl | (congr 1; omega), by omega, V.out, U.out⟩
          case measure => simp [Go.Proofs.intOf]
end Go.Proofs.Ytkhipbpjknfloaa
