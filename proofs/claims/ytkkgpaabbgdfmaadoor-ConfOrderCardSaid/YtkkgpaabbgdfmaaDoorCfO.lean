/- Walks for layer 24: the document's words of a line: which name, which kind, which number, which flow. -/
import Derived.Test.YtkkgpaabbgdfmaaDoorCfN
import Derived.Test.YtkkgpaabbgdfmaaDoorDigX
namespace Go.Proofs.YtkkgpaabbgdfmaaDoor
set_option linter.unusedVariables false
set_option linter.unusedSimpArgs false
open Go Go.RowKit Go.Shelf

set_option maxHeartbeats 4000000 in
theorem rNames (w : World) : Calls Tryd.prog 48 #[] w fun e w' => e = .returned (.slice (some ⟨w.heap.size, 0, none⟩) 11 11) ∧ Blk w' w.heap.size [.string ⟨#[114, 97, 110, 107]⟩, .string ⟨#[98, 97, 99, 107]⟩, .string ⟨#[108, 101, 118, 101, 108, 115]⟩, .string ⟨#[113, 117, 101, 117, 101, 115]⟩, .string ⟨#[112, 97, 99, 107, 101, 116, 115]⟩, .string ⟨#[98, 121, 116, 101, 115]⟩, .string ⟨#[115, 104, 97, 114, 101]⟩, .string ⟨#[109, 116, 117]⟩, .string ⟨#[114, 97, 116, 101]⟩, .string ⟨#[98, 117, 114, 115, 116]⟩, .string ⟨#[102, 108, 111, 119]⟩] 9 ∧ Kp none' w w' := by
  go_enter Tryd.func48, Tryd.ntmps48
  go_wp2
  go_ret
  exact ⟨rfl, Blk.new w [.string ⟨#[114, 97, 110, 107]⟩, .string ⟨#[98, 97, 99, 107]⟩, .string ⟨#[108, 101, 118, 101, 108, 115]⟩, .string ⟨#[113, 117, 101, 117, 101, 115]⟩, .string ⟨#[112, 97, 99, 107, 101, 116, 115]⟩, .string ⟨#[98, 121, 116, 101, 115]⟩, .string ⟨#[115, 104, 97, 114, 101]⟩, .string ⟨#[109, 116, 117]⟩, .string ⟨#[114, 97, 116, 101]⟩, .string ⟨#[98, 117, 114, 115, 116]⟩, .string ⟨#[102, 108, 111, 119]⟩] 9, (Kp.refl _ _).alloc _⟩
def whI (p : Nat) : Int := if p = 11 then -1 else p
theorem nm_sym (l : List UInt8) (s : ByteArray) {b : Bool} (h : (s.toList == l) = b) : (l == s.toList) = b := by
  rw [← h]
  by_cases e : l = s.toList
  · rw [e]
  · have e2 : s.toList ≠ l := fun h => e h.symm
    rw [beq_eq_false_iff_ne.2 e, beq_eq_false_iff_ne.2 e2]
set_option maxHeartbeats 8000000 in
theorem rWhich (s : ByteArray) (p : Nat) (hp : plc nms (bl s) = p) (w : World) : Calls Tryd.prog 33 #[.string s] w fun e w' => e = .returned (.int .i64 (whI p)) ∧ Kp none' w w' := by
  have hle := plc_le (bl s) nms
  rw [hp] at hle
  have hl : nms.length = 11 := rfl
  rw [hl] at hle
  obtain ⟨f0, f1, f2, f3, f4, f5, f6, f7, f8, f9, f10⟩ := nm_all s hp
  replace f0 := nm_sym _ _ f0; replace f1 := nm_sym _ _ f1; replace f2 := nm_sym _ _ f2; replace f3 := nm_sym _ _ f3; replace f4 := nm_sym _ _ f4; replace f5 := nm_sym _ _ f5; replace f6 := nm_sym _ _ f6; replace f7 := nm_sym _ _ f7; replace f8 := nm_sym _ _ f8; replace f9 := nm_sym _ _ f9; replace f10 := nm_sym _ _ f10
  have HF0 := Lib.hid f0; have HF1 := Lib.hid f1; have HF2 := Lib.hid f2; have HF3 := Lib.hid f3; have HF4 := Lib.hid f4; have HF5 := Lib.hid f5; have HF6 := Lib.hid f6; have HF7 := Lib.hid f7; have HF8 := Lib.hid f8; have HF9 := Lib.hid f9; have HF10 := Lib.hid f10
  have HNM := Lib.hid (rNames w)
  have HP : Hid (∀ j, j < 11 → p = j → whI p = j) := fun j hj e => by unfold whI; rw [if_neg (by omega), e]
  have HQ : Hid (∀ j, 11 ≤ j → j ≤ p → whI p = -1) := fun j h1 h2 => by unfold whI; rw [if_pos (by omega)]
  have HLE := Lib.hid hle
  clear f0 f1 f2 f3 f4 f5 f6 f7 f8 f9 f10 hp hl hle
  go_enter Tryd.func33, Tryd.ntmps33
  go_wp2_with fail
  refine (HNM.out).mono ?_
  rintro e w1 ⟨rfl, hb, k1⟩
  generalize w.heap.size = g at *
  have c0 := hb.cell 0 rfl
  have c1 := hb.cell 1 rfl
  have c2 := hb.cell 2 rfl
  have c3 := hb.cell 3 rfl
  have c4 := hb.cell 4 rfl
  have c5 := hb.cell 5 rfl
  have c6 := hb.cell 6 rfl
  have c7 := hb.cell 7 rfl
  have c8 := hb.cell 8 rfl
  have c9 := hb.cell 9 rfl
  have c10 := hb.cell 10 rfl
  have HK := Lib.hid k1
  clear hb k1 HNM
  go_wp2_with fail
  go_loopw [4] (fun i0 wr => ∃ j : Nat, i0 = .int .i64 j ∧ Hid (j ≤ 11 ∧ j ≤ p) ∧ wr = w1) (fun i0 _ => 11 - (intOf i0).toNat)
  case atStart => exact ⟨0, rfl, ⟨by omega, by omega⟩, rfl⟩
  case round =>
    obtain ⟨j, rfl, HJ, rfl⟩ := hrel
    have hjl := HJ.out.1
    have hj : j = 0 ∨ j = 1 ∨ j = 2 ∨ j = 3 ∨ j = 4 ∨ j = 5 ∨ j = 6 ∨ j = 7 ∨ j = 8 ∨ j = 9 ∨ j = 10 ∨ j = 11 := by omega
    clear hjl
    rcases hj with rfl | rfl | rfl | rfl | rfl | rfl | rfl | rfl | rfl | rfl | rfl | rfl
    · by_cases h : p = 0
      · have f := HF0.out
        rw [decide_eq_true h] at f
        have HR := Lib.hid (HP.out 0 (by decide) h)
        clear h
        go_wp2
        go_ret
        exact ⟨by rw [HR.out]; rfl, HK.out⟩
      · have f := HF0.out
        rw [decide_eq_false h] at f
        have HR : Hid (1 ≤ p) := by have := HJ.out.2; show _ ≤ _; omega
        clear h
        go_wp2
        go_roundw
        case rel => exact ⟨1, by go_num, ⟨by omega, HR.out⟩, trivial⟩
        case measure => simp [intOf]
    · by_cases h : p = 1
      · have f := HF1.out
        rw [decide_eq_true h] at f
        have HR := Lib.hid (HP.out 1 (by decide) h)
        clear h
        go_wp2
        go_ret
        exact ⟨by rw [HR.out]; rfl, HK.out⟩
      · have f := HF1.out
        rw [decide_eq_false h] at f
        have HR : Hid (2 ≤ p) := by have := HJ.out.2; show _ ≤ _; omega
        clear h
        go_wp2
        go_roundw
        case rel => exact ⟨2, by go_num, ⟨by omega, HR.out⟩, trivial⟩
        case measure => simp [intOf]
    · by_cases h : p = 2
      · have f := HF2.out
        rw [decide_eq_true h] at f
        have HR := Lib.hid (HP.out 2 (by decide) h)
        clear h
        go_wp2
        go_ret
        exact ⟨by rw [HR.out]; rfl, HK.out⟩
      · have f := HF2.out
        rw [decide_eq_false h] at f
        have HR : Hid (3 ≤ p) := by have := HJ.out.2; show _ ≤ _; omega
        clear h
        go_wp2
        go_roundw
        case rel => exact ⟨3, by go_num, ⟨by omega, HR.out⟩, trivial⟩
        case measure => simp [intOf]
    · by_cases h : p = 3
      · have f := HF3.out
        rw [decide_eq_true h] at f
        have HR := Lib.hid (HP.out 3 (by decide) h)
        clear h
        go_wp2
        go_ret
        exact ⟨by rw [HR.out]; rfl, HK.out⟩
      · have f := HF3.out
        rw [decide_eq_false h] at f
        have HR : Hid (4 ≤ p) := by have := HJ.out.2; show _ ≤ _; omega
        clear h
        go_wp2
        go_roundw
        case rel => exact ⟨4, by go_num, ⟨by omega, HR.out⟩, trivial⟩
        case measure => simp [intOf]
    · by_cases h : p = 4
      · have f := HF4.out
        rw [decide_eq_true h] at f
        have HR := Lib.hid (HP.out 4 (by decide) h)
        clear h
        go_wp2
        go_ret
        exact ⟨by rw [HR.out]; rfl, HK.out⟩
      · have f := HF4.out
        rw [decide_eq_false h] at f
        have HR : Hid (5 ≤ p) := by have := HJ.out.2; show _ ≤ _; omega
        clear h
        go_wp2
        go_roundw
        case rel => exact ⟨5, by go_num, ⟨by omega, HR.out⟩, trivial⟩
        case measure => simp [intOf]
    · by_cases h : p = 5
      · have f := HF5.out
        rw [decide_eq_true h] at f
        have HR := Lib.hid (HP.out 5 (by decide) h)
        clear h
        go_wp2
        go_ret
        exact ⟨by rw [HR.out]; rfl, HK.out⟩
      · have f := HF5.out
        rw [decide_eq_false h] at f
        have HR : Hid (6 ≤ p) := by have := HJ.out.2; show _ ≤ _; omega
        clear h
        go_wp2
        go_roundw
        case rel => exact ⟨6, by go_num, ⟨by omega, HR.out⟩, trivial⟩
        case measure => simp [intOf]
    · by_cases h : p = 6
      · have f := HF6.out
        rw [decide_eq_true h] at f
        have HR := Lib.hid (HP.out 6 (by decide) h)
        clear h
        go_wp2
        go_ret
        exact ⟨by rw [HR.out]; rfl, HK.out⟩
      · have f := HF6.out
        rw [decide_eq_false h] at f
        have HR : Hid (7 ≤ p) := by have := HJ.out.2; show _ ≤ _; omega
        clear h
        go_wp2
        go_roundw
        case rel => exact ⟨7, by go_num, ⟨by omega, HR.out⟩, trivial⟩
        case measure => simp [intOf]
    · by_cases h : p = 7
      · have f := HF7.out
        rw [decide_eq_true h] at f
        have HR := Lib.hid (HP.out 7 (by decide) h)
        clear h
        go_wp2
        go_ret
        exact ⟨by rw [HR.out]; rfl, HK.out⟩
      · have f := HF7.out
        rw [decide_eq_false h] at f
        have HR : Hid (8 ≤ p) := by have := HJ.out.2; show _ ≤ _; omega
        clear h
        go_wp2
        go_roundw
        case rel => exact ⟨8, by go_num, ⟨by omega, HR.out⟩, trivial⟩
        case measure => simp [intOf]
    · by_cases h : p = 8
      · have f := HF8.out
        rw [decide_eq_true h] at f
        have HR := Lib.hid (HP.out 8 (by decide) h)
        clear h
        go_wp2
        go_ret
        exact ⟨by rw [HR.out]; rfl, HK.out⟩
      · have f := HF8.out
        rw [decide_eq_false h] at f
        have HR : Hid (9 ≤ p) := by have := HJ.out.2; show _ ≤ _; omega
        clear h
        go_wp2
        go_roundw
        case rel => exact ⟨9, by go_num, ⟨by omega, HR.out⟩, trivial⟩
        case measure => simp [intOf]
    · by_cases h : p = 9
      · have f := HF9.out
        rw [decide_eq_true h] at f
        have HR := Lib.hid (HP.out 9 (by decide) h)
        clear h
        go_wp2
        go_ret
        exact ⟨by rw [HR.out]; rfl, HK.out⟩
      · have f := HF9.out
        rw [decide_eq_false h] at f
        have HR : Hid (10 ≤ p) := by have := HJ.out.2; show _ ≤ _; omega
        clear h
        go_wp2
        go_roundw
        case rel => exact ⟨10, by go_num, ⟨by omega, HR.out⟩, trivial⟩
        case measure => simp [intOf]
    · by_cases h : p = 10
      · have f := HF10.out
        rw [decide_eq_true h] at f
        have HR := Lib.hid (HP.out 10 (by decide) h)
        clear h
        go_wp2
        go_ret
        exact ⟨by rw [HR.out]; rfl, HK.out⟩
      · have f := HF10.out
        rw [decide_eq_false h] at f
        have HR : Hid (11 ≤ p) := by have := HJ.out.2; show _ ≤ _; omega
        clear h
        go_wp2
        go_roundw
        case rel => exact ⟨11, by go_num, ⟨by omega, HR.out⟩, trivial⟩
        case measure => simp [intOf]
    · have HR := Lib.hid (HQ.out 11 (by decide) HJ.out.2)
      go_wp2
      go_ret
      exact ⟨by rw [HR.out]; rfl, HK.out⟩
theorem rdU_zero (l : List UInt8) (h : (rdU l).2 ≠ 0) : (rdU l).1 = 0 := by
  by_cases h2 : (rd (cutU l)).2 = 0
  · obtain ⟨n, hn⟩ : ∃ n, (rd (cutU l)).1 = n := ⟨_, rfl⟩
    have hrd : rd (cutU l) = (n, 0) := Prod.ext hn h2
    by_cases h3 : n * unitU l ≤ 18446744073709551615
    · rw [rdU_ok hrd rfl h3] at h; exact absurd rfl h
    · rw [rdU_over hrd rfl h3]
  · rw [rdU_err (l := l) (n := (rd (cutU l)).1) (e := (rd (cutU l)).2) rfl h2]
set_option maxHeartbeats 2000000 in
theorem rNum (s : ByteArray) (hs : s.size ≤ 1000000) (most n : Nat) (E : Int) (h : numE most (bl s) = (n, E)) (w : World) : Calls Tryd.prog 49 #[.string s, .int .u64 most] w fun e w' => e = .returned (.tuple #[.int .u64 n, .int .i64 E]) ∧ w = w' := by
  have HR := Lib.hid (rReadUnit s w hs)
  obtain ⟨a, ha⟩ : ∃ a, (rdU (bl s)).1 = a := ⟨_, rfl⟩
  obtain ⟨x, hx⟩ : ∃ x, (rdU (bl s)).2 = x := ⟨_, rfl⟩
  rw [ha, hx] at HR
  by_cases h0 : (rdU (bl s)).2 = 0
  · by_cases h1 : most < (rdU (bl s)).1
    · rw [numE_bad2 h0 h1] at h
      obtain ⟨rfl, rfl⟩ := Prod.mk.inj h
      rw [hx] at h0; rw [ha] at h1
      subst h0
      have hi : (most : Int) < a := by omega
      clear h ha hx h1
      go_enter Tryd.func49, Tryd.ntmps49
      go_wp2_with fail
      refine (HR.out).mono ?_
      rintro e w1 ⟨rfl, rfl⟩
      go_wp2
      go_ret2
      exact ⟨rfl, rfl⟩
    · rw [numE_good h0 h1] at h
      obtain ⟨e1, e2⟩ := Prod.mk.inj h
      rw [ha] at e1
      subst e1 e2
      rw [hx] at h0; rw [ha] at h1
      subst h0
      have hi : ¬ (most : Int) < a := by omega
      clear h ha hx h1
      go_enter Tryd.func49, Tryd.ntmps49
      go_wp2_with fail
      refine (HR.out).mono ?_
      rintro e w1 ⟨rfl, rfl⟩
      go_wp2
      go_ret2
      exact ⟨rfl, rfl⟩
  · have hz : a = 0 := by
      rw [← ha]
      have h2 : rd (cutU (bl s)) = rd (cutU (bl s)) := rfl
      by_cases h3 : (rdU (bl s)).1 = 0
      · exact h3
      · exact absurd (rdU_zero (bl s) h0) h3
    rw [numE_bad1 h0] at h
    obtain ⟨e1, e2⟩ := Prod.mk.inj h
    rw [hx] at e2 h0
    subst e1 e2 hz
    have hb : (x == 0) = false := by simpa using h0
    clear h ha hx h0
    go_enter Tryd.func49, Tryd.ntmps49
    go_wp2_with fail
    refine (HR.out).mono ?_
    rintro e w1 ⟨rfl, rfl⟩
    go_wp2
    go_ret2
    exact ⟨rfl, rfl⟩
set_option maxHeartbeats 4000000 in
theorem rKind (b : Bool) (s : ByteArray) (k : Nat) (hk : kindN (if b then kbs else krs) (bl s) = k) (w : World) : Calls Tryd.prog 50 #[.bool b, .string s] w fun e w' => e = .returned (.int .i64 k) ∧ Kp none' w w' := by
  obtain ⟨n0, b0, z0, N0⟩ := rName b 1 (by decide) (by decide)
  obtain ⟨n1, b1, z1, N1⟩ := rName b 2 (by decide) (by decide)
  obtain ⟨n2, b2, z2, N2⟩ := rName b 3 (by decide) (by decide)
  have hl : (if b then kbs else krs) = [bl n0, bl n1, bl n2] := by rw [b0, b1, b2]; cases b <;> rfl
  rw [hl] at hk
  have hne : ∀ {a b : ByteArray}, a ≠ b → bl b ≠ bl a := fun h e => h (str_ext e).symm
  have HE : Hid ((∀ _ : n0 = s, k = 1) ∧ (∀ (_ : n0 ≠ s) (_ : n1 = s), k = 2) ∧ (∀ (_ : n0 ≠ s) (_ : n1 ≠ s) (_ : n2 = s), k = 3) ∧ (∀ (_ : n0 ≠ s) (_ : n1 ≠ s) (_ : n2 ≠ s), k = 0)) := by
    refine ⟨fun e => ?_, fun e0 e => ?_, fun e0 e1 e => ?_, fun e0 e1 e2 => ?_⟩
    · rw [← hk, kind_at 0 (by simp) (by simp [e]) (fun j hj h => by omega)]
    · rw [← hk, kind_at 1 (by simp) (by simp [e]) (fun j hj h => by
        have : j = 0 := by omega
        subst this; simpa using hne e0)]
    · rw [← hk, kind_at 2 (by simp) (by simp [e]) (fun j hj h => by
        have : j = 0 ∨ j = 1 := by omega
        rcases this with rfl | rfl
        · simpa using hne e0
        · simpa using hne e1)]
    · rw [← hk, kind_no (fun j hj => by
        have : j = 0 ∨ j = 1 ∨ j = 2 := by simp at hj; omega
        rcases this with rfl | rfl | rfl
        · simpa using hne e0
        · simpa using hne e1
        · simpa using hne e2)]
  have M0 := Lib.hid N0; have M1 := Lib.hid N1; have M2 := Lib.hid N2
  clear hk hl b0 b1 b2 N0 N1 N2 hne
  go_enter Tryd.func50, Tryd.ntmps50
  go_wp2
  go_loopw [5] (fun i0 wr => ∃ j : Nat, i0 = .int .i64 j ∧ 1 ≤ j ∧ j ≤ 4 ∧ Hid ((1 < j → n0 ≠ s) ∧ (2 < j → n1 ≠ s) ∧ (3 < j → n2 ≠ s)) ∧ Hid (Kp none' w wr)) (fun i0 _ => 4 - (intOf i0).toNat)
  case atStart => exact ⟨1, rfl, by omega, by omega, ⟨fun h => by omega, fun h => by omega, fun h => by omega⟩, Kp.refl _ _⟩
  case round =>
    obtain ⟨j, rfl, hj1, hj, HJ, HK⟩ := hrel
    have hj4 : j = 1 ∨ j = 2 ∨ j = 3 ∨ j = 4 := by omega
    rcases hj4 with rfl | rfl | rfl | rfl
    · go_wp2_with fail
      refine (M0.out _).mono ?_
      rintro e w2 ⟨rfl, k2⟩
      have HK2 := Lib.hid (HK.out.trans k2)
      clear k2
      by_cases e : n0 = s
      · have hk := HE.out.1  e
        have hse := str_beq e
        subst hk
        go_wp2
        go_ret
        exact ⟨rfl, HK2.out⟩
      · have hse := str_bne e
        have HE0 := Lib.hid e
        clear e
        go_wp2
        go_roundw
        case rel => exact ⟨2, by go_num, by omega, by omega, ⟨fun _ => HE0.out, fun h => by omega, fun h => by omega⟩, HK2.out⟩
        case measure => simp [intOf]
    · go_wp2_with fail
      refine (M1.out _).mono ?_
      rintro e w2 ⟨rfl, k2⟩
      have HK2 := Lib.hid (HK.out.trans k2)
      clear k2
      by_cases e : n1 = s
      · have hk := HE.out.2.1 (HJ.out.1 (by omega)) e
        have hse := str_beq e
        subst hk
        go_wp2
        go_ret
        exact ⟨rfl, HK2.out⟩
      · have hse := str_bne e
        have HE0 := Lib.hid e
        clear e
        go_wp2
        go_roundw
        case rel => exact ⟨3, by go_num, by omega, by omega, ⟨fun _ => HJ.out.1 (by omega), fun _ => HE0.out, fun h => by omega⟩, HK2.out⟩
        case measure => simp [intOf]
    · go_wp2_with fail
      refine (M2.out _).mono ?_
      rintro e w2 ⟨rfl, k2⟩
      have HK2 := Lib.hid (HK.out.trans k2)
      clear k2
      by_cases e : n2 = s
      · have hk := HE.out.2.2.1 (HJ.out.1 (by omega)) (HJ.out.2.1 (by omega)) e
        have hse := str_beq e
        subst hk
        go_wp2
        go_ret
        exact ⟨rfl, HK2.out⟩
      · have hse := str_bne e
        have HE0 := Lib.hid e
        clear e
        go_wp2
        go_roundw
        case rel => exact ⟨4, by go_num, by omega, by omega, ⟨fun _ => HJ.out.1 (by omega), fun _ => HJ.out.2.1 (by omega), fun _ => HE0.out⟩, HK2.out⟩
        case measure => simp [intOf]
    · have hk := HE.out.2.2.2 (HJ.out.1 (by omega)) (HJ.out.2.1 (by omega)) (HJ.out.2.2 (by omega))
      subst hk
      go_wp2
      go_ret
      exact ⟨rfl, HK.out⟩
end Go.Proofs.YtkkgpaabbgdfmaaDoor
