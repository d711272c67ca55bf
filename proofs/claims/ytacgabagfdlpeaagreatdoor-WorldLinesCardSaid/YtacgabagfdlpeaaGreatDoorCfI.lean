/- Walks for layer 24: conf's words: a number, a kind, how many words stand behind a name; or what stops the reading. -/
import Derived.Test.YtacgabagfdlpeaaGreatDoorCfH
import Derived.Test.YtacgabagfdlpeaaGreatDoorCfQ
import Derived.Test.YtacgabagfdlpeaaGreatDoorDigX
namespace Go.Proofs.YtacgabagfdlpeaaGreatDoor
set_option linter.unusedVariables false
set_option linter.unusedSimpArgs false
open Go Go.RowKit Go.Shelf

/-- What stops the reading. -/
def stopP (e : Int) : List PanicEntry := [{ v := .iface 128 (.agg #[.int .i64 e]), recovered := false }]
set_option maxHeartbeats 2000000 in
theorem cWrong (x : Int) (w : World) : Calls Tryz.prog 80 #[.int .i64 x] w fun e w' => e = .panicked (stopP x) ∧ w = w' := by
  unfold stopP
  go_enter Tryz.func80, Tryz.ntmps80
  go_wp2
  all_goals exact ⟨rfl, rfl, rfl⟩
theorem numE_bad1 {most : Nat} {l : List UInt8} (h : (rdU l).2 ≠ 0) : numE most l = (0, (rdU l).2) := by unfold numE; rw [if_pos h]
theorem numE_bad2 {most : Nat} {l : List UInt8} (h : (rdU l).2 = 0) (h2 : most < (rdU l).1) : numE most l = (0, 5) := by unfold numE; rw [if_neg (by simp [h]), if_pos h2]
theorem numE_good {most : Nat} {l : List UInt8} (h : (rdU l).2 = 0) (h2 : ¬ most < (rdU l).1) : numE most l = ((rdU l).1, 0) := by unfold numE; rw [if_neg (by simp [h]), if_neg h2]
theorem numE_le (most : Nat) (l : List UInt8) : (numE most l).1 ≤ most := by
  unfold numE
  split
  · exact Nat.zero_le _
  · split
    · exact Nat.zero_le _
    · simp only; omega
set_option maxHeartbeats 2000000 in
theorem cNumOk (s : ByteArray) (hs : s.size ≤ 1000000) (most n : Nat) (h : numE most (bl s) = (n, 0)) (w : World) : Calls Tryz.prog 85 #[.string s, .int .u64 most] w fun e w' => e = .returned (.int .u64 n) ∧ Kp none' w w' := by
  have HR := Lib.hid (dReadUnit s w hs)
  have h0 : (rdU (bl s)).2 = 0 := by
    by_cases h0 : (rdU (bl s)).2 = 0
    · exact h0
    · rw [numE_bad1 h0] at h; exact absurd (Prod.mk.inj h).2 h0
  have h1 : ¬ most < (rdU (bl s)).1 := fun h1 => by rw [numE_bad2 h0 h1] at h; exact absurd (Prod.mk.inj h).2 (by decide)
  rw [numE_good h0 h1] at h
  have hn := (Prod.mk.inj h).1
  rw [h0, hn] at HR
  rw [hn] at h1
  have hi : ¬ (most : Int) < n := by omega
  clear h h0 h1 hn
  go_enter Tryz.func85, Tryz.ntmps85
  go_wp2_with fail
  refine (HR.out).mono ?_
  rintro e w1 ⟨rfl, k1⟩
  have HK := Lib.hid (kp_of_drew k1)
  clear k1 HR
  go_wp2
  go_ret
  exact ⟨rfl, HK.out⟩
set_option maxHeartbeats 2000000 in
theorem cNumBad (s : ByteArray) (hs : s.size ≤ 1000000) (most n : Nat) (x : Int) (h : numE most (bl s) = (n, x)) (hx : x ≠ 0) (w : World) : Calls Tryz.prog 85 #[.string s, .int .u64 most] w fun e w' => e = .panicked (stopP x) ∧ Kp none' w w' := by
  have HR := Lib.hid (dReadUnit s w hs)
  have HW := Lib.hid (fun W => cWrong x W)
  by_cases h0 : (rdU (bl s)).2 = 0
  · by_cases h1 : most < (rdU (bl s)).1
    · rw [numE_bad2 h0 h1] at h
      have h2 := (Prod.mk.inj h).2
      subst h2
      obtain ⟨m, hm⟩ : ∃ m, (rdU (bl s)).1 = m := ⟨_, rfl⟩
      rw [h0, hm] at HR
      rw [hm] at h1
      have hi : (most : Int) < m := by omega
      clear h h0 h1 hm
      go_enter Tryz.func85, Tryz.ntmps85
      go_wp2_with fail
      refine (HR.out).mono ?_
      rintro e w1 ⟨rfl, k1⟩
      have HK := Lib.hid (kp_of_drew k1)
      clear k1 HR
      go_wp2_with fail
      refine (HW.out _).mono ?_
      rintro e w2 ⟨rfl, rfl⟩
      exact ⟨rfl, rfl, HK.out⟩
    · rw [numE_good h0 h1] at h
      exact absurd (Prod.mk.inj h).2.symm hx
  · rw [numE_bad1 h0] at h
    have h2 := (Prod.mk.inj h).2
    rw [h2] at HR
    have hb : (x != 0) = true := by simpa using hx
    clear h h0 h2
    go_enter Tryz.func85, Tryz.ntmps85
    go_wp2_with fail
    refine (HR.out).mono ?_
    rintro e w1 ⟨rfl, k1⟩
    have HK := Lib.hid (kp_of_drew k1)
    clear k1 HR
    go_wp2_with fail
    refine (HW.out _).mono ?_
    rintro e w2 ⟨rfl, rfl⟩
    exact ⟨rfl, rfl, HK.out⟩
set_option maxHeartbeats 2000000 in
theorem cCntOk (s : ByteArray) (hs : s.size ≤ 1000000) (n : Nat) (h : numE 2147483647 (bl s) = (n, 0)) (w : World) : Calls Tryz.prog 84 #[.string s] w fun e w' => e = .returned (.int .i64 n) ∧ Kp none' w w' := by
  have HR := Lib.hid (cNumOk s hs 2147483647 n h w)
  have hle := numE_le 2147483647 (bl s)
  rw [h] at hle
  have hw : IntKind.i64.wrap (n : Int) = n := IntWalk.i64_in _ (by simp only at hle; omega)
  clear h hle
  go_enter Tryz.func84, Tryz.ntmps84
  go_wp2_with fail
  refine (HR.out).mono ?_
  rintro e w1 ⟨rfl, k1⟩
  have HK := Lib.hid k1
  clear k1 HR
  go_wp2
  go_ret
  exact ⟨rfl, HK.out⟩
set_option maxHeartbeats 2000000 in
theorem cCntBad (s : ByteArray) (hs : s.size ≤ 1000000) (n : Nat) (x : Int) (h : numE 2147483647 (bl s) = (n, x)) (hx : x ≠ 0) (w : World) : Calls Tryz.prog 84 #[.string s] w fun e w' => e = .panicked (stopP x) ∧ Kp none' w w' := by
  have HR := Lib.hid (cNumBad s hs 2147483647 n x h hx w)
  clear h
  go_enter Tryz.func84, Tryz.ntmps84
  go_wp2_with fail
  refine (HR.out).mono ?_
  rintro e w1 ⟨rfl, k1⟩
  exact ⟨rfl, rfl, k1⟩
theorem kind_at {l : List (List UInt8)} {w : List UInt8} (k : Nat) (h : k < l.length) (e : w = l[k]) (hl : ∀ (j : Nat) (hj : j < l.length), j < k → w ≠ l[j]) : kindN l w = k + 1 := by
  have := plc_at w l k h e hl
  unfold kindN
  rw [this, if_neg (by omega)]
theorem kind_no {l : List (List UInt8)} {w : List UInt8} (hl : ∀ (j : Nat) (hj : j < l.length), w ≠ l[j]) : kindN l w = 0 := by
  unfold kindN
  rw [plc_no w l hl, if_pos rfl]
set_option maxHeartbeats 4000000 in
theorem cKind (s n0 n1 n2 : ByteArray) (k : Nat) (hk : kindN [bl n0, bl n1, bl n2] (bl s) = k) (w : World) (g : Nat) (hb : Blk w g [.string n0, .string n1, .string n2] 9) :
    Calls Tryz.prog 81 #[.string s, .slice (some ⟨g, 0, none⟩) 3 3] w fun e w' => (if k = 0 then e = .panicked (stopP 22) else e = .returned (.int .i64 k)) ∧ Kp none' w w' := by
  have HW := Lib.hid (fun W => cWrong 22 W)
  have c0 := hb.cell 0 rfl; have c1 := hb.cell 1 rfl; have c2 := hb.cell 2 rfl
  have HE : Hid ((∀ _ : s = n0, k = 1) ∧ (∀ (_ : s ≠ n0) (_ : s = n1), k = 2) ∧ (∀ (_ : s ≠ n0) (_ : s ≠ n1) (_ : s = n2), k = 3) ∧ (∀ (_ : s ≠ n0) (_ : s ≠ n1) (_ : s ≠ n2), k = 0)) := by
    have hne : ∀ {a b : ByteArray}, a ≠ b → bl a ≠ bl b := fun h e => h (str_ext e)
    refine ⟨fun e => ?_, fun e0 e => ?_, fun e0 e1 e => ?_, fun e0 e1 e2 => ?_⟩
    · rw [← hk, kind_at 0 (by simp) (by simp [e]) (fun j hj h => by omega)]
    · rw [← hk, kind_at 1 (by simp) (by simp [e]) (fun j hj h => by
        have : j = 0 := by omega
        subst this; simpa using hne e0)]
    · rw [← hk, kind_at 2 (by simp) (by simp [e]) (fun j hj h => by
        have : j = 0 ∨ j = 1 := by omega
        rcases this with rfl | rfl
        · simpa using hne e0
        · simpa using hne e1)]
    · rw [← hk, kind_no (fun j hj => by
        have : j = 0 ∨ j = 1 ∨ j = 2 := by simp at hj; omega
        rcases this with rfl | rfl | rfl
        · simpa using hne e0
        · simpa using hne e1
        · simpa using hne e2)]
  clear hk hb
  go_enter Tryz.func81, Tryz.ntmps81
  go_wp2
  go_loopw [9] (fun i0 wr => ∃ j : Nat, i0 = .int .i64 j ∧ j ≤ 3 ∧ Hid ((0 < j → s ≠ n0) ∧ (1 < j → s ≠ n1) ∧ (2 < j → s ≠ n2)) ∧ wr = w) (fun i0 _ => 3 - (intOf i0).toNat)
  case atStart => exact ⟨0, rfl, by omega, ⟨fun h => by omega, fun h => by omega, fun h => by omega⟩, rfl⟩
  case round =>
    obtain ⟨j, rfl, hj, HJ, rfl⟩ := hrel
    have hj4 : j = 0 ∨ j = 1 ∨ j = 2 ∨ j = 3 := by omega
    rcases hj4 with rfl | rfl | rfl | rfl
    · by_cases e : s = n0
      · have hk := HE.out.1 e
        have hse := str_beq e
        subst hk
        go_wp2
        go_ret
        exact ⟨rfl, Kp.refl _ _⟩
      · have hse := str_bne e
        have HE0 := Lib.hid e
        clear e
        go_wp2
        go_roundw
        case rel => exact ⟨1, by go_num, by omega, ⟨fun _ => HE0.out, fun h => by omega, fun h => by omega⟩, trivial⟩
        case measure => simp [intOf]
    · by_cases e : s = n1
      · have hk := HE.out.2.1 (HJ.out.1 (by omega)) e
        have hse := str_beq e
        subst hk
        go_wp2
        go_ret
        exact ⟨rfl, Kp.refl _ _⟩
      · have hse := str_bne e
        have HE0 := Lib.hid e
        clear e
        go_wp2
        go_roundw
        case rel => exact ⟨2, by go_num, by omega, ⟨fun _ => HJ.out.1 (by omega), fun _ => HE0.out, fun h => by omega⟩, trivial⟩
        case measure => simp [intOf]
    · by_cases e : s = n2
      · have hk := HE.out.2.2.1 (HJ.out.1 (by omega)) (HJ.out.2.1 (by omega)) e
        have hse := str_beq e
        subst hk
        go_wp2
        go_ret
        exact ⟨rfl, Kp.refl _ _⟩
      · have hse := str_bne e
        have HE0 := Lib.hid e
        clear e
        go_wp2
        go_roundw
        case rel => exact ⟨3, by go_num, by omega, ⟨fun _ => HJ.out.1 (by omega), fun _ => HJ.out.2.1 (by omega), fun _ => HE0.out⟩, trivial⟩
        case measure => simp [intOf]
    · have hk := HE.out.2.2.2 (HJ.out.1 (by omega)) (HJ.out.2.1 (by omega)) (HJ.out.2.2 (by omega))
      subst hk
      go_wp2_with fail
      refine (HW.out _).mono ?_
      rintro e w2 ⟨rfl, rfl⟩
      exact ⟨rfl, rfl, Kp.refl _ _⟩
end Go.Proofs.YtacgabagfdlpeaaGreatDoor
