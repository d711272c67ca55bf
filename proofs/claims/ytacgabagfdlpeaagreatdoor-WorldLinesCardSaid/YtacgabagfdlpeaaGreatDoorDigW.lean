/- Walks of layer 3: reading. -/
import Derived.Test.YtacgabagfdlpeaaGreatDoorStr
import Derived.Test.YtacgabagfdlpeaaGreatDoorDigP
import Derived.Test.YtacgabagfdlpeaaGreatDoorProg
namespace Go.Proofs.YtacgabagfdlpeaaGreatDoor
set_option linter.unusedVariables false
set_option linter.unusedSimpArgs false
open Go.RowKit

theorem ret_pair {k1 k2 : IntKind} {a : Nat × Int} {x : Nat} {y : Int} (h : a = (x, y)) : Ending.returned (.tuple #[.int k1 (x : Int), .int k2 y]) = .returned (.tuple #[.int k1 (a.1 : Int), .int k2 a.2]) := by rw [h]
theorem num_cons_take (l : List UInt8) (k : Nat) (h : k < l.length) : num (l.take (k + 1)) = num (l.take k) * 10 + (l[k].toNat - 48) := num_succ l k h
theorem all_succ {l : List UInt8} {k : Nat} (h : k < l.length) : (l.take (k + 1)).all isDig = ((l.take k).all isDig && isDig l[k]) := by
  rw [List.take_succ_eq_append_getElem h]; simp only [List.all_append, List.all_cons, List.all_nil, Bool.and_true]
theorem all_bad {l : List UInt8} {k : Nat} (h : k < l.length) (hb : isDig l[k] = false) : l.all isDig = false := by
  rw [Bool.eq_false_iff]; intro ha
  rw [List.all_eq_true] at ha
  rw [ha _ (List.getElem_mem h)] at hb; cases hb

set_option maxHeartbeats 400000 in
theorem dAll (s : ByteArray) (w : World) (hs : s.size ≤ 1000000) : Calls Tryz.prog 142 #[.string s] w fun e w' => e = .returned (.bool ((bl s).all isDig && !(bl s).isEmpty)) ∧ w = w' := by
  go_enter Tryz.func142, Tryz.ntmps142
  go_wp2
  go_loop [6] (fun i => ∃ k : Nat, k ≤ s.size ∧ i = .int .i64 k ∧ Hid (((bl s).take k).all isDig = true)) (fun i => s.size - (intOf i).toNat)
  case atStart => exact ⟨0, Nat.zero_le _, rfl, rfl⟩
  case round =>
    obtain ⟨k, hk, rfl, hal⟩ := hrel
    by_cases hlt : k < s.size
    · have hl : k < (bl s).length := by rw [bl_len]; exact hlt
      have hg := bl_get s k hlt
      by_cases hd : 48 ≤ s[k].toNat ∧ s[k].toNat ≤ 57
      · have hn : Hid (((bl s).take (k + 1)).all isDig = true) := by
          have hd' : isDig (bl s)[k] = true := by rw [hg]; exact isDig_iff.2 hd
          show _ = true
          rw [all_succ hl, hal.out, hd']; rfl
        clear hg
        obtain ⟨h1, h2⟩ := hd
        go_wp2
        go_round
        case rel => exact ⟨k + 1, by omega, by go_num, hn⟩
        case measure => simp [intOf]; omega
      · have hn : Hid (((bl s).all isDig && !(bl s).isEmpty) = false) := by
          show _ = false
          rw [all_bad hl (by rw [hg]; exact isDig_not.2 hd)]; rfl
        clear hg
        by_cases h1 : 48 ≤ s[k].toNat
        · have h2 : 57 < s[k].toNat := by omega
          clear hd
          go_wp2
          go_ret
          exact ⟨ret_bool hn.out.symm, rfl⟩
        · clear hd
          go_wp2
          go_ret
          exact ⟨ret_bool hn.out.symm, rfl⟩
    · have hn : Hid (((bl s).all isDig && !(bl s).isEmpty) = !(bl s).isEmpty) := by
        have := hal.out
        rw [List.take_of_length_le (by rw [bl_len]; omega)] at this
        show _ = _
        rw [this]; rfl
      go_wp2
      go_ret
      refine ⟨ret_bool ?_, rfl⟩
      rw [hn.out, bl_nil]

set_option maxHeartbeats 1000000 in
theorem dRead (s : ByteArray) (w : World) (hs : s.size ≤ 1000000) : Calls Tryz.prog 119 #[.string s] w fun e w' => e = .returned (.tuple #[.int .u64 (rd (bl s)).1, .int .i64 (rd (bl s)).2]) ∧ w = w' := by
  have HA := Lib.hid (fun W => dAll s W hs)
  obtain ⟨al, hal⟩ : ∃ al, ((bl s).all isDig && !(bl s).isEmpty) = al := ⟨_, rfl⟩
  rw [hal] at HA
  cases al with
  | false =>
    have hr : Hid (rd (bl s) = (0, 3)) := by
      show _ = _
      unfold rd good; rw [hal]; rfl
    clear hal
    rw [hr.out]
    go_enter Tryz.func119, Tryz.ntmps119
    go_wp2_with (go_at_call 142; refine (HA.out _).mono ?_; rintro e w' ⟨rfl, rfl⟩)
    go_ret2
    exact ⟨rfl, rfl⟩
  | true =>
    have hal2 : (bl s).all isDig = true ∧ (bl s).isEmpty = false := by simpa using hal
    have hne : 0 < s.size := by
      have := hal2.2
      rw [← bl_len]
      cases e : bl s with
      | nil => rw [e] at this; cases this
      | cons a r => simp
    have hhd := head_get s hne
    have hdg : ∀ (k : Nat) (h : k < s.size), 48 ≤ s[k].toNat ∧ s[k].toNat ≤ 57 := fun k h => by
      have := List.all_eq_true.1 hal2.1 _ (List.getElem_mem (l := bl s) (by rw [bl_len]; exact h : k < (bl s).length))
      rw [bl_get s k h] at this
      exact isDig_iff.1 this
    have HDG := Lib.hid hdg
    by_cases hz : 1 < s.size ∧ s[0].toNat = 48
    · obtain ⟨h1, h0⟩ := hz
      have hr : Hid (rd (bl s) = (0, 3)) := by
        have hg : good (bl s) = false := by
          unfold good
          rw [hal, hhd, bl_len, show s[0] = 48 from UInt8.toNat_inj.1 h0]; simp [h1]
        show _ = _
        unfold rd; rw [hg]; rfl
      rw [hr.out]
      have h0' : ((s[0].toNat : Int) == 48) = true := by simp [h0]
      clear hal hal2 h0 hdg hhd
      go_enter Tryz.func119, Tryz.ntmps119
      go_wp2_with (go_at_call 142; refine (HA.out _).mono ?_; rintro e w' ⟨rfl, rfl⟩)
      go_ret2
      exact ⟨rfl, rfl⟩
    · have hgd : Hid (good (bl s) = true) := by
        show _ = true
        unfold good
        rw [hal, hhd, bl_len]
        by_cases h1 : 1 < s.size
        · have h0 : s[0].toNat ≠ 48 := fun e => hz ⟨h1, e⟩
          have : (s[0] == 48) = false := by rw [beq_eq_false_iff_ne]; intro e; apply h0; rw [e]; rfl
          simp [this]
        · simp [h1]
      have hcs : (1 < s.size ∧ ((s[0].toNat : Int) == 48) = false) ∨ ¬ 1 < s.size := by
        by_cases h1 : 1 < s.size
        · exact .inl ⟨h1, by simp; intro e; exact hz ⟨h1, by omega⟩⟩
        · exact .inr h1
      clear hal hal2 hdg hhd hz
      rcases hcs with ⟨h1, h0⟩ | h1
      all_goals
        go_enter Tryz.func119, Tryz.ntmps119
        go_wp2_with (go_at_call 142; refine (HA.out _).mono ?_; rintro e w' ⟨rfl, rfl⟩)
        go_loop [4, 22] (fun n i => ∃ k N : Nat, k ≤ s.size ∧ i = .int .i64 k ∧ n = .int .u64 N ∧ N ≤ 18446744073709551615 ∧ Hid (num ((bl s).take k) = N)) (fun _ i => s.size - (intOf i).toNat)
        case atStart => exact ⟨0, 0, Nat.zero_le _, rfl, rfl, by omega, rfl⟩
        case round =>
          obtain ⟨k, N, hk, rfl, rfl, hN, hnum⟩ := hrel
          by_cases hlt : k < s.size
          · have hs1 := num_succ (bl s) k (by rw [bl_len]; exact hlt)
            rw [bl_get s k hlt, hnum.out] at hs1
            obtain ⟨b1, b2⟩ := HDG.out k hlt
            have HS1 := Lib.hid hs1
            clear hs1
            by_cases hov : N * 10 + (s[k].toNat - 48) ≤ 18446744073709551615
            · go_wp2
              go_round
              case rel => exact ⟨k + 1, N * 10 + (s[k].toNat - 48), by omega, by go_num, by go_num, hov, HS1.out⟩
              case measure => simp [intOf]; omega
            · have hr : Hid (rd (bl s) = (0, 5)) := by
                have h2 := num_take (bl s) (k + 1)
                rw [HS1.out] at h2
                show _ = _
                unfold rd M64; rw [hgd.out, if_pos rfl, if_neg (by omega)]
              go_wp2
              go_ret2
              exact ⟨ret_pair hr.out, rfl⟩
          · have hr : Hid (rd (bl s) = (N, 0)) := by
              have h2 := hnum.out
              rw [List.take_of_length_le (by rw [bl_len]; omega)] at h2
              show _ = _
              unfold rd M64; rw [hgd.out, if_pos rfl, h2, if_pos (by omega)]
            go_wp2
            go_ret2
            exact ⟨ret_pair hr.out, rfl⟩

theorem u64_nat (x : Int) : ∃ m : Nat, IntKind.u64.wrap x = (m : Int) ∧ m ≤ 18446744073709551615 := by
  rw [IntKind.wrap_u64]
  exact ⟨(x % 18446744073709551616).toNat, by omega, by omega⟩
/-- What the document's reader keeps: whether it is over, and else the number. -/
def Over (l : List UInt8) (o : Bool) (m : Nat) : Prop := (o = true ∧ M64 ≤ num l) ∨ (o = false ∧ num l = m)
theorem rBad (s : ByteArray) (k : Nat) (h : k < s.size) (hd : ¬ (48 ≤ s[k].toNat ∧ s[k].toNat ≤ 57)) : rd (bl s) = (0, 3) := by
  have h1 := all_bad (l := bl s) (k := k) (by rw [bl_len]; exact h) (by rw [bl_get s k h]; exact isDig_not.2 hd)
  unfold rd good; rw [h1]; rfl

end Go.Proofs.YtacgabagfdlpeaaGreatDoor
