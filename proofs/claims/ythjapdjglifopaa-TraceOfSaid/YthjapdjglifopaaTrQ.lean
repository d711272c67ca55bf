/- Walks of layer 39, the document's: what left. -/
import Derived.Test.YthjapdjglifopaaTrL
import Derived.Test.YthjapdjglifopaaSatR
namespace Go.Proofs.Ythjapdjglifopaa
set_option linter.unusedVariables false
set_option linter.unusedSimpArgs false
open Go.RowKit Go.Shelf

set_option maxHeartbeats 2000000 in
theorem rtLeft (l : List Rec) (hok : ∀ r ∈ l, r.goes) (hn : l.length ≤ 1000) (v : Value) (w : World) (h : Sl w v l.length 6 (l.flatMap enR)) :
    Calls Try.prog 28 #[v] w fun e w' => e = .returned (.tuple #[.int .u64 (leftF l).1, .int .u64 (leftF l).2]) ∧ Kp none' w w' := by
  obtain ⟨ao, cap, rfl⟩ : ∃ ao cap, v = .slice ao l.length cap := by obtain ⟨ao, cap, rfl, _⟩ := h.is; exact ⟨_, _, rfl⟩
  have HS := Lib.hid h
  clear h
  go_enter Try.func28, Try.ntmps28
  go_wp2
  go_loopw [4, 5, 6] (fun x0 y0 i0 wr => ∃ (j x y : Nat), i0 = .int .i64 j ∧ j ≤ l.length ∧ x0 = .int .u64 x ∧ y0 = .int .u64 y ∧ x ≤ j ∧ y < 18446744073709551616 ∧ Hid (leftF (l.take j) = (x, y) ∧ Kp none' w wr)) (fun _ _ i0 _ => l.length - (intOf i0).toNat)
  case atStart => exact ⟨0, 0, 0, rfl, by omega, rfl, rfl, by omega, by omega, rfl, Kp.refl _ _⟩
  case round =>
    obtain ⟨j, x, y, rfl, hj, rfl, rfl, hx, hy, hr⟩ := hrel
    by_cases hlt : j < l.length
    · obtain ⟨g, off, cap', e1, hc⟩ := (HS.out.old hr.out.2).at enR_len (by decide) j hlt
      injection e1 with e1 _ e3
      subst e1 e3
      have hgo := hok l[j] (List.getElem_mem hlt)
      obtain ⟨r, hrj⟩ : ∃ r, l[j] = r := ⟨_, rfl⟩
      rw [hrj] at hc hgo
      have HT : Hid (leftF (l.take (j + 1)) = leftS (x, y) r) := by
        show _ = _
        rw [List.take_succ_eq_append_getElem hlt, leftF_snoc, hr.out.1, hrj]
      obtain ⟨t, k, f, i, n, c⟩ := r
      have hnl := hgo.1.len
      simp only at hnl
      have c0 := hc 0 _ rfl
      have c1 := hc 1 _ rfl
      have c2 := hc 2 _ rfl
      have c3 := hc 3 _ rfl
      have c4 := hc 4 _ rfl
      have c5 := hc 5 _ rfl
      simp only [Nat.add_zero] at c0 c1 c2 c3 c4 c5
      have HK := Lib.hid (hr.out.2)
      have HA := Lib.hid (fun W => rAdd y n hy hnl W)
      clear hc hgo hrj
      by_cases hk : k = 2
      · subst hk
        by_cases hcd : c = 0
        · subst hcd
          have HL : Hid (leftF (l.take (j + 1)) = (x + 1, satN y n)) := by show _ = _; rw [HT.out]; rfl
          have hs := satN_lt y n
          obtain ⟨q, hq⟩ : ∃ q, satN y n = q := ⟨_, rfl⟩
          rw [hq] at HA HL hs
          clear hq
          go_wp2_with fail
          refine (HA.out _).mono ?_
          rintro e w2 ⟨rfl, k2⟩
          have HK2 := Lib.hid (HK.out.trans k2)
          clear k2
          go_wp2_with fail
          go_roundw
          case rel => exact ⟨j + 1, x + 1, q, by go_num, by omega, by simp, rfl, by omega, hs, HL.out, HK2.out⟩
          case measure => simp [intOf]; omega
        · have hcb : (c == 0) = false := by simpa using hcd
          have HL : Hid (leftF (l.take (j + 1)) = (x, y)) := by show _ = _; rw [HT.out]; unfold leftS leavesB; rw [if_neg]; simp [hcd]
          go_wp2_with fail
          go_roundw
          case rel => exact ⟨j + 1, x, y, by go_num, by omega, rfl, rfl, by omega, hy, HL.out, HK.out⟩
          case measure => simp [intOf]; omega
      · have hkb : (k == 2) = false := by simpa using hk
        have HL : Hid (leftF (l.take (j + 1)) = (x, y)) := by show _ = _; rw [HT.out]; unfold leftS leavesB; rw [if_neg]; simp [hk]
        go_wp2_with fail
        go_roundw
        case rel => exact ⟨j + 1, x, y, by go_num, by omega, rfl, rfl, by omega, hy, HL.out, HK.out⟩
        case measure => simp [intOf]; omega
    · have HL : Hid (leftF l = (x, y)) := by
        have := hr.out.1
        rwa [List.take_of_length_le (by omega)] at this
      go_wp2_with fail
      go_ret2
      exact ⟨ret_left HL.out, hr.out.2⟩

end Go.Proofs.Ythjapdjglifopaa
