/- Walks of layer 31: the document's prefixes read. -/
import Derived.Test.YtgkncanfmojdbaaDoorAddrU
import Derived.Test.YtgkncanfmojdbaaDoorAddrT
import Derived.Test.YtgkncanfmojdbaaDoorAddrZ
namespace Go.Proofs.YtgkncanfmojdbaaDoor
set_option linter.unusedVariables false
set_option linter.unusedSimpArgs false
open Go.RowKit Go.Shelf
theorem rRetP {W w : World} {p : (Nat × Nat) × Int} {c : Nat} {a m : Nat} {e : Int} {T : Array Value}
    (hb : Blk W c [.int .u32 a, .int .i64 m] 30) (h : p = ((a, m), e)) (hk : Kp none' w W) (h2 : T[2]? = some (.pointer (some ⟨c, 0, none⟩))) (h3 : T[3]? = some (.int .i64 e)) :
    bodyPost Tryd.prog Tryd.f11 (fun e w' => e = .returned (.tuple #[.agg #[.int .u32 (p.1.1 : Int), .int .i64 (p.1.2 : Int)], .int .i64 p.2]) ∧ Kp none' w w') Exit.ret { tmps := T, defers := [] } W := by
  have c0 := hb.cell 0 rfl
  have c1 := hb.cell 1 rfl
  exact bodyPost_ret (v := .tuple #[.agg #[.int .u32 (a : Int), .int .i64 (m : Int)], .int .i64 e]) (by simp [results, Tryd.results11, go_sem, c0, c1, h2, h3]) rfl ⟨ret_p h, hk⟩
theorem rRetP0 {W w : World} {p : (Nat × Nat) × Int} {c : Nat} {e : Int} {T : Array Value}
    (hb : Blk W c [.int .u32 0, .int .i64 0] 30) (h : p = ((0, 0), e)) (hk : Kp none' w W) (h2 : T[2]? = some (.pointer (some ⟨c, 0, none⟩))) (h3 : T[3]? = some (.int .i64 e)) :
    bodyPost Tryd.prog Tryd.f11 (fun e w' => e = .returned (.tuple #[.agg #[.int .u32 (p.1.1 : Int), .int .i64 (p.1.2 : Int)], .int .i64 p.2]) ∧ Kp none' w w') Exit.ret { tmps := T, defers := [] } W :=
  rRetP (a := 0) (m := 0) hb h hk h2 h3
theorem readP_len {l : List UInt8} (h : (parts 47 l).length ≠ 2) : readP l = ((0, 0), 3) := by
  unfold readP
  match hp : parts 47 l, h with
  | [], _ => rfl
  | [_], _ => rfl
  | [_, _], h => exact absurd rfl h
  | _ :: _ :: _ :: _, _ => rfl

set_option maxHeartbeats 2000000 in
theorem rReadP (s : ByteArray) (w : World) (hs : s.size ≤ 1000000) : Calls Tryd.prog 11 #[.string s] w fun e w' => e = .returned (.tuple #[.agg #[.int .u32 (readP (bl s)).1.1, .int .i64 (readP (bl s)).1.2], .int .i64 (readP (bl s)).2]) ∧ Kp none' w w' := by
  obtain ⟨wx, hwx⟩ : ∃ wx, wx = w.alloc (.cells #[.int .u32 0, .int .i64 0] 30) := ⟨_, rfl⟩
  have hk0 : Kp none' w wx := by rw [hwx]; exact (Kp.refl _ _).alloc _
  have hbx : Blk wx w.heap.size [.int .u32 0, .int .i64 0] 30 := by rw [hwx]; exact Blk.new _ _ _
  have hP := rParts s 47 wx hs
  have hpl := part_len 47 (bl s)
  rw [bl_len] at hpl
  have HK0 := Lib.hid hk0; have HWX := Lib.hid hwx; have HBX := Lib.hid hbx
  clear hk0 hwx hbx
  by_cases h2 : (parts 47 (bl s)).length = 2
  · obtain ⟨x, y, hxy⟩ : ∃ x y, parts 47 (bl s) = [x, y] := by
      match hp : parts 47 (bl s), h2 with
      | [x, y], _ => exact ⟨x, y, rfl⟩
    have hR0 : readP (bl s) = two x y := by unfold readP; rw [hxy]
    rw [hxy] at hP hpl
    have hxs := hpl x (by simp); have hys := hpl y (by simp)
    have HP : Hid (Calls Tryd.prog 26 #[.string s, .int .u8 47] wx fun e w' => ∃ v, e = .returned v ∧ w'.ownsRow wx.heap.size 9 1 v 2 (wtx [x, y]) ∧ Kp none' wx w') := hP
    have hA := fun W => rReadA (tx x) W (by rw [tx_size]; omega)
    have hS := fun W => rRead (tx y) W (by rw [tx_size]; omega)
    simp only [bl_tx] at hA hS
    have hal := readA_lt x
    unfold two sm at hR0
    obtain ⟨⟨a, e⟩, hae⟩ : ∃ p, readA x = p := ⟨_, rfl⟩
    obtain ⟨⟨n, f⟩, hnf⟩ : ∃ p, rd y = p := ⟨_, rfl⟩
    simp only [hae] at hA hR0 hal
    simp only [hnf] at hS hR0
    have HA := Lib.hid hA; have HS := Lib.hid hS
    clear hP hpl hA hS hae hnf h2 hxy hxs hys
    by_cases he : e = 0
    · subst he
      by_cases hf : f = 0
      · subst hf
        by_cases hn : 32 < n
        · have HR : Hid (readP (bl s) = ((0, 0), 5)) := by show _ = _; rw [hR0]; simp [hn]
          clear hR0
          go_enter Tryd.func11, Tryd.ntmps11
          go_wp2_with fail
          rw [← HWX.out]
          go_wp2_with fail
          refine (HP.out).mono ?_
          rintro e w1 ⟨v, rfl, hown, k1⟩
          obtain ⟨g, cap, rfl⟩ : ∃ g cap, v = .slice (some ⟨g, 0, none⟩) 2 cap := by
            rcases hown.2 with ⟨_, h⟩ | ⟨g, cap, cur, rfl, _⟩
            · exact absurd h (by decide)
            · exact ⟨g, cap, rfl⟩
          have c0 := own_cell hown 0 (wtx_get [x, y] 0 (by simp))
          have c1 := own_cell hown 1 (wtx_get [x, y] 1 (by simp))
          simp only [List.getElem_cons_zero, List.getElem_cons_succ] at c0 c1
          have HB1 := Lib.hid (HBX.out.kp k1 id)
          have HK1 := Lib.hid (HK0.out.trans k1)
          clear hown k1
          go_wp2_with fail
          refine (HA.out _).mono ?_
          rintro e w2 ⟨rfl, k2⟩
          replace c1 := k2.cell c1 id
          have hB2 := HB1.out.kp k2 id
          have HK2 := Lib.hid (HK1.out.trans k2)
          have HB2 := Lib.hid hB2
          clear k2 c0
          go_wp2_with fail
          refine (HS.out _).mono ?_
          rintro e w3 ⟨rfl, rfl⟩
          have g0 := hB2.cell 0 rfl; have g1 := hB2.cell 1 rfl; have z0 := hB2.fz 0; have z1 := hB2.fz 1
          clear hB2
          go_wp2_with fail
          exact rRetP0 (HB2.out.set 0 _ |>.set 1 _) HR.out ((HK2.out.set (Or.inr (Nat.le_refl _)) _).set (Or.inr (Nat.le_refl _)) _) rfl rfl
        · have hQ := fun W => rRight a n W hal (by omega)
          obtain ⟨rr, hrr⟩ : ∃ rr, rightB a n = rr := ⟨_, rfl⟩
          simp only [hrr] at hQ
          have HQ := Lib.hid hQ
          have hnw : (n : Int) ≤ 32 := by omega
          cases rr with
          | true =>
            have HR : Hid (readP (bl s) = ((a, n), 0)) := by show _ = _; rw [hR0]; simp [hn, hrr]
            clear hR0 hrr hQ
            go_enter Tryd.func11, Tryd.ntmps11
            go_wp2_with fail
            rw [← HWX.out]
            go_wp2_with fail
            refine (HP.out).mono ?_
            rintro e w1 ⟨v, rfl, hown, k1⟩
            obtain ⟨g, cap, rfl⟩ : ∃ g cap, v = .slice (some ⟨g, 0, none⟩) 2 cap := by
              rcases hown.2 with ⟨_, h⟩ | ⟨g, cap, cur, rfl, _⟩
              · exact absurd h (by decide)
              · exact ⟨g, cap, rfl⟩
            have c0 := own_cell hown 0 (wtx_get [x, y] 0 (by simp))
            have c1 := own_cell hown 1 (wtx_get [x, y] 1 (by simp))
            simp only [List.getElem_cons_zero, List.getElem_cons_succ] at c0 c1
            have HB1 := Lib.hid (HBX.out.kp k1 id)
            have HK1 := Lib.hid (HK0.out.trans k1)
            clear hown k1
            go_wp2_with fail
            refine (HA.out _).mono ?_
            rintro e w2 ⟨rfl, k2⟩
            replace c1 := k2.cell c1 id
            have hB2 := HB1.out.kp k2 id
            have HK2 := Lib.hid (HK1.out.trans k2)
            have HB2 := Lib.hid hB2
            clear k2 c0
            go_wp2_with fail
            refine (HS.out _).mono ?_
            rintro e w3 ⟨rfl, rfl⟩
            go_wp2_with fail
            refine (HQ.out _).mono ?_
            rintro e w4 ⟨rfl, k3⟩
            have hB3 := (HB2.out.alloc (.cells #[.int .u32 a, .int .i64 n] 30)).kp k3 id
            have hP3 := (Blk.new w2 [.int .u32 a, .int .i64 n] 30).kp k3 id
            have HK3 := Lib.hid ((HK2.out.alloc (.cells #[.int .u32 a, .int .i64 n] 30)).trans k3)
            have e0 := hP3.cell 0 rfl; have e1 := hP3.cell 1 rfl
            have g0 := hB3.cell 0 rfl; have g1 := hB3.cell 1 rfl
            have z0 := hB3.fz 0; have z1 := hB3.fz 1
            have HB3 := Lib.hid hB3
            clear k3 hB3 hP3 hB2
            go_wp2_with fail
            exact rRetP (HB3.out.set 0 _ |>.set 1 _) HR.out ((HK3.out.set (Or.inr (Nat.le_refl _)) _).set (Or.inr (Nat.le_refl _)) _) rfl rfl
          | false =>
            have HR : Hid (readP (bl s) = ((0, 0), 6)) := by show _ = _; rw [hR0]; simp [hn, hrr]
            clear hR0 hrr hQ
            go_enter Tryd.func11, Tryd.ntmps11
            go_wp2_with fail
            rw [← HWX.out]
            go_wp2_with fail
            refine (HP.out).mono ?_
            rintro e w1 ⟨v, rfl, hown, k1⟩
            obtain ⟨g, cap, rfl⟩ : ∃ g cap, v = .slice (some ⟨g, 0, none⟩) 2 cap := by
              rcases hown.2 with ⟨_, h⟩ | ⟨g, cap, cur, rfl, _⟩
              · exact absurd h (by decide)
              · exact ⟨g, cap, rfl⟩
            have c0 := own_cell hown 0 (wtx_get [x, y] 0 (by simp))
            have c1 := own_cell hown 1 (wtx_get [x, y] 1 (by simp))
            simp only [List.getElem_cons_zero, List.getElem_cons_succ] at c0 c1
            have HB1 := Lib.hid (HBX.out.kp k1 id)
            have HK1 := Lib.hid (HK0.out.trans k1)
            clear hown k1
            go_wp2_with fail
            refine (HA.out _).mono ?_
            rintro e w2 ⟨rfl, k2⟩
            replace c1 := k2.cell c1 id
            have hB2 := HB1.out.kp k2 id
            have HK2 := Lib.hid (HK1.out.trans k2)
            have HB2 := Lib.hid hB2
            clear k2 c0
            go_wp2_with fail
            refine (HS.out _).mono ?_
            rintro e w3 ⟨rfl, rfl⟩
            go_wp2_with fail
            refine (HQ.out _).mono ?_
            rintro e w4 ⟨rfl, k3⟩
            have hB3 := (HB2.out.alloc (.cells #[.int .u32 a, .int .i64 n] 30)).kp k3 id
            have hP3 := (Blk.new w2 [.int .u32 a, .int .i64 n] 30).kp k3 id
            have HK3 := Lib.hid ((HK2.out.alloc (.cells #[.int .u32 a, .int .i64 n] 30)).trans k3)
            have e0 := hP3.cell 0 rfl; have e1 := hP3.cell 1 rfl
            have g0 := hB3.cell 0 rfl; have g1 := hB3.cell 1 rfl
            have z0 := hB3.fz 0; have z1 := hB3.fz 1
            have HB3 := Lib.hid hB3
            clear k3 hB3 hP3 hB2
            go_wp2_with fail
            exact rRetP0 (HB3.out.set 0 _ |>.set 1 _) HR.out ((HK3.out.set (Or.inr (Nat.le_refl _)) _).set (Or.inr (Nat.le_refl _)) _) rfl rfl
      · have hb1 : (f != 0) = true := by simpa using hf
        have hb2 : (f == 0) = false := by simpa using hf
        have HR : Hid (readP (bl s) = ((0, 0), f)) := by show _ = _; rw [hR0]; simp [hf]
        clear hR0 hf
        go_enter Tryd.func11, Tryd.ntmps11
        go_wp2_with fail
        rw [← HWX.out]
        go_wp2_with fail
        refine (HP.out).mono ?_
        rintro e w1 ⟨v, rfl, hown, k1⟩
        obtain ⟨g, cap, rfl⟩ : ∃ g cap, v = .slice (some ⟨g, 0, none⟩) 2 cap := by
          rcases hown.2 with ⟨_, h⟩ | ⟨g, cap, cur, rfl, _⟩
          · exact absurd h (by decide)
          · exact ⟨g, cap, rfl⟩
        have c0 := own_cell hown 0 (wtx_get [x, y] 0 (by simp))
        have c1 := own_cell hown 1 (wtx_get [x, y] 1 (by simp))
        simp only [List.getElem_cons_zero, List.getElem_cons_succ] at c0 c1
        have HB1 := Lib.hid (HBX.out.kp k1 id)
        have HK1 := Lib.hid (HK0.out.trans k1)
        clear hown k1
        go_wp2_with fail
        refine (HA.out _).mono ?_
        rintro e w2 ⟨rfl, k2⟩
        replace c1 := k2.cell c1 id
        have hB2 := HB1.out.kp k2 id
        have HK2 := Lib.hid (HK1.out.trans k2)
        have HB2 := Lib.hid hB2
        clear k2 c0
        go_wp2_with fail
        refine (HS.out _).mono ?_
        rintro e w3 ⟨rfl, rfl⟩
        have g0 := hB2.cell 0 rfl; have g1 := hB2.cell 1 rfl; have z0 := hB2.fz 0; have z1 := hB2.fz 1
        clear hB2
        go_wp2_with fail
        exact rRetP0 (HB2.out.set 0 _ |>.set 1 _) HR.out ((HK2.out.set (Or.inr (Nat.le_refl _)) _).set (Or.inr (Nat.le_refl _)) _) rfl rfl
    · have hb1 : (e != 0) = true := by simpa using he
      have HR : Hid (readP (bl s) = ((0, 0), e)) := by show _ = _; rw [hR0]; simp [he]
      clear hR0 he
      go_enter Tryd.func11, Tryd.ntmps11
      go_wp2_with fail
      rw [← HWX.out]
      go_wp2_with fail
      refine (HP.out).mono ?_
      rintro e w1 ⟨v, rfl, hown, k1⟩
      obtain ⟨g, cap, rfl⟩ : ∃ g cap, v = .slice (some ⟨g, 0, none⟩) 2 cap := by
        rcases hown.2 with ⟨_, h⟩ | ⟨g, cap, cur, rfl, _⟩
        · exact absurd h (by decide)
        · exact ⟨g, cap, rfl⟩
      have c0 := own_cell hown 0 (wtx_get [x, y] 0 (by simp))
      have c1 := own_cell hown 1 (wtx_get [x, y] 1 (by simp))
      simp only [List.getElem_cons_zero, List.getElem_cons_succ] at c0 c1
      have HB1 := Lib.hid (HBX.out.kp k1 id)
      have HK1 := Lib.hid (HK0.out.trans k1)
      clear hown k1
      go_wp2_with fail
      refine (HA.out _).mono ?_
      rintro e w2 ⟨rfl, k2⟩
      replace c1 := k2.cell c1 id
      have hB2 := HB1.out.kp k2 id
      have HK2 := Lib.hid (HK1.out.trans k2)
      have HB2 := Lib.hid hB2
      clear k2 c0
      have g0 := hB2.cell 0 rfl; have g1 := hB2.cell 1 rfl; have z0 := hB2.fz 0; have z1 := hB2.fz 1
      clear hB2
      go_wp2_with fail
      exact rRetP0 (HB2.out.set 0 _ |>.set 1 _) HR.out ((HK2.out.set (Or.inr (Nat.le_refl _)) _).set (Or.inr (Nat.le_refl _)) _) rfl rfl
  · have HR := Lib.hid (readP_len h2)
    have HP := Lib.hid hP
    have hb : (((parts 47 (bl s)).length : Int) != 2) = true := by rw [bne_iff_ne]; omega
    generalize parts 47 (bl s) = L at HP hb
    clear hP hpl h2
    go_enter Tryd.func11, Tryd.ntmps11
    go_wp2_with fail
    rw [← HWX.out]
    go_wp2_with fail
    refine (HP.out).mono ?_
    rintro e w1 ⟨v, rfl, hown, k1⟩
    obtain ⟨ao, cap, rfl⟩ := own_shape hown
    have hB2 := HBX.out.kp k1 id
    have HK2 := Lib.hid (HK0.out.trans k1)
    have HB2 := Lib.hid hB2
    have g0 := hB2.cell 0 rfl; have g1 := hB2.cell 1 rfl; have z0 := hB2.fz 0; have z1 := hB2.fz 1
    clear hown k1 hB2
    go_wp2_with fail
    exact rRetP0 (HB2.out.set 0 _ |>.set 1 _) HR.out ((HK2.out.set (Or.inr (Nat.le_refl _)) _).set (Or.inr (Nat.le_refl _)) _) rfl rfl
end Go.Proofs.YtgkncanfmojdbaaDoor
