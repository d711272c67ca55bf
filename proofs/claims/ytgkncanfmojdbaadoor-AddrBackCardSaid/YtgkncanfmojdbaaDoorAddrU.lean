/- Walks of layer 31: the document's addresses read. -/
import Derived.Test.YtgkncanfmojdbaaDoorAddrV
import Derived.Test.YtgkncanfmojdbaaDoorOwn
namespace Go.Proofs.YtgkncanfmojdbaaDoor
set_option linter.unusedVariables false
set_option linter.unusedSimpArgs false
open Go.RowKit Go.Shelf
set_option maxHeartbeats 2000000 in
theorem rReadA (s : ByteArray) (w : World) (hs : s.size ≤ 1000000) : Calls Tryd.prog 9 #[.string s] w fun e w' => e = .returned (.tuple #[.int .u32 (readA (bl s)).1, .int .i64 (readA (bl s)).2]) ∧ Kp none' w w' := by
  have hP := rParts s 46 w hs
  have hpl := part_len 46 (bl s)
  rw [bl_len] at hpl
  obtain ⟨L, hL⟩ : ∃ L, parts 46 (bl s) = L := ⟨_, rfl⟩
  have hr0 : readA (bl s) = if L.length ≠ 4 then (0, 3) else rdA 0 L := by unfold readA; rw [hL]
  rw [hL] at hP hpl
  have HP := Lib.hid hP; have HPL := Lib.hid hpl
  clear hP hpl hL
  by_cases h4 : L.length = 4
  · rw [if_neg (by omega)] at hr0
    have hr := Lib.hid hr0
    rw [h4] at HP
    have H4 := Lib.hid h4
    clear hr0 h4
    go_enter Tryd.func9, Tryd.ntmps9
    go_wp2_with fail
    refine (HP.out).mono ?_
    rintro e w1 ⟨v, rfl, hown, hk⟩
    obtain ⟨g, cap, rfl⟩ : ∃ g cap, v = .slice (some ⟨g, 0, none⟩) 4 cap := by
      rcases hown.2 with ⟨_, h⟩ | ⟨g, cap, cur, rfl, _⟩
      · exact absurd h (by decide)
      · exact ⟨g, cap, rfl⟩
    have HO := Lib.hid hown; have HK := Lib.hid hk
    clear hown hk
    go_wp2_with fail
    go_loop [5, 6] (fun x5 i => ∃ k A : Nat, k ≤ 4 ∧ i = .int .i64 k ∧ x5 = .int .u64 A ∧ Hid (A < 256 ^ k ∧ rdA 0 L = rdA A (L.drop k))) (fun _ i => 4 - (intOf i).toNat)
    case atStart => exact ⟨0, 0, by omega, rfl, rfl, by decide, rfl⟩
    case round =>
      obtain ⟨k, A, hk, rfl, rfl, hA⟩ := hrel
      by_cases hlt : k < 4
      · have hkp : k < L.length := by rw [H4.out]; exact hlt
        have hcell := own_cell HO.out k (wtx_get L k hkp)
        have hszk := HPL.out L[k] (List.getElem_mem hkp)
        have hd : L.drop k = L[k] :: L.drop (k + 1) := List.drop_eq_getElem_cons hkp
        have hrd := hA.out.2
        rw [hd, rdA_cons] at hrd
        have hA3 : A < 16777216 := by
          have h1 := hA.out.1
          have h2 : 256 ^ k ≤ 256 ^ 3 := Nat.pow_le_pow_right (by decide) (by omega)
          omega
        obtain ⟨x, hxx⟩ : ∃ x, L[k] = x := ⟨_, rfl⟩
        rw [hxx] at hcell hrd hszk
        clear hxx hd
        have hS := fun W => rRead (tx x) W (by rw [tx_size]; omega)
        simp only [bl_tx] at hS
        unfold sm at hrd
        obtain ⟨⟨n, e⟩, hne⟩ : ∃ p, rd x = p := ⟨_, rfl⟩
        simp only [hne] at hS hrd
        have HS := Lib.hid hS
        clear hS hne
        by_cases he : e = 0
        · subst he
          by_cases hn : 255 < n
          · have HRD : Hid (readA (bl s) = (0, 5)) := by show _ = _; rw [hr.out, hrd]; simp [hn]
            clear hrd
            go_wp2_with fail
            refine (HS.out _).mono ?_
            rintro e w2 ⟨rfl, rfl⟩
            go_wp2_with fail
            go_ret2
            exact ⟨ret_pr HRD.out, HK.out⟩
          · have HRD : Hid (rdA 0 L = rdA (A * 256 + n) (L.drop (k + 1))) := by show _ = _; rw [hrd]; simp [hn]
            have hN : Hid (A * 256 + n < 256 ^ (k + 1)) := by have := hA.out.1; show _ < _; rw [Nat.pow_succ]; omega
            clear hrd
            go_wp2_with fail
            refine (HS.out _).mono ?_
            rintro e w2 ⟨rfl, rfl⟩
            go_wp2_with fail
            go_round
            case rel => exact ⟨k + 1, A * 256 + n, by omega, by go_num, by go_num, hN.out, HRD.out⟩
            case measure => simp [intOf]; omega
        · have hb : (e != 0) = true := by simpa using he
          have hb2 : (e == 0) = false := by simpa using he
          have HRD : Hid (readA (bl s) = (0, e)) := by show _ = _; rw [hr.out, hrd]; simp [he]
          clear hrd he
          go_wp2_with fail
          refine (HS.out _).mono ?_
          rintro e w2 ⟨rfl, rfl⟩
          go_wp2_with fail
          go_ret2
          exact ⟨ret_pr HRD.out, HK.out⟩
      · obtain rfl : k = 4 := by omega
        have hrd := hr.out.trans hA.out.2
        rw [List.drop_of_length_le (by rw [H4.out]; exact Nat.le_refl _)] at hrd
        have HRD := Lib.hid hrd
        have hA4 : A < 4294967296 := hA.out.1
        clear hrd
        go_wp2_with fail
        go_ret2
        exact ⟨ret_pr HRD.out, HK.out⟩
  · rw [if_pos h4] at hr0
    have hr := Lib.hid hr0
    have hb : ((L.length : Int) != 4) = true := by rw [bne_iff_ne]; omega
    clear hr0 h4
    go_enter Tryd.func9, Tryd.ntmps9
    go_wp2_with fail
    refine (HP.out).mono ?_
    rintro e w1 ⟨v, rfl, hown, hk⟩
    obtain ⟨ao, cap, rfl⟩ := own_shape hown
    have HK := Lib.hid hk
    clear hown hk
    go_wp2_with fail
    go_ret2
    exact ⟨ret_pr hr.out, HK.out⟩
end Go.Proofs.YtgkncanfmojdbaaDoor
