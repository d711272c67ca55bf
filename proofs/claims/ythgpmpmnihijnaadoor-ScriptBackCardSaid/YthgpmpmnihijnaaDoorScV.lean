/- Walks of the document's layer 25, and of the first words' kinds. -/
import Derived.Test.YthgpmpmnihijnaaDoorScW
namespace Go.Proofs.YthgpmpmnihijnaaDoor
set_option linter.unusedVariables false
set_option linter.unusedSimpArgs false
open Go.RowKit Go.Shelf

set_option maxRecDepth 100000 in
set_option maxHeartbeats 2000000 in
theorem rRight25 (o : OpR) (w : World) : Calls Tryd.prog 22 #[.agg #[.int .i64 o.kind, .int .u32 o.flow, .int .u32 o.id, .int .u64 o.len, .int .u64 o.ticks]] w fun e w' => e = .returned (.bool (opR o)) ∧ Kp none' w w' := by
  obtain ⟨k, f, i, n, t⟩ := o
  have hR0 : ∀ b, opR ⟨k, f, i, n, t⟩ = b → Hid (opR ⟨k, f, i, n, t⟩ = b) := fun b h => h
  simp only
  by_cases h1 : k = 1
  · subst h1
    have hR : Hid (opR ⟨1, f, i, n, t⟩ = ((t : Int) == 0)) := hR0 _ (by rw [Bool.eq_iff_iff]; simp [opR])
    clear hR0
    go_enter Tryd.func22, Tryd.ntmps22
    go_wp2
    go_ret
    exact ⟨by rw [hR.out]; rfl, (Kp.refl _ _).alloc _⟩
  have b1 : (k == 1) = false := by rw [beq_eq_false_iff_ne]; exact h1
  by_cases hf : f = 0
  · subst hf
    by_cases hi : i = 0
    · subst hi
      by_cases h0 : k = 0
      · subst h0
        clear h1 b1
        by_cases ht : t = 0
        · subst ht
          by_cases hn : n < 256
          · have hn' : (n : Int) < 256 := by omega
            by_cases hz : n = 0
            · subst hz
              have hR : Hid (opR ⟨0, 0, 0, 0, 0⟩ = true) := hR0 _ (by simp [opR])
              clear hn hn'
              clear hR0
              go_enter Tryd.func22, Tryd.ntmps22
              go_wp2
              go_ret
              exact ⟨by rw [hR.out]; rfl, (Kp.refl _ _).alloc _⟩
            · have hz' : ((n : Int) == 0) = false := by rw [beq_eq_false_iff_ne]; omega
              have hR : Hid (opR ⟨0, 0, 0, n, 0⟩ = decide ((n : Int) > 4)) := hR0 _ (by rw [Bool.eq_iff_iff]; simp [opR]; omega)
              clear hn hz
              clear hR0
              go_enter Tryd.func22, Tryd.ntmps22
              go_wp2
              go_ret
              exact ⟨by rw [hR.out]; rfl, (Kp.refl _ _).alloc _⟩
          · have hn' : ¬ (n : Int) < 256 := by omega
            have hR : Hid (opR ⟨0, 0, 0, n, 0⟩ = false) := hR0 _ (by simp [opR]; omega)
            clear hn
            clear hR0
            go_enter Tryd.func22, Tryd.ntmps22
            go_wp2
            go_ret
            exact ⟨by rw [hR.out]; rfl, (Kp.refl _ _).alloc _⟩
        · have ht' : ((t : Int) == 0) = false := by rw [beq_eq_false_iff_ne]; omega
          have hR : Hid (opR ⟨0, 0, 0, n, t⟩ = false) := hR0 _ (by simp [opR]; omega)
          clear ht
          clear hR0
          go_enter Tryd.func22, Tryd.ntmps22
          go_wp2
          go_ret
          exact ⟨by rw [hR.out]; rfl, (Kp.refl _ _).alloc _⟩
      · have b0 : (k == 0) = false := by rw [beq_eq_false_iff_ne]; exact h0
        by_cases h3 : k = 3
        · subst h3
          have hR : Hid (opR ⟨3, 0, 0, n, t⟩ = ((n : Int) == 0)) := hR0 _ (by rw [Bool.eq_iff_iff]; simp [opR])
          clear h1 h0 b1 b0
          clear hR0
          go_enter Tryd.func22, Tryd.ntmps22
          go_wp2
          go_ret
          exact ⟨by rw [hR.out]; rfl, (Kp.refl _ _).alloc _⟩
        · have b3 : (k == 3) = false := by rw [beq_eq_false_iff_ne]; exact h3
          by_cases h2 : k = 2
          · subst h2
            clear h1 h0 h3 b1 b0 b3
            by_cases hn : n = 0
            · subst hn
              have hR : Hid (opR ⟨2, 0, 0, 0, t⟩ = ((t : Int) == 0)) := hR0 _ (by rw [Bool.eq_iff_iff]; simp [opR])
              clear hR0
              go_enter Tryd.func22, Tryd.ntmps22
              go_wp2
              go_ret
              exact ⟨by rw [hR.out]; rfl, (Kp.refl _ _).alloc _⟩
            · have hn' : ((n : Int) == 0) = false := by rw [beq_eq_false_iff_ne]; omega
              have hR : Hid (opR ⟨2, 0, 0, n, t⟩ = false) := hR0 _ (by simp [opR, hn])
              clear hn
              clear hR0
              go_enter Tryd.func22, Tryd.ntmps22
              go_wp2
              go_ret
              exact ⟨by rw [hR.out]; rfl, (Kp.refl _ _).alloc _⟩
          · have b2 : (k == 2) = false := by rw [beq_eq_false_iff_ne]; exact h2
            by_cases h4 : k = 4
            · subst h4
              clear h1 h0 h3 h2 b1 b0 b3 b2
              by_cases hn : n = 0
              · subst hn
                have hR : Hid (opR ⟨4, 0, 0, 0, t⟩ = ((t : Int) == 0)) := hR0 _ (by rw [Bool.eq_iff_iff]; simp [opR])
                clear hR0
                go_enter Tryd.func22, Tryd.ntmps22
                go_wp2
                go_ret
                exact ⟨by rw [hR.out]; rfl, (Kp.refl _ _).alloc _⟩
              · have hn' : ((n : Int) == 0) = false := by rw [beq_eq_false_iff_ne]; omega
                have hR : Hid (opR ⟨4, 0, 0, n, t⟩ = false) := hR0 _ (by simp [opR, hn])
                clear hn
                clear hR0
                go_enter Tryd.func22, Tryd.ntmps22
                go_wp2
                go_ret
                exact ⟨by rw [hR.out]; rfl, (Kp.refl _ _).alloc _⟩
            · have b4 : (k == 4) = false := by rw [beq_eq_false_iff_ne]; exact h4
              have hR : Hid (opR ⟨k, 0, 0, n, t⟩ = false) := hR0 _ (by simp [opR, h1, h0, h3, h2, h4])
              clear h1 h0 h3 h2 h4
              clear hR0
              go_enter Tryd.func22, Tryd.ntmps22
              go_wp2
              go_ret
              exact ⟨by rw [hR.out]; rfl, (Kp.refl _ _).alloc _⟩
    · have hi' : ((i : Int) != 0) = true := by rw [bne_iff_ne]; omega
      have hR : Hid (opR ⟨k, 0, i, n, t⟩ = false) := hR0 _ (by simp [opR, h1, hi])
      clear hi h1
      clear hR0
      go_enter Tryd.func22, Tryd.ntmps22
      go_wp2
      go_ret
      exact ⟨by rw [hR.out]; rfl, (Kp.refl _ _).alloc _⟩
  · have hf' : ((f : Int) != 0) = true := by rw [bne_iff_ne]; omega
    have hR : Hid (opR ⟨k, f, i, n, t⟩ = false) := hR0 _ (by simp [opR, h1, hf])
    clear hf h1
    clear hR0
    go_enter Tryd.func22, Tryd.ntmps22
    go_wp2
    go_ret
    exact ⟨by rw [hR.out]; rfl, (Kp.refl _ _).alloc _⟩

/-- The five first words, as texts. -/
theorem str_dec (s : ByteArray) (l : List UInt8) : (s.toList == l) = decide (bl s = l) := by
  rw [Lib.toList_data]; show (bl s == l) = _
  rw [Bool.eq_iff_iff]; simp
theorem str_dec' (s : ByteArray) (l : List UInt8) : (l == s.toList) = decide (bl s = l) := by
  rw [Lib.toList_data]; show (l == bl s) = _
  rw [Bool.eq_iff_iff]; simp; exact eq_comm
set_option maxHeartbeats 1000000 in
theorem sKind (s : ByteArray) (w : World) : Calls Tryd.prog 26 #[.string s] w fun e w' => e = .returned (.tuple #[.int .i64 (kd (bl s)).1, .int .i64 (kd (bl s)).2]) ∧ w = w' := by
  have q := str_dec s
  rcases kd_cases (bl s) with ⟨h, e⟩ | ⟨h, e⟩ | ⟨h, e⟩ | ⟨h, e⟩ | ⟨h, e⟩ | ⟨h1, h2, h3, h4, h5, e⟩
  · rw [e]; clear e
    have b1 : (s.toList == [105, 110]) = true := by rw [q, h]; rfl
    clear h q
    go_enter Tryd.func26, Tryd.ntmps26
    go_wp2
    go_ret2
    exact ⟨rfl, rfl⟩
  · rw [e]; clear e
    have b1 : (s.toList == [105, 110]) = false := by rw [q, h]; rfl
    have b2 : (s.toList == [111, 117, 116]) = true := by rw [q, h]; rfl
    clear h q
    go_enter Tryd.func26, Tryd.ntmps26
    go_wp2
    go_ret2
    exact ⟨rfl, rfl⟩
  · rw [e]; clear e
    have b1 : (s.toList == [105, 110]) = false := by rw [q, h]; rfl
    have b2 : (s.toList == [111, 117, 116]) = false := by rw [q, h]; rfl
    have b3 : (s.toList == [116, 105, 99, 107]) = true := by rw [q, h]; rfl
    clear h q
    go_enter Tryd.func26, Tryd.ntmps26
    go_wp2
    go_ret2
    exact ⟨rfl, rfl⟩
  · rw [e]; clear e
    have b1 : (s.toList == [105, 110]) = false := by rw [q, h]; rfl
    have b2 : (s.toList == [111, 117, 116]) = false := by rw [q, h]; rfl
    have b3 : (s.toList == [116, 105, 99, 107]) = false := by rw [q, h]; rfl
    have b4 : (s.toList == [115, 116, 97, 116, 115]) = true := by rw [q, h]; rfl
    clear h q
    go_enter Tryd.func26, Tryd.ntmps26
    go_wp2
    go_ret2
    exact ⟨rfl, rfl⟩
  · rw [e]; clear e
    have b1 : (s.toList == [105, 110]) = false := by rw [q, h]; rfl
    have b2 : (s.toList == [111, 117, 116]) = false := by rw [q, h]; rfl
    have b3 : (s.toList == [116, 105, 99, 107]) = false := by rw [q, h]; rfl
    have b4 : (s.toList == [115, 116, 97, 116, 115]) = false := by rw [q, h]; rfl
    have b5 : (s.toList == [106, 117, 110, 107]) = true := by rw [q, h]; rfl
    clear h q
    go_enter Tryd.func26, Tryd.ntmps26
    go_wp2
    go_ret2
    exact ⟨rfl, rfl⟩
  · rw [e]; clear e
    have b1 : (s.toList == [105, 110]) = false := by rw [q]; exact decide_eq_false h1
    have b2 : (s.toList == [111, 117, 116]) = false := by rw [q]; exact decide_eq_false h2
    have b3 : (s.toList == [116, 105, 99, 107]) = false := by rw [q]; exact decide_eq_false h3
    have b4 : (s.toList == [115, 116, 97, 116, 115]) = false := by rw [q]; exact decide_eq_false h4
    have b5 : (s.toList == [106, 117, 110, 107]) = false := by rw [q]; exact decide_eq_false h5
    have h := h1
    clear h1 h2 h3 h4 h5
    clear h q
    go_enter Tryd.func26, Tryd.ntmps26
    go_wp2
    go_ret2
    exact ⟨rfl, rfl⟩

def nmW : List (List UInt8) := [junkW, inW, outW, tickW, statsW]
theorem kd_at (l : List UInt8) (k : Nat) (hk : k < 5) (h : nmW[k]? = some l) : (kd l).1 = k := by
  rcases (by omega : k = 0 ∨ k = 1 ∨ k = 2 ∨ k = 3 ∨ k = 4) with rfl | rfl | rfl | rfl | rfl <;> (simp only [nmW, List.getElem?_cons_zero, List.getElem?_cons_succ, Option.some.injEq] at h; subst h; decide)
theorem kd_none (l : List UInt8) (h : ∀ k, k < 5 → nmW[k]? ≠ some l) : (kd l).1 = -1 := by
  rcases kd_cases l with ⟨e, _⟩ | ⟨e, _⟩ | ⟨e, _⟩ | ⟨e, _⟩ | ⟨e, _⟩ | ⟨_, _, _, _, _, e⟩
  · exact absurd (by rw [e]; rfl) (h 1 (by omega))
  · exact absurd (by rw [e]; rfl) (h 2 (by omega))
  · exact absurd (by rw [e]; rfl) (h 3 (by omega))
  · exact absurd (by rw [e]; rfl) (h 4 (by omega))
  · exact absurd (by rw [e]; rfl) (h 0 (by omega))
  · rw [e]
set_option maxRecDepth 100000 in
set_option maxHeartbeats 2000000 in
theorem rWhich (s : ByteArray) (w : World) : Calls Tryd.prog 28 #[.string s] w fun e w' => e = .returned (.int .i64 (kd (bl s)).1) ∧ Kp none' w w' := by
  have q := str_dec' s
  go_enter Tryd.func28, Tryd.ntmps28
  go_wp2
  obtain ⟨W, hW⟩ : ∃ W, w.alloc (.cells #[.string ⟨#[106, 117, 110, 107]⟩, .string ⟨#[105, 110]⟩, .string ⟨#[111, 117, 116]⟩, .string ⟨#[116, 105, 99, 107]⟩, .string ⟨#[115, 116, 97, 116, 115]⟩] 9) = W := ⟨_, rfl⟩
  have hB : Blk W w.heap.size [.string ⟨#[106, 117, 110, 107]⟩, .string ⟨#[105, 110]⟩, .string ⟨#[111, 117, 116]⟩, .string ⟨#[116, 105, 99, 107]⟩, .string ⟨#[115, 116, 97, 116, 115]⟩] 9 := by rw [← hW]; exact Blk.new w _ _
  have HK0 : Hid (Kp none' w W) := by show Kp none' w W; rw [← hW]; exact (Kp.refl _ _).alloc _
  simp only [hW]
  clear hW
  go_loopw [4] (fun i wr => ∃ k : Nat, i = .int .i64 k ∧ k ≤ 5 ∧ Hid (∀ j, j < k → nmW[j]? ≠ some (bl s)) ∧ W = wr) (fun i _ => 5 - (intOf i).toNat)
  case atStart => exact ⟨0, rfl, by omega, fun j hj => by omega, rfl⟩
  case round =>
    obtain ⟨k, rfl, hk, hno, rfl⟩ := hrel
    rcases (by omega : k = 0 ∨ k = 1 ∨ k = 2 ∨ k = 3 ∨ k = 4 ∨ k = 5) with rfl | rfl | rfl | rfl | rfl | rfl
    · have c := hB.cell 0 rfl
      by_cases hs : bl s = junkW
      · have b1 : ([106, 117, 110, 107] == s.toList) = true := by rw [q, hs]; rfl
        have HR := Lib.hid (kd_at (bl s) 0 (by omega) (by rw [hs]; rfl))
        clear hs q hno
        go_wp2
        go_ret
        exact ⟨by rw [HR.out]; rfl, HK0.out⟩
      · have b1 : ([106, 117, 110, 107] == s.toList) = false := by rw [q]; exact decide_eq_false hs
        have hn2 : Hid (∀ j, j < 0 + 1 → nmW[j]? ≠ some (bl s)) := by
          intro j hj
          by_cases hjk : j = 0
          · subst hjk; intro h; injection h with h; exact hs h.symm
          · exact hno.out j (by omega)
        clear hs q hno
        go_wp2
        go_roundw
        case rel => exact ⟨0 + 1, rfl, by omega, hn2, trivial⟩
        case measure => simp [intOf]
    · have c := hB.cell 1 rfl
      by_cases hs : bl s = inW
      · have b1 : ([105, 110] == s.toList) = true := by rw [q, hs]; rfl
        have HR := Lib.hid (kd_at (bl s) 1 (by omega) (by rw [hs]; rfl))
        clear hs q hno
        go_wp2
        go_ret
        exact ⟨by rw [HR.out]; rfl, HK0.out⟩
      · have b1 : ([105, 110] == s.toList) = false := by rw [q]; exact decide_eq_false hs
        have hn2 : Hid (∀ j, j < 1 + 1 → nmW[j]? ≠ some (bl s)) := by
          intro j hj
          by_cases hjk : j = 1
          · subst hjk; intro h; injection h with h; exact hs h.symm
          · exact hno.out j (by omega)
        clear hs q hno
        go_wp2
        go_roundw
        case rel => exact ⟨1 + 1, rfl, by omega, hn2, trivial⟩
        case measure => simp [intOf]
    · have c := hB.cell 2 rfl
      by_cases hs : bl s = outW
      · have b1 : ([111, 117, 116] == s.toList) = true := by rw [q, hs]; rfl
        have HR := Lib.hid (kd_at (bl s) 2 (by omega) (by rw [hs]; rfl))
        clear hs q hno
        go_wp2
        go_ret
        exact ⟨by rw [HR.out]; rfl, HK0.out⟩
      · have b1 : ([111, 117, 116] == s.toList) = false := by rw [q]; exact decide_eq_false hs
        have hn2 : Hid (∀ j, j < 2 + 1 → nmW[j]? ≠ some (bl s)) := by
          intro j hj
          by_cases hjk : j = 2
          · subst hjk; intro h; injection h with h; exact hs h.symm
          · exact hno.out j (by omega)
        clear hs q hno
        go_wp2
        go_roundw
        case rel => exact ⟨2 + 1, rfl, by omega, hn2, trivial⟩
        case measure => simp [intOf]
    · have c := hB.cell 3 rfl
      by_cases hs : bl s = tickW
      · have b1 : ([116, 105, 99, 107] == s.toList) = true := by rw [q, hs]; rfl
        have HR := Lib.hid (kd_at (bl s) 3 (by omega) (by rw [hs]; rfl))
        clear hs q hno
        go_wp2
        go_ret
        exact ⟨by rw [HR.out]; rfl, HK0.out⟩
      · have b1 : ([116, 105, 99, 107] == s.toList) = false := by rw [q]; exact decide_eq_false hs
        have hn2 : Hid (∀ j, j < 3 + 1 → nmW[j]? ≠ some (bl s)) := by
          intro j hj
          by_cases hjk : j = 3
          · subst hjk; intro h; injection h with h; exact hs h.symm
          · exact hno.out j (by omega)
        clear hs q hno
        go_wp2
        go_roundw
        case rel => exact ⟨3 + 1, rfl, by omega, hn2, trivial⟩
        case measure => simp [intOf]
    · have c := hB.cell 4 rfl
      by_cases hs : bl s = statsW
      · have b1 : ([115, 116, 97, 116, 115] == s.toList) = true := by rw [q, hs]; rfl
        have HR := Lib.hid (kd_at (bl s) 4 (by omega) (by rw [hs]; rfl))
        clear hs q hno
        go_wp2
        go_ret
        exact ⟨by rw [HR.out]; rfl, HK0.out⟩
      · have b1 : ([115, 116, 97, 116, 115] == s.toList) = false := by rw [q]; exact decide_eq_false hs
        have hn2 : Hid (∀ j, j < 4 + 1 → nmW[j]? ≠ some (bl s)) := by
          intro j hj
          by_cases hjk : j = 4
          · subst hjk; intro h; injection h with h; exact hs h.symm
          · exact hno.out j (by omega)
        clear hs q hno
        go_wp2
        go_roundw
        case rel => exact ⟨4 + 1, rfl, by omega, hn2, trivial⟩
        case measure => simp [intOf]
    · have HR := Lib.hid (kd_none (bl s) hno.out)
      clear q hno
      go_wp2
      go_ret
      exact ⟨by rw [HR.out]; rfl, HK0.out⟩
end Go.Proofs.YthgpmpmnihijnaaDoor
