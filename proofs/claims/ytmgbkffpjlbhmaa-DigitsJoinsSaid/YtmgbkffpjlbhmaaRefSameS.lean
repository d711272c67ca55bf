/- Same of layer 3: two lists of texts are the same. -/
import Derived.Test.YtmgbkffpjlbhmaaProg
import Derived.Test.YtmgbkffpjlbhmaaStr
import Derived.BigQuiet
import Derived.Deep.QuietTactic
namespace Go.Proofs.Ytmgbkffpjlbhmaa
set_option linter.unusedVariables false
set_option linter.unusedSimpArgs false
open Go.RowKit

/-- The cells of texts. -/
def strs (l : List ByteArray) : List Value := l.map Value.string
theorem strs_get (l : List ByteArray) (k : Nat) (h : k < l.length) : (strs l)[k]? = some (.string (l[k]'h)) := by simp [strs, h]
theorem strs_len (l : List ByteArray) : (strs l).length = l.length := by simp [strs]
theorem strs_snoc (l : List ByteArray) (x : ByteArray) : strs (l ++ [x]) = strs l ++ [.string x] := by simp [strs]
theorem tStr : SlT Try.prog 32 9 (.string ByteArray.empty) 1 16 := ⟨Try.underlying32, by kernel_rfl, rfl, by decide⟩
theorem take_snoc' {α : Type} (l : List α) (k : Nat) (h : k < l.length) {y : α} (hy : l[k] = y) : l.take (k + 1) = l.take k ++ [y] := by
  rw [List.take_succ_eq_append_getElem h, hy]


set_option maxHeartbeats 400000 in
theorem r03Same (l m : List ByteArray) (v u : Value) (w : World) (h : Sl w v l.length 1 (strs l)) (g : Sl w u m.length 1 (strs m)) :
    Calls Try.prog 16 #[v, u] w fun e w' => e = .returned (.bool (decide (l = m))) ∧ Kp none' w w' := by
  obtain ⟨ao, cap, rfl, hc⟩ := h.is
  obtain ⟨ao2, cap2, rfl, hd⟩ := g.is
  have hm := h.max
  have hm2 := g.max
  clear h g
  by_cases hl : l.length = m.length
  · have hl' : ((l.length : Int) != m.length) = false := by simp [hl]
    have HL := Lib.hid hl; clear hl
    go_enter Try.func16, Try.ntmps16
    go_wp2
    go_loopw [5] (fun i wr => ∃ k : Nat, k ≤ l.length ∧ i = .int .i64 k ∧ Hid (l.take k = m.take k) ∧ Kp none' w wr) (fun i _ => l.length - (intOf i).toNat)
    case atStart => exact ⟨0, Nat.zero_le _, rfl, by simp [Hid], Kp.refl _ _⟩
    case round =>
      obtain ⟨k, hk, rfl, hno, hkp⟩ := hrel
      by_cases hlt : k < l.length
      · have hlt2 : k < m.length := by rw [← HL.out]; exact hlt
        obtain ⟨b, off, rfl, hcell⟩ := hc k _ (strs_get l k hlt)
        obtain ⟨b2, off2, rfl, hcell2⟩ := hd k _ (strs_get m k hlt2)
        obtain ⟨y, hy⟩ : ∃ y, l[k] = y := ⟨_, rfl⟩
        obtain ⟨z, hz⟩ : ∃ z, m[k] = z := ⟨_, rfl⟩
        rw [hy] at hcell
        rw [hz] at hcell2
        have HY := Lib.hid hy; clear hy
        have HZ := Lib.hid hz; clear hz
        clear hc hd
        replace hcell := hkp.cell hcell id
        replace hcell2 := hkp.cell hcell2 id
        by_cases hx : y = z
        · have hx' := str_beq hx
          have HX := Lib.hid hx; clear hx
          go_wp2
          go_quiet (fail)
          go_wp2
          go_roundw
          case rel => exact ⟨k + 1, by omega, by go_num, by unfold Hid; rw [take_snoc' l k hlt HY.out, take_snoc' m k hlt2 HZ.out, hno.out, HX.out], hkp.drewN _⟩
          case measure => simp [intOf]; omega
        · have hx' := str_bne hx
          have HX := Lib.hid hx; clear hx
          go_wp2
          go_quiet (fail)
          go_wp2
          go_ret
          exact ⟨ret_bool (by symm; rw [decide_eq_false_iff_not]; rintro rfl; exact HX.out (HY.out.symm.trans HZ.out)), hkp.drewN _⟩
      · clear hc hd
        go_wp2
        go_ret
        exact ⟨ret_bool (by have := hno.out; rw [List.take_of_length_le (by omega), List.take_of_length_le (by have := HL.out; omega)] at this; simp [this]), hkp⟩
  · have hl' : ((l.length : Int) != m.length) = true := by simp; omega
    have HL := Lib.hid hl; clear hl hc hd
    go_enter Try.func16, Try.ntmps16
    go_wp2
    go_ret
    exact ⟨ret_bool (by symm; rw [decide_eq_false_iff_not]; rintro rfl; exact HL.out rfl), Kp.refl _ _⟩

end Go.Proofs.Ytmgbkffpjlbhmaa
