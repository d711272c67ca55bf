/- Texts as lists of bytes. Names no function of the program. -/
import Derived.Test.YtacgabagfdlpeaaGreatDoorBase
import Derived.Lib.Strings
namespace Go.Proofs.YtacgabagfdlpeaaGreatDoor
set_option linter.unusedVariables false
set_option linter.unusedSimpArgs false
open Go.RowKit

def bl (s : ByteArray) : List UInt8 := s.data.toList
theorem bl_len (s : ByteArray) : (bl s).length = s.size := by simp [bl]
theorem bl_get (s : ByteArray) (k : Nat) (h : k < s.size) : (bl s)[k]'(by rw [bl_len]; exact h) = s[k] := rfl
theorem head_get (s : ByteArray) (h : 0 < s.size) : (bl s).head? = some s[0] := by
  rw [List.head?_eq_getElem?, List.getElem?_eq_getElem (by rw [bl_len]; exact h), bl_get s 0 h]
theorem str_ext {a b : ByteArray} (h : bl a = bl b) : a = b := by
  cases a; cases b; simp [bl] at h; rw [h]
/-- The text of a list of bytes. -/
def tx (l : List UInt8) : ByteArray := ⟨l.toArray⟩
theorem bl_tx (l : List UInt8) : bl (tx l) = l := by simp [bl, tx]
theorem tx_bl (s : ByteArray) : tx (bl s) = s := str_ext (bl_tx _)
theorem tx_size (l : List UInt8) : (tx l).size = l.length := by rw [← bl_len, bl_tx]
theorem bl_cut (s : ByteArray) (a b : Nat) : bl (s.extract a b) = ((bl s).drop a).take (b - a) := Lib.extract_data s a b
theorem bl_nil (s : ByteArray) : s.toList.isEmpty = (bl s).isEmpty := by rw [Lib.toList_data]; rfl
theorem str_beq {a b : ByteArray} (h : a = b) : (a.toList == b.toList) = true := by rw [h]; simp
theorem str_bne {a b : ByteArray} (h : a ≠ b) : (a.toList == b.toList) = false := by
  rw [beq_eq_false_iff_ne, Lib.toList_data, Lib.toList_data]
  exact fun e => h (str_ext e)
theorem dropLast_take (l : List UInt8) : (l.drop 0).take (l.length - 1) = l.dropLast := by simp [List.dropLast_eq_take]
theorem last_get (l : List UInt8) (h : 0 < l.length) : l.getLast? = some (l[l.length - 1]'(by omega)) := by
  rw [List.getLast?_eq_getElem?, List.getElem?_eq_getElem]
end Go.Proofs.YtacgabagfdlpeaaGreatDoor
