/- The walk of r05.With: a text with a byte at a place. -/
import Derived.Test.YthjapdjglifopaaWireR
namespace Go.Proofs.Ythjapdjglifopaa
set_option linter.unusedVariables false
set_option linter.unusedSimpArgs false
open Go.RowKit Go.Shelf
theorem with_is (s : ByteArray) (k : Nat) (h : k < s.size) (c : UInt8) : bl (s.extract 0 k ++ tx [c] ++ s.extract (k + 1) s.size) = (bl s).set k c := by
  have hl := bl_len s
  rw [bl_app, bl_app, bl_tx, bl_cut, bl_cut, List.set_eq_take_append_cons_drop, if_pos (by omega)]
  simp only [List.drop_zero, Nat.sub_zero, List.append_assoc, List.singleton_append]
  congr 2
  rw [List.take_of_length_le (by rw [List.length_drop]; omega)]
set_option maxRecDepth 100000 in
set_option maxHeartbeats 2000000 in
theorem rWith (s : ByteArray) (hs : s.size ≤ 900000) (k : Nat) (h : k < s.size) (c : UInt8) (w : World) : Calls Try.prog 26 #[.string s, .int .i64 k, .int .u8 c.toNat] w fun e w' => e = .returned (.string (tx ((bl s).set k c))) ∧ Kp none' w w' := by
  have HW := Lib.hid (with_is s k h c)
  have e1 : IntKind.i64.wrap ((k : Int) + 1) = (k : Int) + 1 := IntWalk.i64_in _ (by omega)
  have e2 : ((k : Int) + 1).toNat = k + 1 := by omega
  have e3 : 0 ≤ (k : Int) + 1 := by omega
  have e4 : (k : Int) + 1 ≤ s.size := by omega
  have e5 : (k : Int) ≤ s.size := by omega
  have hcv := one_conv c; have hcvd := one_convD c
  have l1 : (s.extract 0 k).size = k := by rw [ByteArray.size_extract]; omega
  have l2 : (s.extract (k + 1) s.size).size = s.size - (k + 1) := by rw [ByteArray.size_extract]; omega
  have hc1 := cat_run (P := Try.prog) (s.extract 0 k) (tx [c]) (by rw [l1, tx_size]; simp; omega)
  have hc2 := cat_run (P := Try.prog) (s.extract 0 k ++ tx [c]) (s.extract (k + 1) s.size) (by rw [ByteArray.size_append, l1, l2, tx_size]; simp; omega)
  clear l1 l2
  go_enter Try.func26, Try.ntmps26
  go_wp2
  go_region
  all_goals
    go_wp2
    go_ret
    exact ⟨ret_strs (str_ext (by rw [HW.out, bl_tx])), ((Kp.refl none' w).alloc _).drew⟩
end Go.Proofs.Ythjapdjglifopaa
