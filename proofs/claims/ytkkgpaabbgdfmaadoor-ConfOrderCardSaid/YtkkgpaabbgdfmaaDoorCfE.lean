/- Walks for layer 24: a configuration's text, the document's. -/
import Derived.Test.YtkkgpaabbgdfmaaDoorCfD
import Derived.Test.YtkkgpaabbgdfmaaDoorDigZ
import Derived.Test.YtkkgpaabbgdfmaaDoorKept
namespace Go.Proofs.YtkkgpaabbgdfmaaDoor
set_option linter.unusedVariables false
set_option linter.unusedSimpArgs false
open Go Go.RowKit Go.Shelf

theorem cat_ex (a b : ByteArray) (na nb : Nat) (ha : a.size ≤ na) (hb : b.size ≤ nb) (h : na + nb ≤ 1000000) : ∃ x : ByteArray, (∀ W, (Op.stringOp .add a b).run Tryd.prog W = .ok (.string x) W) ∧ bl x = bl a ++ bl b ∧ x.size ≤ na + nb :=
  ⟨a ++ b, fun W => cat_run (P := Tryd.prog) a b (by omega) W, bl_app a b, by rw [ByteArray.size_append]; omega⟩
theorem putU_len (n : Nat) (h : n ≤ 18446744073709551615) : (putU n).length ≤ 30 := by
  unfold putU
  have h1 := put_len20 (n / 1000000000) (by omega)
  have h2 := put_len20 (n / 1000000) (by omega)
  have h3 := put_len20 (n / 1000) (by omega)
  have h4 := put_len20 n h
  split
  · simp; omega
  · split
    · simp; omega
    · split
      · simp; omega
      · omega
theorem kp_of_drew {w w' : World} (h : ∃ d, w' = w.drewN d) : Kp none' w w' := by obtain ⟨d, rfl⟩ := h; exact (Kp.refl none' w).drewN d
set_option maxHeartbeats 2000000 in
theorem rUnitT (n : Nat) (hn : n ≤ 18446744073709551615) : ∃ u : ByteArray, bl u = putU n ∧ u.size ≤ 30 ∧ ∀ W, Calls Tryd.prog 27 #[.int .u64 n] W fun e w' => e = .returned (.string u) ∧ Kp none' W w' :=
  ⟨tx (putU n), bl_tx _, by rw [tx_size]; exact putU_len n hn, fun W => (rPutUnit n hn W).mono fun e w' h => ⟨h.1, kp_of_drew h.2⟩⟩
set_option maxHeartbeats 2000000 in
theorem rOne (s : ByteArray) (hs : s.size ≤ 100) (n : Nat) (hn : n ≤ 18446744073709551615) : ∃ x : ByteArray, bl x = bl s ++ 32 :: (putU n ++ [10]) ∧ x.size ≤ 200 ∧ ∀ w, Calls Tryd.prog 26 #[.string s, .int .u64 n] w fun e w' => e = .returned (.string x) ∧ Kp none' w w' := by
  obtain ⟨u, hu, zu, HU0⟩ := rUnitT n hn
  obtain ⟨x1, q1, e1, z1⟩ := cat_ex s ⟨#[32]⟩ 100 1 hs (by decide) (by omega)
  obtain ⟨x2, q2, e2, z2⟩ := cat_ex x1 u 101 30 z1 zu (by omega)
  obtain ⟨x3, q3, e3, z3⟩ := cat_ex x2 ⟨#[10]⟩ 131 1 z2 (by decide) (by omega)
  refine ⟨x3, by rw [e3, e2, e1, hu]; show (bl s ++ [32] ++ putU n) ++ [10] = _; simp, by omega, fun w => ?_⟩
  have HU := Lib.hid HU0
  clear HU0 e1 e2 e3 hu
  go_enter Tryd.func26, Tryd.ntmps26
  go_wp2_with fail
  refine (HU.out _).mono ?_
  rintro e w1 ⟨rfl, k1⟩
  have HK := Lib.hid k1
  clear k1
  go_wp2
  go_ret
  exact ⟨rfl, HK.out⟩
set_option maxHeartbeats 2000000 in
theorem rName (b : Bool) (k : Nat) (h1 : 1 ≤ k) (h3 : k ≤ 3) : ∃ x : ByteArray, bl x = (if b then kbs else krs).getD (k - 1) [] ∧ x.size ≤ 10 ∧ ∀ w, Calls Tryd.prog 25 #[.bool b, .int .i64 k] w fun e w' => e = .returned (.string x) ∧ Kp none' w w' := by
  have hk : k = 1 ∨ k = 2 ∨ k = 3 := by omega
  cases b with
  | false =>
    rcases hk with rfl | rfl | rfl
    · refine ⟨⟨#[115, 116, 102, 113]⟩, rfl, by decide, fun w => ?_⟩
      go_enter Tryd.func25, Tryd.ntmps25
      go_wp2
      go_ret
      exact ⟨rfl, by first | exact (Kp.refl _ _).alloc _ | exact ((Kp.refl _ _).alloc _).drew⟩
    · refine ⟨⟨#[101, 100, 102]⟩, rfl, by decide, fun w => ?_⟩
      go_enter Tryd.func25, Tryd.ntmps25
      go_wp2
      go_ret
      exact ⟨rfl, by first | exact (Kp.refl _ _).alloc _ | exact ((Kp.refl _ _).alloc _).drew⟩
    · refine ⟨⟨#[115, 114, 115]⟩, rfl, by decide, fun w => ?_⟩
      go_enter Tryd.func25, Tryd.ntmps25
      go_wp2
      go_ret
      exact ⟨rfl, by first | exact (Kp.refl _ _).alloc _ | exact ((Kp.refl _ _).alloc _).drew⟩
  | true =>
    rcases hk with rfl | rfl | rfl
    · refine ⟨⟨#[104, 101, 97, 112]⟩, rfl, by decide, fun w => ?_⟩
      go_enter Tryd.func25, Tryd.ntmps25
      go_wp2
      go_ret
      exact ⟨rfl, by first | exact (Kp.refl _ _).alloc _ | exact ((Kp.refl _ _).alloc _).drew⟩
    · refine ⟨⟨#[99, 97, 108, 101, 110, 100, 97, 114]⟩, rfl, by decide, fun w => ?_⟩
      go_enter Tryd.func25, Tryd.ntmps25
      go_wp2
      go_ret
      exact ⟨rfl, by first | exact (Kp.refl _ _).alloc _ | exact ((Kp.refl _ _).alloc _).drew⟩
    · refine ⟨⟨#[113, 117, 101, 117, 101, 115]⟩, rfl, by decide, fun w => ?_⟩
      go_enter Tryd.func25, Tryd.ntmps25
      go_wp2
      go_ret
      exact ⟨rfl, by first | exact (Kp.refl _ _).alloc _ | exact ((Kp.refl _ _).alloc _).drew⟩
end Go.Proofs.YtkkgpaabbgdfmaaDoor
