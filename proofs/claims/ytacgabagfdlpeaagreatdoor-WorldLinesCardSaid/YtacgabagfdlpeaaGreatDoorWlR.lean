/- Walks for layer 42: what is told of no configuration; what lives. Printed by wlr.py. -/
import Derived.Test.YtacgabagfdlpeaaGreatDoorWlQ
import Derived.Test.YtacgabagfdlpeaaGreatDoorBuild
namespace Go.Proofs.YtacgabagfdlpeaaGreatDoor
set_option linter.unusedVariables false
set_option linter.unusedSimpArgs false
open Go Go.RowKit Go.Shelf
set_option maxHeartbeats 2000000 in
theorem wSay (s : ByteArray) (hs : s.size ≤ 10000) {b : Nat} {L : List UInt8} {w : World} (hb : Bd b b L w) (hL : L.length ≤ 100000) :
    Calls Tryz.prog 15 #[.string s, .pointer (some ⟨b, 0, none⟩)] w fun e w' => e = .returned (.tuple #[]) ∧ Bd b b (L ++ (bl s ++ [10])) w' ∧ KB b b w w' := by
  obtain ⟨x, q, e1, z⟩ := cat_ex s ⟨#[10]⟩ 10000 1 hs (by decide) (by omega)
  have HX : Hid (bl x = bl s ++ [10]) := Lib.hid e1
  have HB := Lib.hid hb
  have HW := Lib.hid (fun W (hW : Bd b b L W) => bString hW x (by omega))
  clear hb e1
  go_enter Tryz.func15, Tryz.ntmps15
  go_wp2_with fail
  refine (HW.out _ HB.out).mono ?_
  rintro e w2 ⟨rfl, hb2, k2⟩
  have HB2 := Lib.hid hb2; have HK2 := Lib.hid k2
  clear hb2 k2
  go_wp2_with fail
  go_end0
  exact ⟨rfl, by rw [← HX.out]; exact HB2.out, HK2.out⟩
theorem readC_nil : readC [] = (zC, 0, 22) := by kernel_rfl
theorem zRd (w : World) (hx : MX w) : Calls Tryz.prog 17 #[.string ⟨#[]⟩] w fun e w' => ∃ ao cap, e = .returned (.tuple #[.agg #[.int .i64 0, .int .i64 0, .int .i64 0, .int .i64 0, .int .i64 0, .int .u64 0, .int .i64 0, .int .u64 0, .int .u64 0, .int .u64 0, .slice ao 0 cap], .int .i64 0, .int .i64 22]) ∧ Kp none' w w' :=
  (gReadC ⟨#[]⟩ (by decide) w hx).mono fun e w' h => by
    obtain ⟨v, he, hs, _, k⟩ := h
    rw [show bl ⟨#[]⟩ = [] from rfl, readC_nil] at he hs
    obtain ⟨ao, cap, rfl, _⟩ := hs.is
    exact ⟨ao, cap, he, k⟩
set_option maxRecDepth 100000 in
set_option maxHeartbeats 2000000 in
theorem wRun0 (w : World) (hx : MX w) : Calls Tryz.prog 11 #[.string ⟨#[]⟩, .string ⟨#[]⟩] w fun e w' => e = .returned (.string ⟨#[99, 111, 110, 102, 32, 48, 32, 50, 50, 10]⟩) ∧ Kp none' w w' := by
  obtain ⟨x, hx', zx, _, HL⟩ := wL ⟨#[99, 111, 110, 102]⟩ (by decide) [0, 22] (by simp) (by simp)
  have HL := Lib.hid HL
  have HXX : Hid (bl x ++ [10] = [99, 111, 110, 102, 32, 48, 32, 50, 50, 10]) := by
    show _ = _
    rw [hx']; simp [nums, put_lt (show 0 < 10 by omega), show put 22 = [50, 50] by kernel_rfl]; rfl
  have HD := Lib.hid (Bd.new w w.heap.size (Nat.le_refl _))
  have HK0 := Lib.hid ((Kp.refl none' w).alloc (.cells #[.pointer none, .slice none 0 0] 47))
  have HR := Lib.hid (fun W (h : MX W) => zRd W h)
  have HMX := Lib.hid hx
  clear hx hx'
  go_enter Tryz.func11, Tryz.ntmps11
  go_wp2_with fail
  refine (HR.out _ (MX.kp HMX.out HK0.out)).mono ?_
  rintro e w1 ⟨ao, cap, rfl, k1⟩
  have HD1 := Lib.hid (HD.out.old k1)
  have HK1 := Lib.hid (HK0.out.trans k1)
  clear k1
  go_wp2_with fail
  refine (HL.out _ _ 2 rfl (heap_newC _ _ (by simp))).mono ?_
  rintro e w2 ⟨rfl, k2⟩
  have HD2 := Lib.hid (((HD1.out.old ((Kp.refl none' _).alloc _)).old ((Kp.refl none' _).alloc _)).old k2)
  have HK2 := Lib.hid (((HK1.out.alloc _).alloc _).trans k2)
  clear k2
  go_wp2_with fail
  refine (wSay x zx HD2.out (by simp)).mono ?_
  rintro e w3 ⟨rfl, hb3, k3⟩
  have HB3 := Lib.hid hb3
  have HK3 := Lib.hid (KB.none HK2.out k3 (Nat.le_refl _) (Nat.le_refl _))
  clear hb3 k3
  go_wp2_with fail
  refine (bAsk HB3.out (Nat.le_of_lt HB3.out.lt)).mono ?_
  rintro e w4 ⟨rfl, k4⟩
  have HK4 : Hid (Kp none' w w4) := HK3.out.then k4 (fun i hi hb => by omega)
  clear k4
  go_wp2_with fail
  go_ret
  exact ⟨by rw [HXX.out]; rfl, HK4.out⟩
def zRp (kind code : Int) (flow id len rank : Nat) : RpF := ⟨kind, code, flow, id, len, rank, 0, 0, 0, 0, List.replicate 32 0⟩
theorem zRp_ok (kind code : Int) (flow id len rank : Nat) (h : 0 ≤ kind ∧ kind ≤ 5 ∧ 0 ≤ code ∧ code ≤ 100 ∧ flow ≤ 100 ∧ id ≤ 100 ∧ len ≤ 100 ∧ rank ≤ 100) : (zRp kind code flow id len rank).ok := by
  obtain ⟨a, b, c, d, e, f, g, i⟩ := h
  exact ⟨⟨by show _ ≤ kind; omega, by show kind ≤ _; omega⟩, ⟨by show _ ≤ code; omega, by show code ≤ _; omega⟩, by show flow < _; omega, by show id < _; omega, by show len < _; omega, by show rank < _; omega, by show 0 < _; omega, by show 0 < _; omega, ⟨by show _ ≤ (0 : Int); decide, by show (0 : Int) ≤ _; decide⟩, by show 0 < _; omega, rfl, fun n hn => by have := List.eq_of_mem_replicate hn; subst this; decide⟩
theorem wOne (W : World) : Calls Tryz.prog 4 #[.agg #[.int .i64 2, .int .i64 18, .int .u32 0, .int .u32 0, .int .u64 0, .int .u64 0, .int .u64 0, .int .u64 0, .int .i64 0, .int .u64 0, .int .u64 0, .int .u64 0, .int .u64 0, .int .u64 0, .int .u64 0, .int .u64 0, .int .u64 0, .int .u64 0, .int .u64 0, .int .u64 0, .int .u64 0, .int .u64 0, .int .u64 0, .int .u64 0, .int .u64 0, .int .u64 0, .int .u64 0, .int .u64 0, .int .u64 0, .int .u64 0, .int .u64 0, .int .u64 0, .int .u64 0, .int .u64 0, .int .u64 0, .int .u64 0, .int .u64 0, .int .u64 0, .int .u64 0, .int .u64 0, .int .u64 0, .int .u64 0]] W fun e w' => e = .returned (.string ⟨#[111, 117, 116, 32, 110, 111, 32, 49, 56]⟩) ∧ Kp none' W w' :=
  (wLineR (zRp 2 18 0 0 0 0) (zRp_ok _ _ _ _ _ _ (by decide)) W).mono fun e w' h => ⟨by rw [h.1, show lineT (zRp 2 18 0 0 0 0) = [111, 117, 116, 32, 110, 111, 32, 49, 56] by kernel_rfl]; rfl, h.2⟩
theorem wTwo (W : World) : Calls Tryz.prog 4 #[.agg #[.int .i64 1, .int .i64 0, .int .u32 1, .int .u32 2, .int .u64 3, .int .u64 4, .int .u64 0, .int .u64 0, .int .i64 0, .int .u64 0, .int .u64 0, .int .u64 0, .int .u64 0, .int .u64 0, .int .u64 0, .int .u64 0, .int .u64 0, .int .u64 0, .int .u64 0, .int .u64 0, .int .u64 0, .int .u64 0, .int .u64 0, .int .u64 0, .int .u64 0, .int .u64 0, .int .u64 0, .int .u64 0, .int .u64 0, .int .u64 0, .int .u64 0, .int .u64 0, .int .u64 0, .int .u64 0, .int .u64 0, .int .u64 0, .int .u64 0, .int .u64 0, .int .u64 0, .int .u64 0, .int .u64 0, .int .u64 0]] W fun e w' => e = .returned (.string ⟨#[105, 110, 32, 49, 32, 50, 32, 51, 32, 97, 116, 32, 52]⟩) ∧ Kp none' W w' :=
  (wLineR (zRp 1 0 1 2 3 4) (zRp_ok _ _ _ _ _ _ (by decide)) W).mono fun e w' h => ⟨by rw [h.1, show lineT (zRp 1 0 1 2 3 4) = [105, 110, 32, 49, 32, 50, 32, 51, 32, 97, 116, 32, 52] by kernel_rfl]; rfl, h.2⟩
set_option maxRecDepth 100000 in
set_option maxHeartbeats 2000000 in
theorem wLives (w : World) (hx : MX w) : Calls Tryz.prog 6 #[] w fun e w' => e = .returned (.bool true) ∧ Kp none' w w' := by
  have HR := Lib.hid (wRun0 w hx)
  have H1 := Lib.hid wOne; have H2 := Lib.hid wTwo
  clear hx
  go_enter Tryz.func6, Tryz.ntmps6
  go_wp2_with fail
  refine (HR.out).mono ?_
  rintro e w1 ⟨rfl, k1⟩
  have HK1 := Lib.hid k1
  clear k1
  go_wp2_with fail
  refine (H1.out _).mono ?_
  rintro e w2 ⟨rfl, k2⟩
  have HK2 := Lib.hid (HK1.out.trans k2)
  clear k2
  go_wp2_with fail
  refine (H2.out _).mono ?_
  rintro e w3 ⟨rfl, k3⟩
  have HK3 := Lib.hid (HK2.out.trans k3)
  clear k3
  go_wp2
  go_ret
  exact ⟨rfl, HK3.out⟩
end Go.Proofs.YtacgabagfdlpeaaGreatDoor
