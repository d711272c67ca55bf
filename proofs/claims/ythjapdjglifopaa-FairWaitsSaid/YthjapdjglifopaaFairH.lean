/- Walks of layer 27: how much a number is above another one. -/
import Derived.Test.YthjapdjglifopaaFairG
namespace Go.Proofs.Ythjapdjglifopaa
set_option linter.unusedVariables false
set_option linter.unusedSimpArgs false
open Go.RowKit Go.Shelf

def capW (d : Nat) : Nat := if d < 18446744073709551616 then d else 18446744073709551615
theorem lo_from (v u : Int) : (loW v + 18446744073709551616 - loW u - 0) % 18446744073709551616 = loW (v - u) := by
  unfold loW; omega
theorem hi_from (v u : Int) : (hiW v + 18446744073709551616 - hiW u - (if loW v < loW u + 0 then 1 else 0)) % 18446744073709551616 = hiW (v - u) := by
  unfold hiW loW; split <;> omega
theorem from_high (d : Nat) (hd : d < 18446744073709551616 * 18446744073709551616) (h : 0 < hiW d) : capW d = 18446744073709551615 := by
  unfold hiW at h; unfold capW; rw [if_neg (by omega)]
theorem from_low (d : Nat) (hd : d < 18446744073709551616 * 18446744073709551616) (h : ¬ 0 < hiW d) : capW d = loW d := by
  unfold hiW at h; unfold capW loW; rw [if_pos (by omega)]; omega
set_option maxRecDepth 100000 in
set_option maxHeartbeats 4000000 in
theorem fFrom (v u : Int) (d : Nat) (hd : d < 18446744073709551616 * 18446744073709551616) (he : v - u = d) (w : World) : Calls Try.prog 43 #[.agg (enWd v).toArray, .agg (enWd u).toArray] w fun e w' => e = .returned (.int .u64 (capW d)) ∧ Kp none' w w' := by
  have hl := lo_from v u
  have hh := hi_from v u
  rw [he] at hl hh
  have r1 : ∀ W, (callFunc 62 #[.int .u64 (loW v), .int .u64 (loW u), .int .u64 0]).run Try.prog W = .ok (.value (.tuple #[.int .u64 (loW d), .int .u64 (((if loW v < loW u + 0 then 1 else 0 : Nat)) : Int)])) W := run_subc (loW v) (loW u) 0 (by omega) _ _ hl rfl
  have r2 := run_subc (hiW v) (hiW u) (if loW v < loW u + 0 then 1 else 0) (by split <;> omega) _ _ hh rfl
  have HFH := Lib.hid (from_high d hd)
  have HFL := Lib.hid (from_low d hd)
  clear hl hh he hd
  generalize hiW d = s1 at *
  generalize loW d = s0 at *
  generalize (if loW v < loW u + 0 then 1 else 0) = k0 at *
  generalize (if hiW v < hiW u + k0 then 1 else 0) = k1 at *
  unfold enWd
  generalize hiW v = h0 at *
  generalize loW v = l0 at *
  generalize hiW u = h1 at *
  generalize loW u = l1 at *
  by_cases hp : 0 < s1
  · have HF := Lib.hid (HFH.out hp)
    have hpi : (0 : Int) < s1 := by omega
    clear HFH HFL
    go_enter Try.func43, Try.ntmps43
    go_wp2
    go_ret
    exact ⟨by rw [HF.out]; rfl, ((Kp.refl _ _).alloc _).alloc _⟩
  · have HF := Lib.hid (HFL.out hp)
    have hpi : ¬ (0 : Int) < s1 := by omega
    clear HFH HFL
    go_enter Try.func43, Try.ntmps43
    go_wp2
    go_ret
    exact ⟨by rw [HF.out]; rfl, ((Kp.refl _ _).alloc _).alloc _⟩
end Go.Proofs.Ythjapdjglifopaa
