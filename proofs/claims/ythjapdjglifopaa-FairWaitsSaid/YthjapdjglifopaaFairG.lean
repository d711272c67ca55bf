/- Walks of layer 27: numbers with a sign, in two words. -/
import Derived.Test.YthjapdjglifopaaFairZ
import Derived.Shelf.Spec.BitsCarry
namespace Go.Proofs.Ythjapdjglifopaa
set_option linter.unusedVariables false
set_option linter.unusedSimpArgs false
open Go.RowKit Go.Shelf

def loW (v : Int) : Nat := (v % 18446744073709551616).toNat
def hiW (v : Int) : Nat := (v / 18446744073709551616 % 18446744073709551616).toNat
def enWd (v : Int) : List Value := [.int .u64 (hiW v), .int .u64 (loW v)]
theorem enWd_len (v : Int) : (enWd v).length = 2 := rfl
theorem lo_lt (v : Int) : loW v < 18446744073709551616 := by unfold loW; omega
theorem hi_lt (v : Int) : hiW v < 18446744073709551616 := by unfold hiW; omega
theorem lo_add (v : Int) (p ph pl : Nat) (hp : p = ph * 18446744073709551616 + pl) : (loW v + pl + 0) % 18446744073709551616 = loW (v + p) := by
  unfold loW; omega
theorem hi_add (v : Int) (p ph pl : Nat) (hp : p = ph * 18446744073709551616 + pl) : (hiW v + ph + (loW v + pl + 0) / 18446744073709551616) % 18446744073709551616 = hiW (v + p) := by
  unfold hiW loW; omega
theorem lo_sub (v : Int) (p ph pl : Nat) (hp : p = ph * 18446744073709551616 + pl) (hl : pl < 18446744073709551616) : (loW v + 18446744073709551616 - pl - 0) % 18446744073709551616 = loW (v - p) := by
  unfold loW; omega
theorem hi_sub (v : Int) (p ph pl : Nat) (hp : p = ph * 18446744073709551616 + pl) (hl : pl < 18446744073709551616) (hh : ph < 18446744073709551616) : (hiW v + 18446744073709551616 - ph - (if loW v < pl + 0 then 1 else 0)) % 18446744073709551616 = hiW (v - p) := by
  unfold hiW loW; split <;> omega
theorem run_addc (x y c : Nat) (hc : c ≤ 1) (s k : Nat) (hs : (x + y + c) % 18446744073709551616 = s) (hk : (x + y + c) / 18446744073709551616 = k) (w : World) : (callFunc 56 #[.int .u64 x, .int .u64 y, .int .u64 c]).run Try.prog w = .ok (.value (.tuple #[.int .u64 s, .int .u64 k])) w := by
  rw [run_callFunc_extern Try.func56 (by kernel_rfl) (by kernel_rfl) (by kernel_rfl) (e := add64Entry) (by kernel_rfl), run_add64 x y c (by omega) (by omega) (by omega) (by omega)]
  simp only [Result.andThen]
  subst hs hk
  congr 5 <;> omega
theorem run_subc (x y c : Nat) (hc : c ≤ 1) (s k : Nat) (hs : (x + 18446744073709551616 - y - c) % 18446744073709551616 = s) (hk : (if x < y + c then 1 else 0) = k) (w : World) : (callFunc 62 #[.int .u64 x, .int .u64 y, .int .u64 c]).run Try.prog w = .ok (.value (.tuple #[.int .u64 s, .int .u64 k])) w := by
  rw [run_callFunc_extern Try.func62 (by kernel_rfl) (by kernel_rfl) (by kernel_rfl) (e := sub64Entry) (by kernel_rfl), run_sub64 x y c hc]
  subst hs hk
  rfl
theorem fwRet {f : Func} {s : Tmp} (hf : f.results = #[.cell s 87]) {W w : World} {c : Nat} {v : Int} {T : Array Value} (hb : Blk W c (enWd v) 87) (hk : Kp none' w W) (h2 : T[s]? = some (.pointer (some ⟨c, 0, none⟩))) :
    bodyPost Try.prog f (fun e' w' => e' = .returned (.agg (enWd v).toArray) ∧ Kp none' w w') Exit.ret { tmps := T, defers := [] } W := by
  have c0 := hb.cell 0 rfl
  have c1 := hb.cell 1 rfl
  exact bodyPost_ret (v := .agg (enWd v).toArray) (by simp [results, hf, go_sem, c0, c1, h2, enWd]) rfl ⟨rfl, hk⟩
set_option maxRecDepth 100000 in
set_option maxHeartbeats 4000000 in
theorem fPlusA (v : Int) (a b : Nat) (ha : a < 18446744073709551616) (hb : b < 18446744073709551616) (w : World) : Calls Try.prog 41 #[.agg (enWd v).toArray, .int .u64 a, .int .u64 b, .bool false] w fun e w' => e = .returned (.agg (enWd (v + (a * b : Nat))).toArray) ∧ Kp none' w w' := by
  have hm := fun W => Try.bits_Mul64 a b ha hb W
  have hb2 : a * b < 18446744073709551616 * 18446744073709551616 := Nat.mul_lt_mul_of_lt_of_le ha (by omega) (by decide)
  obtain ⟨p, hp⟩ : ∃ p, a * b = p := ⟨_, rfl⟩
  rw [hp] at hm hb2 ⊢
  obtain ⟨ph, hph⟩ : ∃ ph, p / 18446744073709551616 = ph := ⟨_, rfl⟩
  obtain ⟨pl, hpl⟩ : ∃ pl, p % 18446744073709551616 = pl := ⟨_, rfl⟩
  rw [hph, hpl] at hm
  have hpe : p = ph * 18446744073709551616 + pl := by omega
  have r1 : ∀ W, (callFunc 56 #[.int .u64 (loW v), .int .u64 pl, .int .u64 0]).run Try.prog W = .ok (.value (.tuple #[.int .u64 (loW (v + p)), .int .u64 (((loW v + pl + 0) / 18446744073709551616 : Nat) : Int)])) W := run_addc (loW v) pl 0 (by omega) _ _ (lo_add v p ph pl hpe) rfl
  have hc1 := lo_lt v
  have r2 := run_addc (hiW v) ph ((loW v + pl + 0) / 18446744073709551616) (by omega) _ _ (hi_add v p ph pl hpe) rfl
  have HM := Lib.hid hm
  have HE : Hid (enWd (v + p) = [.int .u64 (hiW (v + p)), .int .u64 (loW (v + p))]) := rfl
  generalize hiW (v + p) = s1 at *
  generalize loW (v + p) = s0 at *
  generalize (loW v + pl + 0) / 18446744073709551616 = k0 at *
  generalize (hiW v + ph + k0) / 18446744073709551616 = k1 at *
  unfold enWd
  generalize hiW v = h0 at *
  generalize loW v = l0 at *
  clear hm hb2 hp hph hpl hpe hc1
  go_enter Try.func41, Try.ntmps41
  go_wp2_with fail
  refine (HM.out _).mono ?_
  rintro e w1 ⟨rfl, rfl⟩
  go_wp2
  refine fwRet Try.results41 (c := w.heap.size + 1) (v := v + p) ?_ (((Kp.refl _ _).alloc _).alloc _) rfl
  rw [HE.out]
  have hb := Blk.new (w.alloc (.cells #[.int .u64 s1, .int .u64 s0] 87)) [.int .u64 s1, .int .u64 s0] 87
  rw [World.size_alloc] at hb
  exact hb
set_option maxRecDepth 100000 in
set_option maxHeartbeats 4000000 in
theorem fPlusS (v : Int) (a b : Nat) (ha : a < 18446744073709551616) (hb : b < 18446744073709551616) (w : World) : Calls Try.prog 41 #[.agg (enWd v).toArray, .int .u64 a, .int .u64 b, .bool true] w fun e w' => e = .returned (.agg (enWd (v - (a * b : Nat))).toArray) ∧ Kp none' w w' := by
  have hm := fun W => Try.bits_Mul64 a b ha hb W
  have hb2 : a * b < 18446744073709551616 * 18446744073709551616 := Nat.mul_lt_mul_of_lt_of_le ha (by omega) (by decide)
  obtain ⟨p, hp⟩ : ∃ p, a * b = p := ⟨_, rfl⟩
  rw [hp] at hm hb2 ⊢
  obtain ⟨ph, hph⟩ : ∃ ph, p / 18446744073709551616 = ph := ⟨_, rfl⟩
  obtain ⟨pl, hpl⟩ : ∃ pl, p % 18446744073709551616 = pl := ⟨_, rfl⟩
  rw [hph, hpl] at hm
  have hpl2 : pl < 18446744073709551616 := by omega
  have hph2 : ph < 18446744073709551616 := by omega
  have hpe : p = ph * 18446744073709551616 + pl := by omega
  have r1 : ∀ W, (callFunc 62 #[.int .u64 (loW v), .int .u64 pl, .int .u64 0]).run Try.prog W = .ok (.value (.tuple #[.int .u64 (loW (v - p)), .int .u64 (((if loW v < pl + 0 then 1 else 0 : Nat)) : Int)])) W := run_subc (loW v) pl 0 (by omega) _ _ (lo_sub v p ph pl hpe hpl2) rfl
  have hc1 := lo_lt v
  have r2 := run_subc (hiW v) ph (if loW v < pl + 0 then 1 else 0) (by split <;> omega) _ _ (hi_sub v p ph pl hpe hpl2 hph2) rfl
  have HM := Lib.hid hm
  have HE : Hid (enWd (v - p) = [.int .u64 (hiW (v - p)), .int .u64 (loW (v - p))]) := rfl
  generalize hiW (v - p) = s1 at *
  generalize loW (v - p) = s0 at *
  generalize (if loW v < pl + 0 then 1 else 0) = k0 at *
  generalize (if hiW v < ph + k0 then 1 else 0) = k1 at *
  unfold enWd
  generalize hiW v = h0 at *
  generalize loW v = l0 at *
  clear hm hb2 hp hph hpl hpl2 hph2 hpe hc1
  go_enter Try.func41, Try.ntmps41
  go_wp2_with fail
  refine (HM.out _).mono ?_
  rintro e w1 ⟨rfl, rfl⟩
  go_wp2
  refine fwRet Try.results41 (c := w.heap.size + 1) (v := v - p) ?_ (((Kp.refl _ _).alloc _).alloc _) rfl
  rw [HE.out]
  have hb := Blk.new (w.alloc (.cells #[.int .u64 s1, .int .u64 s0] 87)) [.int .u64 s1, .int .u64 s0] 87
  rw [World.size_alloc] at hb
  exact hb
theorem hl_low {v : Int} (h : -1267650600228229401496703205376 ≤ v ∧ v ≤ 1267650600228229401496703205376) {u : Int} (h' : -1267650600228229401496703205376 ≤ u ∧ u ≤ 1267650600228229401496703205376) (e : hiW v = hiW u) : decide (loW v < loW u) = decide (v < u) := by
  rw [decide_eq_decide]; unfold hiW at e; unfold loW; omega
theorem hl_high {v : Int} (h : -1267650600228229401496703205376 ≤ v ∧ v ≤ 1267650600228229401496703205376) {u : Int} (h' : -1267650600228229401496703205376 ≤ u ∧ u ≤ 1267650600228229401496703205376) (e : hiW v ≠ hiW u) : decide (wrap64 (hiW v) < wrap64 (hiW u)) = decide (v < u) := by
  rw [decide_eq_decide]; unfold hiW at *; unfold wrap64; omega
set_option maxRecDepth 100000 in
set_option maxHeartbeats 4000000 in
theorem fBelow (v u : Int) (h : -1267650600228229401496703205376 ≤ v ∧ v ≤ 1267650600228229401496703205376) (h' : -1267650600228229401496703205376 ≤ u ∧ u ≤ 1267650600228229401496703205376) (w : World) : Calls Try.prog 42 #[.agg (enWd v).toArray, .agg (enWd u).toArray] w fun e w' => e = .returned (.bool (decide (v < u))) ∧ Kp none' w w' := by
  have HL := Lib.hid (hl_low h h')
  have HH := Lib.hid (hl_high h h')
  have b1 := hi_lt v
  have b2 := hi_lt u
  unfold enWd
  generalize hiW v = h0 at *
  generalize loW v = l0 at *
  generalize hiW u = h1 at *
  generalize loW u = l1 at *
  clear h h'
  by_cases he : h0 = h1
  · subst he
    have HF := Lib.hid (HL.out rfl)
    go_enter Try.func42, Try.ntmps42
    go_wp2
    go_ret
    exact ⟨by rw [← HF.out]; rfl, ((Kp.refl _ _).alloc _).alloc _⟩
  · have HF := Lib.hid (HH.out he)
    have hne : ((h0 : Int) == (h1 : Int)) = false := by rw [beq_eq_false_iff_ne]; omega
    clear he HL HH
    go_enter Try.func42, Try.ntmps42
    go_wp2
    go_ret
    exact ⟨by rw [← HF.out]; rfl, ((Kp.refl _ _).alloc _).alloc _⟩
end Go.Proofs.Ythjapdjglifopaa
