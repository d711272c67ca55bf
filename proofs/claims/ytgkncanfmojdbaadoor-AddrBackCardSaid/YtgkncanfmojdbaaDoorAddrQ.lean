/- Addresses and prefixes as texts, in plain Lean. -/
import Derived.Test.YtgkncanfmojdbaaDoorSplitP
import Derived.Test.YtgkncanfmojdbaaDoorAddrP
namespace Go.Proofs.YtgkncanfmojdbaaDoor
set_option linter.unusedVariables false
set_option linter.unusedSimpArgs false

/-- A decimal at most so great. -/
def sm (most : Nat) (l : List UInt8) : Nat × Int := if (rd l).2 ≠ 0 then (0, (rd l).2) else if most < (rd l).1 then (0, 5) else ((rd l).1, 0)
def rdA : Nat → List (List UInt8) → Nat × Int
  | a, [] => (a, 0)
  | a, p :: r => if (sm 255 p).2 ≠ 0 then (0, (sm 255 p).2) else rdA (a * 256 + (sm 255 p).1) r
/-- The address of a text. -/
def readA (l : List UInt8) : Nat × Int := if (parts 46 l).length ≠ 4 then (0, 3) else rdA 0 (parts 46 l)
/-- The prefix of two texts. -/
def two (x y : List UInt8) : (Nat × Nat) × Int :=
  if (readA x).2 ≠ 0 then ((0, 0), (readA x).2) else if (sm 32 y).2 ≠ 0 then ((0, 0), (sm 32 y).2)
  else if rightB (readA x).1 (sm 32 y).1 then (((readA x).1, (sm 32 y).1), 0) else ((0, 0), 6)
def readP (l : List UInt8) : (Nat × Nat) × Int := match parts 47 l with
  | [x, y] => two x y
  | _ => ((0, 0), 3)

theorem sm_le (m : Nat) (l : List UInt8) : (sm m l).1 ≤ m := by
  unfold sm; split; simp; split; simp; simp only; omega
theorem sm_put (m n : Nat) (h : n ≤ m) (hm : n < M64) : sm m (put n) = (n, 0) := by
  unfold sm; rw [rd_put n hm]; simp; omega
theorem sm_back (m : Nat) (l : List UInt8) (h : (sm m l).2 = 0) : put (sm m l).1 = l := by
  unfold sm at h ⊢
  by_cases h1 : (rd l).2 = 0
  · rw [if_neg (by simp [h1])] at h ⊢
    split at h
    · simp at h
    · rename_i h2; rw [if_neg h2]; exact put_of_rd l h1
  · rw [if_pos h1] at h; exact absurd h h1
theorem rdA_lt : ∀ (ps : List (List UInt8)) (a : Nat), (rdA a ps).1 < (a + 1) * 256 ^ ps.length
  | [], a => by simp [rdA]
  | p :: r, a => by
    unfold rdA
    have hp := sm_le 255 p
    split
    · exact Nat.mul_pos (by omega) (Nat.pow_pos (by decide))
    · have := rdA_lt r (a * 256 + (sm 255 p).1)
      refine Nat.lt_of_lt_of_le this ?_
      rw [List.length_cons, Nat.pow_succ, Nat.mul_comm (256 ^ r.length) 256, ← Nat.mul_assoc]
      exact Nat.mul_le_mul_right _ (by omega)
theorem readA_lt (l : List UInt8) : (readA l).1 < 4294967296 := by
  unfold readA
  split
  · simp
  · rename_i h
    have := rdA_lt (parts 46 l) 0
    rw [show (parts 46 l).length = 4 by omega] at this
    exact this

def putA (a : Nat) : List UInt8 := put (a / 16777216) ++ 46 :: (put (a / 65536 % 256) ++ 46 :: (put (a / 256 % 256) ++ 46 :: put (a % 256)))
theorem put_free (n : Nat) (c : UInt8) (hc : isDig c = false) : c ∉ put n := fun h => by
  have := List.all_eq_true.1 (put_all n) c h
  rw [hc] at this; cases this
theorem parts_putA (a : Nat) : parts 46 (putA a) = [put (a / 16777216), put (a / 65536 % 256), put (a / 256 % 256), put (a % 256)] := by
  unfold putA
  have hf := fun n => put_free n 46 rfl
  rw [parts_cons _ _ _ (hf _), parts_cons _ _ _ (hf _), parts_cons _ _ _ (hf _), parts_one _ _ (hf _)]
theorem readA_putA (a : Nat) (ha : a < 4294967296) : readA (putA a) = (a, 0) := by
  unfold readA
  rw [parts_putA]
  have h1 := sm_put 255 (a / 16777216) (by omega) (by unfold M64; omega)
  have h2 := sm_put 255 (a / 65536 % 256) (by omega) (by unfold M64; omega)
  have h3 := sm_put 255 (a / 256 % 256) (by omega) (by unfold M64; omega)
  have h4 := sm_put 255 (a % 256) (by omega) (by unfold M64; omega)
  simp only [List.length_cons, List.length_nil, rdA, h1, h2, h3, h4]
  simp
  omega
theorem putA_readA (l : List UInt8) (h : (readA l).2 = 0) : putA (readA l).1 = l := by
  unfold readA at h ⊢
  by_cases hl : (parts 46 l).length = 4
  · rw [if_neg (by simp [hl])] at h ⊢
    match e : parts 46 l, hl with
    | [p0, p1, p2, p3], _ =>
      rw [e] at h
      have hj := joinS_parts 46 l
      rw [e] at hj
      simp only [rdA] at h ⊢
      by_cases e0 : (sm 255 p0).2 = 0
      · by_cases e1 : (sm 255 p1).2 = 0
        · by_cases e2 : (sm 255 p2).2 = 0
          · by_cases e3 : (sm 255 p3).2 = 0
            · simp only [e0, e1, e2, e3, ne_eq, not_true, if_false]
              have b0 := sm_back 255 p0 e0; have b1 := sm_back 255 p1 e1; have b2 := sm_back 255 p2 e2; have b3 := sm_back 255 p3 e3
              have l0 := sm_le 255 p0; have l1 := sm_le 255 p1; have l2 := sm_le 255 p2; have l3 := sm_le 255 p3
              unfold putA
              rw [show ((((0 * 256 + (sm 255 p0).1) * 256 + (sm 255 p1).1) * 256 + (sm 255 p2).1) * 256 + (sm 255 p3).1) / 16777216 = (sm 255 p0).1 by omega,
                show ((((0 * 256 + (sm 255 p0).1) * 256 + (sm 255 p1).1) * 256 + (sm 255 p2).1) * 256 + (sm 255 p3).1) / 65536 % 256 = (sm 255 p1).1 by omega,
                show ((((0 * 256 + (sm 255 p0).1) * 256 + (sm 255 p1).1) * 256 + (sm 255 p2).1) * 256 + (sm 255 p3).1) / 256 % 256 = (sm 255 p2).1 by omega,
                show ((((0 * 256 + (sm 255 p0).1) * 256 + (sm 255 p1).1) * 256 + (sm 255 p2).1) * 256 + (sm 255 p3).1) % 256 = (sm 255 p3).1 by omega, b0, b1, b2, b3]
              exact hj
            · simp [e0, e1, e2, e3] at h
          · simp [e0, e1, e2] at h
        · simp [e0, e1] at h
      · simp [e0] at h
  · rw [if_pos hl] at h; simp at h
theorem putA_free (a : Nat) : (47 : UInt8) ∉ putA a := by
  unfold putA
  have hf := fun n => put_free n 47 rfl
  simp [hf]
/-- The text of a prefix. -/
def putP (a b : Nat) : List UInt8 := putA a ++ 47 :: put b
theorem readP_putP (a b : Nat) (ha : a < 4294967296) (hr : rightB a b = true) : readP (putP a b) = ((a, b), 0) := by
  have hb : b ≤ 32 := by have := (rightB_iff.1 hr).2.1; omega
  unfold readP putP
  rw [parts_cons _ _ _ (putA_free a), parts_one _ _ (put_free b 47 rfl)]
  simp only
  unfold two
  rw [readA_putA a ha, sm_put 32 b hb (by unfold M64; omega)]
  simp [hr]
theorem putP_readP (l : List UInt8) (h : (readP l).2 = 0) : putP (readP l).1.1 (readP l).1.2 = l ∧ rightB (readP l).1.1 (readP l).1.2 = true := by
  unfold readP at h ⊢
  have hj := joinS_parts 47 l
  match e : parts 47 l with
  | [x, y] =>
    rw [e] at h hj
    simp only at h ⊢
    unfold two at h ⊢
    by_cases e1 : (readA x).2 = 0
    · by_cases e2 : (sm 32 y).2 = 0
      · by_cases e3 : rightB (readA x).1 (sm 32 y).1 = true
        · simp only [e1, e2, e3, ne_eq, not_true, if_false, if_true]
          refine ⟨?_, trivial⟩
          unfold putP
          rw [putA_readA x e1, sm_back 32 y e2]
          exact hj
        · simp [e1, e2, e3] at h
      · simp [e1, e2] at h
    · simp [e1] at h
  | [] => rw [e] at h; simp at h
  | [x] => rw [e] at h; simp at h
  | x :: y :: z :: r => rw [e] at h; simp at h
theorem readP_lt (l : List UInt8) : (readP l).1.1 < 4294967296 ∧ (readP l).1.2 ≤ 32 := by
  unfold readP
  split
  · rename_i x y _
    unfold two
    have h1 := readA_lt x
    have h2 := sm_le 32 y
    split; simp; split; simp; split
    · exact ⟨h1, h2⟩
    · simp
  · simp
end Go.Proofs.YtgkncanfmojdbaaDoor
