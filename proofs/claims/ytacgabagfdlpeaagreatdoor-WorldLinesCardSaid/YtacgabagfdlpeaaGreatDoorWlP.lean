/- Layer 42 in plain Lean: replies and their lines. Names no function of the program. -/
import Derived.Test.YtacgabagfdlpeaaGreatDoorDigY
namespace Go.Proofs.YtacgabagfdlpeaaGreatDoor
set_option linter.unusedVariables false
set_option linter.unusedSimpArgs false

/-- A reply, number by number. -/
structure RpF where
  kind : Int
  code : Int
  flow : Nat
  id : Nat
  len : Nat
  rank : Nat
  now : Nat
  tokens : Nat
  packets : Int
  bytes : Nat
  ref : List Nat
structure RpF.ok (r : RpF) : Prop where
  kind : -9223372036854775808 ≤ r.kind ∧ r.kind ≤ 9223372036854775807
  code : -9223372036854775808 ≤ r.code ∧ r.code ≤ 9223372036854775807
  flow : r.flow < 4294967296
  id : r.id < 4294967296
  len : r.len < 18446744073709551616
  rank : r.rank < 18446744073709551616
  now : r.now < 18446744073709551616
  tokens : r.tokens < 18446744073709551616
  packets : -9223372036854775808 ≤ r.packets ∧ r.packets ≤ 9223372036854775807
  bytes : r.bytes < 18446744073709551616
  n32 : r.ref.length = 32
  ref : ∀ n ∈ r.ref, n < 18446744073709551616
/-- Numbers behind a word, a blank ahead of each. -/
def nums (l : List Nat) : List UInt8 := l.flatMap fun n => 32 :: put n
theorem nums_cons (n : Nat) (l : List Nat) : nums (n :: l) = 32 :: put n ++ nums l := by simp [nums]
theorem nums_app (a b : List Nat) : nums (a ++ b) = nums a ++ nums b := by simp [nums]
theorem join_nums (w : List UInt8) : ∀ l : List Nat, joinL (w :: l.map put) = w ++ nums l
  | [] => by simp [joinL, nums]
  | n :: l => by
    have h : joinL (w :: (n :: l).map put) = w ++ 32 :: joinL (put n :: l.map put) := rfl
    rw [h, join_nums (put n) l, nums_cons]; simp
/-- The kinds' names. -/
def kds : List (List UInt8) := [[106, 117, 110, 107], [105, 110], [111, 117, 116], [116, 105, 99, 107], [115, 116, 97, 116, 115], [116, 111, 114, 110]]
/-- What was refused, by errors' numbers from i on. -/
def refN : Nat → List Nat → List Nat
  | _, [] => []
  | i, n :: l => (if 0 < n then [i, n] else []) ++ refN (i + 1) l
def statN (r : RpF) : List Nat := [r.now, r.tokens, r.packets.toNat, r.bytes] ++ refN 0 r.ref
def codeN (r : RpF) : Nat := (r.code % 18446744073709551616).toNat
/-- A reply's first words. -/
def firstT (r : RpF) : List UInt8 := kds.getD r.kind.toNat [] ++ (if r.kind = 1 ∨ (r.kind = 2 ∧ r.code = 0) then nums [r.flow, r.id, r.len] else [])
/-- A reply's line. -/
def lineT (r : RpF) : List UInt8 :=
  if r.kind < 0 ∨ 5 < r.kind then []
  else if r.code ≠ 0 then firstT r ++ ([32, 110, 111] ++ nums [codeN r])
  else if r.kind = 1 ∨ r.kind = 2 then firstT r ++ ([32, 97, 116] ++ nums [r.rank])
  else if r.kind = 4 then firstT r ++ nums (statN r)
  else firstT r
theorem refN_snoc : ∀ (l : List Nat) (i n : Nat), refN i (l ++ [n]) = refN i l ++ (if 0 < n then [i + l.length, n] else [])
  | [], i, n => by simp [refN]
  | a :: l, i, n => by
    rw [List.cons_append, refN, refN, refN_snoc l (i + 1) n, List.append_assoc]
    simp only [List.length_cons]
    rw [show i + 1 + l.length = i + (l.length + 1) by omega]
theorem refN_len : ∀ (l : List Nat) (i : Nat), (refN i l).length ≤ 2 * l.length
  | [], i => by simp [refN]
  | a :: l, i => by
    have := refN_len l (i + 1)
    rw [refN, List.length_append, List.length_cons]
    split <;> simp <;> omega
theorem refN_small : ∀ (l : List Nat) (i : Nat), (∀ n ∈ l, n < 18446744073709551616) → i + l.length < 1000000 → ∀ n ∈ refN i l, n < 18446744073709551616
  | [], i, _, _, n, hn => by simp [refN] at hn
  | a :: l, i, h, hi, n, hn => by
    rw [refN] at hn
    simp only [List.length_cons] at hi
    rcases List.mem_append.1 hn with hn | hn
    · split at hn
      · simp at hn
        rcases hn with rfl | rfl
        · omega
        · exact h _ (by simp)
      · cases hn
    · exact refN_small l (i + 1) (fun m hm => h m (by simp [hm])) (by omega) n hn
theorem put_lenW (n : Nat) (h : n < 18446744073709551616) : (put n).length ≤ 20 := put_len20 n (by omega)
theorem nums_len : ∀ (l : List Nat), (∀ n ∈ l, n < 18446744073709551616) → (nums l).length ≤ 21 * l.length
  | [], _ => by simp [nums]
  | n :: l, h => by
    have h1 := put_lenW n (h n (by simp))
    have h2 := nums_len l (fun m hm => h m (by simp [hm]))
    rw [nums_cons, List.length_append, List.length_cons, List.length_cons]; omega
end Go.Proofs.YtacgabagfdlpeaaGreatDoor
