/- Rules in memory; the set of those of which something holds, bit by bit; which prefix. -/
import Derived.Test.YthnlggecjdifnaaDoorRuI
import Derived.Laws.Bits64b
namespace Go.Proofs.YthnlggecjdifnaaDoor
set_option linter.unusedVariables false
set_option linter.unusedSimpArgs false
open Go.RowKit

def enR7 (r : RuN) : List Value := [.int .u32 r.s.1, .int .i64 r.s.2, .int .u32 r.d.1, .int .i64 r.d.2, .int .u16 r.lo, .int .u16 r.hi, .int .u32 r.fl]
theorem enR7_len (r : RuN) : (enR7 r).length = 7 := rfl
def pSrc (r : RuN) : Nat × Int := r.s
def pDst (r : RuN) : Nat × Int := r.d
set_option maxRecDepth 100000 in
theorem cSrc (s d : Nat × Int) (lo hi fl : Nat) (w : World) : Calls Tryd.prog 18 #[.agg #[.int .u32 s.1, .int .i64 s.2, .int .u32 d.1, .int .i64 d.2, .int .u16 lo, .int .u16 hi, .int .u32 fl]] w fun e w' => e = .returned (.agg #[.int .u32 s.1, .int .i64 s.2]) ∧ Kp none' w w' := by
  have hb := (Blk.new (w.alloc (.cells #[.int .u32 s.1, .int .i64 s.2, .int .u32 d.1, .int .i64 d.2, .int .u16 lo, .int .u16 hi, .int .u32 fl] 48)) [.int .u32 s.1, .int .i64 s.2] 46)
  rw [World.size_alloc] at hb
  have HB := Lib.hid hb
  clear hb
  go_enter Tryd.func18, Tryd.ntmps18
  go_wp2
  refine ret_row1 (by rfl) HB.out _ Tryd.underlying46 rfl (by kernel_rfl) (by rfl) ?_
  exact ⟨rfl, ((Kp.refl none' w).alloc _).alloc _⟩
set_option maxRecDepth 100000 in
theorem cDst (s d : Nat × Int) (lo hi fl : Nat) (w : World) : Calls Tryd.prog 19 #[.agg #[.int .u32 s.1, .int .i64 s.2, .int .u32 d.1, .int .i64 d.2, .int .u16 lo, .int .u16 hi, .int .u32 fl]] w fun e w' => e = .returned (.agg #[.int .u32 d.1, .int .i64 d.2]) ∧ Kp none' w w' := by
  have hb := (Blk.new (w.alloc (.cells #[.int .u32 s.1, .int .i64 s.2, .int .u32 d.1, .int .i64 d.2, .int .u16 lo, .int .u16 hi, .int .u32 fl] 48)) [.int .u32 d.1, .int .i64 d.2] 46)
  rw [World.size_alloc] at hb
  have HB := Lib.hid hb
  clear hb
  go_enter Tryd.func19, Tryd.ntmps19
  go_wp2
  refine ret_row1 (by rfl) HB.out _ Tryd.underlying46 rfl (by kernel_rfl) (by rfl) ?_
  exact ⟨rfl, ((Kp.refl none' w).alloc _).alloc _⟩
theorem wrap_pow (b : Nat) (hb : b < 64) : IntKind.u64.wrap ((2 : Int) ^ b) = ((2 ^ b : Nat) : Int) := by
  have h : 2 ^ b < 2 ^ 64 := Nat.pow_lt_pow_right (by decide) hb
  rw [IntKind.wrap_u64]
  have e : (2 : Int) ^ b = ((2 ^ b : Nat) : Int) := by simp
  rw [e]
  generalize 2 ^ b = y at *
  omega
theorem bits_step {f : Nat → Bool} {k : Nat} (hk : k < 64) (h : f k = true) : bits BinOp.or IntKind.u64 ((bitsOf f k : Nat) : Int) (IntKind.u64.wrap ((2 : Int) ^ k)) = ((bitsOf f (k + 1) : Nat) : Int) := by
  rw [wrap_pow k hk]
  have e : bitsOf f (k + 1) = bitsOf f k ||| 2 ^ k := by simp only [bitsOf, h]
  rw [e]
  exact bits_or_u64_nat _ _ (Nat.lt_of_lt_of_le (bitsOf_lt f k) (Nat.pow_le_pow_right (by decide) (Nat.le_of_lt hk))) (Nat.pow_lt_pow_right (n := 64) (by decide) hk)
theorem bits_skip {f : Nat → Bool} {k : Nat} (h : f k = false) : bitsOf f (k + 1) = bitsOf f k := by simp [bitsOf, h]
end Go.Proofs.YthnlggecjdifnaaDoor
