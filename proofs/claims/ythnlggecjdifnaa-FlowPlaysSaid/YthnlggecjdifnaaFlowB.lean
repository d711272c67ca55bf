/- Masks of a power of two: what '&' leaves. Names no function of the program. -/
import Derived.Test.YthnlggecjdifnaaFlowP
import Derived.Laws.Bits128
namespace Go.Proofs.Ythnlggecjdifnaa
set_option linter.unusedVariables false
set_option linter.unusedSimpArgs false

theorem i64_mask (x : Int) (k : Nat) (hk : k < 63) : bits .and .i64 x ((2 : Int) ^ k - 1) = x % 2 ^ k := by
  have hp : (2 : Nat) ^ k ≤ 2 ^ 62 := Nat.pow_le_pow_right (by decide) (by omega)
  have hpos : 0 < (2 : Nat) ^ k := Nat.pow_pos (by decide)
  have e1 : ((2 : Int) ^ k - 1) = ((2 ^ k - 1 : Nat) : Int) := by
    have : ((2 ^ k : Nat) : Int) = (2 : Int) ^ k := by simp
    omega
  have h2 : (BitVec.ofInt 64 ((2 ^ k - 1 : Nat) : Int)).toNat = 2 ^ k - 1 := by
    rw [BitVec.ofInt_natCast, BitVec.toNat_ofNat]; exact Nat.mod_eq_of_lt (by omega)
  have h1 : ((BitVec.ofInt 64 x).toNat : Int) = x % 2 ^ 64 := by
    rw [BitVec.toNat_ofInt]; omega
  rw [e1]
  show IntKind.i64.wrap ((BitVec.ofInt 64 x &&& BitVec.ofInt 64 ((2 ^ k - 1 : Nat) : Int)).toNat : Int) = _
  rw [BitVec.toNat_and, h2, Nat.and_two_pow_sub_one_eq_mod]
  have hlt : (BitVec.ofInt 64 x).toNat % 2 ^ k < 2 ^ k := Nat.mod_lt _ hpos
  rw [IntWalk.i64_in _ (by omega)]
  have : (((BitVec.ofInt 64 x).toNat % 2 ^ k : Nat) : Int) = ((BitVec.ofInt 64 x).toNat : Int) % ((2 ^ k : Nat) : Int) := by simp
  rw [this, h1]
  have hd : ((2 ^ k : Nat) : Int) ∣ 2 ^ 64 := by
    have : (2 : Nat) ^ k ∣ 2 ^ 64 := Nat.pow_dvd_pow 2 (by omega)
    have := Int.natCast_dvd_natCast.2 this
    simpa using this
  rw [Int.emod_emod_of_dvd _ hd]
  simp
/-- How many places: a power of two. -/
def Pw (N : Nat) : Prop := ∃ k, k < 62 ∧ N = 2 ^ k
theorem mask_nat (N : Nat) (h : Pw N) (x : Nat) : bits .and .i64 (x : Int) ((N : Int) - 1) = ((x % N : Nat) : Int) := by
  obtain ⟨k, hk, rfl⟩ := h
  have := i64_mask x k (by omega)
  simpa using this
theorem mask_next (N : Nat) (h : Pw N) (a : Nat) (ha : a < N) : bits .and .i64 ((a : Int) + 1) ((N : Int) - 1) = (ad N a 1 : Nat) := by
  have := mask_nat N h (a + 1)
  rw [show ((a + 1 : Nat) : Int) = (a : Int) + 1 by omega] at this
  rw [this]
  unfold ad
  split
  · rw [Nat.mod_eq_of_lt (by omega)]
  · have : a + 1 = N := by omega
    rw [this, Nat.mod_self, Nat.sub_self]
theorem mask_dst (N : Nat) (h : Pw N) (a b : Nat) (ha : a < N) (hb : b < N) : bits .and .i64 ((b : Int) - (a : Int)) ((N : Int) - 1) = (dst N a b : Nat) := by
  obtain ⟨k, hk, rfl⟩ := h
  have := i64_mask ((b : Int) - a) k (by omega)
  have e : (((2 ^ k : Nat)) : Int) = (2 : Int) ^ k := by simp
  rw [e, this, ← e]
  generalize 2 ^ k = N at *
  unfold dst
  split
  · rw [Int.emod_eq_of_lt (by omega) (by omega)]; omega
  · have : ((b : Int) - a) % (N : Int) = ((b : Int) - a + N) % N := by simp
    rw [this, Int.emod_eq_of_lt (by omega) (by omega)]; omega
/-- A number's own place. -/
def homeN (N id : Nat) : Nat := id * 2654435769 % 4294967296 / 128 % N
theorem homeN_lt (N id : Nat) (h : 0 < N) : homeN N id < N := Nat.mod_lt _ h
theorem mask_home (N : Nat) (h : Pw N) (id : Nat) : bits .and .i64 (((id : Int) * 2654435769 % 4294967296) / 128) ((N : Int) - 1) = (homeN N id : Nat) := by
  have := mask_nat N h (id * 2654435769 % 4294967296 / 128)
  have e : ((id * 2654435769 % 4294967296 / 128 : Nat) : Int) = ((id : Int) * 2654435769 % 4294967296) / 128 := by omega
  rw [e] at this
  exact this
theorem Pw.pos {N : Nat} (h : Pw N) : 0 < N := by obtain ⟨k, _, rfl⟩ := h; exact Nat.pow_pos (by decide)
end Go.Proofs.Ythnlggecjdifnaa
