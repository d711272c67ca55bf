/- Walks of layer 4: fields of fixed sizes put and taken. -/
import Derived.Test.YthjapdjglifopaaBuildB
import Derived.Test.YthjapdjglifopaaSumW
import Derived.Test.YthjapdjglifopaaStrs
import Derived.IntWalk
namespace Go.Proofs.Ythjapdjglifopaa
set_option linter.unusedVariables false
set_option linter.unusedSimpArgs false
open Go.RowKit Go.Shelf

/-- The bytes of a kind of a fixed size. -/
def widN (k : Nat) : Nat := if k = 1 then 1 else if k = 2 then 2 else if k = 3 then 4 else if k = 4 then 8 else 0
theorem wWidth (k : Nat) (h1 : 1 ≤ k) (h2 : k ≤ 4) (w : World) : Calls Try.prog 72 #[.int .i64 k] w fun e w' => e = .returned (.int .i64 (widN k)) ∧ w = w' := by
  have : k = 1 ∨ k = 2 ∨ k = 3 ∨ k = 4 := by omega
  rcases this with rfl | rfl | rfl | rfl
  all_goals
    go_enter Try.func72, Try.ntmps72
    go_wp2
    go_ret
    exact ⟨rfl, rfl⟩
theorem widN_cases {k : Nat} (h1 : 1 ≤ k) (h2 : k ≤ 4) : (k = 1 ∧ widN k = 1) ∨ (k = 2 ∧ widN k = 2) ∨ (k = 3 ∧ widN k = 4) ∨ (k = 4 ∧ widN k = 8) := by
  have : k = 1 ∨ k = 2 ∨ k = 3 ∨ k = 4 := by omega
  rcases this with rfl | rfl | rfl | rfl <;> simp [widN]
set_option maxHeartbeats 2000000 in
theorem wCheck (k n : Nat) (h1 : 1 ≤ k) (h2 : k ≤ 4) (hn : n < 256 ^ widN k) (w : World) : Calls Try.prog 64 #[.agg #[.int .i64 k, .int .u64 n, .string ⟨#[]⟩]] w fun e w' => e = .returned (.int .i64 0) ∧ Kp none' w w' := by
  have H1 := Lib.hid (fun W => wWidth k h1 h2 W)
  have hm : n < 18446744073709551616 := by
    rcases widN_cases h1 h2 with ⟨_, e⟩ | ⟨_, e⟩ | ⟨_, e⟩ | ⟨_, e⟩ <;> rw [e] at hn <;> simp at hn <;> omega
  have H2 := Lib.hid (fun W => Try.bits_Len64 n W (by omega) (by omega))
  have hb : ((Lib.bitLen n : Nat) : Int) ≤ 8 * (widN k : Int) := by
    rcases widN_cases h1 h2 with ⟨_, e⟩ | ⟨_, e⟩ | ⟨_, e⟩ | ⟨_, e⟩ <;> rw [e] at hn ⊢ <;> simp at hn
    · have := Lib.bitLen_le n 8 (by omega) (by omega); omega
    · have := Lib.bitLen_le n 16 (by omega) (by omega); omega
    · have := Lib.bitLen_le n 32 (by omega) (by omega); omega
    · have := Lib.bitLen_le n 64 (by omega) (by omega); omega
  have hw : 1 ≤ widN k ∧ widN k ≤ 8 := by rcases widN_cases h1 h2 with ⟨_, e⟩ | ⟨_, e⟩ | ⟨_, e⟩ | ⟨_, e⟩ <;> omega
  simp only [Int.toNat_natCast] at H2
  obtain ⟨d, hd⟩ : ∃ d, widN k = d := ⟨_, rfl⟩
  obtain ⟨L, hL⟩ : ∃ L, Lib.bitLen n = L := ⟨_, rfl⟩
  rw [hL] at hb H2
  rw [hd] at hb H1 hw
  have e1 : ((d : Int) == 0) = false := by rw [beq_eq_false_iff_ne]; omega
  have e2 : ((k : Int) == 6) = false := by rw [beq_eq_false_iff_ne]; omega
  have e3 : ((k : Int) != 6) = true := by rw [bne_iff_ne]; omega
  have e4 : (0 : Int) < d := by omega
  have e5 : 0 < d := by omega
  have e7 : decide ((8 : Int) * d < L) = false := by rw [decide_eq_false_iff_not]; omega
  have e8 : (d : Int) ≤ 8 := by omega
  have e9 : IntKind.i64.wrap (8 * (d : Int)) = 8 * d := IntWalk.i64_in _ (by omega)
  clear hL hd hn hw
  go_enter Try.func64, Try.ntmps64
  go_wp2_with fail
  refine (H1.out _).mono ?_
  rintro e w' ⟨rfl, rfl⟩
  go_wp2_with fail
  refine (H2.out _).mono ?_
  rintro e w' ⟨rfl, rfl⟩
  go_wp2_with fail
  go_ret
  exact ⟨rfl, (Kp.refl _ _).alloc _⟩

theorem be_get (d : Nat) : ∀ n j, j < d → (be d n)[j]? = some (UInt8.ofNat (n / 256 ^ (d - 1 - j) % 256)) := by
  induction d with
  | zero => intro n j h; omega
  | succ d ih =>
    intro n j h
    rw [be]
    by_cases hj : j < d
    · rw [List.getElem?_append_left (by rw [be_len]; exact hj), ih _ _ hj]
      congr 3
      rw [Nat.div_div_eq_div_mul, ← Nat.pow_succ', show (d - 1 - j).succ = d + 1 - 1 - j by omega]
    · have : j = d := by omega
      subst this
      rw [List.getElem?_append_right (by rw [be_len]; omega), be_len]
      simp
theorem take_snoc {α : Type} {l : List α} {j : Nat} {x : α} (h : l[j]? = some x) : l.take (j + 1) = l.take j ++ [x] := by
  rw [List.take_add_one, h]; rfl
theorem shr_byte (n : Nat) (x : Int) (h0 : 0 ≤ x) : (n : Int) / 2 ^ (8 * x).toNat % 256 = ((UInt8.ofNat (n / 256 ^ x.toNat % 256)).toNat : Int) := by
  obtain ⟨m, rfl⟩ : ∃ m : Nat, x = m := ⟨x.toNat, by omega⟩
  have e1 : (8 * (m : Int)).toNat = 8 * m := by omega
  have e2 : (2 : Int) ^ (8 * m) = ((256 ^ m : Nat) : Int) := by
    have : (2 : Nat) ^ (8 * m) = 256 ^ m := by rw [Nat.pow_mul]
    rw [← this]; simp
  rw [e1, e2, Int.toNat_natCast]
  simp
set_option maxHeartbeats 2000000 in
theorem wPut1 (k n : Nat) (h1 : 1 ≤ k) (h2 : k ≤ 4) (hn : n < 256 ^ widN k) {B b : Nat} {l : List UInt8} {w : World} (h : Bd B b l w) (hl : l.length ≤ 10000000) :
    Calls Try.prog 65 #[.pointer (some ⟨b, 0, none⟩), .agg #[.int .i64 k, .int .u64 n, .string ⟨#[]⟩]] w fun e w' => e = .returned (.tuple #[]) ∧ Bd B b (l ++ be (widN k) n) w' ∧ KB B b w w' := by
  have H1 := Lib.hid (fun W => wWidth k h1 h2 W)
  have hw : 1 ≤ widN k ∧ widN k ≤ 8 := by rcases widN_cases h1 h2 with ⟨_, e⟩ | ⟨_, e⟩ | ⟨_, e⟩ | ⟨_, e⟩ <;> omega
  have e2 : ((k : Int) == 6) = false := by rw [beq_eq_false_iff_ne]; omega
  have e3 : ((k : Int) == 5) = false := by rw [beq_eq_false_iff_ne]; omega
  obtain ⟨d, hd⟩ : ∃ d, widN k = d := ⟨_, rfl⟩
  rw [hd] at H1 hw ⊢
  have HB := Lib.hid (Blk.new w [.int .i64 k, .int .u64 n, .string ⟨#[]⟩] 109)
  have hlt := h.lt
  have HD := Lib.hid (h.old ((Kp.refl _ w).alloc (.cells #[.int .i64 k, .int .u64 n, .string ⟨#[]⟩] 109)))
  have HK : Hid (KB B b w _) := KB.old ((Kp.refl _ w).alloc (.cells #[.int .i64 k, .int .u64 n, .string ⟨#[]⟩] 109))
  clear hd hn h
  go_enter Try.func65, Try.ntmps65
  go_wp2_with fail
  refine (H1.out _).mono ?_
  rintro e w' ⟨rfl, rfl⟩
  go_wp2_with fail
  go_loopw [4] (fun i0 wr => ∃ (j : Nat) (x : Int), i0 = .int .i64 x ∧ x + 1 + j = d ∧ -1 ≤ x ∧ Hid (Bd B b (l ++ (be d n).take j) wr ∧ KB B b w wr ∧ Blk wr w.heap.size [.int .i64 k, .int .u64 n, .string ⟨#[]⟩] 109)) (fun i0 _ => (intOf i0 + 1).toNat)
  case atStart => exact ⟨0, _, rfl, by omega, by omega, by rw [List.take_zero, List.append_nil]; exact HD.out, HK.out, HB.out⟩
  case round =>
    obtain ⟨j, x, rfl, hx, hx1, hr⟩ := hrel
    obtain ⟨r1, r2, r3⟩ := hr.out
    have c0 := r3.cell 0 rfl
    have c1 := r3.cell 1 rfl
    have R1 := Lib.hid r1; have R2 := Lib.hid r2; have R3 := Lib.hid r3
    clear r1 r2 r3 hr
    by_cases h0 : 0 ≤ x
    · have e9 : IntKind.i64.wrap (8 * x) = 8 * x := IntWalk.i64_in _ (by omega)
      have hb := R1.out
      have hw := bByte hb (by rw [List.length_append]; have : ((be d n).take j).length ≤ 8 := by rw [List.length_take, be_len]; omega
                              omega) (UInt8.ofNat (n / 256 ^ x.toNat % 256))
      rw [← shr_byte n x h0] at hw
      have hj : (be d n)[j]? = some (UInt8.ofNat (n / 256 ^ x.toNat % 256)) := by rw [be_get d n j (by omega)]; congr 5; omega
      rw [List.append_assoc, ← take_snoc hj] at hw
      have HW := Lib.hid hw
      clear hb hw hj
      go_wp2_with fail
      refine (HW.out).mono ?_
      rintro e w2 ⟨rfl, hb, hk⟩
      have HB2 : Hid (Blk w2 w.heap.size [.int .i64 k, .int .u64 n, .string ⟨#[]⟩] 109) := R3.out.kb hk (by omega) (by decide)
      have HB1 := Lib.hid hb; have HK2 : Hid (KB B b w w2) := R2.out.trans hk
      clear hb hk
      go_wp2_with fail
      go_roundw
      case rel => exact ⟨j + 1, x - 1, rfl, by omega, by omega, HB1.out, HK2.out, HB2.out⟩
      case measure => simp [intOf]; omega
    · have HF : Hid (Bd B b (l ++ be d n) wr) := by
        have := R1.out
        rwa [List.take_of_length_le (by rw [be_len]; omega)] at this
      go_wp2_with fail
      go_end0
      exact ⟨rfl, HF.out, R2.out⟩
end Go.Proofs.Ythjapdjglifopaa
