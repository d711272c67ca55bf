/- Walks of layer 4: fields of fixed sizes put and taken. -/
import Derived.Test.YtlaakhfgidjofaaGreatDoorMSnapNobodyF15
import Derived.Test.YtlaakhfgidjofaaGreatDoorMSnapNobodyF2
import Derived.IntWalk
import Derived.Test.YtlaakhfgidjofaaGreatDoorMSnapNobodyF0
import Derived.Laws.Bits64
namespace Go.Proofs.YtlaakhfgidjofaaGreatDoor
set_option linter.unusedVariables false
set_option linter.unusedSimpArgs false
open Go.RowKit Go.Shelf
def widN (k : Nat) : Nat := if k = 1 then 1 else if k = 2 then 2 else if k = 3 then 4 else if k = 4 then 8 else 0
theorem wWidth (k : Nat) (h1 : 1 ≤ k) (h2 : k ≤ 4) (w : World) : Calls Tryz.prog 98 #[.int .i64 k] w fun e w' => e = .returned (.int .i64 (widN k)) ∧ w = w' := by
  have : k = 1 ∨ k = 2 ∨ k = 3 ∨ k = 4 := by omega
  rcases this with rfl | rfl | rfl | rfl
  all_goals
    go_enter Tryz.func98, Tryz.ntmps98
    go_wp2
    go_ret
    exact ⟨rfl, rfl⟩
theorem widN_cases {k : Nat} (h1 : 1 ≤ k) (h2 : k ≤ 4) : (k = 1 ∧ widN k = 1) ∨ (k = 2 ∧ widN k = 2) ∨ (k = 3 ∧ widN k = 4) ∨ (k = 4 ∧ widN k = 8) := by
  have : k = 1 ∨ k = 2 ∨ k = 3 ∨ k = 4 := by omega
  rcases this with rfl | rfl | rfl | rfl <;> simp [widN]
set_option maxHeartbeats 2000000 in
theorem wCheck (k n : Nat) (h1 : 1 ≤ k) (h2 : k ≤ 4) (hn : n < 256 ^ widN k) (w : World) : Calls Tryz.prog 52 #[.agg #[.int .i64 k, .int .u64 n, .string ⟨#[]⟩]] w fun e w' => e = .returned (.int .i64 0) ∧ Kp none' w w' := by
  have H1 := Lib.hid (fun W => wWidth k h1 h2 W)
  have hm : n < 18446744073709551616 := by
    rcases widN_cases h1 h2 with ⟨_, e⟩ | ⟨_, e⟩ | ⟨_, e⟩ | ⟨_, e⟩ <;> rw [e] at hn <;> simp at hn <;> omega
  have H2 := Lib.hid (fun W => Tryz.bits_Len64 n W (by omega) (by omega))
  have hb : ((Lib.bitLen n : Nat) : Int) ≤ 8 * (widN k : Int) := by
    rcases widN_cases h1 h2 with ⟨_, e⟩ | ⟨_, e⟩ | ⟨_, e⟩ | ⟨_, e⟩ <;> rw [e] at hn ⊢ <;> simp at hn
    · have := Lib.bitLen_le n 8 (by omega) (by omega); omega
    · have := Lib.bitLen_le n 16 (by omega) (by omega); omega
    · have := Lib.bitLen_le n 32 (by omega) (by omega); omega
    · have := Lib.bitLen_le n 64 (by omega) (by omega); omega
  have hw : 1 ≤ widN k ∧ widN k ≤ 8 := by rcases widN_cases h1 h2 with ⟨_, e⟩ | ⟨_, e⟩ | ⟨_, e⟩ | ⟨_, e⟩ <;> omega
  simp only [Int.toNat_natCast] at H2
  obtain ⟨d, hd⟩ : ∃ d, widN k = d := ⟨_, rfl⟩
  obtain ⟨L, hL⟩ : ∃ L, Lib.bitLen n = L := ⟨_, rfl⟩
  rw [hL] at hb H2
  rw [hd] at hb H1 hw
  have e1 : ((d : Int) == 0) = false := by rw [beq_eq_false_iff_ne]; omega
  have e2 : ((k : Int) == 6) = false := by rw [beq_eq_false_iff_ne]; omega
  have e3 : ((k : Int) != 6) = true := by rw [bne_iff_ne]; omega
  have e4 : (0 : Int) < d := by omega
  have e5 : 0 < d := by omega
  have e7 : decide ((8 : Int) * d < L) = false := by rw [decide_eq_false_iff_not]; omega
  have e8 : (d : Int) ≤ 8 := by omega
  have e9 : IntKind.i64.wrap (8 * (d : Int)) = 8 * d := IntWalk.i64_in _ (by omega)
  clear hL hd hn hw
  go_enter Tryz.func52, Tryz.ntmps52
  go_wp2_with fail
  refine (H1.out _).mono ?_
  rintro e w' ⟨rfl, rfl⟩
  go_wp2_with fail
  refine (H2.out _).mono ?_
  rintro e w' ⟨rfl, rfl⟩
  go_wp2_with fail
  go_ret
  exact ⟨rfl, (Kp.refl _ _).alloc _⟩
theorem be_get (d : Nat) : ∀ n j, j < d → (be d n)[j]? = some (UInt8.ofNat (n / 256 ^ (d - 1 - j) % 256)) := by
  induction d with
  | zero => intro n j h; omega
  | succ d ih =>
    intro n j h
    rw [be]
    by_cases hj : j < d
    · rw [List.getElem?_append_left (by rw [be_len]; exact hj), ih _ _ hj]
      congr 3
      rw [Nat.div_div_eq_div_mul, ← Nat.pow_succ', show (d - 1 - j).succ = d + 1 - 1 - j by omega]
    · have : j = d := by omega
      subst this
      rw [List.getElem?_append_right (by rw [be_len]; omega), be_len]
      simp
theorem take_snoc {α : Type} {l : List α} {j : Nat} {x : α} (h : l[j]? = some x) : l.take (j + 1) = l.take j ++ [x] := by
  rw [List.take_add_one, h]; rfl
theorem shr_byte (n : Nat) (x : Int) (h0 : 0 ≤ x) : (n : Int) / 2 ^ (8 * x).toNat % 256 = ((UInt8.ofNat (n / 256 ^ x.toNat % 256)).toNat : Int) := by
  obtain ⟨m, rfl⟩ : ∃ m : Nat, x = m := ⟨x.toNat, by omega⟩
  have e1 : (8 * (m : Int)).toNat = 8 * m := by omega
  have e2 : (2 : Int) ^ (8 * m) = ((256 ^ m : Nat) : Int) := by
    have : (2 : Nat) ^ (8 * m) = 256 ^ m := by rw [Nat.pow_mul]
    rw [← this]; simp
  rw [e1, e2, Int.toNat_natCast]
  simp
set_option maxHeartbeats 2000000 in
theorem wPut1 (k n : Nat) (h1 : 1 ≤ k) (h2 : k ≤ 4) (hn : n < 256 ^ widN k) {B b : Nat} {l : List UInt8} {w : World} (h : Bd B b l w) (hl : l.length ≤ 10000000) :
    Calls Tryz.prog 53 #[.pointer (some ⟨b, 0, none⟩), .agg #[.int .i64 k, .int .u64 n, .string ⟨#[]⟩]] w fun e w' => e = .returned (.tuple #[]) ∧ Bd B b (l ++ be (widN k) n) w' ∧ KB B b w w' := by
  have H1 := Lib.hid (fun W => wWidth k h1 h2 W)
  have hw : 1 ≤ widN k ∧ widN k ≤ 8 := by rcases widN_cases h1 h2 with ⟨_, e⟩ | ⟨_, e⟩ | ⟨_, e⟩ | ⟨_, e⟩ <;> omega
  have e2 : ((k : Int) == 6) = false := by rw [beq_eq_false_iff_ne]; omega
  have e3 : ((k : Int) == 5) = false := by rw [beq_eq_false_iff_ne]; omega
  obtain ⟨d, hd⟩ : ∃ d, widN k = d := ⟨_, rfl⟩
  rw [hd] at H1 hw ⊢
  have HB := Lib.hid (Blk.new w [.int .i64 k, .int .u64 n, .string ⟨#[]⟩] 59)
  have hlt := h.lt
  have HD := Lib.hid (h.old ((Kp.refl _ w).alloc (.cells #[.int .i64 k, .int .u64 n, .string ⟨#[]⟩] 59)))
  have HK : Hid (KB B b w _) := KB.old ((Kp.refl _ w).alloc (.cells #[.int .i64 k, .int .u64 n, .string ⟨#[]⟩] 59))
  clear hd hn h
  go_enter Tryz.func53, Tryz.ntmps53
  go_wp2_with fail
  refine (H1.out _).mono ?_
  rintro e w' ⟨rfl, rfl⟩
  go_wp2_with fail
  go_loopw [4] (fun i0 wr => ∃ (j : Nat) (x : Int), i0 = .int .i64 x ∧ x + 1 + j = d ∧ -1 ≤ x ∧ Hid (Bd B b (l ++ (be d n).take j) wr ∧ KB B b w wr ∧ Blk wr w.heap.size [.int .i64 k, .int .u64 n, .string ⟨#[]⟩] 59)) (fun i0 _ => (intOf i0 + 1).toNat)
  case atStart => exact ⟨0, _, rfl, by omega, by omega, by rw [List.take_zero, List.append_nil]; exact HD.out, HK.out, HB.out⟩
  case round =>
    obtain ⟨j, x, rfl, hx, hx1, hr⟩ := hrel
    obtain ⟨r1, r2, r3⟩ := hr.out
    have c0 := r3.cell 0 rfl
    have c1 := r3.cell 1 rfl
    have R1 := Lib.hid r1; have R2 := Lib.hid r2; have R3 := Lib.hid r3
    clear r1 r2 r3 hr
    by_cases h0 : 0 ≤ x
    · have e9 : IntKind.i64.wrap (8 * x) = 8 * x := IntWalk.i64_in _ (by omega)
      have hb := R1.out
      have hw := bByte hb (by rw [List.length_append]; have : ((be d n).take j).length ≤ 8 := by rw [List.length_take, be_len]; omega
                              omega) (UInt8.ofNat (n / 256 ^ x.toNat % 256))
      rw [← shr_byte n x h0] at hw
      have hj : (be d n)[j]? = some (UInt8.ofNat (n / 256 ^ x.toNat % 256)) := by rw [be_get d n j (by omega)]; congr 5; omega
      rw [List.append_assoc, ← take_snoc hj] at hw
      have HW := Lib.hid hw
      clear hb hw hj
      go_wp2_with fail
      refine (HW.out).mono ?_
      rintro e w2 ⟨rfl, hb, hk⟩
      have HB2 : Hid (Blk w2 w.heap.size [.int .i64 k, .int .u64 n, .string ⟨#[]⟩] 59) := R3.out.kb hk (by omega) (by decide)
      have HB1 := Lib.hid hb; have HK2 : Hid (KB B b w w2) := R2.out.trans hk
      clear hb hk
      go_wp2_with fail
      go_roundw
      case rel => exact ⟨j + 1, x - 1, rfl, by omega, by omega, HB1.out, HK2.out, HB2.out⟩
      case measure => simp [intOf]; omega
    · have HF : Hid (Bd B b (l ++ be d n) wr) := by
        have := R1.out
        rwa [List.take_of_length_le (by rw [be_len]; omega)] at this
      go_wp2_with fail
      go_end0
      exact ⟨rfl, HF.out, R2.out⟩

theorem widN_le (k : Nat) : widN k ≤ 8 := by unfold widN; split; omega; split; omega; split; omega; split <;> omega

def vbF : Nat → Nat → List UInt8
  | 0, n => [UInt8.ofNat n]
  | f + 1, n => if n < 128 then [UInt8.ofNat n] else UInt8.ofNat (n % 128 + 128) :: vbF f (n / 128)
def vb (n : Nat) : List UInt8 := vbF 9 n
theorem vbF_low (f : Nat) {n : Nat} (h : n < 128) : vbF f n = [UInt8.ofNat n] := by
  cases f with
  | zero => rfl
  | succ f => rw [vbF, if_pos h]
theorem vbF_high (f : Nat) {n : Nat} (h : ¬ n < 128) : vbF (f + 1) n = UInt8.ofNat (n % 128 + 128) :: vbF f (n / 128) := by rw [vbF, if_neg h]
theorem vbF_len (f : Nat) : ∀ n, 1 ≤ (vbF f n).length ∧ (vbF f n).length ≤ f + 1 := by
  induction f with
  | zero => intro n; simp [vbF]
  | succ f ih =>
    intro n
    by_cases h : n < 128
    · rw [vbF_low _ h]; simp
    · rw [vbF_high f h]; have := ih (n / 128); simp; omega
theorem vb_len (n : Nat) : 1 ≤ (vb n).length ∧ (vb n).length ≤ 10 := vbF_len 9 n
inductive Fd
  | wrd (n : Nat)
  | var (n : Nat)
  | txt (s : ByteArray)
def fdB : Fd → List UInt8
  | .wrd n => be 4 n
  | .var n => vb n
  | .txt s => vb s.size ++ bl s
def fdK : Fd → Nat
  | .wrd _ => 3
  | .var _ => 5
  | .txt _ => 6
def fdN : Fd → Nat
  | .wrd n => n
  | .var n => n
  | .txt _ => 0
def fdS : Fd → ByteArray
  | .wrd _ => ⟨#[]⟩
  | .var _ => ⟨#[]⟩
  | .txt s => s
def enFd (f : Fd) : List Value := [.int .i64 (fdK f), .int .u64 (fdN f), .string (fdS f)]
theorem enFd_len (f : Fd) : (enFd f).length = 3 := rfl
def Fd.ok : Fd → Prop
  | .wrd n => n < 4294967296
  | .var n => n < 18446744073709551616
  | .txt s => s.size ≤ 65535
theorem fdN_lt {f : Fd} (h : f.ok) : fdN f < 18446744073709551616 := by
  cases f with
  | wrd n => have : n < 4294967296 := h; show n < _; omega
  | var n => exact h
  | txt s => show 0 < _; omega
theorem fdB_len {f : Fd} (h : f.ok) : 1 ≤ (fdB f).length ∧ (fdB f).length ≤ 65545 := by
  cases f with
  | wrd n => show 1 ≤ (be 4 n).length ∧ _; rw [be_len]; exact ⟨by omega, by show (be 4 n).length ≤ _; rw [be_len]; omega⟩
  | var n => have := vb_len n; show 1 ≤ (vb n).length ∧ (vb n).length ≤ _; omega
  | txt s =>
    have := vb_len s.size
    have h : s.size ≤ 65535 := h
    show 1 ≤ (vb s.size ++ bl s).length ∧ (vb s.size ++ bl s).length ≤ _
    rw [List.length_append, bl_len]; omega
def fdsB (l : List Fd) : List UInt8 := l.flatMap fdB
theorem fdsB_snoc (l : List Fd) (f : Fd) : fdsB (l ++ [f]) = fdsB l ++ fdB f := by simp [fdsB]
theorem fdsB_take_le (l : List Fd) (j : Nat) : (fdsB (l.take j)).length ≤ (fdsB l).length := by
  have : fdsB l = fdsB (l.take j) ++ fdsB (l.drop j) := by unfold fdsB; rw [← List.flatMap_append, List.take_append_drop]
  rw [this, List.length_append]; omega
def nsF (l : List Nat) : List Fd := .var l.length :: l.map Fd.var
structure Wt where
  rank : Nat
  flow : Nat
  id : Nat
  len : Nat
def Wt.ok (x : Wt) : Prop := x.rank < 18446744073709551616 ∧ x.flow < 4294967296 ∧ x.id < 4294967296 ∧ x.len < 18446744073709551616
def enWt (x : Wt) : List Value := [.int .u64 x.rank, .int .u32 x.flow, .int .u32 x.id, .int .u64 x.len]
theorem enWt_len (x : Wt) : (enWt x).length = 4 := rfl
def wtF (x : Wt) : List Fd := [.var x.rank, .wrd x.flow, .wrd x.id, .var x.len]
def quF (q : List Wt) : List Fd := .var q.length :: q.flatMap wtF
structure StS where
  now : Nat
  tok : Nat
  virt : Nat
  ref : List Nat
  tags : List Nat
  bounds : List Nat
  qs : List (List Wt)
def u64 (n : Nat) : Prop := n < 18446744073709551616
structure StS.ok (s : StS) : Prop where
  now : u64 s.now
  tok : u64 s.tok
  virt : u64 s.virt
  len : s.ref.length = 32
  ref : ∀ x ∈ s.ref, u64 x
  tags : ∀ x ∈ s.tags, u64 x
  bounds : ∀ x ∈ s.bounds, u64 x
  qs : ∀ q ∈ s.qs, ∀ x ∈ q, x.ok
def stF (s : StS) : List Fd := [.var s.now, .var s.tok, .var s.virt] ++ nsF s.ref ++ nsF s.tags ++ nsF s.bounds ++ [.var s.qs.length] ++ s.qs.flatMap quF

theorem aWidth0 (k : Nat) (h : k = 5 ∨ k = 6) (w : World) : Calls Tryz.prog 98 #[.int .i64 k] w fun e w' => e = .returned (.int .i64 0) ∧ w = w' := by
  rcases h with rfl | rfl
  all_goals
    go_enter Tryz.func98, Tryz.ntmps98
    go_wp2
    go_ret
    exact ⟨rfl, rfl⟩
set_option maxHeartbeats 2000000 in
theorem aCheck (f : Fd) (hf : f.ok) (w : World) : Calls Tryz.prog 52 #[.agg (enFd f).toArray] w fun e w' => e = .returned (.int .i64 0) ∧ Kp none' w w' := by
  cases f with
  | wrd n => exact wCheck 3 n (by decide) (by decide) (by simpa [widN, Fd.ok] using hf) w
  | var n =>
    have H1 : Hid (∀ W, Calls Tryz.prog 98 #[.int .i64 5] W fun e w' => e = .returned (.int .i64 0) ∧ W = w') := fun W => aWidth0 5 (.inl rfl) W
    show Calls _ _ #[.agg #[.int .i64 5, .int .u64 n, .string ⟨#[]⟩]] _ _
    clear hf
    go_enter Tryz.func52, Tryz.ntmps52
    go_wp2_with fail
    refine (H1.out _).mono ?_
    rintro e w' ⟨rfl, rfl⟩
    go_wp2_with fail
    go_ret
    exact ⟨rfl, (Kp.refl _ _).alloc _⟩
  | txt s =>
    have H1 : Hid (∀ W, Calls Tryz.prog 98 #[.int .i64 6] W fun e w' => e = .returned (.int .i64 0) ∧ W = w') := fun W => aWidth0 6 (.inr rfl) W
    have hs : s.size ≤ 65535 := hf
    show Calls _ _ #[.agg #[.int .i64 6, .int .u64 0, .string s]] _ _
    clear hf
    go_enter Tryz.func52, Tryz.ntmps52
    go_wp2_with fail
    refine (H1.out _).mono ?_
    rintro e w' ⟨rfl, rfl⟩
    go_wp2_with fail
    go_ret
    exact ⟨rfl, (Kp.refl _ _).alloc _⟩
theorem vb_app {n f : Nat} {pre k : List UInt8} (h : pre ++ vbF (f + 1) n = k) (hn : ¬ n < 128) : pre ++ [UInt8.ofNat (n % 128 + 128)] ++ vbF f (n / 128) = k := by
  rw [vbF_high f hn] at h; rw [List.append_assoc]; exact h
set_option maxHeartbeats 2000000 in
set_option maxRecDepth 100000 in
theorem aVar (n : Nat) (hn : n < 18446744073709551616) {B b : Nat} {l : List UInt8} {w : World} (h : Bd B b l w) (hl : l.length ≤ 10000000) :
    Calls Tryz.prog 100 #[.pointer (some ⟨b, 0, none⟩), .int .u64 n] w fun e w' => e = .returned (.tuple #[]) ∧ Bd B b (l ++ vb n) w' ∧ KB B b w w' := by
  have HD := Lib.hid h
  clear h
  go_enter Tryz.func100, Tryz.ntmps100
  go_wp2_with fail
  go_loopw [1] (fun i wr => ∃ (m f : Nat) (pre : List UInt8), i = .int .u64 m ∧ f ≤ 9 ∧ m < 2 * 128 ^ f ∧ Hid (pre.length + f = 9 ∧ pre ++ vbF f m = vb n ∧ Bd B b (l ++ pre) wr ∧ KB B b w wr)) (fun i _ => (intOf i).toNat)
  case atStart => exact ⟨n, 9, [], rfl, by omega, by omega, rfl, rfl, by rw [List.append_nil]; exact HD.out, KB.refl _ _ _⟩
  case round =>
    obtain ⟨m, f, pre, rfl, hf, hm, hr⟩ := hrel
    obtain ⟨r0, r1, r2, r3⟩ := hr.out
    have hm64 : m < 18446744073709551616 := by
      have : 128 ^ f ≤ 128 ^ 9 := Nat.pow_le_pow_right (by decide) hf
      have e : (128 : Nat) ^ 9 = 9223372036854775808 := by decide
      omega
    by_cases hlt : m < 128
    · have hx : (UInt8.ofNat m).toNat = m := by simp; omega
      have hb := bByte r2 (by rw [List.length_append]; omega) (UInt8.ofNat m)
      rw [hx, List.append_assoc, ← vbF_low f hlt, r1] at hb
      have HB := Lib.hid hb
      have R3 := Lib.hid r3
      clear hb r0 r1 r2 r3 hr hm hx
      go_wp2_with fail
      refine (HB.out).mono ?_
      rintro e w' ⟨rfl, b1, k1⟩
      go_wp2_with fail
      go_end0
      exact ⟨rfl, b1, R3.out.trans k1⟩
    · obtain ⟨f, rfl⟩ : ∃ g, f = g + 1 := by
        cases f with
        | zero => simp at hm; omega
        | succ f => exact ⟨f, rfl⟩
      have hx : (UInt8.ofNat (m % 128 + 128)).toNat = m % 128 + 128 := by simp; omega
      have hb := bByte r2 (by rw [List.length_append]; omega) (UInt8.ofNat (m % 128 + 128))
      rw [hx, List.append_assoc] at hb
      have HB := Lib.hid hb
      have R1 : Hid (pre ++ [UInt8.ofNat (m % 128 + 128)] ++ vbF f (m / 128) = vb n) := vb_app r1 hlt
      have hlen : (pre ++ [UInt8.ofNat (m % 128 + 128)]).length + f = 9 := by simp; omega
      have R3 := Lib.hid r3; have HLen := Lib.hid hlen
      have hd : m / 128 < 2 * 128 ^ f := by rw [Nat.pow_succ] at hm; omega
      clear hb r0 r1 r2 r3 hr hm hx hlen
      go_wp2_with fail
      refine (HB.out).mono ?_
      rintro e w' ⟨rfl, b1, k1⟩
      have HB1 := Lib.hid b1; have HK1 : Hid (KB B b w w') := R3.out.trans k1
      clear b1 k1
      go_wp2_with fail
      go_roundw
      case rel => exact ⟨m / 128, f, pre ++ [UInt8.ofNat (m % 128 + 128)], by go_num, by omega, hd, HLen.out, R1.out, HB1.out, HK1.out⟩
      case measure => simp [intOf]; omega

set_option maxHeartbeats 2000000 in
theorem aPut1 (f : Fd) (hf : f.ok) {B b : Nat} {l : List UInt8} {w : World} (h : Bd B b l w) (hl : l.length ≤ 9000000) :
    Calls Tryz.prog 53 #[.pointer (some ⟨b, 0, none⟩), .agg (enFd f).toArray] w fun e w' => e = .returned (.tuple #[]) ∧ Bd B b (l ++ fdB f) w' ∧ KB B b w w' := by
  cases f with
  | wrd n => exact wPut1 3 n (by decide) (by decide) (by simpa [widN, Fd.ok] using hf) h (by omega)
  | var n =>
    have HV := Lib.hid (fun (W : World) (d : Bd B b l W) => aVar n hf d (by omega))
    have HD := Lib.hid (h.old ((Kp.refl _ w).alloc (.cells #[.int .i64 5, .int .u64 n, .string ⟨#[]⟩] 59)))
    have HK : Hid (KB B b w _) := KB.old ((Kp.refl _ w).alloc (.cells #[.int .i64 5, .int .u64 n, .string ⟨#[]⟩] 59))
    show Calls _ _ #[_, .agg #[.int .i64 5, .int .u64 n, .string ⟨#[]⟩]] _ fun e w' => e = .returned (.tuple #[]) ∧ Bd B b (l ++ vb n) w' ∧ KB B b w w'
    clear hf h
    go_enter Tryz.func53, Tryz.ntmps53
    go_wp2_with fail
    refine (HV.out _ HD.out).mono ?_
    rintro e w' ⟨rfl, b1, k1⟩
    go_wp2_with fail
    go_end0
    exact ⟨rfl, b1, HK.out.trans k1⟩
  | txt s =>
    have hs : s.size ≤ 65535 := hf
    have hvl := (vb_len s.size).2
    have HV := Lib.hid (fun (W : World) (d : Bd B b l W) => aVar s.size (by omega) d (by omega))
    have HS := Lib.hid (fun (W : World) (d : Bd B b (l ++ vb s.size) W) => bString d s (by rw [List.length_append]; omega))
    have HD := Lib.hid (h.old ((Kp.refl _ w).alloc (.cells #[.int .i64 6, .int .u64 0, .string s] 59)))
    have HK : Hid (KB B b w _) := KB.old ((Kp.refl _ w).alloc (.cells #[.int .i64 6, .int .u64 0, .string s] 59))
    have HB := Lib.hid (Blk.new w [.int .i64 6, .int .u64 0, .string s] 59)
    have hlt := h.lt
    show Calls _ _ #[_, .agg #[.int .i64 6, .int .u64 0, .string s]] _ fun e w' => e = .returned (.tuple #[]) ∧ Bd B b (l ++ (vb s.size ++ bl s)) w' ∧ KB B b w w'
    rw [← List.append_assoc]
    clear hf h hvl
    go_enter Tryz.func53, Tryz.ntmps53
    go_wp2_with fail
    refine (HV.out _ HD.out).mono ?_
    rintro e w1 ⟨rfl, b1, k1⟩
    have HB1 : Hid (Blk w1 w.heap.size [.int .i64 6, .int .u64 0, .string s] 59) := HB.out.kb k1 (by omega) (by decide)
    have c2 := HB1.out.cell 2 rfl
    have HD1 := Lib.hid b1; have HK1 : Hid (KB B b w w1) := HK.out.trans k1
    clear b1 k1
    go_wp2_with fail
    refine (HS.out _ HD1.out).mono ?_
    rintro e w2 ⟨rfl, b2, k2⟩
    go_wp2_with fail
    go_end0
    exact ⟨rfl, b2, HK1.out.trans k2⟩
theorem fdsB_len {l : List Fd} (h : ∀ f ∈ l, f.ok) : l.length ≤ (fdsB l).length := by
  induction l with
  | nil => simp [fdsB]
  | cons f l ih =>
    have := ih (fun g hg => h g (List.mem_cons_of_mem _ hg))
    have h1 := fdB_len (h f (List.mem_cons_self ..))
    show _ ≤ (fdB f ++ fdsB l).length
    rw [List.length_append, List.length_cons]; omega
set_option maxHeartbeats 2000000 in
theorem aPutL (l : List Fd) (hok : ∀ f ∈ l, f.ok) (hn : (fdsB l).length ≤ 9000000) (v : Value) (w : World) (h : Sl w v l.length 3 (l.flatMap enFd)) :
    Calls Tryz.prog 19 #[v] w fun e w' => e = .returned (.tuple #[.string (tx (fdsB l)), .int .i64 0]) ∧ Kp none' w w' := by
  obtain ⟨ao, cap, rfl⟩ : ∃ ao cap, v = .slice ao l.length cap := by obtain ⟨ao, cap, rfl, _⟩ := h.is; exact ⟨_, _, rfl⟩
  have hll := fdsB_len hok
  have HS := Lib.hid h
  have HD := Lib.hid (Bd.new w w.heap.size (Nat.le_refl _))
  have HK := Lib.hid ((Kp.refl none' w).alloc (.cells #[.pointer none, .slice none 0 0] 110))
  clear h
  go_enter Tryz.func19, Tryz.ntmps19
  go_wp2_with fail
  go_loopw [10] (fun i wr => ∃ j : Nat, i = .int .i64 j ∧ j ≤ l.length ∧ Hid (Bd w.heap.size w.heap.size (fdsB (l.take j)) wr ∧ Kp none' w wr)) (fun i _ => l.length - (intOf i).toNat)
  case atStart => exact ⟨0, rfl, by omega, HD.out, HK.out⟩
  case round =>
    obtain ⟨j, rfl, hj, hr⟩ := hrel
    obtain ⟨r1, r2⟩ := hr.out
    have hcl := fdsB_take_le l j
    have hsz := r2.size
    have R1 := Lib.hid r1; have R2 := Lib.hid r2
    clear r1 r2 hr
    by_cases hlt : j < l.length
    · obtain ⟨g, off, cap', e1, hc⟩ := (HS.out.old R2.out).at enFd_len (by decide) j hlt
      injection e1 with e1 _ e3
      subst e1 e3
      have hko := hok l[j] (List.getElem_mem hlt)
      obtain ⟨f, hf⟩ : ∃ f, l[j] = f := ⟨_, rfl⟩
      rw [hf] at hc hko
      have c0 := hc 0 _ rfl
      have c1 := hc 1 _ rfl
      have c2 := hc 2 _ rfl
      simp only [Nat.add_zero] at c0
      have hn64 := fdN_lt hko
      have hC := fun W => aCheck f hko W
      have hW := fun (W : World) (b : Bd w.heap.size w.heap.size (fdsB (l.take j)) W) => aPut1 f hko b (by omega)
      have HT : Hid (fdsB (l.take (j + 1)) = fdsB (l.take j) ++ fdB f) := by
        show _ = _
        rw [List.take_succ_eq_append_getElem hlt, fdsB_snoc, hf]
      have ef : enFd f = [.int .i64 (fdK f), .int .u64 (fdN f), .string (fdS f)] := rfl
      rw [ef] at hC hW
      generalize fdK f = k at *
      generalize fdN f = n at *
      generalize fdS f = s at *
      have HC := Lib.hid hC; have HW := Lib.hid hW
      have HB := Lib.hid (Blk.new wr [.int .i64 k, .int .u64 n, .string s] 59)
      have hk1 := (Kp.refl none' wr).alloc (.cells #[.int .i64 k, .int .u64 n, .string s] 59)
      have HD1 := Lib.hid (R1.out.old hk1); have HK1 := Lib.hid (R2.out.trans hk1)
      clear hc hf hko hk1 hC hW ef hcl
      go_wp2_with fail
      refine (HC.out _).mono ?_
      rintro e w1 ⟨rfl, k1⟩
      have HB2 := Lib.hid (HB.out.kp k1 id)
      have HD2 := Lib.hid (HD1.out.old k1); have HK2 := Lib.hid (HK1.out.trans k1)
      have d0 := HB2.out.cell 0 rfl
      have d1 := HB2.out.cell 1 rfl
      have d2 := HB2.out.cell 2 rfl
      clear k1
      go_wp2_with fail
      refine (HW.out _ HD2.out).mono ?_
      rintro e w2 ⟨rfl, b2, k2⟩
      have HD3 := Lib.hid b2
      have HK3 : Hid (Kp none' w w2) := KB.none HK2.out k2 (Nat.le_refl _) (Nat.le_refl _)
      clear b2 k2
      go_wp2_with fail
      go_roundw
      case rel => exact ⟨j + 1, by go_num, by omega, by rw [HT.out]; exact HD3.out, HK3.out⟩
      case measure => simp [intOf]; omega
    · have HD3 : Hid (Bd w.heap.size w.heap.size (fdsB l) wr) := by
        have := R1.out
        rwa [List.take_of_length_le (by omega)] at this
      clear hcl
      go_wp2_with fail
      refine (bAsk HD3.out hsz).mono ?_
      rintro e w1 ⟨rfl, k1⟩
      have HK1 : Hid (Kp none' w w1) := R2.out.then k1 (fun i hi e => by omega)
      clear k1
      go_wp2_with fail
      go_ret2
      exact ⟨rfl, HK1.out⟩

theorem numB_take (s : ByteArray) (k : Nat) (h : k < s.size) : numB ((bl s).take (k + 1)) = numB ((bl s).take k) * 256 + s[k].toNat := by rw [take_bl1 s k h, numB_snoc]
theorem num_take_lt (s : ByteArray) (k : Nat) : numB ((bl s).take k) < 256 ^ k := by
  have h := num_lt ((bl s).take k)
  have h2 : ((bl s).take k).length ≤ k := List.length_take_le _ _
  exact Nat.lt_of_lt_of_le h (Nat.pow_le_pow_right (by decide) h2)
theorem or_low (n c : Nat) (hn : n < 72057594037927936) (hc : c < 256) : bits BinOp.or IntKind.u64 ((n : Int) * 256) (c : Int) = ((n * 256 + c : Nat) : Int) := by
  have h1 : n * 256 + c = n * 256 ||| c := by
    have := Nat.shiftLeft_add_eq_or_of_lt (i := 8) (b := c) (by simpa using hc) n
    rw [Nat.shiftLeft_eq] at this
    exact this
  have e1 : ((n : Int) * 256) = ((n * 256 : Nat) : Int) := by simp
  rw [h1, e1]
  exact bits_or_u64_nat _ c (by omega) (by omega)
set_option maxHeartbeats 1000000 in
theorem wFixed (s : ByteArray) (d : Nat) (h8 : d ≤ 8) (hs : d ≤ s.size) (hs2 : s.size ≤ 1000000) (w : World) : Calls Tryz.prog 159 #[.string s, .int .i64 d] w fun e w' => e = .returned (.tuple #[.int .u64 (numB ((bl s).take d)), .int .i64 d, .int .i64 0]) ∧ w = w' := by
  have e1 : decide ((s.size : Int) < (d : Int)) = false := by rw [decide_eq_false_iff_not]; omega
  have e2 : decide (s.size < d) = false := by rw [decide_eq_false_iff_not]; omega
  go_enter Tryz.func159, Tryz.ntmps159
  go_wp2
  go_loop [7, 14] (fun n0 i => ∃ (j n : Nat), j ≤ d ∧ i = .int .i64 j ∧ n0 = .int .u64 n ∧ Hid (n = numB ((bl s).take j))) (fun _ i => d - (intOf i).toNat)
  case atStart => exact ⟨0, 0, by omega, rfl, rfl, rfl⟩
  case round =>
    obtain ⟨j, n, hj, rfl, rfl, hn⟩ := hrel
    by_cases hlt : j < d
    · have hjs : j < s.size := by omega
      have hb := num_take_lt s j
      have hb2 : 256 ^ j ≤ 256 ^ 7 := Nat.pow_le_pow_right (by decide) (by omega)
      rw [← hn.out] at hb
      have hnb : (n : Int) < 72057594037927936 := by have : (256 : Nat) ^ 7 = 72057594037927936 := by decide
                                                     omega
      have hc := UInt8.toNat_lt s[j]
      have hor := Lib.hid (or_low n s[j].toNat (by omega) hc)
      have HN : Hid (n * 256 + s[j].toNat = numB ((bl s).take (j + 1))) := by show _ = _; rw [numB_take s j hjs, ← hn.out]
      clear hb hb2
      go_wp2
      rw [hor.out]
      refine ⟨⟨j + 1, n * 256 + s[j].toNat, by omega, by go_num, rfl, HN.out⟩, by simp [intOf]; omega⟩
    · have HN : Hid (n = numB ((bl s).take d)) := by
        have : j = d := by omega
        subst this; exact hn.out
      go_wp2
      go_ret3
      exact ⟨by rw [← HN.out]; rfl, rfl⟩
theorem fld_ret {c k n d : Nat} {W w : World} {T : Array Value} (hb : Blk W c [.int .i64 k, .int .u64 n, .string ⟨#[]⟩] 59) (hk : Kp none' w W) (h2 : T[4]? = some (.pointer (some ⟨c, 0, none⟩))) (h3 : T[5]? = some (.int .i64 d)) (h4 : T[6]? = some (.int .i64 0)) :
    bodyPost Tryz.prog Tryz.f139 (fun e w' => e = .returned (.tuple #[.agg #[.int .i64 k, .int .u64 n, .string ⟨#[]⟩], .int .i64 d, .int .i64 0]) ∧ Kp none' w w') Exit.ret { tmps := T, defers := [] } W := by
  have c0 := hb.cell 0 rfl
  have c1 := hb.cell 1 rfl
  have c2 := hb.cell 2 rfl
  exact bodyPost_ret (v := .tuple #[.agg #[.int .i64 k, .int .u64 n, .string ⟨#[]⟩], .int .i64 d, .int .i64 0]) (by simp [results, Tryz.results139, go_sem, c0, c1, c2, h2, h3, h4]) rfl ⟨rfl, hk⟩
set_option maxHeartbeats 2000000 in
theorem wOne (s : ByteArray) (k : Nat) (h1 : 1 ≤ k) (h2 : k ≤ 4) (hs : widN k ≤ s.size) (hs2 : s.size ≤ 1000000) (w : World) :
    Calls Tryz.prog 139 #[.string s, .int .i64 k] w fun e w' => e = .returned (.tuple #[.agg #[.int .i64 k, .int .u64 (numB ((bl s).take (widN k))), .string ⟨#[]⟩], .int .i64 (widN k), .int .i64 0]) ∧ Kp none' w w' := by
  have H1 := Lib.hid (fun W => wWidth k h1 h2 W)
  have H2 := Lib.hid (fun W => wFixed s (widN k) (widN_le k) hs hs2 W)
  have hw : 1 ≤ widN k ∧ widN k ≤ 8 := by rcases widN_cases h1 h2 with ⟨_, e⟩ | ⟨_, e⟩ | ⟨_, e⟩ | ⟨_, e⟩ <;> omega
  obtain ⟨d, hd⟩ : ∃ d, widN k = d := ⟨_, rfl⟩
  rw [hd] at H1 H2 hw ⊢
  obtain ⟨n, hn⟩ : ∃ n, numB ((bl s).take d) = n := ⟨_, rfl⟩
  rw [hn] at H2 ⊢
  clear hd hn hs
  go_enter Tryz.func139, Tryz.ntmps139
  go_wp2_with fail
  refine (H1.out _).mono ?_
  rintro e w' ⟨rfl, rfl⟩
  go_wp2_with fail
  refine (H1.out _).mono ?_
  rintro e w' ⟨rfl, rfl⟩
  go_wp2_with fail
  refine (H2.out _).mono ?_
  rintro e w' ⟨rfl, rfl⟩
  go_wp2_with fail
  exact fld_ret ((Blk.new w [.int .i64 k, .int .u64 n, .string ⟨#[]⟩] 59).alloc _) (((Kp.refl _ _).alloc _).alloc _) rfl rfl rfl
theorem tFld : SlT Tryz.prog 57 59 (.agg #[.int .i64 0, .int .u64 0, .string ⟨#[]⟩]) 3 32 := ⟨Tryz.underlying57, by kernel_rfl, rfl, by decide⟩
def kinds (l : List Nat) : List Value := l.map fun (k : Nat) => Value.int .i64 (k : Int)
theorem heap_at (w : World) (o : Obj) (n : Nat) (h : n = w.heap.size) : (w.alloc o).heap[n]? = some o := by subst h; exact heap_new w o
end Go.Proofs.YtlaakhfgidjofaaGreatDoor
