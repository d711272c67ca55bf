/- Walks of layer 3: numbers put. -/
import Derived.Test.YtacgabagfdlpeaaGreatDoorDigW
import Derived.Laws.BytesArg
import Derived.Deep.QuietTactic
import Derived.BigQuiet
namespace Go.Proofs.YtacgabagfdlpeaaGreatDoor
set_option linter.unusedVariables false
set_option linter.unusedSimpArgs false
open Go.RowKit

theorem put_len (k : Nat) : ∀ n, n < 10 ^ (k + 1) → (put n).length ≤ k + 1 := by
  induction k with
  | zero => intro n h; rw [put_lt (by simpa using h)]; simp
  | succ k ih =>
    intro n h
    by_cases h1 : n < 10
    · rw [put_lt h1]; simp
    · rw [put_ge h1, List.length_append]
      have := ih (n / 10) (by rw [Nat.pow_succ] at h; omega)
      simp only [List.length_cons, List.length_nil]; omega
theorem put_len20 (n : Nat) (h : n ≤ 18446744073709551615) : (put n).length ≤ 20 := put_len 19 n (by omega)

/-- The cells of bytes. -/
def u8s (l : List UInt8) : List Value := l.map fun c => .int .u8 (c.toNat : Int)
/-- Put's loop: the text's end lies behind place a. -/
def Puts (n N a : Nat) (w wr : World) : Prop := ∃ (C : List Value) (t : List UInt8), Blk wr w.heap.size C 76 ∧ C.length = 20 ∧ C.drop a = u8s t ∧ put n = put N ++ t ∧ a + t.length = 20 ∧ Kp none' w wr

theorem drop_set_cons (C : List Value) (b : Nat) (v : Value) (h : b < C.length) : (C.set b v).drop b = v :: C.drop (b + 1) := by
  apply List.ext_getElem?
  intro i
  rw [List.getElem?_drop]
  cases i with
  | zero => simp [h]
  | succ i => rw [List.getElem?_set_ne (by omega), List.getElem?_cons_succ, List.getElem?_drop]; congr 1; omega
theorem str_nums (l : List UInt8) : strOfNums (l.map fun c => (c.toNat : Int)) = tx l := by
  apply str_ext
  rw [bl_tx]
  show (strOfNums _).data.toList = l
  rw [strOfNums_data, List.map_map]
  conv => rhs; rw [← List.map_id l]
  apply List.map_congr_left
  intro c _
  simp
/-- A part of a block of bytes made a text. -/
theorem conv_u8s {P : Program} (src e dst : TypeId) (hs : P.underlying src = some (.slice e)) (he : P.underlying e = some (.int .u8)) (hd : P.underlying dst = some .string) {w : World} {b off n cap : Nat} {C : List Value} {T : TypeId} (hb : Blk w b C T) (l : List UInt8) (hl : C.drop off = u8s l) (hn : l.length = n) :
    (convert src dst (.slice (some ⟨b, off, none⟩) n cap)).run P w = .ok (.string (tx l)) w := by
  have h := run_convert_bytes_arg (P := P) w src e hs he b off n cap (l.map fun c => (c.toNat : Int)) (by simp [hn]) (fun i hi => by
    have h1 : (C.drop off)[i]? = some (.int .u8 (l[i]'(by omega)).toNat) := by rw [hl]; simp [u8s, hn ▸ hi]
    rw [List.getElem?_drop] at h1
    rw [hb.cell _ h1]
    simp [List.getD, hn ▸ hi]) dst hd
  rw [h, str_nums]

theorem hal20 : Tryz.prog.arrayLen 76 = 20 := by kernel_rfl
theorem hel20 : Tryz.prog.elem 76 = 5 := by kernel_rfl
theorem slice20 (b0 b : Nat) (hb : b < 20) (W : World) : (Instr.sliceAt 76 (.pointer (some ⟨b0, 0, none⟩)) (some (.int .i64 (b : Int))) none none).run Tryz.prog W = .ok (.slice (some ⟨b0, b, none⟩) (20 - b) (20 - b)) W := by
  rw [run_sliceAt_array_l W 76 ⟨b0, 0, none⟩ (by rw [hal20, hel20]; exact Tryz.underlying76) .i64 b (by omega) (by rw [hal20]; omega)]
  rw [hal20, hel20, Tryz.sizeOf5]
  simp [slicedAt]
  rw [if_neg (by omega)]
  unfold Addr.add; split <;> simp_all
set_option maxHeartbeats 1000000 in
theorem dPut (n : Nat) (hn : n ≤ 18446744073709551615) (w : World) : Calls Tryz.prog 12 #[.int .u64 n] w fun e w' => ∃ s, e = .returned (.string s) ∧ bl s = put n ∧ Kp none' w w' := by
  have h20 := put_len20 n hn
  have H20 := Lib.hid h20
  have hal := hal20
  clear h20
  go_enter Tryz.func12, Tryz.ntmps12
  go_wp2
  go_loopw [0, 4] (fun n0 at0 wr => ∃ N a : Nat, n0 = .int .u64 N ∧ at0 = .int .i64 a ∧ a ≤ 20 ∧ N ≤ 18446744073709551615 ∧ Hid (Puts n N a w wr)) (fun _ at0 _ => (intOf at0).toNat)
  case atStart =>
    refine ⟨n, 20, rfl, rfl, by omega, hn, _, [], Blk.new _ (List.replicate 20 (Value.int .u8 0)) _, by simp, by simp [u8s], by simp, by simp, (Kp.refl _ _).alloc _⟩
  case round =>
    obtain ⟨N, a, rfl, rfl, ha, hN, hp⟩ := hrel
    obtain ⟨C, t, hb, hl, hd, h1, h2, hk⟩ := hp.out
    have hpos : 0 < a := by
      have h3 := H20.out
      have h5 : 0 < (put N).length := by
        have h4 := put_ne N
        cases e : put N with
        | nil => exact absurd e h4
        | cons x r => simp
      rw [h1, List.length_append] at h3
      omega
    obtain ⟨b, rfl⟩ : ∃ b, a = b + 1 := ⟨a - 1, by omega⟩
    obtain ⟨v0, hv0⟩ : ∃ v0, C[b]? = some v0 := ⟨_, List.getElem?_eq_getElem (by omega)⟩
    have hc0 := hb.cell b hv0
    clear hv0
    have hf0 := hb.fz b
    have hb2 := hb.set b (.int .u8 (48 + (N : Int) % 10))
    have hd2 : (C.set b (.int .u8 (48 + (N : Int) % 10))).drop b = u8s (digit N :: t) := by
      rw [drop_set_cons _ _ _ (by omega), hd]
      unfold u8s
      rw [List.map_cons, digit_nat]; congr 2
    have hk2 := hk.set (p := ⟨w.heap.size, b, none⟩) (.inr (Nat.le_refl _)) (.int .u8 (48 + (N : Int) % 10))
    by_cases h10 : N < 10
    · have hz : ((N : Int) / 10 == 0) = true := by rw [beq_iff_eq]; omega
      have hcv := conv_u8s 45 5 9 Tryz.underlying45 Tryz.underlying5 Tryz.underlying9 (n := 20 - b) (cap := 20 - b) hb2 (digit N :: t) hd2 (by simp; omega)
      have hsl := slice20 w.heap.size b (by omega)
      have HP := Lib.hid (show bl (tx (digit N :: t)) = put n from by rw [bl_tx, h1, put_lt h10]; rfl)
      have HK := Lib.hid hk2
      clear hk2 hd2 hb2 hk h1 h2 hd hb hl hp
      go_wp2
      go_ret
      exact ⟨_, rfl, HP.out, HK.out⟩
    · have hz : ((N : Int) / 10 == 0) = false := by rw [beq_eq_false_iff_ne]; omega
      have HP : Hid (Puts n (N / 10) b w (wr.setCell ⟨w.heap.size, b, none⟩ (.int .u8 (48 + (N : Int) % 10)))) :=
        ⟨_, digit N :: t, hb2, by simp [hl], hd2, by rw [h1, put_ge h10]; simp, by simp; omega, hk2⟩
      clear hk2 hd2 hb2 hk h1 h2 hd hb hl hp
      go_wp2
      go_roundw
      case rel => exact ⟨N / 10, b, by simp, rfl, by omega, by omega, HP.out⟩
      case measure => simp [intOf]

def signs : ByteArray := ⟨#[48, 49, 50, 51, 52, 53, 54, 55, 56, 57]⟩
theorem sign_at (d : Nat) (h : d < 10) : bl ((⟨#[48, 49, 50, 51, 52, 53, 54, 55, 56, 57]⟩ : ByteArray).extract d (d + 1)) = [digit d] := by
  rw [bl_cut]
  match d, h with
  | 0, _ => rfl
  | 1, _ => rfl
  | 2, _ => rfl
  | 3, _ => rfl
  | 4, _ => rfl
  | 5, _ => rfl
  | 6, _ => rfl
  | 7, _ => rfl
  | 8, _ => rfl
  | 9, _ => rfl
theorem sign_slice (d : Nat) (h : d < 10) (W : World) : (Instr.slice 9 (.string (⟨#[48, 49, 50, 51, 52, 53, 54, 55, 56, 57]⟩ : ByteArray)) (some (.int .i64 (d : Int))) (some (.int .i64 ((d : Int) + 1))) none).run Tryz.prog W = .ok (.string ((⟨#[48, 49, 50, 51, 52, 53, 54, 55, 56, 57]⟩ : ByteArray).extract d (d + 1))) W := by
  rw [run_slice_string W 9 _ .i64 .i64 d ((d : Int) + 1) Tryz.underlying9 (by omega) (by omega) (by show (d : Int) + 1 ≤ 10; omega)]
  simp only [Int.toNat_natCast, show ((d : Int) + 1).toNat = d + 1 from by omega]
theorem cat_run {P : Program} (a b : ByteArray) (h : a.size + b.size ≤ 1000000) (W : World) : (Op.stringOp .add a b).run P W = .ok (.string (a ++ b)) W := run_string_add_sum W a b (by omega)
theorem digit_mod (n : Nat) : digit (n % 10) = digit n := by unfold digit; rw [Nat.mod_mod]

theorem ret_str {a : ByteArray} {l : List UInt8} (h : bl a = l) : Ending.returned (.string a) = .returned (.string (tx l)) := by rw [← h, tx_bl]
theorem bl_app (a b : ByteArray) : bl (a ++ b) = bl a ++ bl b := by simp [bl]

set_option maxHeartbeats 1000000 in
theorem rPut (k : Nat) : ∀ (n : Nat) (w : World), n < 10 ^ (k + 1) → n ≤ 18446744073709551615 → Calls Tryz.prog 14 #[.int .u64 n] w fun e w' => e = .returned (.string (tx (put n))) ∧ ∃ d, w' = w.drewN d := by
  have hlow : ∀ (n : Nat) (w : World), n < 10 → Calls Tryz.prog 14 #[.int .u64 n] w fun e w' => e = .returned (.string (tx (put n))) ∧ ∃ d, w' = w.drewN d := by
    intro n w h
    have hm : (n : Int) % 10 = n := by omega
    have hs := Lib.hid (sign_at n h)
    have hp := Lib.hid (put_lt h)
    go_enter Tryz.func14, Tryz.ntmps14
    go_wp2
    go_ret
    exact ⟨ret_str (by rw [hp.out]; exact hs.out), 0, rfl⟩
  induction k with
  | zero => intro n w h hn; exact hlow n w (by simpa using h)
  | succ k ih =>
    intro n w h hn
    by_cases h10 : n < 10
    · exact hlow n w h10
    · obtain ⟨d, hd, hdn⟩ : ∃ d : Nat, d < 10 ∧ n % 10 = d := ⟨n % 10, Nat.mod_lt _ (by decide), rfl⟩
      have hm : (n : Int) % 10 = d := by omega
      have hq : (n : Int) / 10 = ((n / 10 : Nat) : Int) := by simp
      have hs := Lib.hid (sign_at d hd)
      have hp : Hid (put n = put (n / 10) ++ [digit d]) := by show _ = _; rw [put_ge h10, ← digit_mod n, hdn]
      have hi := fun W => ih (n / 10) W (by rw [Nat.pow_succ] at h; omega) (by omega)
      simp only [← hq] at hi
      have HI := Lib.hid hi
      have hw1 : IntKind.i64.wrap ((d : Int) + 1) = (d : Int) + 1 := by rw [IntKind.wrap_i64]; omega
      have hw2 : (0 : Int) ≤ (d : Int) + 1 := by omega
      have hw3 : ((d : Int) + 1).toNat = d + 1 := by omega
      have hw4 : IntKind.u64.wrap ((n : Int) / 10) = (n : Int) / 10 := by rw [IntKind.wrap_u64]; omega
      clear ih hlow hdn h hq hi
      have hsl := fun W => sign_slice d hd W
      have hl1 := put_len20 (n / 10) (by omega)
      have hct := fun W => cat_run (P := Tryz.prog) (tx (put (n / 10))) ((⟨#[48, 49, 50, 51, 52, 53, 54, 55, 56, 57]⟩ : ByteArray).extract d (d + 1)) (by
        have h2 := congrArg List.length hs.out
        rw [bl_len] at h2
        rw [tx_size, h2]; simp; omega) W
      clear hl1
      go_enter Tryz.func14, Tryz.ntmps14
      go_wp2
      go_quiet ((go_at_call 14; exact quiet1 (HI.out _)))
      go_wp2
      go_ret
      exact ⟨ret_str (by rw [hp.out, bl_app, bl_tx, hs.out]), _, rfl⟩
end Go.Proofs.YtacgabagfdlpeaaGreatDoor
