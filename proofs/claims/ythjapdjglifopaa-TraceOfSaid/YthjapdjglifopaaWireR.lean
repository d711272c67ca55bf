/- Walks of layer 4, the document's: fields of fixed sizes put. -/
import Derived.Test.YthjapdjglifopaaWireX
import Derived.IntWalk
import Derived.RegionTactic
import Derived.ChangeAlike
import Derived.Deep.RegionHeld3
namespace Go.Proofs.Ythjapdjglifopaa
set_option linter.unusedVariables false
set_option linter.unusedSimpArgs false
open Go.RowKit Go.Shelf

set_option maxHeartbeats 1000000 in
theorem rBytes (k : Nat) (h1 : 1 ≤ k) (h2 : k ≤ 4) (w : World) : Calls Try.prog 81 #[.int .i64 k] w fun e w' => e = .returned (.int .i64 (widN k)) ∧ Kp none' w w' := by
  have : k = 1 ∨ k = 2 ∨ k = 3 ∨ k = 4 := by omega
  rcases this with rfl | rfl | rfl | rfl
  all_goals
    go_enter Try.func81, Try.ntmps81
    go_wp2
    go_ret
    exact ⟨rfl, (Kp.refl _ _).alloc _⟩

theorem one_conv (c : UInt8) (W : World) : (convert 104 9 (.slice (some ⟨W.heap.size, 0, none⟩) 1 1)).run Try.prog (W.alloc (.cells #[.int .u8 c.toNat] 5)) = .ok (.string (tx [c])) (W.alloc (.cells #[.int .u8 c.toNat] 5)) :=
  conv_u8s 104 5 9 Try.underlying104 Try.underlying5 Try.underlying9 (Blk.new W [.int .u8 c.toNat] 5) [c] rfl rfl
theorem one_convD (c : UInt8) (W : World) : (convert 104 9 (.slice (some ⟨W.heap.size, 0, none⟩) 1 1)).run Try.prog (W.alloc (.cells #[.int .u8 c.toNat] 5)).drew = .ok (.string (tx [c])) (W.alloc (.cells #[.int .u8 c.toNat] 5)).drew :=
  conv_u8s 104 5 9 Try.underlying104 Try.underlying5 Try.underlying9 (Blk.new W [.int .u8 c.toNat] 5).drew [c] rfl rfl
set_option maxRecDepth 100000 in
set_option maxHeartbeats 2000000 in
theorem rHigh (d : Nat) : ∀ (n : Nat) (w : World), d ≤ 8 → n < 18446744073709551616 → Calls Try.prog 83 #[.int .u64 n, .int .i64 d] w fun e w' => e = .returned (.string (tx (be d n))) ∧ Kp none' w w' := by
  induction d with
  | zero =>
    intro n w hd hn
    go_enter Try.func83, Try.ntmps83
    go_wp2
    go_ret
    exact ⟨rfl, Kp.refl _ _⟩
  | succ d ih =>
    intro n w hd hn
    have HI := Lib.hid (fun W => ih (n / 256) W (by omega) (by omega))
    have e1 : ((d + 1 : Nat) : Int) = (d : Int) + 1 := by omega
    have e0 : (((d : Int) + 1) == 0) = false := by rw [beq_eq_false_iff_ne]; omega
    have e2 : ((n / 256 : Nat) : Int) = (n : Int) / 256 := by omega
    rw [e1]
    rw [e2] at HI
    obtain ⟨c, hc⟩ : ∃ c, UInt8.ofNat (n % 256) = c := ⟨_, rfl⟩
    have h3 : IntKind.u8.wrap ((n : Int).tmod 256) = (c.toNat : Int) := by
      rw [← hc, Int.tmod_eq_emod_of_nonneg (by omega), IntKind.wrap_u8]
      simp
    have h1 : IntKind.u64.wrap ((n : Int) / 256) = (n : Int) / 256 := by rw [IntKind.wrap_u64]; omega
    have h2 : IntKind.i64.wrap (d : Int) = d := IntWalk.i64_in _ (by omega)
    have hcv := one_conv c; have hcvd := one_convD c
    have hct := cat_run (P := Try.prog) (tx (be d (n / 256))) (tx [c]) (by rw [tx_size, tx_size, be_len]; simp; omega)
    have HR : Hid (tx (be d (n / 256)) ++ tx [c] = tx (be (d + 1) n)) := by show _ = _; rw [← hc]; apply str_ext; rw [bl_app, bl_tx, bl_tx, bl_tx]; rfl
    clear e1 e2 ih hc
    go_enter Try.func83, Try.ntmps83
    go_wp2
    go_region_with (go_at_call 83; refine (HI.out _).mono ?_; rintro e w1 ⟨rfl, k1⟩; (try (have hcw := conv_u8s (P := Try.prog) 104 5 9 Try.underlying104 Try.underlying5 Try.underlying9 (off := 0) (n := 1) (cap := 1) (((Blk.new w [.int .u8 c.toNat] 5).drew).kp k1 id) [c] rfl rfl)); have K1 := Lib.hid (((Kp.refl none' w).alloc (.cells #[.int .u8 c.toNat] 5)).drew); have K2 := Lib.hid k1; clear k1)
    all_goals
      go_wp2
      go_ret
      first
        | exact ⟨ret_strs HR.out, ((Kp.refl none' w).drew.trans K2.out).alloc _⟩
        | exact ⟨ret_strs HR.out, K1.out.trans K2.out⟩

theorem div_pow (d : Nat) (n : Nat) (h : n < 256 ^ d) : n / 256 ^ d = 0 := Nat.div_eq_of_lt h
set_option maxHeartbeats 2000000 in
theorem rOneF (k n : Nat) (h1 : 1 ≤ k) (h2 : k ≤ 4) (hn : n < 256 ^ widN k) (w : World) : Calls Try.prog 78 #[.agg #[.int .i64 k, .int .u64 n, .string ⟨#[]⟩]] w fun e w' => e = .returned (.tuple #[.string (tx (be (widN k) n)), .int .i64 0]) ∧ Kp none' w w' := by
  have hn64 := okF_lt (f := (k, n)) ⟨h1, h2, hn⟩
  have HB := Lib.hid (fun W => rBytes k h1 h2 W)
  have HH := Lib.hid (fun W => rHigh (widN k) n W (widN_le k) hn64)
  have hw := widN_le k
  have hw1 : 1 ≤ widN k := by rcases widN_cases h1 h2 with ⟨_, e⟩ | ⟨_, e⟩ | ⟨_, e⟩ | ⟨_, e⟩ <;> omega
  obtain ⟨d, hd⟩ : ∃ d, widN k = d := ⟨_, rfl⟩
  rw [hd] at HB HH hw hw1 hn ⊢
  have HZ := Lib.hid (div_pow d n hn)
  have e1 : decide ((k : Int) < 1) = false := by rw [decide_eq_false_iff_not]; omega
  have e2 : decide ((6 : Int) < k) = false := by rw [decide_eq_false_iff_not]; omega
  have e3 : ((k : Int) == 6) = false := by rw [beq_eq_false_iff_ne]; omega
  have e4 : ((k : Int) == 5) = false := by rw [beq_eq_false_iff_ne]; omega
  have e5 : ((k : Int) != 6) = true := by rw [bne_iff_ne]; omega
  have HBK := Lib.hid (Blk.new w [.int .i64 k, .int .u64 n, .string ⟨#[]⟩] 109)
  have HK := Lib.hid ((Kp.refl none' w).alloc (.cells #[.int .i64 k, .int .u64 n, .string ⟨#[]⟩] 109))
  clear hd hn
  go_enter Try.func78, Try.ntmps78
  go_wp2_with fail
  refine (HB.out _).mono ?_
  rintro e w1 ⟨rfl, k1⟩
  have HB1 := Lib.hid (HBK.out.kp k1 id); have HK1 := Lib.hid (HK.out.trans k1)
  have c0 := HB1.out.cell 0 rfl
  have c1 := HB1.out.cell 1 rfl
  have c2 := HB1.out.cell 2 rfl
  clear k1
  go_wp2_with fail
  go_loop [5, 6] (fun l0 i0 => ∃ j m : Nat, i0 = .int .i64 j ∧ j ≤ d ∧ l0 = .int .u64 m ∧ m < 18446744073709551616 ∧ Hid (m = n / 256 ^ j)) (fun _ i0 => d - (intOf i0).toNat)
  case atStart => exact ⟨0, n, rfl, by omega, rfl, hn64, by simp [Hid]⟩
  case round =>
    obtain ⟨j, m, rfl, hj, rfl, hm, hmj⟩ := hrel
    by_cases hlt : j < d
    · have HM : Hid (m / 256 = n / 256 ^ (j + 1)) := by show _ = _; rw [hmj.out, Nat.div_div_eq_div_mul, Nat.pow_succ]
      go_wp2
      go_round
      case rel => exact ⟨j + 1, m / 256, by go_num, by omega, by simp, by omega, HM.out⟩
      case measure => simp [intOf]; omega
    · have hj2 : j = d := by omega
      subst hj2
      have hm0 : m = 0 := by rw [hmj.out]; exact HZ.out
      subst hm0
      go_wp2_with fail
      refine (HH.out _).mono ?_
      rintro e w2 ⟨rfl, k2⟩
      have HK2 := Lib.hid (HK1.out.trans k2)
      clear k2
      go_wp2_with fail
      go_ret2
      exact ⟨rfl, HK2.out⟩

set_option maxHeartbeats 2000000 in
theorem rPutL (l : List (Nat × Nat)) (hok : ∀ f ∈ l, okF f) (hn : l.length ≤ 100) (v : Value) (w : World) (h : Sl w v l.length 3 (l.flatMap enF)) :
    Calls Try.prog 68 #[v] w fun e w' => e = .returned (.tuple #[.string (tx (catF l)), .int .i64 0]) ∧ Kp none' w w' := by
  obtain ⟨ao, cap, rfl⟩ : ∃ ao cap, v = .slice ao l.length cap := by obtain ⟨ao, cap, rfl, _⟩ := h.is; exact ⟨_, _, rfl⟩
  have HS := Lib.hid h
  clear h
  go_enter Try.func68, Try.ntmps68
  go_wp2
  go_loopw [4, 5] (fun s0 i0 wr => ∃ (j : Nat) (s : ByteArray), i0 = .int .i64 j ∧ j ≤ l.length ∧ s0 = .string s ∧ s.size ≤ 8 * j ∧ Hid (s = tx (catF (l.take j)) ∧ Kp none' w wr)) (fun _ i0 _ => l.length - (intOf i0).toNat)
  case atStart => exact ⟨0, _, rfl, by omega, rfl, by decide, rfl, Kp.refl _ _⟩
  case round =>
    obtain ⟨j, s, rfl, hj, rfl, hs, hr⟩ := hrel
    by_cases hlt : j < l.length
    · obtain ⟨g, off, cap', e1, hc⟩ := (HS.out.old hr.out.2).at enF_len (by decide) j hlt
      injection e1 with e1 _ e3
      subst e1 e3
      have hko := hok l[j] (List.getElem_mem hlt)
      obtain ⟨⟨k, n⟩, hkn⟩ : ∃ f, l[j] = f := ⟨_, rfl⟩
      rw [hkn] at hc hko
      have c0 := hc 0 _ rfl
      have c1 := hc 1 _ rfl
      have c2 := hc 2 _ rfl
      simp only [Nat.add_zero] at c0
      have HO := Lib.hid (fun W => rOneF k n hko.1 hko.2.1 hko.2.2 W)
      have hw := widN_le k
      have hsz : (tx (be (widN k) n)).size = widN k := by rw [tx_size, be_len]
      have hct := cat_run (P := Try.prog) s (tx (be (widN k) n)) (by rw [hsz]; omega)
      have HT : Hid (s ++ tx (be (widN k) n) = tx (catF (l.take (j + 1))) ∧ (s ++ tx (be (widN k) n)).size ≤ 8 * (j + 1)) := by
        constructor
        · rw [hr.out.1]
          apply str_ext
          rw [List.take_succ_eq_append_getElem hlt, catF_snoc, hkn, bl_app, bl_tx, bl_tx, bl_tx]
        · rw [ByteArray.size_append, hsz]; omega
      clear hc hkn hko hsz hw
      go_wp2_with fail
      refine (HO.out _).mono ?_
      rintro e w1 ⟨rfl, k1⟩
      have HK := Lib.hid (hr.out.2.trans k1)
      clear k1
      go_wp2_with fail
      go_roundw
      case rel => exact ⟨j + 1, _, by go_num, by omega, rfl, HT.out.2, HT.out.1, HK.out⟩
      case measure => simp [intOf]; omega
    · have HT : Hid (s = tx (catF l) ∧ Kp none' w wr) := by
        have h1 := hr.out.1
        rw [List.take_of_length_le (by omega)] at h1
        exact ⟨h1, hr.out.2⟩
      go_wp2_with fail
      go_ret2
      exact ⟨by rw [← HT.out.1]; rfl, HT.out.2⟩
end Go.Proofs.Ythjapdjglifopaa
