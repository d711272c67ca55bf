/- Walks of layer 4: fields of any kind taken. -/
import Derived.Test.YtlaakhfgidjofaaGreatDoorMSnapNobodyF16
namespace Go.Proofs.YtlaakhfgidjofaaGreatDoor
set_option linter.unusedVariables false
set_option linter.unusedSimpArgs false
open Go.RowKit Go.Shelf
theorem or_shl (a c i : Nat) (ha : a < 128 ^ i) (hc : a + c * 128 ^ i < 18446744073709551616) : bits BinOp.or IntKind.u64 (a : Int) ((c * 128 ^ i : Nat) : Int) = ((a + c * 128 ^ i : Nat) : Int) := by
  have e : (128 : Nat) ^ i = 2 ^ (7 * i) := by rw [Nat.pow_mul]
  have h1 : a + c * 128 ^ i = a ||| c * 128 ^ i := by
    have := Nat.shiftLeft_add_eq_or_of_lt (i := 7 * i) (b := a) (by rw [← e]; exact ha) c
    rw [Nat.shiftLeft_eq, ← e] at this
    rw [Nat.or_comm, ← this, Nat.add_comm]
  rw [h1]
  exact bits_or_u64_nat a _ (by omega) (by omega)
theorem at_app {s : ByteArray} {pre k : List UInt8} (h : bl s = pre ++ k) {c : UInt8} {r : List UInt8} (hk : k = c :: r) : ∃ hj : pre.length < s.size, s[pre.length]'hj = c := by
  have hl : pre.length < (bl s).length := by rw [h, hk, List.length_append, List.length_cons]; omega
  have hj : pre.length < s.size := by rwa [bl_len] at hl
  refine ⟨hj, ?_⟩
  have e : (bl s)[pre.length]? = some s[pre.length] := by rw [List.getElem?_eq_getElem hl]; rfl
  rw [h, hk, List.getElem?_append_right (Nat.le_refl _), Nat.sub_self] at e
  simpa using e.symm
theorem or_w (a c i : Nat) (ha : a < 128 ^ i) (hc : a + c * 128 ^ i < 18446744073709551616) : bits BinOp.or IntKind.u64 (a : Int) (IntKind.u64.wrap ((c : Int) * 2 ^ (7 * i))) = ((a + c * 128 ^ i : Nat) : Int) := by
  have e : (c : Int) * 2 ^ (7 * i) = ((c * 128 ^ i : Nat) : Int) := by
    have : (2 : Int) ^ (7 * i) = ((128 ^ i : Nat) : Int) := by rw [Int.pow_mul]; simp
    rw [this]; simp
  rw [e, IntKind.wrap_u64, Int.emod_eq_of_lt (by omega) (by omega)]
  exact or_shl a c i ha hc
theorem w0 (c : Nat) (hc : c < 18446744073709551616) : IntKind.u64.wrap ((c : Int) * 2 ^ (7 * 0)) = (c : Int) := by
  have e2 : (2 : Int) ^ (7 * 0) = 1 := by decide
  rw [e2, Int.mul_one, IntKind.wrap_u64, Int.emod_eq_of_lt (by omega) (by omega)]
theorem lt_pow9 {a j : Nat} (h : a < 128 ^ j) (hj : j ≤ 9) : a < 9223372036854775808 := by
  have : 128 ^ j ≤ 128 ^ 9 := Nat.pow_le_pow_right (by decide) hj
  have e : (128 : Nat) ^ 9 = 9223372036854775808 := by decide
  omega
theorem next_w {a m j n : Nat} (h3 : a < 128 ^ j) (h4 : a + m * 128 ^ j = n) : a + m % 128 * 128 ^ j < 128 ^ (j + 1) ∧ a + m % 128 * 128 ^ j + m / 128 * 128 ^ (j + 1) = n := by
  have hx : m % 128 < 128 := Nat.mod_lt _ (by decide)
  have e : 128 * (m / 128) + m % 128 = m := Nat.div_add_mod m 128
  generalize m / 128 = q at *
  generalize m % 128 = r at *
  subst e
  rw [Nat.pow_succ]
  generalize 128 ^ j = p at *
  have h5 : r * p ≤ 127 * p := Nat.mul_le_mul_right p (by omega)
  have e1 : (128 * q + r) * p = q * (p * 128) + r * p := by rw [Nat.add_mul, Nat.mul_comm 128 q, Nat.mul_assoc, Nat.mul_comm 128 p]
  rw [e1] at h4
  refine ⟨by omega, by omega⟩
set_option maxRecDepth 100000 in
set_option maxHeartbeats 2000000 in
theorem aNumber (s : ByteArray) (n : Nat) (hn : n < 18446744073709551616) (rest : List UInt8) (h : bl s = vb n ++ rest) (hs : s.size ≤ 1000000) (w : World) :
    Calls Tryz.prog 160 #[.string s] w fun e w' => e = .returned (.tuple #[.int .u64 n, .int .i64 (vb n).length, .int .i64 0]) ∧ w = w' := by
  go_enter Tryz.func160, Tryz.ntmps160
  go_wp2
  go_loop [5, 10] (fun n0 i => ∃ (j f a m : Nat) (pre : List UInt8), i = .int .i64 j ∧ n0 = .int .u64 a ∧ j + f = 9 ∧ (0 < j → 1 ≤ m) ∧ m < 2 * 128 ^ f ∧ Hid (pre.length = j ∧ bl s = pre ++ (vbF f m ++ rest) ∧ pre ++ vbF f m = vb n ∧ a < 128 ^ j ∧ a + m * 128 ^ j = n)) (fun _ i => 10 - (intOf i).toNat)
  case atStart => exact ⟨0, 9, 0, n, [], rfl, rfl, rfl, by omega, by omega, rfl, h, rfl, by simp, by simp⟩
  case round =>
    obtain ⟨j, f, a, m, pre, rfl, rfl, hf, hm1, hm2, hr⟩ := hrel
    obtain ⟨r0, r1, r2, r3, r4⟩ := hr.out
    have ha := lt_pow9 r3 (by omega)
    have hlen : (vbF f m).length + j = (vb n).length := by rw [← r2, List.length_append]; omega
    clear h hr
    by_cases hlt : m < 128
    · rw [vbF_low f hlt] at r1 r2 hlen
      obtain ⟨hj, hc⟩ := at_app r1 rfl
      simp only [r0] at hj hc
      have hx : s[j].toNat = m := by rw [hc]; simp; omega
      have HL : Hid ((j : Int) + 1 = ((vb n).length : Int)) := by show _ = _; simp at hlen; omega
      have HW : Hid (bits BinOp.or IntKind.u64 (a : Int) (IntKind.u64.wrap ((m : Int) * 2 ^ (7 * j))) = (n : Int)) := by show _ = _; rw [or_w a m j r3 (by omega), r4]
      clear hc r1 r2 hlen r0 r3 r4
      by_cases h9 : j = 9
      · have : f = 0 := by omega
        subst this h9
        have hm : m ≤ 1 := by simp at hm2; omega
        have HW : Hid (bits BinOp.or IntKind.u64 (a : Int) ((m : Int) * 9223372036854775808) = (n : Int)) := by
          have := HW.out
          have e : IntKind.u64.wrap ((m : Int) * 2 ^ (7 * 9)) = (m : Int) * 9223372036854775808 := by
            have e2 : (2 : Int) ^ (7 * 9) = 9223372036854775808 := by decide
            rw [e2, IntKind.wrap_u64, Int.emod_eq_of_lt (by omega) (by omega)]
          rwa [e] at this
        have hm0 := hm1 (by omega)
        clear hm2 hm1
        go_wp2
        go_ret3
        exact ⟨by rw [HW.out, ← HL.out]; rfl, rfl⟩
      · by_cases h0 : j = 0
        · subst h0
          have HW : Hid (bits BinOp.or IntKind.u64 (a : Int) (m : Int) = (n : Int)) := by have := HW.out; rwa [w0 m (by omega)] at this
          clear hm1 hm2
          go_wp2
          go_ret3
          exact ⟨by rw [← HL.out, HW.out]; rfl, rfl⟩
        · have hm0 := hm1 (by omega)
          have hj9 : (j : Int) < 9 := by omega
          clear hm2 hm1
          go_wp2
          go_ret3
          exact ⟨by rw [HW.out, HL.out]; rfl, rfl⟩
    · obtain ⟨f, rfl⟩ : ∃ g, f = g + 1 := by
        cases f with
        | zero => simp at hm2; omega
        | succ f => exact ⟨f, rfl⟩
      have R2 : Hid (pre ++ [UInt8.ofNat (m % 128 + 128)] ++ vbF f (m / 128) = vb n) := vb_app r2 hlt
      rw [vbF_high f hlt] at r1
      obtain ⟨hj, hc⟩ := at_app r1 rfl
      simp only [r0] at hj hc
      have hx : s[j].toNat = m % 128 + 128 := by rw [hc]; simp; omega
      obtain ⟨n1, n2⟩ := next_w r3 r4
      have HW : Hid (bits BinOp.or IntKind.u64 (a : Int) (IntKind.u64.wrap (((m % 128 : Nat) : Int) * 2 ^ (7 * j))) = ((a + m % 128 * 128 ^ j : Nat) : Int)) := or_w a (m % 128) j r3 (by omega)
      have R1 : Hid (bl s = pre ++ [UInt8.ofNat (m % 128 + 128)] ++ (vbF f (m / 128) ++ rest)) := by show _ = _; rw [r1]; simp
      have R0 : Hid ((pre ++ [UInt8.ofNat (m % 128 + 128)]).length = j + 1) := by show _ = _; simp; omega
      have N1 := Lib.hid n1; have N2 := Lib.hid n2
      have hq1 : 1 ≤ m / 128 := by omega
      have hq2 : m / 128 < 2 * 128 ^ f := by rw [Nat.pow_succ] at hm2; omega
      have hx2 : m % 128 < 128 := Nat.mod_lt _ (by decide)
      generalize hx3 : m % 128 = x at *
      generalize m / 128 = q at *
      generalize hpp : a + x * 128 ^ j = a2 at *
      clear hc r1 r2 hlen r0 r3 r4 n1 n2 hm2 hm1 hx3 hpp hlt
      have hj9 : (j : Int) < 9 := by omega
      by_cases h0 : j = 0
      · subst h0
        have HW : Hid (bits BinOp.or IntKind.u64 (a : Int) (x : Int) = (a2 : Int)) := by have := HW.out; rwa [w0 x (by omega)] at this
        go_wp2
        rw [HW.out]
        exact ⟨⟨1, f, a2, q, _, rfl, rfl, by omega, by omega, hq2, R0.out, R1.out, R2.out, N1.out, N2.out⟩, by simp [intOf]⟩
      · go_wp2
        rw [HW.out]
        exact ⟨⟨j + 1, f, a2, q, _, by go_num, rfl, by omega, by omega, hq2, R0.out, R1.out, R2.out, N1.out, N2.out⟩, by simp [intOf]; omega⟩
theorem clone_cut {s : ByteArray} {a b rest : List UInt8} {n : Nat} (h : bl s = a ++ (b ++ rest)) (hn : n = a.length) {m : Nat} (hm : m = a.length + b.length) : s.extract n m = tx b := by
  have e : bl (s.extract n m) = b := by
    rw [bl_cut, h, hn, List.drop_left, hm, Nat.add_sub_cancel_left, List.take_left]
  exact str_ext (by rw [e, bl_tx])
theorem below_kp {w w' : World} (h : Below w.heap.size w w') : Kp none' w w' := (Kp.of_below h).mono (fun i hi hs => by omega)
theorem aClone (s : ByteArray) (hs : s.size ≤ 1000000) (w : World) : Calls Tryz.prog 168 #[.string s] w fun e w' => e = .returned (.string s) ∧ Kp none' w w' := by
  have H := Lib.hid (fun W => Tryz.stringslite_Clone s W (by omega))
  go_enter Tryz.func168, Tryz.ntmps168
  go_wp2_with fail
  refine (H.out _).mono ?_
  rintro e w' ⟨rfl, k⟩
  go_wp2_with fail
  go_ret
  exact ⟨rfl, below_kp k⟩
set_option maxRecDepth 100000 in
set_option maxHeartbeats 2000000 in
theorem aText (s t : ByteArray) (ht : t.size ≤ 65535) (rest : List UInt8) (h : bl s = (vb t.size ++ bl t) ++ rest) (hs : s.size ≤ 1000000) (w : World) :
    Calls Tryz.prog 161 #[.string s] w fun e w' => e = .returned (.tuple #[.string t, .int .i64 (vb t.size ++ bl t).length, .int .i64 0]) ∧ Kp none' w w' := by
  have hl : (bl s).length = (vb t.size ++ bl t).length + rest.length := by rw [h, List.length_append]
  have hlv := vb_len t.size
  rw [bl_len, List.length_append, bl_len] at hl
  have HN := Lib.hid (fun W => aNumber s t.size (by omega) (bl t ++ rest) (by rw [h, List.append_assoc]) hs W)
  have hx : s.extract (vb t.size).length ((vb t.size).length + t.size) = t := by
    rw [clone_cut (a := vb t.size) (b := bl t) (rest := rest) (by rw [h, List.append_assoc]) rfl (by rw [bl_len]), tx_bl]
  have HX := Lib.hid hx
  have e0 : (vb t.size ++ bl t).length = (vb t.size).length + t.size := by rw [List.length_append, bl_len]
  rw [e0]
  have HC := Lib.hid (fun W => aClone t (by omega) W)
  generalize (vb t.size).length = k at *
  generalize hm : t.size = m at *
  clear h e0 hm
  go_enter Tryz.func161, Tryz.ntmps161
  go_wp2_with fail
  refine (HN.out _).mono ?_
  rintro e w' ⟨rfl, rfl⟩
  go_wp2_with fail
  refine (HC.out _).mono ?_
  rintro e w' ⟨rfl, k1⟩
  go_wp2_with fail
  go_ret3
  exact ⟨rfl, k1⟩
theorem fld_ret1 {c k n d : Nat} {t : ByteArray} {W w : World} {T : Array Value} (hb : Blk W c [.int .i64 k, .int .u64 n, .string t] 59) (hk : Kp none' w W) (h2 : T[4]? = some (.pointer (some ⟨c, 0, none⟩))) (h3 : T[5]? = some (.int .i64 d)) (h4 : T[6]? = some (.int .i64 0)) :
    bodyPost Tryz.prog Tryz.f139 (fun e w' => e = .returned (.tuple #[.agg #[.int .i64 k, .int .u64 n, .string t], .int .i64 d, .int .i64 0]) ∧ Kp none' w w') Exit.ret { tmps := T, defers := [] } W := by
  have c0 := hb.cell 0 rfl
  have c1 := hb.cell 1 rfl
  have c2 := hb.cell 2 rfl
  exact bodyPost_ret (v := .tuple #[.agg #[.int .i64 k, .int .u64 n, .string t], .int .i64 d, .int .i64 0]) (by simp [results, Tryz.results139, go_sem, c0, c1, c2, h2, h3, h4]) rfl ⟨rfl, hk⟩
set_option maxHeartbeats 2000000 in
theorem aOne (s : ByteArray) (f : Fd) (hf : f.ok) (rest : List UInt8) (h : bl s = fdB f ++ rest) (hs : s.size ≤ 1000000) (w : World) :
    Calls Tryz.prog 139 #[.string s, .int .i64 (fdK f)] w fun e w' => e = .returned (.tuple #[.agg (enFd f).toArray, .int .i64 (fdB f).length, .int .i64 0]) ∧ Kp none' w w' := by
  cases f with
  | wrd n =>
    have hn : n < 4294967296 := hf
    have h : bl s = be 4 n ++ rest := h
    have hl : (bl s).length = 4 + rest.length := by rw [h, List.length_append, be_len]
    rw [bl_len] at hl
    have e : numB ((bl s).take (widN 3)) = n := by
      show numB ((bl s).take 4) = n
      rw [h, List.take_append_of_le_length (by rw [be_len]; omega), List.take_of_length_le (by rw [be_len]; omega), num_be 4 n (by simpa using hn)]
    have := wOne s 3 (by decide) (by decide) (by show 4 ≤ _; omega) hs w
    rw [e] at this
    refine this.mono ?_
    rintro e w' ⟨rfl, k⟩
    refine ⟨?_, k⟩
    show _ = Ending.returned (.tuple #[_, .int .i64 ((be 4 n).length : Nat), _])
    rw [be_len]; rfl
  | var n =>
    have H1 : Hid (∀ W, Calls Tryz.prog 98 #[.int .i64 5] W fun e w' => e = .returned (.int .i64 0) ∧ W = w') := fun W => aWidth0 5 (.inl rfl) W
    have H2 := Lib.hid (fun W => aNumber s n hf rest h hs W)
    show Calls _ _ #[_, .int .i64 5] _ fun e w' => e = .returned (.tuple #[.agg #[.int .i64 ((5 : Nat) : Int), .int .u64 n, .string ⟨#[]⟩], .int .i64 (vb n).length, .int .i64 0]) ∧ Kp none' w w'
    generalize (vb n).length = d at *
    clear h hf
    go_enter Tryz.func139, Tryz.ntmps139
    go_wp2_with fail
    refine (H1.out _).mono ?_
    rintro e w' ⟨rfl, rfl⟩
    go_wp2_with fail
    refine (H2.out _).mono ?_
    rintro e w' ⟨rfl, rfl⟩
    go_wp2_with fail
    exact fld_ret1 ((Blk.new w [.int .i64 5, .int .u64 n, .string ⟨#[]⟩] 59).alloc _) (((Kp.refl _ _).alloc _).alloc _) rfl rfl rfl
  | txt t =>
    have H1 : Hid (∀ W, Calls Tryz.prog 98 #[.int .i64 6] W fun e w' => e = .returned (.int .i64 0) ∧ W = w') := fun W => aWidth0 6 (.inr rfl) W
    have H2 := Lib.hid (fun W => aText s t hf rest h hs W)
    show Calls _ _ #[_, .int .i64 6] _ fun e w' => e = .returned (.tuple #[.agg #[.int .i64 ((6 : Nat) : Int), .int .u64 ((0 : Nat) : Int), .string t], .int .i64 (vb t.size ++ bl t).length, .int .i64 0]) ∧ Kp none' w w'
    generalize (vb t.size ++ bl t).length = d at *
    clear h hf
    go_enter Tryz.func139, Tryz.ntmps139
    go_wp2_with fail
    refine (H1.out _).mono ?_
    rintro e w' ⟨rfl, rfl⟩
    go_wp2_with fail
    have HB : Hid (Blk ((w.alloc (.cells #[.int .i64 0, .int .u64 0, .string ⟨#[]⟩] 59)).alloc (.cells #[.int .i64 6, .int .u64 0, .string ⟨#[]⟩] 59)) w.heap.size [.int .i64 0, .int .u64 0, .string ⟨#[]⟩] 59) := (Blk.new w [.int .i64 0, .int .u64 0, .string ⟨#[]⟩] 59).alloc _
    have HF : Hid (Blk ((w.alloc (.cells #[.int .i64 0, .int .u64 0, .string ⟨#[]⟩] 59)).alloc (.cells #[.int .i64 6, .int .u64 0, .string ⟨#[]⟩] 59)) (w.heap.size + 1) [.int .i64 6, .int .u64 0, .string ⟨#[]⟩] 59) := by
      have := Blk.new (w.alloc (.cells #[.int .i64 0, .int .u64 0, .string ⟨#[]⟩] 59)) [.int .i64 6, .int .u64 0, .string ⟨#[]⟩] 59
      show Blk _ _ _ _
      simpa using this
    have HK := Lib.hid (((Kp.refl none' w).alloc (.cells #[.int .i64 0, .int .u64 0, .string ⟨#[]⟩] 59)).alloc (.cells #[.int .i64 6, .int .u64 0, .string ⟨#[]⟩] 59))
    generalize ((w.alloc (.cells #[.int .i64 0, .int .u64 0, .string ⟨#[]⟩] 59)).alloc (.cells #[.int .i64 6, .int .u64 0, .string ⟨#[]⟩] 59)) = w0 at *
    refine (H2.out _).mono ?_
    rintro e w1 ⟨rfl, k1⟩
    have b1 := HB.out.kp k1 id; have b2 := HF.out.kp k1 id
    have c0 := b1.cell 0 rfl; have c1 := b1.cell 1 rfl; have c2 := b1.cell 2 rfl
    have d0 := b2.cell 0 rfl; have d1 := b2.cell 1 rfl; have d2 := b2.cell 2 rfl
    have f1 := fun j => b1.fz j; have f2 := fun j => b2.fz j
    have hne : (w.heap.size + 1 = w.heap.size) = False := by simp
    have hk := HK.out.trans k1
    have HB1 := Lib.hid b1; have HK1 := Lib.hid hk
    have hne2 : w.heap.size ≠ w.heap.size + 1 := by omega
    clear b1 b2 k1 hk
    go_wp2_with fail
    refine fld_ret1 (c := w.heap.size) (k := 6) (n := 0) (t := t) (d := d) ?_ ?_ rfl rfl rfl
    · exact (((HB1.out.setNe (a := ⟨w.heap.size + 1, 2, none⟩) hne2 _).set 0 _).set 1 _).set 2 _
    · exact (((HK1.out.set (p := ⟨w.heap.size + 1, 2, none⟩) (.inr (by show w.heap.size ≤ w.heap.size + 1; omega)) _).set (p := ⟨w.heap.size, 0, none⟩) (.inr (Nat.le_refl _)) _).set (p := ⟨w.heap.size, 1, none⟩) (.inr (Nat.le_refl _)) _).set (p := ⟨w.heap.size, 2, none⟩) (.inr (Nat.le_refl _)) _

set_option maxHeartbeats 2000000 in
theorem aTake (s : ByteArray) (f : Fd) (hf : f.ok) (rest : List UInt8) (h : bl s = fdB f ++ rest) (hs : s.size ≤ 1000000) (b : Nat) (w : World) (hb : Blk w b [.int .i64 (fdK f)] 3) :
    Calls Tryz.prog 113 #[.string s, .slice (some ⟨b, 0, none⟩) 1 1] w fun e w' => ∃ r, e = .returned (.tuple #[r, .int .i64 (fdB f).length, .int .i64 0]) ∧ w'.ownsRow w.heap.size 59 3 r 1 (enFd f) ∧ Kp none' w w' := by
  have hlen := fdB_len hf
  have hsl : (bl s).length = (fdB f).length + rest.length := by rw [h, List.length_append]
  rw [bl_len] at hsl
  have hle : (fdB f).length ≤ s.size := by omega
  clear hsl
  have hx0 : s.extract 0 s.size = s := by simp
  have HO := Lib.hid (fun W => aOne s f hf rest h hs W)
  have c0 := hb.cell 0 rfl
  have HB := Lib.hid hb
  have ef : enFd f = [.int .i64 (fdK f), .int .u64 (fdN f), .string (fdS f)] := rfl
  rw [ef] at HO ⊢
  generalize (fdB f).length = d at *
  generalize fdK f = k at *
  generalize fdN f = n at *
  generalize fdS f = t at *
  clear h hb ef hf
  go_enter Tryz.func113, Tryz.ntmps113
  go_wp2_with fail
  go_loopw [7, 8, 16] (fun r a i wr => (i = .int .i64 0 ∧ a = .int .i64 0 ∧ r = .slice none 0 0 ∧ Hid (Kp none' w wr)) ∨ (i = .int .i64 1 ∧ a = .int .i64 d ∧ Hid (wr.ownsRow w.heap.size 59 3 r 1 [.int .i64 k, .int .u64 n, .string t] ∧ Kp none' w wr))) (fun _ _ i _ => 1 - (intOf i).toNat)
  case atStart => exact .inl ⟨rfl, rfl, rfl, Kp.refl _ _⟩
  case round =>
    rcases hrel with ⟨rfl, rfl, rfl, hr⟩ | ⟨rfl, rfl, hr⟩
    · have hB := HB.out.kp (S := none') hr.out id
      have c0 := hB.cell 0 rfl
      have hsz := hr.out.size
      clear hB
      go_wp2_with fail
      refine (HO.out _).mono ?_
      rintro e w1 ⟨rfl, k1⟩
      have K1 := Lib.hid (hr.out.trans k1)
      have hsz1 := K1.out.size
      clear k1
      go_wp2_with (at_builtin; refine wp_app1 tFld (.tmp 32) (.tmp 34) rfl rfl w.heap.size (World.ownsRow_nil _ _ _ _) [.int .i64 k, .int .u64 n, .string t] rfl rfl rfl (heap_at _ _ _ (by simp)) rfl (by omega) (by omega) (by simp; omega) ?_)
      intro g2 cap2 w2 hown hgrow
      have HG := Lib.hid hown
      have HK : Hid (Kp none' w w2) := ((K1.out.alloc _).alloc _).grown hgrow (fun b hb => by cases hb)
      clear hown hgrow
      go_wp2_with fail
      go_roundw
      case rel => exact .inr ⟨rfl, rfl, by simpa using HG.out, HK.out⟩
      case measure => simp [intOf]
    · obtain ⟨r1, r2⟩ := hr.out
      obtain ⟨ro, rcap, rfl⟩ := own_shape r1
      have R1 := Lib.hid r1; have R2 := Lib.hid r2
      clear r1 r2 hr
      go_wp2_with fail
      go_ret3
      exact ⟨_, rfl, R1.out, R2.out⟩
theorem own_fullC1 {w : World} {base : Nat} {e : TypeId} {size : Nat} {n g cap : Nat} {xs : List Value} (h : w.ownsRow base e size (.slice (some ⟨g, 0, none⟩) n cap) n xs) : n ≤ cap := by
  rcases h.2 with ⟨h, _⟩ | ⟨g', cap', cur, h, _, _, h2, h3, _⟩
  · cases h
  · cases h; omega
theorem fld_ret2 {c k n r : Nat} {t u : ByteArray} {W w : World} {T : Array Value} (hb : Blk W c [.int .i64 k, .int .u64 n, .string t] 59) (hr : Blk W r [.string u] 80) (hk : Kp (fun b => b = r) w W) (h2 : T[4]? = some (.pointer (some ⟨c, 0, none⟩))) :
    bodyPost Tryz.prog Tryz.f72 (fun e w' => e = .returned (.agg #[.int .i64 k, .int .u64 n, .string t]) ∧ Blk w' r [.string u] 80 ∧ Kp (fun b => b = r) w w') Exit.ret { tmps := T, defers := [] } W := by
  have c0 := hb.cell 0 rfl
  have c1 := hb.cell 1 rfl
  have c2 := hb.cell 2 rfl
  exact bodyPost_ret (v := .agg #[.int .i64 k, .int .u64 n, .string t]) (by simp [results, Tryz.results72, go_sem, c0, c1, c2, h2]) rfl ⟨rfl, hr, hk⟩
theorem ext_rest {s : ByteArray} {a rest : List UInt8} (h : bl s = a ++ rest) {d : Nat} (hd : a.length = d) : s.extract d s.size = tx rest := by
  have e : bl (s.extract d s.size) = rest := by
    rw [bl_cut, h, ← hd, List.drop_left, List.take_of_length_le]
    rw [← bl_len, h, List.length_append]; omega
  exact str_ext (by rw [e, bl_tx])
set_option maxHeartbeats 2000000 in
theorem aField {s : ByteArray} (f : Fd) (hf : f.ok) (rest : List UInt8) (h : bl s = fdB f ++ rest) (hs : s.size ≤ 1000000) {r : Nat} {w : World} (hr : Blk w r [.string s] 80) :
    Calls Tryz.prog 72 #[.pointer (some ⟨r, 0, none⟩), .int .i64 (fdK f)] w fun e w' => e = .returned (.agg (enFd f).toArray) ∧ Blk w' r [.string (tx rest)] 80 ∧ Kp (fun b => b = r) w w' := by
  have hlen := fdB_len hf
  have hsl : (bl s).length = (fdB f).length + rest.length := by rw [h, List.length_append]
  rw [bl_len] at hsl
  have hle : (fdB f).length ≤ s.size := by omega
  clear hsl
  have hT := fun (b : Nat) (W : World) (hb : Blk W b [.int .i64 (fdK f)] 3) => aTake s f hf rest h hs b W hb
  have hx := ext_rest h rfl
  have ef : enFd f = [.int .i64 (fdK f), .int .u64 (fdN f), .string (fdS f)] := rfl
  rw [ef] at hT ⊢
  generalize (fdB f).length = d at *
  generalize fdK f = k at *
  generalize fdN f = n at *
  generalize fdS f = t at *
  have HT := Lib.hid hT
  have c0 := hr.cell 0 rfl
  have hlt := hr.lt
  have HR := Lib.hid hr
  clear h ef hf hT hr
  go_enter Tryz.func72, Tryz.ntmps72
  go_wp2_with fail
  have HA : Hid (Blk ((w.alloc (.cells #[.int .i64 0, .int .u64 0, .string ⟨#[]⟩] 59)).alloc (.cells #[.int .i64 k] 3)) w.heap.size [.int .i64 0, .int .u64 0, .string ⟨#[]⟩] 59) := (Blk.new w [.int .i64 0, .int .u64 0, .string ⟨#[]⟩] 59).alloc _
  have HB : Hid (Blk ((w.alloc (.cells #[.int .i64 0, .int .u64 0, .string ⟨#[]⟩] 59)).alloc (.cells #[.int .i64 k] 3)) (w.heap.size + 1) [.int .i64 k] 3) := by
    have := Blk.new (w.alloc (.cells #[.int .i64 0, .int .u64 0, .string ⟨#[]⟩] 59)) [.int .i64 k] 3
    show Blk _ _ _ _
    simpa using this
  have HR0 := Lib.hid ((HR.out.alloc (.cells #[.int .i64 0, .int .u64 0, .string ⟨#[]⟩] 59)).alloc (.cells #[.int .i64 k] 3))
  have HK := Lib.hid (((Kp.refl none' w).alloc (.cells #[.int .i64 0, .int .u64 0, .string ⟨#[]⟩] 59)).alloc (.cells #[.int .i64 k] 3))
  have hws : ((w.alloc (.cells #[.int .i64 0, .int .u64 0, .string ⟨#[]⟩] 59)).alloc (.cells #[.int .i64 k] 3)).heap.size = w.heap.size + 2 := by simp
  generalize ((w.alloc (.cells #[.int .i64 0, .int .u64 0, .string ⟨#[]⟩] 59)).alloc (.cells #[.int .i64 k] 3)) = w0 at *
  refine (HT.out _ _ HB.out).mono ?_
  rintro e w1 ⟨v, rfl, ho, k1⟩
  obtain ⟨g, cap, rfl, hg⟩ := own_shape1 ho (by decide)
  have q0 := own_cell ho 0 rfl; have q1 := own_cell ho 1 rfl; have q2 := own_cell ho 2 rfl
  have hcap := own_fullC1 ho
  have a1 := HA.out.kp k1 id; have r1 := HR0.out.kp k1 id
  have c0 := a1.cell 0 rfl; have c1 := a1.cell 1 rfl; have c2 := a1.cell 2 rfl
  have f1 := fun j => a1.fz j; have f2 := fun j => r1.fz j
  have d0 := r1.cell 0 rfl
  have hk := HK.out.trans k1
  have n1 : r ≠ w.heap.size := by omega
  have n2 : w.heap.size ≠ r := by omega
  have n3 : g ≠ r := by omega
  have n4 : r ≠ g := by omega
  have n5 : g ≠ w.heap.size := by omega
  have n6 : w.heap.size ≠ g := by omega
  have HA1 := Lib.hid a1; have HR1 := Lib.hid r1; have HK1 := Lib.hid hk
  clear ho a1 r1 k1 hk
  go_wp2_with fail
  have b1 : Blk _ r [.string (tx rest)] 80 := (((HR1.out.set 0 (.string (tx rest))).setNe (a := ⟨w.heap.size, 0, none⟩) n1 (.int .i64 k)).setNe (a := ⟨w.heap.size, 1, none⟩) n1 (.int .u64 n)).setNe (a := ⟨w.heap.size, 2, none⟩) n1 (.string t)
  have b2 : Blk _ w.heap.size [.int .i64 k, .int .u64 n, .string t] 59 := (((HA1.out.setNe (a := ⟨r, 0, none⟩) n2 (.string (tx rest))).set 0 (.int .i64 k)).set 1 (.int .u64 n)).set 2 (.string t)
  have k2 : Kp (fun b => b = r) w _ := ((((HK1.out.mono (T := fun b => b = r) (fun _ _ x => x.elim)).set (p := ⟨r, 0, none⟩) (.inl rfl) (.string (tx rest))).set (p := ⟨w.heap.size, 0, none⟩) (.inr (Nat.le_refl _)) (.int .i64 k)).set (p := ⟨w.heap.size, 1, none⟩) (.inr (Nat.le_refl _)) (.int .u64 n)).set (p := ⟨w.heap.size, 2, none⟩) (.inr (Nat.le_refl _)) (.string t)
  exact fld_ret2 b2 b1 k2 rfl
def Rd (w : World) (r : Nat) (l : List UInt8) : Prop := Blk w r [.string (tx l)] 80
theorem Rd.old {w w' : World} {r : Nat} {l : List UInt8} (h : Rd w r l) (k : Kp none' w w') : Rd w' r l := Blk.kp h k id
theorem aFd (f : Fd) (hf : f.ok) (rest : List UInt8) (hs : (fdB f ++ rest).length ≤ 1000000) {r : Nat} {w : World} (hr : Rd w r (fdB f ++ rest)) :
    Calls Tryz.prog 72 #[.pointer (some ⟨r, 0, none⟩), .int .i64 (fdK f)] w fun e w' => e = .returned (.agg (enFd f).toArray) ∧ Rd w' r rest ∧ Kp (fun b => b = r) w w' :=
  aField f hf rest (bl_tx _) (by rw [← bl_len, bl_tx]; exact hs) hr
theorem aVr (n : Nat) (hn : u64 n) (rest : List UInt8) (hs : (vb n ++ rest).length ≤ 1000000) {r : Nat} {w : World} (hr : Rd w r (vb n ++ rest)) :
    Calls Tryz.prog 72 #[.pointer (some ⟨r, 0, none⟩), .int .i64 5] w fun e w' => e = .returned (.agg #[.int .i64 5, .int .u64 n, .string ⟨#[]⟩]) ∧ Rd w' r rest ∧ Kp (fun b => b = r) w w' :=
  aFd (.var n) hn rest hs hr
theorem aWd (n : Nat) (hn : n < 4294967296) (rest : List UInt8) (hs : (be 4 n ++ rest).length ≤ 1000000) {r : Nat} {w : World} (hr : Rd w r (be 4 n ++ rest)) :
    Calls Tryz.prog 72 #[.pointer (some ⟨r, 0, none⟩), .int .i64 3] w fun e w' => e = .returned (.agg #[.int .i64 3, .int .u64 n, .string ⟨#[]⟩]) ∧ Rd w' r rest ∧ Kp (fun b => b = r) w w' :=
  aFd (.wrd n) hn rest hs hr
theorem fldN (k : Int) (n : Nat) (s : ByteArray) (W : World) : (Instr.field 59 (.agg #[.int .i64 k, .int .u64 n, .string s]) 1).run Tryz.prog W = .ok (.int .u64 n) W := by kernel_rfl
theorem fldS (k : Int) (n : Nat) (s : ByteArray) (W : World) : (Instr.field 59 (.agg #[.int .i64 k, .int .u64 n, .string s]) 2).run Tryz.prog W = .ok (.string s) W := by kernel_rfl
set_option maxRecDepth 100000 in
theorem aCount (n : Nat) (rest : List UInt8) (hn : n ≤ rest.length) (hs : (vb n ++ rest).length ≤ 1000000) {r : Nat} {w : World} (hr : Rd w r (vb n ++ rest)) :
    Calls Tryz.prog 115 #[.pointer (some ⟨r, 0, none⟩)] w fun e w' => e = .returned (.int .i64 n) ∧ Rd w' r rest ∧ Kp (fun b => b = r) w w' := by
  have hl : rest.length ≤ 1000000 := by rw [List.length_append] at hs; omega
  have HT := Lib.hid (aVr n (by unfold u64; omega) rest hs hr)
  have hz : (tx rest).size = rest.length := by rw [← bl_len, bl_tx]
  have hz1 : (tx rest).size ≤ 1000000 := by omega
  have hz2 : n ≤ (tx rest).size := by omega
  have hF := fun W => fldN 5 n ⟨#[]⟩ W
  clear hr hs hz hl hn
  go_enter Tryz.func115, Tryz.ntmps115
  go_wp2_with fail
  refine (HT.out).mono ?_
  rintro e w1 ⟨rfl, r1, k1⟩
  have c0 := Blk.cell r1 0 rfl
  have R1 := Lib.hid r1; have K1 := Lib.hid k1
  clear r1 k1
  go_wp2_with fail
  go_ret
  exact ⟨rfl, R1.out, K1.out⟩
def nsB (l : List Nat) : List UInt8 := vb l.length ++ l.flatMap vb
theorem nsB_eq (l : List Nat) : fdsB (nsF l) = nsB l := by
  unfold nsB nsF fdsB
  rw [List.flatMap_cons, List.flatMap_map]; rfl
theorem vbs_len (l : List Nat) : l.length ≤ (l.flatMap vb).length := by
  induction l with
  | nil => simp
  | cons a l ih => have := vb_len a; rw [List.flatMap_cons, List.length_append, List.length_cons]; omega
theorem tU64s : SlT Tryz.prog 27 22 (.int .u64 0) 1 8 := ⟨Tryz.underlying27, by kernel_rfl, rfl, by decide⟩
def n8s (l : List Nat) : List Value := l.map fun n => .int .u64 (n : Nat)
set_option maxRecDepth 100000 in
set_option maxHeartbeats 2000000 in
theorem aNums (l : List Nat) (hu : ∀ n ∈ l, u64 n) (rest : List UInt8) (hs : (nsB l ++ rest).length ≤ 1000000) {r : Nat} {w : World} (hr : Rd w r (nsB l ++ rest)) :
    Calls Tryz.prog 114 #[.pointer (some ⟨r, 0, none⟩)] w fun e w' => ∃ v, e = .returned v ∧ w'.ownsRow w.heap.size 22 1 v l.length (n8s l) ∧ Rd w' r rest ∧ Kp (fun b => b = r) w w' := by
  have hvl := vbs_len l
  have e0 : nsB l ++ rest = vb l.length ++ (l.flatMap vb ++ rest) := by unfold nsB; rw [List.append_assoc]
  rw [e0] at hr hs
  have hlt := Blk.lt hr
  have HC := Lib.hid (aCount l.length (l.flatMap vb ++ rest) (by rw [List.length_append]; omega) hs hr)
  have hls : (l.flatMap vb ++ rest).length ≤ 1000000 := by rw [List.length_append] at hs; omega
  have hll : l.length ≤ 1000000 := by rw [List.length_append] at hls; omega
  clear hr hs e0 hvl
  go_enter Tryz.func114, Tryz.ntmps114
  go_wp2_with fail
  refine (HC.out).mono ?_
  rintro e w1 ⟨rfl, r1, k1⟩
  have R1 := Lib.hid r1; have K1 := Lib.hid k1
  clear r1 k1
  go_wp2_with fail
  go_loopw [3, 6] (fun a i wr => ∃ j : Nat, i = .int .i64 j ∧ j ≤ l.length ∧ Hid (wr.ownsRow w.heap.size 22 1 a j (n8s (l.take j)) ∧ Rd wr r ((l.drop j).flatMap vb ++ rest) ∧ Kp (fun b => b = r) w wr)) (fun _ i _ => l.length - (intOf i).toNat)
  case atStart => exact ⟨0, rfl, by omega, World.ownsRow_nil _ _ _ _, R1.out, K1.out⟩
  case round =>
    obtain ⟨j, rfl, hj, hrr⟩ := hrel
    obtain ⟨r1, r2, r3⟩ := hrr.out
    obtain ⟨ro, rcap, rfl⟩ := own_shape r1
    have hsz := r3.size
    have P1 := Lib.hid r1; have P3 := Lib.hid r3
    by_cases hlt2 : j < l.length
    · obtain ⟨n, hn⟩ : ∃ n, l[j] = n := ⟨_, rfl⟩
      have hnu := hu _ (List.getElem_mem hlt2)
      rw [hn] at hnu
      have hd : l.drop j = n :: l.drop (j + 1) := by rw [← hn]; exact List.drop_eq_getElem_cons hlt2
      have hle : ((l.drop j).flatMap vb).length ≤ (l.flatMap vb).length := by
        have : l.flatMap vb = (l.take j).flatMap vb ++ (l.drop j).flatMap vb := by rw [← List.flatMap_append, List.take_append_drop]
        rw [this, List.length_append]; omega
      rw [List.length_append] at hls
      rw [hd, List.flatMap_cons, List.append_assoc] at r2
      have HV := Lib.hid (aVr n hnu ((l.drop (j + 1)).flatMap vb ++ rest) (by rw [← List.append_assoc, ← List.flatMap_cons, ← hd, List.length_append]; omega) r2)
      have HT : Hid (n8s (l.take (j + 1)) = n8s (l.take j) ++ [.int .u64 n]) := by
        show _ = _
        rw [List.take_succ_eq_append_getElem hlt2, hn]; simp [n8s]
      have hF := fun W => fldN 5 n ⟨#[]⟩ W
      clear r1 r2 r3 hrr hn hd hle hls
      go_wp2_with fail
      refine (HV.out).mono ?_
      rintro e w2 ⟨rfl, r2, k2⟩
      have Q1 : Hid (w2.ownsRow w.heap.size 22 1 (.slice ro j rcap) j (n8s (l.take j))) := own_kp P1.out k2 (fun b hb e => by have := (own_block P1.out hb).1; omega)
      have Q2 := Lib.hid r2; have Q3 : Hid (Kp (fun b => b = r) w w2) := P3.out.trans k2
      have hsz2 := Q3.out.size
      clear r2 k2
      go_wp2_with (at_builtin; refine wp_app1 tU64s (.tmp 8) (.tmp 12) rfl rfl w.heap.size (Q1.out.alloc _) [.int .u64 n] rfl rfl rfl (heap_at _ _ _ (by simp)) rfl (by omega) (by omega) (by simp; omega) ?_)
      intro g2 cap2 w3 hown hgrow
      have hk3 : Kp (fun b => w.heap.size ≤ b) w2 w3 := ((Kp.refl _ w2).alloc (.cells #[.int .u64 n] 22)).grown hgrow (fun b hb => .inl (own_block Q1.out hb).1)
      have HG : Hid (w3.ownsRow w.heap.size 22 1 (.slice (some ⟨g2, 0, none⟩) (j + 1) cap2) (j + 1) (n8s (l.take (j + 1)))) := by rw [HT.out]; exact hown
      have HR : Hid (Rd w3 r ((l.drop (j + 1)).flatMap vb ++ rest)) := Blk.kp Q2.out hk3 (by omega)
      have HK : Hid (Kp (fun b => b = r) w w3) := Q3.out.then hk3 (fun i hi e => by omega)
      clear hown hgrow hk3
      go_wp2_with fail
      go_roundw
      case rel => exact ⟨j + 1, by go_num, by omega, HG.out, HR.out, HK.out⟩
      case measure => simp [intOf]; omega
    · have e : j = l.length := by omega
      subst e
      rw [List.drop_length] at r2
      have HR : Hid (Rd wr r rest) := r2
      have HO : Hid (wr.ownsRow w.heap.size 22 1 (.slice ro l.length rcap) l.length (n8s l)) := by have := r1; rwa [List.take_length] at this
      clear r1 r2 r3 hrr
      go_wp2_with fail
      go_ret
      exact ⟨_, rfl, HO.out, HR.out, P3.out⟩
end Go.Proofs.YtlaakhfgidjofaaGreatDoor
