/- Walks of layer 39, the document's: records read. -/
import Derived.Test.YthjapdjglifopaaRefTr
import Derived.Test.YthjapdjglifopaaTrY
import Derived.Test.YthjapdjglifopaaTake
namespace Go.Proofs.Ythjapdjglifopaa
set_option linter.unusedVariables false
set_option linter.unusedSimpArgs false
open Go.RowKit Go.Shelf

theorem drop_take_snoc (l : List UInt8) (a i : Nat) (h : a + i < l.length) : (l.drop a).take (i + 1) = (l.drop a).take i ++ [l[a + i]] := by
  rw [List.take_add_one, List.getElem?_drop, List.getElem?_eq_getElem h]; rfl
set_option maxHeartbeats 1000000 in
theorem rtNum (s : ByteArray) (hs : s.size ≤ 1000000) (a n : Nat) (hn : n ≤ 8) (h : a + n ≤ s.size) (w : World) : Calls Try.prog 55 #[.string s, .int .i64 a, .int .i64 n] w fun e w' => e = .returned (.int .u64 (num (((bl s).drop a).take n))) ∧ w = w' := by
  go_enter Try.func55, Try.ntmps55
  go_wp2
  go_loop [7, 8] (fun x0 i0 => ∃ (i x : Nat), i0 = .int .i64 ((a + i : Nat) : Int) ∧ i ≤ n ∧ x0 = .int .u64 x ∧ Hid (x = num (((bl s).drop a).take i))) (fun _ i0 => a + n - (intOf i0).toNat)
  case atStart => exact ⟨0, 0, rfl, by omega, rfl, by simp [Hid, num]⟩
  case round =>
    obtain ⟨i, x, rfl, hi, rfl, hx⟩ := hrel
    obtain ⟨q, hq⟩ : ∃ q, a + i = q := ⟨_, rfl⟩
    rw [hq]
    by_cases hlt : i < n
    · have hqs : q < s.size := by omega
      have hb := num_lt (((bl s).drop a).take i)
      have hl : (((bl s).drop a).take i).length ≤ 7 := by rw [List.length_take]; omega
      have hb2 : 256 ^ (((bl s).drop a).take i).length ≤ 256 ^ 7 := Nat.pow_le_pow_right (by decide) hl
      rw [← hx.out] at hb
      have hxb : (x : Int) < 72057594037927936 := by
        have : (256 : Nat) ^ 7 = 72057594037927936 := by decide
        omega
      have hc := UInt8.toNat_lt s[q]
      have HX : Hid (x * 256 + s[q].toNat = num (((bl s).drop a).take (i + 1))) := by
        show _ = _
        rw [drop_take_snoc _ _ _ (by rw [bl_len]; omega), num_snoc, ← hx.out]
        subst hq; rfl
      have HQ := Lib.hid hq
      have hqn : (q : Int) < a + n := by omega
      clear hb hb2 hl hq
      go_wp2
      refine ⟨⟨i + 1, x * 256 + s[q].toNat, by rw [show a + (i + 1) = q + 1 by have := HQ.out; omega]; simp, by omega, by simp, HX.out⟩, by simp [intOf]; omega⟩
    · have hqn : (a : Int) + n ≤ q := by omega
      have HX : Hid (x = num (((bl s).drop a).take n)) := by
        have : i = n := by omega
        subst this; exact hx.out
      go_wp2
      go_ret
      exact ⟨by rw [← HX.out]; rfl, rfl⟩

theorem rtNum' (s : ByteArray) (hs : s.size ≤ 1000000) (d a n : Nat) (hn : n ≤ 8) (h : d + a + n ≤ s.size) (x : Nat) (hx : num (((bl s).drop (d + a)).take n) = x) (W : World) : Calls Try.prog 55 #[.string s, .int .i64 ((d : Int) + (a : Int)), .int .i64 n] W fun e w' => e = .returned (.int .u64 x) ∧ W = w' := by
  have := rtNum s hs (d + a) n hn h W
  rw [hx, show ((d + a : Nat) : Int) = (d : Int) + (a : Int) by omega] at this
  exact this
theorem piece_drop (s : List UInt8) (j a n : Nat) (h : a + n ≤ 30) : ((piece s j).drop a).take n = (s.drop (30 * j + a)).take n := by
  unfold piece
  rw [List.drop_take, List.drop_drop, List.take_take, Nat.min_eq_left (by omega)]
theorem num_one (s : ByteArray) (a : Nat) (h : a < s.size) : num (((bl s).drop a).take 1) = s[a].toNat := by
  rw [drop_take_snoc _ a 0 (by rw [bl_len]; exact h)]
  simp [num]; rfl
theorem bytes_parse (s : List UInt8) (hs : s.length = 30) (hr : rightB (parseR s) = true) : bytesR (parseR s) = sealL (s.take 26) := by
  unfold bytesR; congr 1
  have d1 : ∀ (x : List UInt8) (k n : Nat), (x.drop k).length ≥ n → be n (num ((x.drop k).take n)) = (x.drop k).take n := fun x k n h => by
    have e : ((x.drop k).take n).length = n := by rw [List.length_take]; omega
    have := be_num ((x.drop k).take n)
    rwa [e] at this
  unfold body parseR
  simp only [Int.toNat_natCast]
  have l0 := d1 s 0 8 (by rw [List.length_drop]; omega)
  rw [List.drop_zero] at l0
  rw [l0, d1 s 8 1 (by rw [List.length_drop]; omega), d1 s 9 4 (by rw [List.length_drop]; omega), d1 s 13 4 (by rw [List.length_drop]; omega), d1 s 17 8 (by rw [List.length_drop]; omega), d1 s 25 1 (by rw [List.length_drop]; omega)]
  have sp : ∀ (k n : Nat), (s.drop k).take n ++ (s.drop (k + n)) = s.drop k := fun k n => by rw [← List.drop_drop, List.take_append_drop]
  have tk : ∀ (k n m : Nat), (s.drop k).take (n + m) = (s.drop k).take n ++ (s.drop (k + n)).take m := fun k n m => by rw [List.take_add, List.drop_drop]
  have h0 := tk 0 8 18
  rw [List.drop_zero] at h0
  have h1 := tk 8 1 17
  have h2 := tk 9 4 13
  have h3 := tk 13 4 9
  have h4 := tk 17 8 1
  simp only [Nat.zero_add] at h0
  rw [← h4, ← h3, ← h2, ← h1]
  exact h0.symm

set_option maxRecDepth 100000 in
set_option maxHeartbeats 4000000 in
theorem rtRead (s : ByteArray) (hs : s.size ≤ 900000) (w : World) : Calls Try.prog 24 #[.string s] w fun e w' => ∃ v l, e = .returned (.tuple #[v, .int .i64 ((30 * l.length : Nat) : Int)]) ∧ Reads (bl s) l ∧ w'.ownsRow w.heap.size 53 6 v l.length (l.flatMap enR) ∧ Kp none' w w' := by
  go_enter Try.func24, Try.ntmps24
  go_wp2
  go_loopw [4, 5] (fun v a wr => ∃ (l : List Rec) (d : Nat), a = .int .i64 d ∧ d ≤ s.size ∧ Hid (d = 30 * l.length) ∧ Hid (RdTo (bl s) w.heap.size w wr v l)) (fun _ a _ => s.size - (intOf a).toNat)
  case atStart => exact ⟨[], 0, rfl, by omega, rfl, RT.nil _, World.ownsRow_nil _ _ _ _, Kp.refl _ _⟩
  case round =>
    obtain ⟨l, d, rfl, hd, hl, hr⟩ := hrel
    obtain ⟨ro, rcap, rfl⟩ := own_shape hr.out.own
    have hsz := hr.out.kp.size
    have hlen := hr.out.rt.len
    have hld := hl.out
    by_cases hlt : d + 30 ≤ s.size
    · have hp : bl (s.extract d (d + 30)) = piece (bl s) l.length := by rw [hld]; exact piece_bl s _ (by omega)
      have hp30 : (piece (bl s) l.length).length = 30 := by rw [piece, List.length_take, List.length_drop, bl_len]; omega
      have hplt := parse_lt (piece (bl s) l.length)
      obtain ⟨⟨t, k, f, i, n, c⟩, hpr⟩ : ∃ r, parseR (piece (bl s) l.length) = r := ⟨_, rfl⟩
      have hq := hpr
      unfold parseR at hq
      rw [← List.drop_zero (l := piece (bl s) l.length), List.drop_drop, List.drop_drop, List.drop_drop, List.drop_drop, List.drop_drop, piece_drop _ _ _ _ (by omega), piece_drop _ _ _ _ (by omega), piece_drop _ _ _ _ (by omega), piece_drop _ _ _ _ (by omega), piece_drop _ _ _ _ (by omega), piece_drop _ _ _ _ (by omega), ← hld] at hq
      injection hq with q0 q1 q2 q3 q4 q5
      simp only [Nat.zero_add, Nat.add_zero] at q0 q1 q2 q3 q4 q5
      rw [num_one s (d + 8) (by omega)] at q1
      rw [num_one s (d + 25) (by omega)] at q5
      obtain ⟨p1, p2, p3, p4, p5, p6, p7, p8⟩ := hplt
      rw [hpr] at p1 p2 p3 p4 p5 p6 p7 p8
      simp only at p1 p2 p3 p4 p5 p6 p7 p8
      have HN0 : Hid (∀ W, Calls Try.prog 55 #[.string s, .int .i64 (d : Int), .int .i64 8] W fun e w' => e = .returned (.int .u64 (t : Nat)) ∧ W = w') := fun W => by
        have := rtNum s (by omega) d 8 (by omega) (by omega) W
        rw [q0] at this; exact this
      have HN2 : Hid (∀ W, Calls Try.prog 55 #[.string s, .int .i64 ((d : Int) + 9), .int .i64 4] W fun e w' => e = .returned (.int .u64 (f : Nat)) ∧ W = w') := rtNum' s (by omega) d 9 4 (by omega) (by omega) f q2
      have HN3 : Hid (∀ W, Calls Try.prog 55 #[.string s, .int .i64 ((d : Int) + 13), .int .i64 4] W fun e w' => e = .returned (.int .u64 (i : Nat)) ∧ W = w') := rtNum' s (by omega) d 13 4 (by omega) (by omega) i q3
      have HN4 : Hid (∀ W, Calls Try.prog 55 #[.string s, .int .i64 ((d : Int) + 17), .int .i64 8] W fun e w' => e = .returned (.int .u64 (n : Nat)) ∧ W = w') := rtNum' s (by omega) d 17 8 (by omega) (by omega) n q4
      have e8 : IntKind.i64.wrap ((d : Int) + 8) = (d : Int) + 8 := IntWalk.i64_in _ (by omega)
      have e9 : IntKind.i64.wrap ((d : Int) + 9) = (d : Int) + 9 := IntWalk.i64_in _ (by omega)
      have e13 : IntKind.i64.wrap ((d : Int) + 13) = (d : Int) + 13 := IntWalk.i64_in _ (by omega)
      have e17 : IntKind.i64.wrap ((d : Int) + 17) = (d : Int) + 17 := IntWalk.i64_in _ (by omega)
      have e25 : IntKind.i64.wrap ((d : Int) + 25) = (d : Int) + 25 := IntWalk.i64_in _ (by omega)
      have f2 : IntKind.u32.wrap (f : Int) = f := by rw [IntKind.wrap_u32]; omega
      have f3 : IntKind.u32.wrap (i : Int) = i := by rw [IntKind.wrap_u32]; omega
      have t8 : ((d : Int) + 8).toNat = d + 8 := by omega
      have t25 : ((d : Int) + 25).toNat = d + 25 := by omega
      have g8 : (0 : Int) ≤ (d : Int) + 8 := by omega
      have g25 : (0 : Int) ≤ (d : Int) + 25 := by omega
      have j8 : (d : Int) + 8 < s.size := by omega
      have j25 : (d : Int) + 25 < s.size := by omega
      have k8 : d + 8 < s.size := by omega
      have k25 : d + 25 < s.size := by omega
      have w1 : IntKind.i64.wrap ((s[d + 8].toNat : Nat) : Int) = k := by rw [q1]; exact IntWalk.i64_in _ (by omega)
      have w5 : IntKind.i64.wrap ((s[d + 25].toNat : Nat) : Int) = c := by rw [q5]; exact IntWalk.i64_in _ (by omega)
      clear q0 q1 q2 q3 q4 q5 hld hlen
      go_wp2_with fail
      refine wp_region_heads 28 2 (by kernel_rfl) rfl (by kernel_rfl) (by kernel_rfl) (fun c a d u w h => by cases d <;> exact h) ?_
      simp only [List.take_succ_cons, List.take_zero, List.drop_succ_cons, List.drop_zero]
      repeat (first
        | (apply wpHeads_op; (exact rfl); (intro W; go_simp; exact rfl))
        | (apply wpHeads_call; (exact rfl); (intro W; go_simp; exact ⟨rfl, rfl⟩); (with_reducible first | exact HN0.out | exact HN2.out | exact HN3.out | exact HN4.out)))
      change wpList _ _ _ _ _ _
      have hkd := (Kp.refl none' wr).drew
      have HRO := Lib.hid (own_kp (S := none') hr.out.own hkd (fun _ _ h => h))
      have HRK := Lib.hid (hr.out.kp.trans hkd)
      have HSZ : w.heap.size ≤ wr.drew.heap.size := HRK.out.size
      clear hkd
      generalize wr.drew = w2 at *
      go_wp2_with fail
      clear e8 e9 e13 e17 e25 f2 f3 w1 w5 HN0 HN2 HN3 HN4
      have HB : Hid (Blk (w2.alloc (.cells #[.int .u64 t, .int .i64 k, .int .u32 f, .int .u32 i, .int .u64 n, .int .i64 c] 53)) w2.heap.size [.int .u64 t, .int .i64 k, .int .u32 f, .int .u32 i, .int .u64 n, .int .i64 c] 53) := Blk.new _ _ _
      have hk2 := (Kp.refl none' w2).alloc (.cells #[.int .u64 t, .int .i64 k, .int .u32 f, .int .u32 i, .int .u64 n, .int .i64 c] 53)
      have HO2 := Lib.hid (own_kp (S := none') HRO.out hk2 (fun _ _ h => h))
      have HK2 := Lib.hid (HRK.out.trans hk2)
      have hz2 : w.heap.size ≤ w2.heap.size := HSZ
      clear hk2
      generalize hw3 : w2.alloc (.cells #[.int .u64 t, .int .i64 k, .int .u32 f, .int .u32 i, .int .u64 n, .int .i64 c] 53) = w3 at *
      obtain ⟨p, hpp⟩ : ∃ p, w2.heap.size = p := ⟨_, rfl⟩
      rw [hpp] at HB hz2 ⊢
      clear hpp hw3 HRO HRK HSZ
      have c0 := HB.out.cell 0 rfl
      have c1 := HB.out.cell 1 rfl
      have c2 := HB.out.cell 2 rfl
      have c3 := HB.out.cell 3 rfl
      have c4 := HB.out.cell 4 rfl
      have c5 := HB.out.cell 5 rfl
      have hR := fun W => rtRight t f i n k c W
      have hfit : Rec.fit ⟨t, k, f, i, n, c⟩ := ⟨p1, p2, p3, p4⟩
      have hl2 : l.length ≤ 30000 := by have := hl.out; omega
      cases hrr : rightB ⟨t, k, f, i, n, c⟩ with
      | true =>
        rw [hrr] at hR
        have hO := fun W => rtOne ⟨t, k, f, i, n, c⟩ hfit hrr W
        have hbp := bytes_parse (piece (bl s) l.length) hp30 (by rw [hpr]; exact hrr)
        rw [hpr] at hbp
        rw [hbp] at hO
        have HR := Lib.hid hR
        simp only at hO
        have HO := Lib.hid hO
        have e30 : IntKind.i64.wrap ((d : Int) + 30) = (d : Int) + 30 := IntWalk.i64_in _ (by omega)
        have t30 : ((d : Int) + 30).toNat = d + 30 := by omega
        have g30 : (d : Int) ≤ (d : Int) + 30 := by omega
        have j30 : (d : Int) + 30 ≤ s.size := by omega
        have hq : ((tx (sealL ((piece (bl s) l.length).take 26))).toList == (s.extract d (d + 30)).toList) = decide (sealL ((piece (bl s) l.length).take 26) = piece (bl s) l.length) := by
          by_cases h : sealL ((piece (bl s) l.length).take 26) = piece (bl s) l.length
          · rw [decide_eq_true h, str_beq (by apply str_ext; rw [bl_tx, hp]; exact h)]
          · rw [decide_eq_false h, str_bne (fun e => h (by have := congrArg bl e; rw [bl_tx, hp] at this; exact this))]
        cases hs26 : decide (sealL ((piece (bl s) l.length).take 26) = piece (bl s) l.length) with
        | true =>
          rw [hs26] at hq
          have HG : Hid (goodB (piece (bl s) l.length) = true) := good_iff.2 ⟨of_decide_eq_true hs26, by rw [hpr]; exact hrr⟩
          have HPR := Lib.hid hpr
          clear hs26 hbp hrr hfit hR hO hpr hp hp30
          go_region_held3 (fun w' => w'.cell? ⟨p, 0, none⟩ = some (.int .u64 t) ∧ w'.cell? ⟨p, 1, none⟩ = some (.int .i64 k) ∧ w'.cell? ⟨p, 2, none⟩ = some (.int .u32 f) ∧ w'.cell? ⟨p, 3, none⟩ = some (.int .u32 i) ∧ w'.cell? ⟨p, 4, none⟩ = some (.int .u64 n) ∧ w'.cell? ⟨p, 5, none⟩ = some (.int .i64 c)) (go_keep)
            (first
              | (go_at_call 20; refine (HR.out _).mono ?_; rintro e w4 ⟨rfl, k4⟩; have k5 := (Kp.refl none' w3).drew.trans k4; have HB4 := HB.out.kp k5 id; have K5 := Lib.hid k5; have d0 := HB4.cell 0 rfl; have d1 := HB4.cell 1 rfl; have d2 := HB4.cell 2 rfl; have d3 := HB4.cell 3 rfl; have d4 := HB4.cell 4 rfl; have d5 := HB4.cell 5 rfl; clear k4 k5 HB4)
              | (go_at_call 53; refine (HO.out _).mono ?_; rintro e w5 ⟨rfl, k6⟩; have HB5 := (HB.out.kp K5.out id).kp k6 id; have K6 := Lib.hid k6; have d6 := HB5.cell 0 rfl; have d7 := HB5.cell 1 rfl; have d8 := HB5.cell 2 rfl; have d9 := HB5.cell 3 rfl; have d10 := HB5.cell 4 rfl; have d11 := HB5.cell 5 rfl; clear k6 HB5))
          clear e30 t30 g30 j30 hq HR HO
          have HK6 := Lib.hid ((HK2.out.trans K5.out).trans K6.out)
          have HO6 := Lib.hid (own_kp (S := none') (own_kp (S := none') HO2.out K5.out (fun _ _ h => h)) K6.out (fun _ _ h => h))
          have hz6 := HK6.out.size
          have HT : Hid (RT (bl s) (l ++ [⟨t, k, f, i, n, c⟩])) := by
            show RT _ _
            rw [← HPR.out]
            exact hr.out.rt.snoc (by rw [bl_len]; have := hl.out; omega) HG.out
          clear K5 K6 HO2 HK2
          go_wp2_with (at_builtin; refine wp_app1 tRec (.tmp 55) (.tmp 57) rfl rfl w.heap.size (HO6.out.alloc _) (enR ⟨t, k, f, i, n, c⟩) rfl rfl rfl (heap_new _ _) rfl (by omega) (by omega) (by simp; omega) ?_)
          intro g2 cap2 w7 hown hgrow
          have HF : Hid (RdTo (bl s) w.heap.size w w7 (.slice (some ⟨g2, 0, none⟩) (l.length + 1) cap2) (l ++ [⟨t, k, f, i, n, c⟩])) :=
            ⟨HT.out, by rw [List.length_append, List.flatMap_append]; simpa using hown, (HK6.out.alloc _).grown hgrow (fun b hb => .inr (by have := (own_block HO6.out hb); omega))⟩
          have HL : Hid (d + 30 = 30 * (l ++ [(⟨t, k, f, i, n, c⟩ : Rec)]).length) := by show _ = _; rw [List.length_append, hl.out]; simp; omega
          clear hown hgrow
          go_wp2_with fail
          go_roundw
          case rel => exact ⟨_, d + 30, by go_num, by omega, HL.out, HF.out⟩
          case measure => simp [intOf]; omega
        | false =>
          rw [hs26] at hq
          have HG : Hid (Reads (bl s) l ∧ (30 * l.length : Nat) = d) := ⟨⟨hr.out.rt, .inr (good_not.2 (fun h => (of_decide_eq_false hs26) h.1))⟩, hl.out.symm⟩
          clear hs26 hbp hrr hfit hR hO hpr hp hp30
          go_region_held3 (fun w' => w'.cell? ⟨p, 0, none⟩ = some (.int .u64 t) ∧ w'.cell? ⟨p, 1, none⟩ = some (.int .i64 k) ∧ w'.cell? ⟨p, 2, none⟩ = some (.int .u32 f) ∧ w'.cell? ⟨p, 3, none⟩ = some (.int .u32 i) ∧ w'.cell? ⟨p, 4, none⟩ = some (.int .u64 n) ∧ w'.cell? ⟨p, 5, none⟩ = some (.int .i64 c)) (go_keep)
            (first
              | (go_at_call 20; refine (HR.out _).mono ?_; rintro e w4 ⟨rfl, k4⟩; have k5 := (Kp.refl none' w3).drew.trans k4; have HB4 := HB.out.kp k5 id; have K5 := Lib.hid k5; have d0 := HB4.cell 0 rfl; have d1 := HB4.cell 1 rfl; have d2 := HB4.cell 2 rfl; have d3 := HB4.cell 3 rfl; have d4 := HB4.cell 4 rfl; have d5 := HB4.cell 5 rfl; clear k4 k5 HB4)
              | (go_at_call 53; refine (HO.out _).mono ?_; rintro e w5 ⟨rfl, k6⟩; have HB5 := (HB.out.kp K5.out id).kp k6 id; have K6 := Lib.hid k6; have d6 := HB5.cell 0 rfl; have d7 := HB5.cell 1 rfl; have d8 := HB5.cell 2 rfl; have d9 := HB5.cell 3 rfl; have d10 := HB5.cell 4 rfl; have d11 := HB5.cell 5 rfl; clear k6 HB5))
          clear e30 t30 g30 j30 hq HR HO
          have HK6 := Lib.hid ((HK2.out.trans K5.out).trans K6.out)
          have HO6 := Lib.hid (own_kp (S := none') (own_kp (S := none') HO2.out K5.out (fun _ _ h => h)) K6.out (fun _ _ h => h))
          go_wp2_with fail
          go_ret2
          exact ⟨_, l, by rw [HG.out.2]; rfl, HG.out.1, HO6.out, HK6.out⟩
      | false =>
        rw [hrr] at hR
        have HR := Lib.hid hR
        have HG : Hid (Reads (bl s) l ∧ (30 * l.length : Nat) = d) := ⟨⟨hr.out.rt, .inr (good_not.2 (fun h => by rw [hpr, hrr] at h; exact absurd h.2 (by simp)))⟩, hl.out.symm⟩
        clear hrr hfit hR hpr hp hp30
        refine wp_region_any (by kernel_rfl) ?_
        change wpAny _ _ _ _ _ _ _ (World.drew _)
        refine wpAny_ready (rs := [0]) (by kernel_rfl) (by simp) ?_
        refine AllReady.cons rfl (fun K hK => ?_) AllReady.nil
        go_simp
        refine hK _ _ ?_; clear hK K
        refine wpAny_ready (rs := [1]) (by kernel_rfl) (by simp) ?_
        refine AllReady.cons rfl (fun K hK => ?_) AllReady.nil
        go_simp
        refine (HR.out _).mono ?_
        rintro e w4 ⟨rfl, k4⟩
        have K5 := Lib.hid ((Kp.refl none' w3).drew.trans k4); clear k4
        refine hK _ _ ?_; clear hK K
        refine wpAny_ready (rs := [2]) (by kernel_rfl) (by simp) ?_
        refine AllReady.cons rfl (fun K hK => ?_) AllReady.nil
        go_simp
        refine hK _ _ ?_; clear hK K
        refine wpAny_ready (rs := [3]) (by kernel_rfl) (by simp) ?_
        refine AllReady.cons rfl (fun K hK => ?_) AllReady.nil
        go_simp
        refine hK _ _ ?_; clear hK K
        refine wpAny_take (i := 4) (v := undef) rfl (by kernel_rfl) (by kernel_rfl) (by kernel_rfl) (fun _ _ _ h => h) (Or.inr ⟨by kernel_rfl, rfl⟩) ?_
        refine wpAny_take (i := 5) (v := undef) rfl (by kernel_rfl) (by kernel_rfl) (by kernel_rfl) (fun _ _ _ h => h) (Or.inr ⟨by kernel_rfl, rfl⟩) ?_
        refine wpAny_take (i := 6) (v := undef) rfl (by kernel_rfl) (by kernel_rfl) (by kernel_rfl) (fun _ _ _ h => h) (Or.inr ⟨by kernel_rfl, rfl⟩) ?_
        refine wpAny_take (i := 7) (v := undef) rfl (by kernel_rfl) (by kernel_rfl) (by kernel_rfl) (fun _ _ _ h => h) (Or.inr ⟨by kernel_rfl, rfl⟩) ?_
        refine wpAny_take (i := 8) (v := undef) rfl (by kernel_rfl) (by kernel_rfl) (by kernel_rfl) (fun _ _ _ h => h) (Or.inr ⟨by kernel_rfl, rfl⟩) ?_
        refine wpAny_take (i := 9) (v := undef) rfl (by kernel_rfl) (by kernel_rfl) (by kernel_rfl) (fun _ _ _ h => h) (Or.inr ⟨by kernel_rfl, rfl⟩) ?_
        refine wpAny_take (i := 10) (v := undef) rfl (by kernel_rfl) (by kernel_rfl) (by kernel_rfl) (fun _ _ _ h => h) (Or.inr ⟨by kernel_rfl, rfl⟩) ?_
        refine wpAny_take (i := 11) (v := undef) rfl (by kernel_rfl) (by kernel_rfl) (by kernel_rfl) (fun _ _ _ h => h) (Or.inr ⟨by kernel_rfl, rfl⟩) ?_
        refine wpAny_ready (rs := [12]) (by kernel_rfl) (by simp) ?_
        refine AllReady.cons rfl (fun K hK => ?_) AllReady.nil
        go_simp
        refine hK _ _ ?_; clear hK K
        refine wpAny_done (by kernel_rfl) ?_ _
        rename_i Q' K' hK'
        refine hK' _ _ ?_
        have HK6 := Lib.hid (HK2.out.trans K5.out)
        have HO6 := Lib.hid (own_kp (S := none') HO2.out K5.out (fun _ _ h => h))
        go_wp2_with fail
        go_ret2
        exact ⟨_, l, by rw [HG.out.2]; rfl, HG.out.1, HO6.out, HK6.out⟩
    · have HR : Hid (Reads (bl s) l ∧ (30 * l.length : Nat) = d) := ⟨⟨hr.out.rt, .inl (by rw [bl_len]; omega)⟩, hld.symm⟩
      clear hlen hld
      go_wp2_with fail
      go_ret2
      exact ⟨_, l, by rw [HR.out.2]; rfl, HR.out.1, hr.out.own, hr.out.kp⟩
end Go.Proofs.Ythjapdjglifopaa
