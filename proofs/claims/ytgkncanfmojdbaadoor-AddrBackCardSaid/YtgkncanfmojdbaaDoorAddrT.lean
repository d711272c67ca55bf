/- Walks of layer 31: prefixes read. -/
import Derived.Test.YtgkncanfmojdbaaDoorAddrR
import Derived.Test.YtgkncanfmojdbaaDoorAddrW
namespace Go.Proofs.YtgkncanfmojdbaaDoor
set_option linter.unusedVariables false
set_option linter.unusedSimpArgs false
open Go.RowKit Go.Shelf

theorem aCut (s : ByteArray) (w : World) (hs : s.size ≤ 1000000) (hx : MX w) : ∃ (x y : ByteArray) (b : Bool), bl x = (Lib.cut (bl s) [47]).1 ∧ bl y = (Lib.cut (bl s) [47]).2.1 ∧ b = (Lib.cut (bl s) [47]).2.2 ∧
    Calls Tryd.prog 28 #[.string s, .string ⟨#[47]⟩] w fun e w' => e = .returned (.tuple #[.string x, .string y, .bool b]) ∧ ∃ n, w' = w.drewN n := by
  obtain ⟨m, hm⟩ := hx
  exact ⟨tx (Lib.cut (bl s) [47]).1, tx (Lib.cut (bl s) [47]).2.1, _, bl_tx _, bl_tx _, rfl, Tryd.strings_Cut s ⟨#[47]⟩ m w (by omega) hm⟩
theorem aHasSign (s : ByteArray) (w : World) (hs : s.size ≤ 1000000) (hx : MX w) : Calls Tryd.prog 29 #[.string s, .string ⟨#[47]⟩] w fun e w' => e = .returned (.bool (decide (47 ∈ bl s))) ∧ w' = w := by
  obtain ⟨m, hm⟩ := hx
  rw [← has_sign 47 (bl s)]
  exact Tryd.strings_Contains s ⟨#[47]⟩ m w (by omega) hm
theorem cut_len (l : List UInt8) : (Lib.cut l [47]).1.length ≤ l.length ∧ (Lib.cut l [47]).2.1.length ≤ l.length := by
  unfold Lib.cut
  split
  · simp only [List.length_take, List.length_drop]; omega
  · simp
theorem readP_no {l : List UInt8} (h : 47 ∉ l) : readP l = ((0, 0), 3) := by
  unfold readP; rw [((cut_parts 47 l).2 h).2]
theorem readP_more {l : List UInt8} (h : 47 ∈ l) (h2 : 47 ∈ (Lib.cut l [47]).2.1) : readP l = ((0, 0), 3) := by
  obtain ⟨a, b, h3, h4⟩ := (cut_parts 47 l).1 h
  rw [h3] at h2
  obtain ⟨a', b', h5, h6⟩ := (cut_parts 47 b).1 h2
  unfold readP
  rw [h4, h6]
  match hp : parts 47 b' with
  | [] => exact absurd hp (parts_ne _ _)
  | _ :: _ => rfl
theorem readP_two {l : List UInt8} (h : 47 ∈ l) (h2 : 47 ∉ (Lib.cut l [47]).2.1) : readP l = two (Lib.cut l [47]).1 (Lib.cut l [47]).2.1 := by
  obtain ⟨a, b, h3, h4⟩ := (cut_parts 47 l).1 h
  rw [h3] at h2 ⊢
  unfold readP
  rw [h4, ((cut_parts 47 b).2 h2).2]
theorem cut_is (l : List UInt8) : (Lib.cut l [47]).2.2 = decide (47 ∈ l) := by
  by_cases h : 47 ∈ l
  · obtain ⟨a, b, h3, _⟩ := (cut_parts 47 l).1 h
    rw [h3]; simp [h]
  · rw [((cut_parts 47 l).2 h).1]; simp [h]
theorem ret_p {p : (Nat × Nat) × Int} {a b : Nat} {e : Int} (h : p = ((a, b), e)) : Ending.returned (.tuple #[.agg #[.int .u32 (a : Int), .int .i64 (b : Int)], .int .i64 e]) = .returned (.tuple #[.agg #[.int .u32 (p.1.1 : Int), .int .i64 (p.1.2 : Int)], .int .i64 p.2]) := by rw [h]

theorem aRetP {W w : World} {p : (Nat × Nat) × Int} {c : Nat} {a m : Nat} {e : Int} {T : Array Value}
    (hb : Blk W c [.int .u32 a, .int .i64 m] 30) (h : p = ((a, m), e)) (hk : Kp none' w W) (h2 : T[2]? = some (.pointer (some ⟨c, 0, none⟩))) (h3 : T[3]? = some (.int .i64 e)) :
    bodyPost Tryd.prog Tryd.f10 (fun e w' => e = .returned (.tuple #[.agg #[.int .u32 (p.1.1 : Int), .int .i64 (p.1.2 : Int)], .int .i64 p.2]) ∧ Kp none' w w') Exit.ret { tmps := T, defers := [] } W := by
  have c0 := hb.cell 0 rfl
  have c1 := hb.cell 1 rfl
  exact bodyPost_ret (v := .tuple #[.agg #[.int .u32 (a : Int), .int .i64 (m : Int)], .int .i64 e]) (by simp [results, Tryd.results10, go_sem, c0, c1, h2, h3]) rfl ⟨ret_p h, hk⟩

theorem aRetP0 {W w : World} {p : (Nat × Nat) × Int} {c : Nat} {e : Int} {T : Array Value}
    (hb : Blk W c [.int .u32 0, .int .i64 0] 30) (h : p = ((0, 0), e)) (hk : Kp none' w W) (h2 : T[2]? = some (.pointer (some ⟨c, 0, none⟩))) (h3 : T[3]? = some (.int .i64 e)) :
    bodyPost Tryd.prog Tryd.f10 (fun e w' => e = .returned (.tuple #[.agg #[.int .u32 (p.1.1 : Int), .int .i64 (p.1.2 : Int)], .int .i64 p.2]) ∧ Kp none' w w') Exit.ret { tmps := T, defers := [] } W :=
  aRetP (a := 0) (m := 0) hb h hk h2 h3

set_option maxHeartbeats 1000000 in
theorem aReadP (s : ByteArray) (w : World) (hs : s.size ≤ 1000000) (hx : MX w) : Calls Tryd.prog 10 #[.string s] w fun e w' => e = .returned (.tuple #[.agg #[.int .u32 (readP (bl s)).1.1, .int .i64 (readP (bl s)).1.2], .int .i64 (readP (bl s)).2]) ∧ Kp none' w w' := by
  obtain ⟨wx, hwx⟩ : ∃ wx, wx = w.alloc (.cells #[.int .u32 0, .int .i64 0] 30) := ⟨_, rfl⟩
  have hk0 : Kp none' w wx := by rw [hwx]; exact (Kp.refl _ _).alloc _
  have hbx : Blk wx w.heap.size [.int .u32 0, .int .i64 0] 30 := by rw [hwx]; exact Blk.new _ _ _
  have hX := hx.kp hk0
  obtain ⟨x, y, b, hxl, hyl, hb, hC⟩ := aCut s wx hs hX
  have hl := cut_len (bl s)
  rw [← hxl, ← hyl, bl_len, bl_len, bl_len] at hl
  have hxs : x.size ≤ 1000000 := by omega
  have hys : y.size ≤ 1000000 := by omega
  rw [cut_is] at hb
  have HC := Lib.hid hC
  have HK0 := Lib.hid hk0; have HWX := Lib.hid hwx; have HBX := Lib.hid hbx
  have d0 := hbx.cell 0 rfl
  have d1 := hbx.cell 1 rfl
  have f0 := hbx.fz 0
  have f1 := hbx.fz 1
  clear hl hC hk0 hwx
  by_cases h47 : 47 ∈ bl s
  · rw [decide_eq_true h47] at hb
    subst hb
    have hH := fun n => aHasSign y (wx.drewN n) hys (hX.kp ((Kp.refl _ _).drewN n))
    by_cases h2 : 47 ∈ bl y
    · rw [decide_eq_true h2] at hH
      have HH := Lib.hid hH
      have HR : Hid (readP (bl s) = ((0, 0), 3)) := readP_more h47 (by rw [← hyl]; exact h2)
      clear hX hx hbx hxl hyl h47 h2 hH
      go_enter Tryd.func10, Tryd.ntmps10
      go_wp2_with fail
      rw [← HWX.out]
      go_wp2_with fail
      refine (HC.out).mono ?_
      rintro e w1 ⟨rfl, n, rfl⟩
      go_wp2_with fail
      refine (HH.out n).mono ?_
      rintro e w1 ⟨rfl, rfl⟩
      go_wp2_with fail
      exact aRetP0 ((HBX.out.drewN n).set 0 _ |>.set 1 _) HR.out (((HK0.out.drewN n).set (Or.inr (Nat.le_refl _)) _).set (Or.inr (Nat.le_refl _)) _) rfl rfl
    · rw [decide_eq_false h2] at hH
      have HH := Lib.hid hH
      have hR0 : readP (bl s) = two (bl x) (bl y) := by rw [hxl, hyl]; exact readP_two h47 (by rw [← hyl]; exact h2)
      have hA := fun n => aRead x (wx.drewN n) hxs (hX.kp ((Kp.refl _ _).drewN n))
      have hal := readA_lt (bl x)
      obtain ⟨⟨a, e⟩, hae⟩ : ∃ p, readA (bl x) = p := ⟨_, rfl⟩
      unfold two at hR0
      simp only [hae] at hA hR0 hal
      have HA := Lib.hid hA
      by_cases he : e = 0
      · subst he
        rw [if_neg (by simp)] at hR0
        have hS := fun W => aSmall y 32 W hys
        have hnl := sm_le 32 (bl y)
        obtain ⟨⟨m, f⟩, hmf⟩ : ∃ p, sm 32 (bl y) = p := ⟨_, rfl⟩
        simp only [hmf] at hS hR0 hnl
        have HS := Lib.hid hS
        have hmw : (m : Int) ≤ 32 := by omega
        by_cases hf : f = 0
        · subst hf
          rw [if_neg (by simp)] at hR0
          have hQ := fun W => aRight a m W hal (by omega)
          obtain ⟨rr, hrr⟩ : ∃ rr, rightB a m = rr := ⟨_, rfl⟩
          simp only [hrr] at hQ hR0
          have HQ := Lib.hid hQ
          cases rr with
          | true =>
            have HR : Hid (readP (bl s) = ((a, m), 0)) := by show _ = _; simpa using hR0
            clear hX hx hbx hxl hyl h47 h2 hH hA hae hS hmf hR0 hQ hrr
            go_enter Tryd.func10, Tryd.ntmps10
            go_wp2_with fail
            rw [← HWX.out]
            go_wp2_with fail
            refine (HC.out).mono ?_
            rintro e w1 ⟨rfl, n, rfl⟩
            go_wp2_with fail
            refine (HH.out n).mono ?_
            rintro e w1 ⟨rfl, rfl⟩
            go_wp2_with fail
            refine (HA.out n).mono ?_
            rintro e w1 ⟨rfl, k1⟩
            have HB1 := Lib.hid ((HBX.out.drewN n).kp k1 id)
            have HK1 := Lib.hid ((HK0.out.drewN n).trans k1)
            clear k1
            go_wp2_with fail
            refine (HS.out _).mono ?_
            rintro e w2 ⟨rfl, rfl⟩
            go_wp2_with fail
            refine (HQ.out _).mono ?_
            rintro e w3 ⟨rfl, k3⟩
            have hB3 := (HB1.out.alloc (.cells #[.int .u32 a, .int .i64 m] 30)).kp k3 id
            have hP3 := (Blk.new w1 [.int .u32 a, .int .i64 m] 30).kp k3 id
            have HK3 := Lib.hid ((HK1.out.alloc (.cells #[.int .u32 a, .int .i64 m] 30)).trans k3)
            have e0 := hP3.cell 0 rfl; have e1 := hP3.cell 1 rfl
            have g0 := hB3.cell 0 rfl; have g1 := hB3.cell 1 rfl
            have z0 := hB3.fz 0; have z1 := hB3.fz 1
            have HB3 := Lib.hid hB3
            clear k3 hB3 hP3
            go_wp2_with fail
            exact aRetP (HB3.out.set 0 _ |>.set 1 _) HR.out ((HK3.out.set (Or.inr (Nat.le_refl _)) _).set (Or.inr (Nat.le_refl _)) _) rfl rfl
          | false =>
            have HR : Hid (readP (bl s) = ((0, 0), 6)) := by show _ = _; simpa using hR0
            clear hX hx hbx hxl hyl h47 h2 hH hA hae hS hmf hR0 hQ hrr
            go_enter Tryd.func10, Tryd.ntmps10
            go_wp2_with fail
            rw [← HWX.out]
            go_wp2_with fail
            refine (HC.out).mono ?_
            rintro e w1 ⟨rfl, n, rfl⟩
            go_wp2_with fail
            refine (HH.out n).mono ?_
            rintro e w1 ⟨rfl, rfl⟩
            go_wp2_with fail
            refine (HA.out n).mono ?_
            rintro e w1 ⟨rfl, k1⟩
            have HB1 := Lib.hid ((HBX.out.drewN n).kp k1 id)
            have HK1 := Lib.hid ((HK0.out.drewN n).trans k1)
            clear k1
            go_wp2_with fail
            refine (HS.out _).mono ?_
            rintro e w2 ⟨rfl, rfl⟩
            go_wp2_with fail
            refine (HQ.out _).mono ?_
            rintro e w3 ⟨rfl, k3⟩
            have hB3 := (HB1.out.alloc (.cells #[.int .u32 a, .int .i64 m] 30)).kp k3 id
            have hP3 := (Blk.new w1 [.int .u32 a, .int .i64 m] 30).kp k3 id
            have HK3 := Lib.hid ((HK1.out.alloc (.cells #[.int .u32 a, .int .i64 m] 30)).trans k3)
            have e0 := hP3.cell 0 rfl; have e1 := hP3.cell 1 rfl
            have g0 := hB3.cell 0 rfl; have g1 := hB3.cell 1 rfl
            have z0 := hB3.fz 0; have z1 := hB3.fz 1
            have HB3 := Lib.hid hB3
            clear k3 hB3 hP3
            go_wp2_with fail
            exact aRetP0 (HB3.out.set 0 _ |>.set 1 _) HR.out ((HK3.out.set (Or.inr (Nat.le_refl _)) _).set (Or.inr (Nat.le_refl _)) _) rfl rfl
        · rw [if_pos hf] at hR0
          have hfb : (f != 0) = true := by simpa using hf
          have HR := Lib.hid hR0
          clear hX hx hbx hxl hyl h47 h2 hH hA hae hS hmf hR0 hf
          go_enter Tryd.func10, Tryd.ntmps10
          go_wp2_with fail
          rw [← HWX.out]
          go_wp2_with fail
          refine (HC.out).mono ?_
          rintro e w1 ⟨rfl, n, rfl⟩
          go_wp2_with fail
          refine (HH.out n).mono ?_
          rintro e w1 ⟨rfl, rfl⟩
          go_wp2_with fail
          refine (HA.out n).mono ?_
          rintro e w1 ⟨rfl, k1⟩
          have HB1 := Lib.hid ((HBX.out.drewN n).kp k1 id)
          have HK1 := Lib.hid ((HK0.out.drewN n).trans k1)
          clear k1
          go_wp2_with fail
          refine (HS.out _).mono ?_
          rintro e w2 ⟨rfl, rfl⟩
          have g0 := HB1.out.cell 0 rfl; have g1 := HB1.out.cell 1 rfl
          have z0 := HB1.out.fz 0; have z1 := HB1.out.fz 1
          have hlt := HB1.out.lt
          go_wp2_with fail
          exact aRetP0 ((HB1.out.set 0 _ |>.set 1 _).alloc _) HR.out (((HK1.out.set (Or.inr (Nat.le_refl _)) _).set (Or.inr (Nat.le_refl _)) _).alloc _) rfl rfl
      · rw [if_pos he] at hR0
        have heb : (e != 0) = true := by simpa using he
        have HR := Lib.hid hR0
        clear hX hx hbx hxl hyl h47 h2 hH hA hae hR0 he
        go_enter Tryd.func10, Tryd.ntmps10
        go_wp2_with fail
        rw [← HWX.out]
        go_wp2_with fail
        refine (HC.out).mono ?_
        rintro e w1 ⟨rfl, n, rfl⟩
        go_wp2_with fail
        refine (HH.out n).mono ?_
        rintro e w1 ⟨rfl, rfl⟩
        go_wp2_with fail
        refine (HA.out n).mono ?_
        rintro e w1 ⟨rfl, k1⟩
        have HB1 := Lib.hid ((HBX.out.drewN n).kp k1 id)
        have HK1 := Lib.hid ((HK0.out.drewN n).trans k1)
        clear k1
        have g0 := HB1.out.cell 0 rfl; have g1 := HB1.out.cell 1 rfl
        have z0 := HB1.out.fz 0; have z1 := HB1.out.fz 1
        have hlt := HB1.out.lt
        go_wp2_with fail
        exact aRetP0 (HB1.out.set 0 _ |>.set 1 _) HR.out ((HK1.out.set (Or.inr (Nat.le_refl _)) _).set (Or.inr (Nat.le_refl _)) _) rfl rfl
  · rw [decide_eq_false h47] at hb
    subst hb
    have HR : Hid (readP (bl s) = ((0, 0), 3)) := readP_no h47
    clear hX hx hbx hxl hyl h47
    go_enter Tryd.func10, Tryd.ntmps10
    go_wp2_with fail
    rw [← HWX.out]
    go_wp2_with fail
    refine (HC.out).mono ?_
    rintro e w1 ⟨rfl, n, rfl⟩
    go_wp2_with fail
    exact aRetP0 ((HBX.out.drewN n).set 0 _ |>.set 1 _) HR.out (((HK0.out.drewN n).set (Or.inr (Nat.le_refl _)) _).set (Or.inr (Nat.le_refl _)) _) rfl rfl
end Go.Proofs.YtgkncanfmojdbaaDoor
