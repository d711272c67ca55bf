/- ScriptReads, ScriptParts (layer 41): the laws' walks. -/
import Derived.Test.YthgpmpmnihijnaaDoorScL
import Derived.Test.YthgpmpmnihijnaaDoorAppSl
namespace Go.Proofs.YthgpmpmnihijnaaDoor
set_option linter.unusedVariables false
set_option linter.unusedSimpArgs false
open Go.RowKit Go.Shelf
theorem rSameT (l : List OpR) (v u : Value) (w : World) (h : Sl w v l.length 5 (l.flatMap enO)) (g : Sl w u l.length 5 (l.flatMap enO)) :
    Calls Tryd.prog 9 #[v, u] w fun e w' => e = .returned (.bool true) ∧ Kp none' w w' := by
  have := rSameO l l v u w h g
  rw [decide_eq_true rfl] at this; exact this
theorem fb_ne : ∀ (l : List (List UInt8)) {n : Nat} {e : Int}, fb l = some (n, e) → e ≠ 0 ∧ 1 ≤ n
  | [], _, _, h => by cases h
  | x :: r, n, e, h => by
    rw [fb] at h
    by_cases hx : lineE x = 0
    · rw [if_neg (by simp [hx])] at h
      cases hr : fb r with
      | none => rw [hr] at h; cases h
      | some p =>
        obtain ⟨n', e'⟩ := p
        rw [hr] at h
        simp at h
        obtain ⟨rfl, rfl⟩ := h
        exact ⟨(fb_ne r hr).1, by omega⟩
    · rw [if_pos hx] at h
      injection h with h; injection h with h1 h2
      subst h1 h2
      exact ⟨hx, by omega⟩
theorem both_bad {s t : List UInt8} {l : List OpR} {n : Nat} {e : Int} (h : readS s = (l, n, e)) (he : e ≠ 0) : readS (s ++ 10 :: t) = ([], n, e) := by
  unfold readS at *
  rw [(read_parts s t).1]
  cases hf : fb (parts 10 s) with
  | none => rw [hf] at h; simp at h; exact absurd h.2.2.symm he
  | some p => obtain ⟨n', e'⟩ := p; rw [hf] at h; simp at h ⊢; exact h.2
theorem both_bad2 {s t : List UInt8} {l m : List OpR} {n k : Nat} {e : Int} (h : readS s = (l, n, 0)) (h2 : readS t = (m, k, e)) (he : e ≠ 0) : ∃ j : Nat, k < j ∧ readS (s ++ 10 :: t) = ([], j, e) := by
  have hp := (parts_length 10 s).1
  unfold readS at *
  rw [(read_parts s t).1]
  cases hf : fb (parts 10 s) with
  | some p => obtain ⟨n', e'⟩ := p; rw [hf] at h; simp at h; exact absurd h.2.2 (fb_ne _ hf).1
  | none =>
    cases hg : fb (parts 10 t) with
    | none => rw [hg] at h2; simp at h2; exact absurd h2.2.2.symm he
    | some p => obtain ⟨n', e'⟩ := p; rw [hg] at h2; simp at h2 ⊢; obtain ⟨_, rfl, rfl⟩ := h2; exact ⟨_, by omega, rfl, rfl⟩
theorem both_good {s t : List UInt8} {l m : List OpR} {n k : Nat} (h : readS s = (l, n, 0)) (h2 : readS t = (m, k, 0)) : readS (s ++ 10 :: t) = (l ++ m, 0, 0) := by
  unfold readS at *
  rw [(read_parts s t).1, (read_parts s t).2]
  cases hf : fb (parts 10 s) with
  | some p => obtain ⟨n', e'⟩ := p; rw [hf] at h; simp at h; exact absurd h.2.2 (fb_ne _ hf).1
  | none =>
    cases hg : fb (parts 10 t) with
    | some p => obtain ⟨n', e'⟩ := p; rw [hg] at h2; simp at h2; exact absurd h2.2.2 (fb_ne _ hg).1
    | none => rw [hf] at h; rw [hg] at h2; simp at h h2 ⊢; rw [h.1, h2.1]
theorem bad_nil {s : List UInt8} {l : List OpR} {n : Nat} {e : Int} (h : readS s = (l, n, e)) (he : e ≠ 0) : l = [] := by
  unfold readS at h
  cases hf : fb (parts 10 s) with
  | none => rw [hf] at h; simp at h; exact absurd h.2.2.symm he
  | some p => obtain ⟨n', e'⟩ := p; rw [hf] at h; simp at h; exact h.1
theorem readS_len {s : List UInt8} {l : List OpR} {n : Nat} {e : Int} (h : readS s = (l, n, e)) : l.length ≤ s.length + 1 := by
  have h1 := outL_len (parts 10 s)
  have h2 := (parts_length 10 s).2
  unfold readS at h
  cases hf : fb (parts 10 s) with
  | none => rw [hf] at h; simp at h; rw [← h.1]; omega
  | some p => obtain ⟨n', e'⟩ := p; rw [hf] at h; simp at h; rw [h.1]; simp
theorem oneAllO (l : List OpR) : (l.flatMap enO).all (·.oneCell') = true := by
  rw [List.all_eq_true]
  intro v hv
  obtain ⟨o, _, ho⟩ := List.mem_flatMap.1 hv
  exact oneO o v ho
theorem own_empty (w : World) (base : Nat) (h : base ≤ w.heap.size) : (w.alloc (.cells #[] 40)).ownsRow base 40 5 (.slice (some ⟨w.heap.size, 0, none⟩) 0 0) 0 [] :=
  ⟨rfl, .inr ⟨w.heap.size, 0, #[], rfl, h, heap_new _ _, by omega, by unfold maxLen; omega, rfl, rfl⟩⟩
set_option maxRecDepth 100000 in
set_option maxHeartbeats 2000000 in
theorem readsLaw (s : ByteArray) (w : World) : Calls Tryd.prog 3 #[.string s] w fun e w' => e = .returned (.bool true) ∧ Kp none' w w' := by
  have HL := Lib.hid (fun W => lives41 W)
  by_cases hs : s.size ≤ 4000
  · have hsi : ¬ (4000 : Int) < s.size := by omega
    obtain ⟨⟨l, n, e⟩, hr⟩ : ∃ p, readS (bl s) = p := ⟨_, rfl⟩
    have H1 := Lib.hid (read2 s w (by omega) hr)
    have h2 := fun W => rReadS s W (by omega)
    simp only [hr] at h2
    have H2 := Lib.hid h2
    clear hr h2 hs
    go_enter Tryd.func3, Tryd.ntmps3
    go_wp2_with fail
    refine (H1.out).mono ?_
    rintro e1 w1 ⟨u, rfl, hu, k1⟩
    have HU := Lib.hid hu; have K1 := Lib.hid k1
    clear hu k1
    go_wp2_with fail
    refine (H2.out w1).mono ?_
    rintro e2 w2 ⟨v, rfl, hv, k2⟩
    have HSM := Lib.hid (rSameT l u v w2 (HU.out.old k2) hv)
    have K2 := Lib.hid (K1.out.trans k2)
    clear hv k2 HU
    go_wp2_with fail
    refine (HSM.out).mono ?_
    rintro e3 w3 ⟨rfl, k3⟩
    have K3 := Lib.hid (K2.out.trans k3)
    clear k3
    go_wp2_with fail
    refine (HL.out w3).mono ?_
    rintro e4 w4 ⟨rfl, k4⟩
    have K4 := Lib.hid (K3.out.trans k4)
    clear k4
    go_wp2
    go_ret
    exact ⟨rfl, K4.out⟩
  · have hsi : (4000 : Int) < s.size := by omega
    clear hs
    go_enter Tryd.func3, Tryd.ntmps3
    go_wp2_with fail
    refine (HL.out w).mono ?_
    rintro e4 w4 ⟨rfl, k4⟩
    have K4 := Lib.hid k4
    clear k4
    go_wp2
    go_ret
    exact ⟨rfl, K4.out⟩
set_option maxRecDepth 100000 in
set_option maxHeartbeats 2000000 in
theorem partsLaw (s t : ByteArray) (w : World) : Calls Tryd.prog 4 #[.string s, .string t] w fun e w' => e = .returned (.bool true) ∧ Kp none' w w' := by
  have HL := Lib.hid (fun W => lives41 W)
  by_cases hs : s.size ≤ 2000
  · have hsi : ¬ (2000 : Int) < s.size := by omega
    by_cases ht : t.size ≤ 2000
    · have hti : ¬ (2000 : Int) < t.size := by omega
      obtain ⟨⟨l, n, e⟩, hr⟩ : ∃ p, readS (bl s) = p := ⟨_, rfl⟩
      obtain ⟨⟨m, k, f⟩, hq⟩ : ∃ p, readS (bl t) = p := ⟨_, rfl⟩
      have H1 := Lib.hid (read2 s w (by omega) hr)
      have H2 := Lib.hid (fun W => read2 t W (by omega) hq)
      have hlf : (⟨#[10]⟩ : ByteArray).size = 1 := rfl
      have hct1 := fun W => cat_run (P := Tryd.prog) s ⟨#[10]⟩ (by rw [hlf]; omega) W
      have hsz1 : (s ++ ⟨#[10]⟩).size = s.size + 1 := by rw [ByteArray.size_append, hlf]
      have hct2 := fun W => cat_run (P := Tryd.prog) (s ++ ⟨#[10]⟩) t (by rw [hsz1]; omega) W
      have hb : bl (s ++ ⟨#[10]⟩ ++ t) = bl s ++ 10 :: bl t := by rw [bl_app, bl_app]; simp [bl]
      have hsz2 : (s ++ ⟨#[10]⟩ ++ t).size ≤ 100000 := by rw [ByteArray.size_append, hsz1]; omega
      have r3 : ∀ {l' : List OpR} {n' : Nat} {q' : Int}, readS (bl s ++ 10 :: bl t) = (l', n', q') → ∀ W, Calls Tryd.prog 7 #[.string (s ++ ⟨#[10]⟩ ++ t)] W fun e' w' => ∃ u, e' = .returned (.tuple #[u, .int .i64 n', .int .i64 q']) ∧ Sl w' u l'.length 5 (l'.flatMap enO) ∧ Kp none' W w' := fun h W => read2 _ W hsz2 (by rw [hb]; exact h)
      by_cases he : e = 0
      · subst he
        by_cases hf : f = 0
        · subst hf
          have hbg := both_good hr hq
          obtain ⟨lm, hlm⟩ : ∃ lm, l ++ m = lm := ⟨_, rfl⟩
          rw [hlm] at hbg
          have HLM := Lib.hid hlm
          have H3 := Lib.hid (r3 hbg)
          have hll := readS_len hr
          have hml := readS_len hq
          rw [bl_len] at hll hml
          clear hr hq hlf hsz1 hb r3 hbg hlm
          go_enter Tryd.func4, Tryd.ntmps4
          go_wp2_with fail
          refine (H1.out).mono ?_
          rintro e1 w1 ⟨u, rfl, hu, k1⟩
          have HU := Lib.hid hu; have K1 := Lib.hid k1
          clear hu k1
          go_wp2_with fail
          refine (H2.out w1).mono ?_
          rintro e2 w2 ⟨v, rfl, hv, k2⟩
          have HU2 := Lib.hid (HU.out.old k2); have HV := Lib.hid hv
          have K2 := Lib.hid (K1.out.trans k2)
          clear hv k2 HU
          go_wp2_with fail
          refine (H3.out w2).mono ?_
          rintro e3 w3 ⟨z, rfl, hz, k3⟩
          have HU3 := Lib.hid (HU2.out.old k3); have HV3 := Lib.hid (HV.out.old k3); have HZ := Lib.hid hz
          have K3 := Lib.hid (K2.out.trans k3)
          clear hz k3 HU2 HV
          obtain ⟨uo, ucap, rfl, _⟩ := HU3.out.is
          obtain ⟨vo, vcap, rfl, _⟩ := HV3.out.is
          obtain ⟨zo, zcap, rfl, _⟩ := HZ.out.is
          have hE := own_empty w3 w3.heap.size (Nat.le_refl _)
          have hkE := (Kp.refl none' w3).alloc (.cells #[] 40)
          have HE := Lib.hid hE; have HKE := Lib.hid hkE
          clear hE hkE
          go_wp2_with (at_builtin; refine wp_appSl tOp (.tmp 76) (.tmp 77) rfl rfl w3.heap.size HE.out rfl rfl (HU3.out.old HKE.out) (oneAllO l) (by omega) (by omega) (by simp) ?_)
          intro v4 w4 hown4 hgrow4
          have hk4 := HKE.out.grown hgrow4 (fun b e => .inr (own_block HE.out e).1)
          have HV4 := Lib.hid (HV3.out.old hk4); have HZ4 := Lib.hid (HZ.out.old hk4); have HO4 := Lib.hid hown4; have HK4 := Lib.hid hk4
          have hz4 := hk4.size
          clear hown4 hgrow4 hk4
          obtain ⟨o4, cap4, rfl⟩ := own_shape HO4.out
          go_wp2_with (at_builtin; refine wp_appSl tOp (.tmp 78) (.tmp 79) rfl rfl w3.heap.size HO4.out rfl rfl HV4.out (oneAllO m) (by omega) (by omega) (by omega) ?_)
          intro v5 w5 hown5 hgrow5
          rw [← List.flatMap_append, HLM.out] at hown5
          obtain ⟨n5, hn5⟩ : ∃ n5, l.length + m.length = n5 := ⟨_, rfl⟩
          have hn6 : lm.length = n5 := by rw [← HLM.out, List.length_append]; exact hn5
          rw [hn5] at hown5
          have hk5 := HK4.out.grown hgrow5 (fun b e => .inr (own_block HO4.out e).1)
          obtain ⟨o5, cap5, rfl⟩ := own_shape hown5
          have hsl5 : Sl w5 (.slice o5 n5 cap5) lm.length 5 (lm.flatMap enO) := by rw [hn6]; exact own_sl hown5
          have HSM := Lib.hid (rSameT lm _ _ w5 (HZ.out.old hk5) hsl5)
          have K5 := Lib.hid (K3.out.trans hk5)
          clear hown5 hgrow5 hk5 hsl5 hn5 hn6
          go_wp2_with fail
          refine (HSM.out).mono ?_
          rintro e6 w6 ⟨rfl, k6⟩
          have K6 := Lib.hid (K5.out.trans k6)
          clear k6
          go_wp2_with fail
          refine (HL.out w6).mono ?_
          rintro e7 w7 ⟨rfl, k7⟩
          have K7 := Lib.hid (K6.out.trans k7)
          clear k7
          go_wp2
          go_ret
          exact ⟨rfl, K7.out⟩
        · obtain ⟨j, hkj, hb2⟩ := both_bad2 hr hq hf
          have H3 := Lib.hid (r3 hb2)
          have hfb : (f != 0) = true := by simpa using hf
          have hkj' : (k : Int) < j := by omega
          clear hr hq hlf hsz1 hb r3 hf hb2 hkj
          go_enter Tryd.func4, Tryd.ntmps4
          go_wp2_with fail
          refine (H1.out).mono ?_
          rintro e1 w1 ⟨u, rfl, hu, k1⟩
          have K1 := Lib.hid k1
          clear hu k1
          go_wp2_with fail
          refine (H2.out w1).mono ?_
          rintro e2 w2 ⟨v, rfl, hv, k2⟩
          have K2 := Lib.hid (K1.out.trans k2)
          clear hv k2
          go_wp2_with fail
          refine (H3.out w2).mono ?_
          rintro e3 w3 ⟨z, rfl, hz, k3⟩
          obtain ⟨zo, zcap, rfl, _⟩ := hz.is
          have K3 := Lib.hid (K2.out.trans k3)
          clear hz k3
          go_wp2_with fail
          refine (HL.out w3).mono ?_
          rintro e7 w7 ⟨rfl, k7⟩
          have K7 := Lib.hid (K3.out.trans k7)
          clear k7
          go_wp2
          go_ret
          exact ⟨rfl, K7.out⟩
      · have hb2 := both_bad (t := bl t) hr he
        have H3 := Lib.hid (r3 hb2)
        have heb : (e != 0) = true := by simpa using he
        clear hr hq hlf hsz1 hb r3 he hb2
        go_enter Tryd.func4, Tryd.ntmps4
        go_wp2_with fail
        refine (H1.out).mono ?_
        rintro e1 w1 ⟨u, rfl, hu, k1⟩
        have K1 := Lib.hid k1
        clear hu k1
        go_wp2_with fail
        refine (H2.out w1).mono ?_
        rintro e2 w2 ⟨v, rfl, hv, k2⟩
        have K2 := Lib.hid (K1.out.trans k2)
        clear hv k2
        go_wp2_with fail
        refine (H3.out w2).mono ?_
        rintro e3 w3 ⟨z, rfl, hz, k3⟩
        obtain ⟨zo, zcap, rfl, _⟩ := hz.is
        have K3 := Lib.hid (K2.out.trans k3)
        clear hz k3
        go_wp2_with fail
        refine (HL.out w3).mono ?_
        rintro e7 w7 ⟨rfl, k7⟩
        have K7 := Lib.hid (K3.out.trans k7)
        clear k7
        go_wp2
        go_ret
        exact ⟨rfl, K7.out⟩
    · have hti : (2000 : Int) < t.size := by omega
      clear hs ht
      go_enter Tryd.func4, Tryd.ntmps4
      go_wp2_with fail
      refine (HL.out w).mono ?_
      rintro e4 w4 ⟨rfl, k4⟩
      have K4 := Lib.hid k4
      clear k4
      go_wp2
      go_ret
      exact ⟨rfl, K4.out⟩
  · have hsi : (2000 : Int) < s.size := by omega
    clear hs
    go_enter Tryd.func4, Tryd.ntmps4
    go_wp2_with fail
    refine (HL.out w).mono ?_
    rintro e4 w4 ⟨rfl, k4⟩
    have K4 := Lib.hid k4
    clear k4
    go_wp2
    go_ret
    exact ⟨rfl, K4.out⟩
end Go.Proofs.YthgpmpmnihijnaaDoor
