/- The gate (layer 17): In, Out. -/
import Derived.Test.YtfckgddodjmbdaaGreatDoorMDeviceNobodyF15
import Derived.Test.YtfckgddodjmbdaaGreatDoorMDeviceNobodyF10
import Derived.Test.YtfckgddodjmbdaaGreatDoorMDeviceNobodyF8
namespace Go.Proofs.YtfckgddodjmbdaaGreatDoor
set_option linter.unusedVariables false
set_option linter.unusedSimpArgs false
open Go Go.RowKit Go.Shelf
open flowOwn (Th Tf)
theorem fit_zero {g : Ga} {id n : Nat} (h : fitG g id n = 0) : n ≠ 0 ∧ n ≤ g.c.mtu ∧ 0 ≤ g.at id ∧ sumP g.st < g.c.packets ∧ n ≤ g.c.bytes - sumB g.st ∧ n ≤ (g.x id).m - (g.x id).b := by
  unfold fitG at h
  split at h
  · omega
  · split at h
    · omega
    · split at h
      · omega
      · split at h
        · omega
        · split at h
          · omega
          · refine ⟨by omega, by omega, by omega, by omega, by omega, by omega⟩
theorem may_fit {g : Ga} {id n : Nat} (h : mayG g id n = 0) : fitG g id n = 0 := by
  unfold mayG at h
  split at h
  · exact h
  · rename_i h1; exact Classical.byContradiction fun h2 => h1 h2
theorem lay_ok {g : Ga} (ok : g.Ok) {id n : Nat} (h : fitG g id n = 0) : 0 ≤ g.at id ∧ (g.lay id n).Ok := by
  obtain ⟨h1, h2, h3, h4, h5, h6⟩ := fit_zero h
  have hx := ok.own _ (ok.x_mem h3)
  have hb := ok.bts
  have hl := mem_le_sumB (ok.x_mem h3)
  refine ⟨h3, ok.put h3 _ rfl (by show 0 ≤ (g.x id).p + 1; omega) (by show (g.x id).b + n ≤ (g.x id).m; omega) (by show sumB g.st - (g.x id).b + ((g.x id).b + n) ≤ g.c.bytes; omega) (by show sumP g.st - (g.x id).p + ((g.x id).p + 1) ≤ g.c.packets; omega)⟩
theorem out_zero {g : Ga} {id n : Nat} (h : outE g id n = 0) : 0 ≤ g.at id ∧ (g.x id).p ≠ 0 ∧ n ≤ (g.x id).b := by
  unfold outE at h
  split at h
  · omega
  · split at h
    · omega
    · rename_i h1 h2
      refine ⟨by omega, fun e => h2 (.inl e), by omega⟩
theorem out_ok {g : Ga} (ok : g.Ok) {id n : Nat} (h : outE g id n = 0) : (g.put id ⟨(g.x id).p - 1, (g.x id).b - n, (g.x id).m⟩).Ok := by
  obtain ⟨h1, h2, h3⟩ := out_zero h
  have hx := ok.own _ (ok.x_mem h1)
  have hb := ok.bts
  have hp := ok.pks
  exact ok.put h1 _ rfl (by show 0 ≤ (g.x id).p - 1; omega) (by show (g.x id).b - n ≤ (g.x id).m; omega) (by show sumB g.st - (g.x id).b + ((g.x id).b - n) ≤ g.c.bytes; have := mem_le_sumB (ok.x_mem h1); omega) (by show sumP g.st - (g.x id).p + ((g.x id).p - 1) ≤ g.c.packets; omega)
set_option maxRecDepth 100000 in
set_option maxHeartbeats 1000000 in
theorem gInW {P : World → Prop} {w : World} {gb : Nat} (id n : Nat) (r : Int) (HM : Calls Tryz.prog 100 #[.pointer (some ⟨gb, 0, none⟩), .int .u32 id, .int .u64 n] w fun e w' => e = .returned (.int .i64 r) ∧ Kp none' w w')
    (HL : r = 0 → ∀ W, Kp none' w W → Calls Tryz.prog 101 #[.pointer (some ⟨gb, 0, none⟩), .int .u32 id, .int .u64 n] W fun e w' => e = .returned (.tuple #[]) ∧ P w') (HO : r ≠ 0 → ∀ W, Kp none' w W → P W) :
    Calls Tryz.prog 73 #[.pointer (some ⟨gb, 0, none⟩), .int .u32 id, .int .u64 n] w fun e w' => e = .returned (.int .i64 r) ∧ P w' := by
  have HM := Lib.hid HM
  by_cases h0 : r = 0
  · have HL2 := Lib.hid (HL h0)
    clear HO HL
    subst h0
    go_enter Tryz.func73, Tryz.ntmps73
    go_wp2_with fail
    refine HM.out.mono ?_
    rintro e w1 ⟨rfl, hk1⟩
    go_wp2_with fail
    refine (HL2.out w1 hk1).mono ?_
    rintro e w2 ⟨rfl, hm2⟩
    have HM2 := Lib.hid hm2
    clear hk1 hm2
    go_wp2_with fail
    go_ret
    exact ⟨rfl, HM2.out⟩
  · have h0' : (r == 0) = false := by rw [beq_eq_false_iff_ne]; exact h0
    have HO := Lib.hid (HO h0)
    clear HL
    go_enter Tryz.func73, Tryz.ntmps73
    go_wp2_with fail
    refine HM.out.mono ?_
    rintro e w1 ⟨rfl, hk1⟩
    have HK1 := Lib.hid (HO.out w1 hk1)
    clear hk1
    go_wp2_with fail
    go_ret
    exact ⟨rfl, HK1.out⟩
theorem gIn {w : World} {F : Nat → Prop} {gb : Nat} {g : Ga} (h : GMem w F gb g) (id n : Nat) (hid : id < 4294967296) :
    Calls Tryz.prog 73 #[.pointer (some ⟨gb, 0, none⟩), .int .u32 id, .int .u64 n] w fun e w' => e = .returned (.int .i64 (mayG g id n)) ∧ GMem w' F gb (inG g id n) ∧ Kp F w w' := by
  refine gInW (P := fun w' => GMem w' F gb (inG g id n) ∧ Kp F w w') id n _ (gMay h id n hid) (fun h0 W k => ?_) (fun h0 W k => ?_)
  · obtain ⟨h1, h2⟩ := lay_ok h.ok (may_fit h0)
    have e1 : inG g id n = g.lay id n := by unfold inG; rw [if_pos h0]
    rw [e1]
    exact (gLay (h.old k) id n hid h1 h2).mono fun e w' ⟨a, b, c⟩ => ⟨a, b, (k.mono (fun _ _ x => x.elim)).trans c⟩
  · have e1 : inG g id n = g := by unfold inG; rw [if_neg h0]
    rw [e1]
    exact ⟨h.old k, k.mono (fun _ _ x => x.elim)⟩
set_option maxRecDepth 100000 in
set_option maxHeartbeats 1000000 in
theorem gOutNo {w : World} {gb tb : Nat} (id n : Nat) (p : Int) (b m : Nat) (is : Bool) (c13 : w.cell? ⟨gb, 13, none⟩ = some (.pointer (some ⟨tb, 0, none⟩)))
    (HG : ∀ W, Kp none' w W → Calls Tryz.prog 105 #[.pointer (some ⟨tb, 0, none⟩), .int .u32 id] W fun e w' => e = .returned (.tuple #[.agg #[.int .i64 p, .int .u64 b, .int .u64 m], .bool is]) ∧ Kp none' W w') (hno : is = false ∨ p = 0 ∨ b < n) :
    Calls Tryz.prog 76 #[.pointer (some ⟨gb, 0, none⟩), .int .u32 id, .int .u64 n] w fun e w' => e = .returned (.int .i64 (if is = false then 13 else 9)) ∧ Kp none' w w' := by
  cases is with
  | false =>
    rw [if_pos rfl]
    clear hno
    have HG := Lib.hid HG
    go_enter Tryz.func76, Tryz.ntmps76
    go_wp2_with fail
    refine (HG.out w (Kp.refl _ _)).mono ?_
    rintro e w1 ⟨rfl, hk1⟩
    have HK1 := Lib.hid hk1
    clear hk1
    go_wp2_with fail
    go_ret
    exact ⟨rfl, HK1.out.alloc _⟩
  | true =>
    rw [if_neg (by simp)]
    by_cases hp : p = 0
    · subst hp
      clear hno
      have HG := Lib.hid HG
      go_enter Tryz.func76, Tryz.ntmps76
      go_wp2_with fail
      refine (HG.out w (Kp.refl _ _)).mono ?_
      rintro e w1 ⟨rfl, hk1⟩
      have HK1 := Lib.hid hk1
      clear hk1
      go_wp2_with fail
      go_ret
      exact ⟨rfl, HK1.out.alloc _⟩
    · have hp' : (p == 0) = false := by rw [beq_eq_false_iff_ne]; exact hp
      have hbn : b < n := by rcases hno with h | h | h; cases h; exact absurd h hp; exact h
      have hbi : (b : Int) < n := by omega
      clear hno hp
      have HG := Lib.hid HG
      go_enter Tryz.func76, Tryz.ntmps76
      go_wp2_with fail
      refine (HG.out w (Kp.refl _ _)).mono ?_
      rintro e w1 ⟨rfl, hk1⟩
      have HK1 := Lib.hid hk1
      clear hk1
      go_wp2_with fail
      go_ret
      exact ⟨rfl, HK1.out.alloc _⟩
set_option maxRecDepth 100000 in
set_option maxHeartbeats 1000000 in
theorem gOutR {w : World} {Ft : Nat → Prop} {gb tb : Nat} {cs : List Value} {E : List (Nat × Th)} (tp : Int) (tbt id n : Nat) (p : Int) (b m : Nat) (hid : id < 4294967296) (hb : Blk w gb cs 236) (h11 : cs[11]? = some (.int .i64 tp)) (h12 : cs[12]? = some (.int .u64 tbt)) (h13 : cs[13]? = some (.pointer (some ⟨tb, 0, none⟩))) (ht : Tf w Ft tb 64 E) (hn : ¬ Ft gb) (hx : (id, (⟨p, b, m⟩ : Th)) ∈ E)
    (hp : 1 ≤ p ∧ p ≤ 100000) (htp : 1 ≤ tp ∧ tp ≤ 100000) (hnb : n ≤ b) (hbb : b < 18446744073709551616) (hnt : n ≤ tbt) (htb : tbt < 18446744073709551616) :
    Calls Tryz.prog 76 #[.pointer (some ⟨gb, 0, none⟩), .int .u32 id, .int .u64 n] w fun e w' => e = .returned (.int .i64 0) ∧ Blk w' gb ((cs.set 11 (.int .i64 (tp - 1))).set 12 (.int .u64 ((tbt : Int) - n))) 236 ∧ Tf w' Ft tb 64 (flowOwn.setF id ⟨p - 1, b - n, m⟩ E) ∧ Kp (fun z => z = gb ∨ Ft z) w w' := by
  have HG := Lib.hid (fun W (k : Kp none' w W) => flowOwn.bGet (ht.old k) id hid ⟨p, b, m⟩ hx)
  have HSet := Lib.hid (fun W (k : Tf W Ft tb 64 E) => flowOwn.bSet k id hid ⟨p - 1, b - n, m⟩ ⟨p, b, m⟩ hx)
  have hbc : ((b - n : Nat) : Int) = (b : Int) - n := by omega
  simp only [flowOwn.en, hbc] at HSet
  have HT := Lib.hid ht
  have HB := Lib.hid hb
  have HN := Lib.hid hn
  have H11 := Lib.hid h11
  have H12 := Lib.hid h12
  have H13 := Lib.hid h13
  clear ht hb hn hx h11 h12 h13 hbc
  have hw1 : IntKind.u64.wrap ((b : Int) - n) = (b : Int) - n := by rw [IntKind.wrap_u64]; omega
  have c13 := HB.out.cell 13 H13.out
  have hp0 : (p == 0) = false := by rw [beq_eq_false_iff_ne]; omega
  have hbn : ¬ (b : Int) < n := by omega
  go_enter Tryz.func76, Tryz.ntmps76
  go_wp2_with fail
  refine (HG.out w (Kp.refl _ _)).mono ?_
  rintro e w1 ⟨rfl, hk1⟩
  have HB1 := Lib.hid (HB.out.kp hk1 (fun x => x))
  have HT1 := Lib.hid (HT.out.old hk1)
  have HK1 := Lib.hid hk1
  clear hk1 c13
  go_wp2_with fail
  refine (gLess p b n (by omega) (by omega) (by omega) _).mono ?_
  rintro e w2 ⟨rfl, hk2⟩
  have HY2 := Lib.hid ((Blk.new w1 [.int .i64 p, .int .u64 b, .int .u64 m] 232).kp hk2 (fun x => x))
  have hk2' := ((Kp.refl none' w1).alloc (.cells #[.int .i64 p, .int .u64 b, .int .u64 m] 232)).trans hk2
  have HB2 := Lib.hid (HB1.out.kp hk2' (fun x => x))
  have HT2 := Lib.hid (HT1.out.old hk2')
  have HK2 := Lib.hid (HK1.out.trans hk2')
  have hyl : w1.heap.size < w2.heap.size := HY2.out.lt
  have hy0 : w.heap.size ≤ w1.heap.size := HK1.out.size
  clear hk2 hk2'
  obtain ⟨y, hy⟩ : ∃ y, w1.heap.size = y := ⟨_, rfl⟩
  rw [hy] at HY2 hyl hy0 ⊢
  have y0 := HY2.out.cell 0 rfl
  have y1 := HY2.out.cell 1 rfl
  have yf := fun j => HY2.out.fz j
  clear hy
  go_wp2_with fail
  have hygb : y ≠ gb := fun e => blk_ne HY2.out HB2.out (by decide) e
  have hywb : ¬ Ft y := fun e => by have := HT.out.lt e; omega
  have HY3 := Lib.hid ((HY2.out.set 0 (.int .i64 (p - 1))).set 1 (.int .u64 ((b : Int) - n)))
  have hks : Kp (fun z => z = y) w2 ((w2.setCell ⟨y, 0, none⟩ (.int .i64 (p - 1))).setCell ⟨y, 1, none⟩ (.int .u64 ((b : Int) - n))) := ((Kp.refl (fun z => z = y) w2).set (p := ⟨y, 0, none⟩) (.inl rfl) _).set (p := ⟨y, 1, none⟩) (.inl rfl) _
  have HB3 := Lib.hid (HB2.out.kp hks (fun e => hygb e.symm))
  have HT3 := Lib.hid (HT2.out.kp hks (fun z hz e => hywb (by rw [← e]; exact hz)))
  have HK3 : Hid (Kp none' w _) := Lib.hid (HK2.out.then hks (fun z hz e => by omega))
  clear hks y0 y1 yf
  generalize (w2.setCell ⟨y, 0, none⟩ (.int .i64 (p - 1))).setCell ⟨y, 1, none⟩ (.int .u64 ((b : Int) - n)) = W3 at *
  have z0 := HY3.out.cell 0 rfl
  have z1 := HY3.out.cell 1 rfl
  have z2 := HY3.out.cell 2 rfl
  have b13 := HB3.out.cell 13 H13.out
  refine wp_region_kept2 [] [0, 1, 2, 3, 4, 5] 6 (by kernel_rfl) (by kernel_rfl) (fun c a d u w h => by cases d <;> exact h) ?_
  simp only [pick, List.getElem?_cons_succ, List.getElem?_cons_zero, List.drop_succ_cons, List.drop_zero]
  show wpKL _ _ _ _ _ _
  repeat (first
    | (refine wpKL_op (by exact rfl) (by as_aux_lemma => intro W hK; have e0 := hK.cell z0 (fun x => x); have e1 := hK.cell z1 (fun x => x); have e2 := hK.cell z2 (fun x => x); have e3 := hK.cell b13 (fun x => x); go_simp; exact rfl) ?_; simp only [Act.put, List.setIfInBounds_toArray, List.set_cons_succ, List.set_cons_zero])
    | (refine wpKL_off (by exact rfl) ?_; simp only [Act.put, List.setIfInBounds_toArray, List.set_cons_succ, List.set_cons_zero]))
  show ∀ W, _ → wpList _ _ _ _ _ _
  intro W4 hK4
  have HB4 := Lib.hid (HB3.out.kp hK4 (fun x => x))
  have HT4 := Lib.hid (HT3.out.old hK4)
  have HK4 := Lib.hid (HK3.out.trans hK4)
  clear hK4 z0 z1 z2 b13
  go_wp2_with fail
  refine (HSet.out W4 HT4.out).mono ?_
  rintro e w5 ⟨rfl, ht5, hk5⟩
  have HB5 := Lib.hid (HB4.out.kp hk5 HN.out)
  have HT5 := Lib.hid ht5
  have HK5 : Hid (Kp Ft w w5) := Lib.hid ((HK4.out.mono (fun _ _ x => x.elim)).trans hk5)
  clear ht5 hk5
  have b11 := HB5.out.cell 11 H11.out
  have b12 := HB5.out.cell 12 H12.out
  go_wp2_with fail
  refine (gLess tp tbt n (by omega) (by omega) (by omega) _).mono ?_
  rintro e w6 ⟨rfl, hk6⟩
  have HB6 := Lib.hid (HB5.out.kp hk6 (fun x => x))
  have HT6 := Lib.hid (HT5.out.old hk6)
  have HK6 : Hid (Kp Ft w w6) := Lib.hid (HK5.out.trans (hk6.mono (fun _ _ x => x.elim)))
  clear hk6 b11 b12
  have b11 := HB6.out.cell 11 H11.out
  have b12 := HB6.out.cell 12 H12.out
  have bf := fun j => HB6.out.fz j
  go_wp2_with fail
  go_ret
  have hks : Kp (fun z => z = gb) w6 ((w6.setCell ⟨gb, 11, none⟩ (.int .i64 (tp - 1))).setCell ⟨gb, 12, none⟩ (.int .u64 ((tbt : Int) - n))) := ((Kp.refl (fun z => z = gb) w6).set (p := ⟨gb, 11, none⟩) (.inl rfl) _).set (p := ⟨gb, 12, none⟩) (.inl rfl) _
  refine ⟨rfl, (HB6.out.set 11 _).set 12 _, (HT6.out.kp hks (fun z hz e => HN.out (by rw [← e]; exact hz))), ?_⟩
  exact (HK6.out.mono (fun z _ hz => .inr hz)).trans (hks.mono (fun z _ hz => .inl hz))
theorem gOut {w : World} {F : Nat → Prop} {gb : Nat} {g : Ga} (h : GMem w F gb g) (id n : Nat) (hid : id < 4294967296) :
    Calls Tryz.prog 76 #[.pointer (some ⟨gb, 0, none⟩), .int .u32 id, .int .u64 n] w fun e w' => e = .returned (.int .i64 (outE g id n)) ∧ GMem w' F gb (outG g id n) ∧ Kp F w w' := by
  obtain ⟨Ft, tb, rfl, hb, ht, hn, ok⟩ := h
  by_cases h0 : outE g id n = 0
  · obtain ⟨h1, h2, h3⟩ := out_zero h0
    have hok := out_ok ok h0
    have e1 : outG g id n = g.put id ⟨(g.x id).p - 1, (g.x id).b - n, (g.x id).m⟩ := by unfold outG; rw [if_pos h0]
    rw [e1, h0]
    have hmem := (tab_get ok.len ok.nod.1 id).1 h1
    have hst := put_tab ok h1 ⟨(g.x id).p - 1, (g.x id).b - n, (g.x id).m⟩
    have hxb := ok.own _ (ok.x_mem h1)
    have hpl := mem_le_sumP (fun y hy => (ok.own y hy).1) (ok.x_mem h1)
    have hbl := mem_le_sumB (ok.x_mem h1)
    obtain ⟨h4, h5⟩ := ok.x_get h1
    have hsP : sumP (g.put id ⟨(g.x id).p - 1, (g.x id).b - n, (g.x id).m⟩).st = sumP g.st - 1 := by
      show sumP (g.st.set _ _) = _
      rw [sumP_set _ _ _ h4, ← h5]; simp only; omega
    have hsB : sumB (g.put id ⟨(g.x id).p - 1, (g.x id).b - n, (g.x id).m⟩).st + n = sumB g.st := by
      have := sumB_set g.st (g.at id).toNat ⟨(g.x id).p - 1, (g.x id).b - n, (g.x id).m⟩ h4
      rw [← h5] at this
      show sumB (g.st.set _ _) + n = _
      simp only at this
      omega
    have hlp : sumP g.st ≤ 4096 := by have := ok.pks; have := ok.lims; omega
    have hby := ok.cok.bytes
    have hbt := ok.bts
    unfold M64 at hby
    refine (gOutR (sumP g.st) (sumB g.st) id n (g.x id).p (g.x id).b (g.x id).m hid hb rfl rfl rfl ht hn hmem ⟨by omega, by omega⟩ ⟨by omega, by omega⟩ h3 (by omega) (by omega) (by omega)).mono ?_
    rintro e w' ⟨he, h7, h8, h9⟩
    refine ⟨he, ⟨Ft, tb, rfl, ?_, by rw [hst] at h8; exact h8, hn, hok⟩, h9⟩
    have e : gC (g.put id ⟨(g.x id).p - 1, (g.x id).b - n, (g.x id).m⟩) tb = (((gC g tb).set 11 (.int .i64 (sumP g.st - 1))).set 12 (.int .u64 ((sumB g.st : Int) - n))) := by
      unfold gC
      have e2 : ((sumB (g.put id ⟨(g.x id).p - 1, (g.x id).b - n, (g.x id).m⟩).st : Nat) : Int) = (sumB g.st : Int) - n := by omega
      rw [hsP, e2]
      simp [Ga.put]
    rw [e]; exact h7
  · have e1 : outG g id n = g := by unfold outG; rw [if_neg h0]
    rw [e1]
    obtain ⟨p, b, m, hx, hbm, hm, hG⟩ := tab_calls ht ok id hid
    have hno : decide (0 ≤ g.at id) = false ∨ p = 0 ∨ b < n := by
      by_cases ha : 0 ≤ g.at id
      · right
        obtain ⟨rfl, rfl, _⟩ := hx ha
        unfold outE at h0
        rw [if_neg (by omega)] at h0
        exact Classical.byContradiction fun hc => h0 (if_neg hc)
      · left; exact decide_eq_false ha
    have he : (if decide (0 ≤ g.at id) = false then (13 : Int) else 9) = outE g id n := by
      unfold outE
      by_cases ha : 0 ≤ g.at id
      · rw [decide_eq_true ha, if_neg (by simp), if_neg (show ¬ g.at id < 0 by omega), if_pos]
        unfold outE at h0
        rw [if_neg (by omega)] at h0
        exact Classical.byContradiction fun hc => h0 (if_neg hc)
      · rw [decide_eq_false ha, if_pos rfl, if_pos (show g.at id < 0 by omega)]
    rw [← he]
    refine (gOutNo id n p b m _ (hb.cell 13 rfl) hG hno).mono ?_
    rintro e w' ⟨he, hk⟩
    exact ⟨he, ⟨Ft, tb, rfl, hb.kp hk (fun x => x), ht.old hk, hn, ok⟩, hk.mono (fun _ _ x => x.elim)⟩

def thF (f : FlR) : Th := ⟨0, 0, f.cap⟩
def gaNew (c : CfR) : Ga := ⟨c, c.flows.map thF⟩
theorem tabE_new (l : List FlR) : tabE l (l.map thF) = l.map (fun f => (f.id, thF f)) := by
  unfold tabE
  induction l with
  | nil => rfl
  | cons a r ih => simp only [List.map_cons, List.zip_cons_cons, ih]
theorem sumP_new (l : List FlR) : sumP (l.map thF) = 0 := by
  unfold sumP; induction l with
  | nil => rfl
  | cons a r ih => simp only [List.map_cons, List.sum_cons, ih]; rfl
theorem sumB_new (l : List FlR) : sumB (l.map thF) = 0 := by
  unfold sumB; induction l with
  | nil => rfl
  | cons a r ih => simp only [List.map_cons, List.sum_cons, ih]; rfl
theorem gaNew_ok {c : CfR} (hc : c.ok) (h : admE c = 0) : (gaNew c).Ok :=
  ⟨hc, h, by show (c.flows.map thF).length = c.flows.length; rw [List.length_map], fun i x f h1 h2 => by
    rw [show (gaNew c).st = c.flows.map thF from rfl, List.getElem?_map] at h1
    rw [show (gaNew c).c.flows = c.flows from rfl] at h2
    rw [h2] at h1; injection h1 with h1; rw [← h1]; rfl, fun x hx => by
    obtain ⟨f, _, rfl⟩ := List.mem_map.1 hx
    exact ⟨Int.le_refl _, Nat.zero_le _⟩, by show sumB (c.flows.map thF) ≤ _; rw [sumB_new]; exact Nat.zero_le _, by
    show sumP (c.flows.map thF) ≤ c.packets
    rw [sumP_new]
    unfold admE at h
    split at h
    · omega
    · omega⟩
structure GnI (w wr : World) (cs : List Value) (tb : Nat) (l : List FlR) (k : Nat) (F : Nat → Prop) : Prop where
  tab : ∃ E, Tf wr F tb 64 E ∧ E.Perm ((l.take k).map (fun f => (f.id, thF f)))
  cfg : Blk wr w.heap.size cs 76
  new : ∀ b, F b → w.heap.size < b
  kp : Kp none' w wr
theorem GnI.step {w wr W w1 : World} {cs : List Value} {tb k : Nat} {l : List FlR} {F F' : Nat → Prop} {E : List (Nat × Th)} (h : GnI w wr cs tb l k F) (hW : Kp none' wr W) (ht : Tf w1 F' tb 64 E) (hk : k < l.length) (hE : E.Perm ((l[k].id, thF l[k]) :: (l.take k).map (fun f => (f.id, thF f)))) (hk1 : Kp F W w1) (hn : Nw W F F') : GnI w w1 cs tb l (k + 1) F' := by
  have h1 := h.cfg.lt
  have h2 := hW.size
  have h3 := h.kp.size
  refine ⟨⟨E, ht, hE.trans ?_⟩, (h.cfg.kp hW (fun x => x)).kp hk1 (fun x => by have := h.new _ x; omega), fun b hb => ?_, (h.kp.trans hW).then hk1 (fun b hb x => by have := h.new b x; omega)⟩
  · rw [List.take_succ_eq_append_getElem hk, List.map_append]
    exact List.perm_append_comm (l₁ := [(l[k].id, thF l[k])])
  · rcases hn b hb with h4 | h4
    · exact h.new b h4
    · omega
set_option maxRecDepth 100000 in
set_option maxHeartbeats 2000000 in
theorem gNew (c : CfR) (hc : c.ok) (hE : admE c = 0) (v : Value) (w : World) (h : Sl w v c.flows.length 5 (c.flows.flatMap enFl)) : Calls Tryz.prog 85 #[.agg (enC c v).toArray] w fun e w' => ∃ gb F, e = .returned (.tuple #[.pointer (some ⟨gb, 0, none⟩), .int .i64 0]) ∧ GMem w' F gb (gaNew c) ∧ (∀ b, F b → w.heap.size ≤ b) ∧ Kp none' w w' := by
  have HAD := Lib.hid (fun W (k : Kp none' w W) => by have := gAdm c hc v W (h.old k); rw [hE] at this; exact this)
  have HOK := Lib.hid (gaNew_ok hc hE)
  obtain ⟨ao, cap, rfl⟩ : ∃ ao cap, v = .slice ao c.flows.length cap := by obtain ⟨ao, cap, rfl, _⟩ := h.is; exact ⟨_, _, rfl⟩
  have hfl : c.flows.length ≤ 64 ∧ (c.flows.map (·.id)).Nodup := by
    have := HOK.out.lims.2.2.2.2.2.2
    unfold flowsE at this
    split at this
    · cases this
    · split at this
      · rename_i h2; rename_i h3; exact ⟨by have e : (gaNew c).c.flows = c.flows := rfl; rw [e] at h3; omega, h2⟩
      · cases this
  have hl64 := hfl.1
  have HND := Lib.hid hfl.2
  have HIDS : Hid (∀ f ∈ c.flows, f.id < 4294967296) := Lib.hid (fun f hf => (hc.flows f hf).id)
  have HS := Lib.hid h
  have HB0 := Lib.hid (Blk.new w (enC c (.slice ao c.flows.length cap)) 76)
  have HK0 := Lib.hid ((Kp.refl none' w).alloc (.cells (enC c (.slice ao c.flows.length cap)).toArray 76))
  refine calls_post ?_
  intro PP HP
  clear h hE hfl hc
  obtain ⟨rk, bk, lv, qu, pk, bt, sh, mt, rt, bu, fl⟩ := c
  simp only [enC] at *
  go_enter Tryz.func85, Tryz.ntmps85
  go_wp2_with fail
  refine (HAD.out _ HK0.out).mono ?_
  rintro e w1 ⟨rfl, hk1⟩
  have HB1 := Lib.hid (HB0.out.kp hk1 (fun x => x))
  have HK1 := Lib.hid (HK0.out.trans hk1)
  clear hk1 HB0 HK0 HAD
  go_wp2_with fail
  refine (flowOwn.bNew 64 (by decide) (by decide) w1).mono ?_
  rintro e w2 ⟨F, tb, rfl, ht, hF, hk2⟩
  have hb2 := HB1.out.kp hk2 (fun x => x)
  have y10 := hb2.cell 10 rfl
  have hs1 := HB1.out.lt
  have HI0 : Hid (GnI w w2 [.int .i64 rk, .int .i64 bk, .int .i64 lv, .int .i64 qu, .int .i64 pk, .int .u64 bt, .int .i64 sh, .int .u64 mt, .int .u64 rt, .int .u64 bu, .slice ao fl.length cap] tb fl 0 F) :=
    Lib.hid ⟨⟨[], ht, by simp⟩, hb2, fun b hb => by have := hF b hb; omega, HK1.out.trans hk2⟩
  clear ht hF hk2 hb2
  go_wp2_with fail
  clear y10
  go_loopw [21] (fun i0 wr => ∃ (k : Nat) (F : Nat → Prop), i0 = .int .i64 k ∧ k ≤ fl.length ∧ Hid (GnI w wr [.int .i64 rk, .int .i64 bk, .int .i64 lv, .int .i64 qu, .int .i64 pk, .int .u64 bt, .int .i64 sh, .int .u64 mt, .int .u64 rt, .int .u64 bu, .slice ao fl.length cap] tb fl k F)) (fun i0 _ => fl.length - (intOf i0).toNat)
  case atStart => exact ⟨0, _, rfl, Nat.zero_le _, HI0⟩
  case round =>
    clear HI0
    obtain ⟨k, F, rfl, hk, hr⟩ := hrel
    by_cases hlt : k < fl.length
    · have hki : (k : Int) < fl.length := by omega
      obtain ⟨gx, ox, cx, e1, hcx⟩ := (HS.out.old hr.out.kp).at enFl_len (by decide) k hlt
      injection e1 with e1 _ e3
      subst e1 e3
      have HPUT := Lib.hid (fun (E : List (Nat × Th)) (W : World) (k0 : Kp none' wr W) (hT : Tf wr F tb 64 E) (hp : E.Perm ((fl.take k).map (fun f => (f.id, thF f)))) => flowOwn.bPutNew (hT.kp k0 (fun _ _ x => x)) fl[k].id (HIDS.out _ (List.getElem_mem hlt)) (thF fl[k]) (fun y hy => by
        have h1 := (hp.mem_iff.1 hy)
        obtain ⟨f, hf, he⟩ := List.mem_map.1 h1
        simp only [Prod.mk.injEq] at he
        obtain ⟨i, hi, rfl⟩ := List.getElem_of_mem hf
        rw [List.length_take] at hi
        have hn := List.pairwise_iff_getElem.1 HND.out i k (by rw [List.length_map]; omega) (by rw [List.length_map]; exact hlt) (by omega)
        simp only [List.getElem_map] at hn
        rw [List.getElem_take] at he
        exact hn he.1) (by have := hp.length_eq; rw [List.length_map, List.length_take] at this; omega))
      have HSTEP := Lib.hid (fun (E : List (Nat × Th)) (W w1 : World) (F' : Nat → Prop) (k0 : Kp none' wr W) (ht : Tf w1 F' tb 64 ((fl[k].id, thF fl[k]) :: E)) (hp : E.Perm ((fl.take k).map (fun f => (f.id, thF f)))) (h1 : Kp F W w1) (h2 : Nw W F F') => hr.out.step k0 ht hlt (hp.cons _) h1 h2)
      obtain ⟨f, hf⟩ : ∃ f, fl[k] = f := ⟨_, rfl⟩
      simp only [hf] at hcx HPUT HSTEP
      have d0 := hcx 0 _ rfl
      have d1 := hcx 1 _ rfl
      have d2 := hcx 2 _ rfl
      have d3 := hcx 3 _ rfl
      have d4 := hcx 4 _ rfl
      simp only [Nat.add_zero] at d0
      have HK2 := Lib.hid ((Kp.refl none' wr).alloc (.cells #[.int .u32 f.id, .int .u64 f.cost, .int .u64 f.budget, .int .u64 f.size, .int .u64 f.cap] 158))
      clear hcx hf
      obtain ⟨E, hT, hP⟩ := hr.out.tab
      have HPE := Lib.hid (HPUT.out E _ HK2.out hT hP)
      have HSE := Lib.hid (fun w1 F' ht h1 h2 => HSTEP.out E _ w1 F' HK2.out ht hP h1 h2)
      clear hT hP HPUT HSTEP
      simp only [flowOwn.en, thF] at HPE
      go_wp2_with fail
      refine HPE.out.mono ?_
      rintro e w5 ⟨rfl, F', ht5, hk5, hn5⟩
      have HN := Lib.hid (HSE.out w5 F' ht5 hk5 hn5)
      clear ht5 hk5 hn5 HPE HSE d0 d1 d2 d3 d4
      go_wp2_with fail
      go_roundw
      case rel => exact ⟨k + 1, _, by go_num, by omega, HN⟩
      case measure => simp [intOf]; omega
    · obtain rfl : k = fl.length := by omega
      have h0 := hr.out.cfg.cell 0 rfl
      have h1 := hr.out.cfg.cell 1 rfl
      have h2 := hr.out.cfg.cell 2 rfl
      have h3 := hr.out.cfg.cell 3 rfl
      have h4 := hr.out.cfg.cell 4 rfl
      have h5 := hr.out.cfg.cell 5 rfl
      have h6 := hr.out.cfg.cell 6 rfl
      have h7 := hr.out.cfg.cell 7 rfl
      have h8 := hr.out.cfg.cell 8 rfl
      have h9 := hr.out.cfg.cell 9 rfl
      have h10 := hr.out.cfg.cell 10 rfl
      have hz := hr.out.cfg.fz 10
      go_wp2_with fail
      obtain ⟨E, hT, hP⟩ := hr.out.tab
      have hTf : Tf wr F tb 64 (tabE fl (fl.map thF)) := by
        rw [tabE_new]
        rw [List.take_of_length_le (Nat.le_refl _)] at hP
        obtain ⟨sb, S, n, a, b, c, d⟩ := hT
        exact ⟨sb, S, n, a, b, c, d.trans hP⟩
      have hks : Kp (fun b => b = w.heap.size) wr (wr.setCell ⟨w.heap.size, 10, none⟩ (.slice none 0 0)) := (Kp.refl (fun b => b = w.heap.size) wr).set (p := ⟨w.heap.size, 10, none⟩) (.inl rfl) _
      have hsz : (wr.setCell ⟨w.heap.size, 10, none⟩ (.slice none 0 0)).heap.size = wr.heap.size := by simp [World.setCell]
      have hka := (Kp.refl none' (wr.setCell ⟨w.heap.size, 10, none⟩ (.slice none 0 0))).alloc (.cells #[.int .i64 rk, .int .i64 bk, .int .i64 lv, .int .i64 qu, .int .i64 pk, .int .u64 bt, .int .i64 sh, .int .u64 mt, .int .u64 rt, .int .u64 bu, .slice none 0 0, .int .i64 0, .int .u64 0, .pointer (some ⟨tb, 0, none⟩)] 236)
      have hbn := Blk.new (wr.setCell ⟨w.heap.size, 10, none⟩ (.slice none 0 0)) [.int .i64 rk, .int .i64 bk, .int .i64 lv, .int .i64 qu, .int .i64 pk, .int .u64 bt, .int .i64 sh, .int .u64 mt, .int .u64 rt, .int .u64 bu, .slice none 0 0, .int .i64 0, .int .u64 0, .pointer (some ⟨tb, 0, none⟩)] 236
      rw [hsz] at hbn
      have hle := hr.out.kp.size
      refine HP.out _ _ ⟨wr.heap.size, fun b => b = wr.heap.size ∨ F b, rfl, ⟨F, tb, rfl, ?_, (hTf.kp hks (fun b hb e => by have := hr.out.new b hb; omega)).kp hka (fun _ _ x => x), fun hF => ?_, HOK.out⟩, fun b hb => ?_, (hr.out.kp.then hks (fun b hb e => by omega)).trans hka⟩
      · unfold gC gaNew
        simp only [sumP_new, sumB_new]
        exact hbn
      · have := hTf.lt hF; omega
      · rcases hb with rfl | hb
        · exact hle
        · have := hr.out.new b hb; omega
end Go.Proofs.YtfckgddodjmbdaaGreatDoor
