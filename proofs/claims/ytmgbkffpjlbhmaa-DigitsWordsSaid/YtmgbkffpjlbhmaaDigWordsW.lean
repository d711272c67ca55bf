/- The laws DigitsWords and DigitsJoins, walked. -/
import Derived.Test.YtmgbkffpjlbhmaaDigJ
import Derived.Test.YtmgbkffpjlbhmaaKeepsN
namespace Go.Proofs.Ytmgbkffpjlbhmaa
set_option linter.unusedVariables false
set_option linter.unusedSimpArgs false
open Go.RowKit Go.Shelf

/-- How long texts are together, each with one sign more. -/
def tot (l : List ByteArray) : Nat := (l.map (fun x => x.size + 1)).sum
theorem tot_take (l : List ByteArray) (k : Nat) (h : k < l.length) : tot (l.take (k + 1)) = tot (l.take k) + (l[k].size + 1) := by
  rw [List.take_succ_eq_append_getElem h]
  unfold tot
  rw [List.map_append, List.sum_append]
  simp only [List.map_cons, List.map_nil, List.sum_cons, List.sum_nil]; omega
theorem tot_mono (l : List ByteArray) (k : Nat) : tot (l.take k) ≤ tot l := by
  have h := List.take_append_drop k l
  conv => rhs; rw [← h]
  unfold tot
  rw [List.map_append, List.sum_append]; omega
theorem tot_len (l : List ByteArray) : l.length ≤ tot l := by
  induction l with
  | nil => simp
  | cons a r ih => simp only [tot, List.map_cons, List.sum_cons, List.length_cons] at *; omega
theorem tot_join (l : List ByteArray) : (joinL (l.map bl)).length ≤ tot l := by
  refine snocInd (P := fun l => (joinL (l.map bl)).length ≤ tot l) (by simp [joinL]) (fun r c ih => ?_) l
  have ht : tot (r ++ [c]) = tot r + (c.size + 1) := by simp [tot]
  rw [ht]
  cases r with
  | nil => simp [joinL, bl_len]; omega
  | cons a r =>
    rw [List.map_append]
    show (joinL ((a :: r).map bl ++ [bl c])).length ≤ _
    rw [joinL_snoc _ _ (by simp), List.length_append, List.length_cons, bl_len]; omega

theorem wtx_bl (l : List (List UInt8)) : (l.map tx).map bl = l := by
  rw [List.map_map]
  conv => rhs; rw [← List.map_id l]
  apply List.map_congr_left
  intro x _; exact bl_tx x
theorem own_cap {w : World} {base : Nat} {e : TypeId} {size : Nat} {v : Value} {n : Nat} {xs : List Value} (h : w.ownsRow base e size v n xs) : ∀ ao m c, v = .slice ao m c → m ≤ c := by
  intro ao m c hv
  rcases h.2 with ⟨rfl, _⟩ | ⟨g, cap, cur, rfl, _, _, hn, _⟩
  · cases hv; omega
  · cases hv; exact hn
theorem joinL_len (l : List (List UInt8)) (s : List UInt8) (h : l = words s) : (joinL l).length ≤ 2 * s.length + 2 ∧ l.length ≤ s.length + 1 := by
  subst h
  have h1 : ∀ s, ((wst s).1.map (fun w : List UInt8 => w.length + 1)).sum + (wst s).2.length ≤ 2 * s.length := by
    intro s
    refine snocInd (P := fun s => ((wst s).1.map (fun w : List UInt8 => w.length + 1)).sum + (wst s).2.length ≤ 2 * s.length) (by simp [wst]) (fun r c ih => ?_) s
    rw [wst_snoc]
    unfold wstep
    by_cases hb : blank c = true
    · simp only [hb, if_true]
      by_cases hn : (wst r).2 = []
      · simp only [hn, if_true, List.length_nil, List.length_append, List.length_cons]; rw [hn] at ih; simp only [List.length_nil] at ih; omega
      · simp only [if_neg hn, List.map_append, List.map_cons, List.map_nil, List.sum_append, List.sum_cons, List.sum_nil, List.length_nil, List.length_append, List.length_cons]; omega
    · simp only [hb, Bool.false_eq_true, if_false, List.length_append, List.length_cons, List.length_nil]; omega
  have h2 : ((words s).map (fun w : List UInt8 => w.length + 1)).sum ≤ 2 * s.length + 1 := by
    have := h1 s
    unfold words wend
    split
    · omega
    · simp only [List.map_append, List.map_cons, List.map_nil, List.sum_append, List.sum_cons, List.sum_nil]; omega
  have h3 : ∀ l : List (List UInt8), (joinL l).length ≤ (l.map (fun w : List UInt8 => w.length + 1)).sum := by
    intro l
    refine snocInd (P := fun l => (joinL l).length ≤ (l.map (fun w : List UInt8 => w.length + 1)).sum) (by simp [joinL]) (fun r c ih => ?_) l
    cases r with
    | nil => simp [joinL]
    | cons a r => rw [joinL_snoc _ _ (by simp)]; simp only [List.map_append, List.sum_append, List.length_append, List.length_cons, List.map_cons, List.map_nil, List.sum_cons, List.sum_nil] at *; omega
  have h4 := wst_len s
  refine ⟨by have := h3 (words s); omega, ?_⟩
  unfold words wend
  split
  · omega
  · simp only [List.length_append, List.length_cons, List.length_nil]; omega

theorem strs_one (l : List ByteArray) : ∀ u ∈ strs l, u.oneCell' = true := by
  intro u hu
  obtain ⟨x, _, rfl⟩ := List.mem_map.1 hu
  rfl
set_option maxRecDepth 100000 in
set_option maxHeartbeats 4000000 in
theorem words03 (s : ByteArray) (l : List ByteArray) (v : Value) (w : World) (hm : s.size ≤ 9223372036854775807) (hl : Sl w v l.length 1 (strs l)) (hcap : ∀ ao n c, v = .slice ao n c → n ≤ c) (hok : ∀ x ∈ l, x.size ≤ 9223372036854775807) :
    Calls Try.prog 5 #[.string s, v] w fun e w' => e = .returned (.bool true) ∧ Kp none' w w' := by
  have HL := Lib.hid dLives
  have hlm := hl.max
  obtain ⟨ao, cap, hv, hc⟩ := hl.is
  have HLL := Lib.hid hl; have HCAP := Lib.hid hcap; have HC := Lib.hid hc
  subst hv
  clear hl hcap hc
  go_enter Try.func5, Try.ntmps5
  go_wp2_with fail
  go_loop [5, 10] (fun n i => ∃ k T : Nat, k ≤ l.length ∧ i = .int .i64 k ∧ n = .int .i64 T ∧ Hid (T = tot (l.take k)) ∧ T ≤ 3000) (fun _ i => l.length - (intOf i).toNat)
  case atStart => exact ⟨0, 0, Nat.zero_le _, rfl, rfl, by simp [Hid, tot], by omega⟩
  case round =>
    obtain ⟨k, T, hk, rfl, rfl, hT, hn⟩ := hrel
    by_cases hlt : k < l.length
    · obtain ⟨b, off, rfl, hcell⟩ := HC.out k _ (strs_get l k hlt)
      have ht := tot_take l k hlt
      have hx9 := hok l[k] (List.getElem_mem hlt)
      obtain ⟨x, hx⟩ : ∃ x, l[k] = x := ⟨_, rfl⟩
      rw [hx] at hcell ht hx9
      rw [← hT.out] at ht
      have HT := Lib.hid ht
      clear hx ht
      have hcs : (x.size ≤ 10000 ∧ T + x.size + 1 ≤ 3000) ∨ (x.size ≤ 10000 ∧ 3000 < T + x.size + 1) ∨ 10000 < x.size := by omega
      rcases hcs with ⟨h1, h2⟩ | ⟨h1, h2⟩ | h1
      · go_wp2_with fail
        go_round
        case rel => exact ⟨k + 1, T + x.size + 1, by omega, by go_num, by congr 1; omega, by show _ = _; rw [HT.out]; omega, h2⟩
        case measure => simp [intOf]; omega
      · go_wp2_with fail
        refine (HL.out _).mono ?_
        rintro e w1 ⟨rfl, hk⟩
        have HK := Lib.hid hk; clear hk
        go_wp2_with fail
        go_ret
        exact ⟨rfl, HK.out⟩
      · go_wp2_with fail
        refine (HL.out _).mono ?_
        rintro e w1 ⟨rfl, hk⟩
        have HK := Lib.hid hk; clear hk
        go_wp2_with fail
        go_ret
        exact ⟨rfl, HK.out⟩
    · have htot : tot l ≤ 3000 := by
        have h2 := hT.out
        rw [List.take_of_length_le (by omega)] at h2
        omega
      by_cases hs : 3000 < s.size
      · go_wp2_with fail
        refine (HL.out _).mono ?_
        rintro e w1 ⟨rfl, hk⟩
        have HK := Lib.hid hk; clear hk
        go_wp2_with fail
        go_ret
        exact ⟨rfl, HK.out⟩
      · have hjl := tot_join l
        have hll := tot_len l
        have hW := Lib.hid (dWords s w (by omega))
        have hRW := Lib.hid (fun W => rWords s W (by omega))
        have hJ := Lib.hid (fun W K => dJoin l (.slice ao l.length cap) W (HLL.out.old K) HCAP.out (by omega) (by omega))
        have hRJ := Lib.hid (fun W K => rJoin l (.slice ao l.length cap) W (HLL.out.old K) (by omega))
        clear hjl htot hn
        go_wp2_with fail
        refine (hW.out).mono ?_
        rintro e w1 ⟨v1, rfl, o1, k1⟩
        have O1 := Lib.hid o1; have K1 := Lib.hid k1
        clear o1 k1
        go_wp2_with fail
        refine (hRW.out w1).mono ?_
        rintro e w2 ⟨v2, rfl, o2, k2⟩
        have K2 := Lib.hid (K1.out.trans k2)
        have hS := r03Same ((words (bl s)).map tx) ((words (bl s)).map tx) v1 v2 w2 (by rw [List.length_map]; exact own_sl (own_kp O1.out k2 (fun _ _ h => h))) (by rw [List.length_map]; exact own_sl o2)
        have HS := Lib.hid hS
        clear o2 k2 hS
        go_wp2_with fail
        refine (HS.out).mono ?_
        rintro e w3 ⟨rfl, k3⟩
        simp only [decide_true]
        have K3 := Lib.hid (K2.out.trans k3)
        clear k3
        go_wp2_with fail
        refine (hJ.out w3 K3.out).mono ?_
        rintro e w4 ⟨rfl, k4⟩
        have K4 := Lib.hid (K3.out.trans k4)
        clear k4
        go_wp2_with fail
        refine (hRJ.out w4 K4.out).mono ?_
        rintro e w5 ⟨rfl, rfl⟩
        have q := str_beq (rfl : tx (joinL (l.map bl)) = tx (joinL (l.map bl)))
        go_wp2_with fail
        refine (HL.out _).mono ?_
        rintro e w6 ⟨rfl, hk⟩
        have HK := Lib.hid (K4.out.trans hk); clear hk
        go_wp2_with fail
        go_ret
        exact ⟨rfl, HK.out⟩

set_option maxHeartbeats 4000000 in
theorem joins03 (s t : ByteArray) (w : World) (hs : s.size ≤ 9223372036854775807) (ht : t.size ≤ 9223372036854775807) :
    Calls Try.prog 6 #[.string s, .string t] w fun e w' => e = .returned (.bool true) ∧ Kp none' w w' := by
  have HL := Lib.hid dLives
  by_cases h1 : 2000 < s.size
  · go_enter Try.func6, Try.ntmps6
    go_wp2_with fail
    refine (HL.out _).mono ?_
    rintro e w1 ⟨rfl, hk⟩
    have HK := Lib.hid hk; clear hk
    go_wp2_with fail
    go_ret
    exact ⟨rfl, HK.out⟩
  · by_cases h2 : 2000 < t.size
    · go_enter Try.func6, Try.ntmps6
      go_wp2_with fail
      refine (HL.out _).mono ?_
      rintro e w1 ⟨rfl, hk⟩
      have HK := Lib.hid hk; clear hk
      go_wp2_with fail
      go_ret
      exact ⟨rfl, HK.out⟩
    · have hW := Lib.hid (dWords s w (by omega))
      have hT := Lib.hid (fun W => dWords t W (by omega))
      obtain ⟨l, hl⟩ : ∃ l, words (bl s) = l := ⟨_, rfl⟩
      obtain ⟨m, hm⟩ : ∃ m, words (bl t) = m := ⟨_, rfl⟩
      have hL := joinL_len l (bl s) hl.symm
      have hM := joinL_len m (bl t) hm.symm
      have hwj : words (joinL l) = l := by rw [← hl]; exact words_join _ (words_words _)
      have hwb := words_both (bl s) (bl t)
      rw [hl, hm] at hwb
      rw [hl] at hW
      rw [hm] at hT
      rw [bl_len] at hL hM
      have HWJ := Lib.hid hwj; have HWB := Lib.hid hwb
      obtain ⟨hL1, hL2⟩ := hL
      obtain ⟨_, hM2⟩ := hM
      clear hl hm hwj hwb
      go_enter Try.func6, Try.ntmps6
      go_wp2_with fail
      refine (hW.out).mono ?_
      rintro e w1 ⟨v1, rfl, o1, k1⟩
      have O1 := Lib.hid o1; have K1 := Lib.hid k1
      clear o1 k1
      go_wp2_with fail
      refine (hT.out w1).mono ?_
      rintro e w2 ⟨v2, rfl, o2, k2⟩
      have K2 := Lib.hid (K1.out.trans k2)
      have O1' := Lib.hid (own_kp O1.out k2 (fun _ _ h => h)); have O2 := Lib.hid o2
      clear o2 k2 O1 K1
      go_wp2_with (at_builtin; refine wp_appO tStr (.tmp 21) (.tmp 22) rfl rfl w2.heap.size (World.ownsRow_nil _ _ _ _) (wtx l) rfl rfl O1'.out (strs_one _) (by omega) (by unfold maxLen; omega) (Nat.le_refl _) ?_)
      intro v3 w3 o3 g3
      have L3 : Kp none' w2 w3 := Kp.grown (Kp.refl none' _) g3 (fun b hb => by cases hb)
      have O3 := Lib.hid o3
      have O2' := Lib.hid (own_kp O2.out L3 (fun _ _ h => h))
      have HL3 := Lib.hid L3
      clear o3 g3 L3
      go_wp2_with (at_builtin; refine wp_appO tStr (.tmp 23) (.tmp 24) rfl rfl w2.heap.size O3.out (wtx m) rfl rfl O2'.out (strs_one _) (by omega) (by unfold maxLen; omega) HL3.out.size ?_)
      intro v4 w4 o4 g4
      have hb1 : ∀ b, v1.ownBlock = some b → ¬ (fun b => w2.heap.size ≤ b) b := fun b hb h => by have := (own_block O1'.out hb).2; exact absurd h (by omega)
      have k24 : Kp (fun b => w2.heap.size ≤ b) w2 w4 := (HL3.out.mono (fun _ _ h => h.elim)).grown g4 (fun b hb => .inl (own_block O3.out hb).1)
      have K4 : Hid (Kp none' w w4) := K2.out.then k24 (fun i hi h => by have := K2.out.size; omega)
      have O1q := Lib.hid (own_kp O1'.out k24 hb1)
      have o4' : w4.ownsRow w2.heap.size 9 1 v4 ((l ++ m).map tx).length (strs ((l ++ m).map tx)) := by
        have e : strs ((l ++ m).map tx) = wtx l ++ wtx m := by simp [wtx, strs]
        rw [e, List.length_map, List.length_append]
        simpa using o4
      have O4 := Lib.hid o4'
      have SJ := Lib.hid (dJoin (l.map tx) v1 w4 (by rw [List.length_map]; exact own_sl O1q.out) (own_cap O1q.out) (by rw [wtx_bl]; omega) (by rw [List.length_map]; omega))
      rw [wtx_bl] at SJ
      clear o4 o4' g4 hb1 k24 O1' O2' O3 HL3
      go_wp2_with fail
      refine (SJ.out).mono ?_
      rintro e w5 ⟨rfl, k5⟩
      have K5 := Lib.hid (K4.out.trans k5)
      have O15 := Lib.hid (own_kp O1q.out k5 (fun _ _ h => h)); have O45 := Lib.hid (own_kp O4.out k5 (fun _ _ h => h))
      have hw6 := dWords (tx (joinL l)) w5 (by rw [tx_size]; omega)
      rw [bl_tx, HWJ.out] at hw6
      have HW6 := Lib.hid hw6
      clear k5 O1q O4 hw6 SJ
      go_wp2_with fail
      refine (HW6.out).mono ?_
      rintro e w6 ⟨v6, rfl, o6, k6⟩
      have K6 := Lib.hid (K5.out.trans k6)
      have O46 := Lib.hid (own_kp O45.out k6 (fun _ _ h => h))
      have hS := r03Same (l.map tx) (l.map tx) v6 v1 w6 (by rw [List.length_map]; exact own_sl o6) (by rw [List.length_map]; exact own_sl (own_kp O15.out k6 (fun _ _ h => h)))
      have HS := Lib.hid hS
      clear o6 k6 hS O15 O45
      have c1 : (⟨#[32, 9]⟩ : ByteArray).size = 2 := rfl
      have c2 : (⟨#[9, 32, 32]⟩ : ByteArray).size = 3 := rfl
      have c3 : (⟨#[32]⟩ : ByteArray).size = 1 := rfl
      have app_size : ∀ a b : ByteArray, (a ++ b).size = a.size + b.size := fun a b => by rw [← bl_len, bl_app, List.length_append, bl_len, bl_len]
      have t1 := fun W => cat_run (P := Try.prog) ⟨#[32, 9]⟩ s (by omega) W
      have t2 := fun W => cat_run (P := Try.prog) (⟨#[32, 9]⟩ ++ s) ⟨#[9, 32, 32]⟩ (by rw [app_size]; omega) W
      have t3 := fun W => cat_run (P := Try.prog) (⟨#[32, 9]⟩ ++ s ++ ⟨#[9, 32, 32]⟩) t (by rw [app_size, app_size]; omega) W
      have t4 := fun W => cat_run (P := Try.prog) (⟨#[32, 9]⟩ ++ s ++ ⟨#[9, 32, 32]⟩ ++ t) ⟨#[32]⟩ (by rw [app_size, app_size, app_size]; omega) W
      have hbig := fun W => dWords (⟨#[32, 9]⟩ ++ s ++ ⟨#[9, 32, 32]⟩ ++ t ++ ⟨#[32]⟩) W (by rw [app_size, app_size, app_size, app_size]; omega)
      have hbb : words (bl (⟨#[32, 9]⟩ ++ s ++ ⟨#[9, 32, 32]⟩ ++ t ++ ⟨#[32]⟩)) = l ++ m := by
        rw [bl_app, bl_app, bl_app, bl_app]; exact HWB.out
      simp only [hbb] at hbig
      have HBIG := Lib.hid hbig
      clear hbig hbb app_size c1 c2 c3
      go_wp2_with fail
      refine (HS.out).mono ?_
      rintro e w7 ⟨rfl, k7⟩
      simp only [decide_true]
      have K7 := Lib.hid (K6.out.trans k7)
      have O47 := Lib.hid (own_kp O46.out k7 (fun _ _ h => h))
      clear k7 O46
      go_wp2_with fail
      refine (HBIG.out w7).mono ?_
      rintro e w8 ⟨v8, rfl, o8, k8⟩
      have K8 := Lib.hid (K7.out.trans k8)
      have hS2 := r03Same ((l ++ m).map tx) ((l ++ m).map tx) v8 v4 w8 (by rw [List.length_map]; exact own_sl o8) (own_sl (own_kp O47.out k8 (fun _ _ h => h)))
      have HS2 := Lib.hid hS2
      clear o8 k8 hS2 O47
      go_wp2_with fail
      refine (HS2.out).mono ?_
      rintro e w9 ⟨rfl, k9⟩
      simp only [decide_true]
      have K9 := Lib.hid (K8.out.trans k9)
      clear k9
      go_wp2_with fail
      refine (HL.out _).mono ?_
      rintro e w10 ⟨rfl, hk⟩
      have HK := Lib.hid (K9.out.trans hk); clear hk
      go_wp2_with fail
      go_ret
      exact ⟨rfl, HK.out⟩
end Go.Proofs.Ytmgbkffpjlbhmaa
