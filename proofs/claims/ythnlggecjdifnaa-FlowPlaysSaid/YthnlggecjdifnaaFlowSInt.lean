/- What the functions of package flow compute, at things of kind int: Set, Len. -/
import Derived.Test.YthnlggecjdifnaaFlowTInt
namespace Go.Proofs.Ythnlggecjdifnaa.flowInt
set_option linter.unusedVariables false
set_option linter.unusedSimpArgs false
open Go.RowKit Go.Proofs.Ythnlggecjdifnaa

theorem flat_put (S : Slots Th) (q id : Nat) (y x : Th) (hq : q < S.length) (ht : tAt S q = some (id, y)) : (S.flatMap enS).set (q * 3 + 2) (en x) = (S.set q (some (id, x))).flatMap enS := by
  apply List.ext_getElem?
  intro j
  obtain ⟨i, k, hk, rfl⟩ : ∃ i k, k < 3 ∧ j = i * 3 + k := ⟨j / 3, j % 3, by omega, by omega⟩
  have hl : (S.flatMap enS).length = S.length * 3 := flat_len enS 3 enS_len S
  rw [flat_get enS 3 enS_len _ _ _ hk]
  have hyg : S[q]? = some (some (id, y)) := by
    unfold tAt at ht
    rw [List.getD_eq_getElem?_getD, List.getElem?_eq_getElem hq] at ht
    rw [List.getElem?_eq_getElem hq]
    simpa using ht
  by_cases hi : i = q
  · subst hi
    rw [List.getElem?_set_self hq]
    by_cases hk2 : k = 2
    · subst hk2
      rw [List.getElem?_set_self (by rw [hl]; omega)]
      rfl
    · rw [List.getElem?_set_ne (by omega), flat_get enS 3 enS_len _ _ _ hk, hyg]
      obtain rfl | rfl : k = 0 ∨ k = 1 := by omega
      all_goals rfl
  · rw [List.getElem?_set_ne (by omega), flat_get enS 3 enS_len _ _ _ hk, List.getElem?_set_ne (fun h => hi h.symm)]
def setF (id : Nat) (x : Th) (E : List (Nat × Th)) : List (Nat × Th) := E.map (fun e => if e.1 = id then (id, x) else e)
theorem set_row {S : Slots Th} {q id : Nat} {y : Th} (x : Th) (hq : q < S.length) (ht : tAt S q = some (id, y)) (i k : Nat) (z : Th) (h : tAt (S.set q (some (id, x))) i = some (k, z)) : ∃ z', tAt S i = some (k, z') := by
  rw [tAt_set S q i _ hq] at h
  by_cases hi : i = q
  · rw [if_pos hi] at h
    simp only [Option.some.injEq, Prod.mk.injEq] at h
    exact ⟨y, by rw [hi, ht, h.1]⟩
  · rw [if_neg hi] at h; exact ⟨z, h⟩
theorem set_none {S : Slots Th} {q id : Nat} {y : Th} (x : Th) (hq : q < S.length) (ht : tAt S q = some (id, y)) (i : Nat) (h : tAt S i ≠ none) : tAt (S.set q (some (id, x))) i ≠ none := by
  rw [tAt_set S q i _ hq]
  split
  · simp
  · exact h
theorem set_inv {hm : Nat → Nat} {S : Slots Th} (h : FInv hm S) {q id : Nat} {y : Th} (x : Th) (hq : q < S.length) (ht : tAt S q = some (id, y)) : FInv hm (S.set q (some (id, x))) := by
  refine ⟨fun k => by rw [List.length_set]; exact h.home k, fun i k z hi he d hd => ?_, fun i j k z z2 hi hj he hf => ?_⟩
  · rw [List.length_set] at hi hd ⊢
    obtain ⟨z', he'⟩ := set_row x hq ht i k z he
    exact set_none x hq ht _ (h.path i k z' hi he' d hd)
  · rw [List.length_set] at hi hj
    obtain ⟨z', he'⟩ := set_row x hq ht i k z he
    obtain ⟨z2', hf'⟩ := set_row x hq ht j k z2 hf
    exact h.one i j k z' z2' hi hj he' hf'
theorem set_ents {S : Slots Th} {q id : Nat} {y : Th} (x : Th) (hq : q < S.length) (ht : tAt S q = some (id, y)) (hk : ((entsF S).map (·.1)).Nodup) : entsF (S.set q (some (id, x))) = setF id x (entsF S) := by
  rw [ents_split S q hq, ents_self S q hq, ht]
  rw [ents_self S q hq, ht] at hk
  simp only [Option.toList_some, List.map_append, List.map_cons, List.map_nil, List.append_assoc, List.singleton_append] at hk ⊢
  rw [List.nodup_append] at hk
  obtain ⟨_, h2, h3⟩ := hk
  rw [List.nodup_cons] at h2
  have hsame : ∀ L : List (Nat × Th), (∀ e ∈ L, e.1 ≠ id) → L.map (fun e => if e.1 = id then (id, x) else e) = L := fun L hL => by
    rw [List.map_congr_left (g := fun e => e) (fun e he => if_neg (hL e he))]
    exact List.map_id' L
  unfold setF
  rw [List.map_append, List.map_cons, if_pos rfl, hsame _ (fun e he hc => h3 e.1 (List.mem_map_of_mem he) id (by simp) hc), hsame _ (fun e he hc => h2.1 (by rw [← hc]; exact List.mem_map_of_mem he))]
set_option maxRecDepth 100000 in
set_option maxHeartbeats 4000000 in
theorem fLen (w : World) (tb sb : Nat) (S : Slots Th) (n room : Nat) (h : TMem w tb sb S n room) : Calls Try.prog 21 #[.pointer (some ⟨tb, 0, none⟩)] w fun e w' => e = .returned (.int .i64 n) ∧ w = w' := by
  have c := h.top.cell 1 rfl
  clear h
  go_enter Try.func21, Try.ntmps21
  go_wp2
  go_ret
  exact ⟨rfl, rfl⟩
set_option maxRecDepth 100000 in
set_option maxHeartbeats 4000000 in
theorem fSetNone (w : World) (tb sb : Nat) (S : Slots Th) (n room : Nat) (h : TMem w tb sb S n room) (ok : TOk S n room) (id : Nat) (hid : id < 4294967296) (d : Nat) (f : FAt (homeN S.length) S id d) (ht : tAt S (ad S.length (homeN S.length id) d) = none) (x : Th) :
    Calls Try.prog 17 #[.pointer (some ⟨tb, 0, none⟩), .int .u32 id, en x] w fun e w' => e = .returned (.bool false) ∧ Kp none' w w' := by
  have c := h.top.cell 0 rfl
  have hN := ok.pw.pos
  have hpl := ad_lt (homeN_lt S.length id hN) f.lt
  have GM := Lib.hid (fun W (k : Kp none' w W) => calls_same (fMade W tb sb S n room (h.old k) hN))
  have GF := Lib.hid (fun W (k : Kp none' w W) => fFindAt S id d ok.pw ok.b2 hid ok.free f W tb sb n room (h.old k))
  have hce := fun k u h1 h2 => h.cell (ad S.length (homeN S.length id) d) k (u := u) h1 h2 hpl
  generalize ad S.length (homeN S.length id) d = q at *
  have hql : (q : Int) < S.length := by omega
  clear h f
  rw [ht] at hce
  have c1 := hce 1 (.bool false) (by omega) rfl
  clear hce ht
  go_enter Try.func17, Try.ntmps17
  go_wp2_with fail
  refine wp_region_kept2 [] [0, 1, 2, 3, 4, 5, 6, 7, 8, 9, 10, 11, 12, 13, 14] 15 (by kernel_rfl) (by kernel_rfl) (fun c a d u w h => by cases d <;> exact h) ?_
  simp only [pick, List.getElem?_cons_succ, List.getElem?_cons_zero, List.drop_succ_cons, List.drop_zero]
  show wpKL _ _ _ _ _ _
  repeat (first
    | (refine wpKL_op (by exact rfl) (by as_aux_lemma => intro W hK; have e0 := hK.cell c (fun x => x); have e1 := hK.cell c1 (fun x => x); go_simp; exact rfl) ?_; simp only [Act.put, List.setIfInBounds_toArray, List.set_cons_succ, List.set_cons_zero])
    | (refine wpKL_off (by exact rfl) ?_; simp only [Act.put, List.setIfInBounds_toArray, List.set_cons_succ, List.set_cons_zero])
    | (refine wpKL_call (by exact rfl) (by as_aux_lemma => intro W; go_simp; exact ⟨rfl, rfl⟩) (by intro W hK; with_reducible first | exact GM.out W hK | exact GF.out W hK) ?_; simp only [Act.put, List.setIfInBounds_toArray, List.set_cons_succ, List.set_cons_zero]))
  show ∀ W, _ → wpList _ _ _ _ _ _
  intro W2 hK2
  have HK2 := Lib.hid hK2
  clear hK2
  go_wp2_with fail
  go_ret
  exact ⟨rfl, HK2.out⟩
set_option maxRecDepth 100000 in
set_option maxHeartbeats 4000000 in
theorem fSetSome (w : World) (tb sb : Nat) (S : Slots Th) (n room : Nat) (h : TMem w tb sb S n room) (ok : TOk S n room) (id : Nat) (hid : id < 4294967296) (d : Nat) (f : FAt (homeN S.length) S id d) (y : Th) (ht : tAt S (ad S.length (homeN S.length id) d) = some (id, y)) (x : Th) :
    Calls Try.prog 17 #[.pointer (some ⟨tb, 0, none⟩), .int .u32 id, en x] w fun e w' => e = .returned (.bool true) ∧ ∃ S', TMem w' tb sb S' n room ∧ TOk S' n room ∧ entsF S' = setF id x (entsF S) ∧ Kp (fun b => b = tb ∨ b = sb) w w' := by
  have c := h.top.cell 0 rfl
  have hN := ok.pw.pos
  have hpl := ad_lt (homeN_lt S.length id hN) f.lt
  have GM := Lib.hid (fun W (k : Kp none' w W) => calls_same (fMade W tb sb S n room (h.old k) hN))
  have GF := Lib.hid (fun W (k : Kp none' w W) => fFindAt S id d ok.pw ok.b2 hid ok.free f W tb sb n room (h.old k))
  have hce := fun k u h1 h2 => h.cell (ad S.length (homeN S.length id) d) k (u := u) h1 h2 hpl
  generalize ad S.length (homeN S.length id) d = q at *
  have hql : (q : Int) < S.length := by omega
  have hst3 : tb ≠ sb := fun q => blk_ne h.top h.cel (by decide) q
  have hents := set_ents x hpl ht (ents_keys ok.inv)
  have hfl := flat_put S q id y x hpl ht
  have hok : TOk (S.set q (some (id, x))) n room := by
    have hl : (S.set q (some (id, x))).length = S.length := List.length_set
    refine ⟨by rw [hl]; exact ok.pw, by rw [hl]; exact set_inv ok.inv x hpl ht, ?_, by rw [hl]; exact ok.load, ok.nr, ok.r1, ok.r2, ?_, by rw [hl]; exact ok.b1, by rw [hl]; exact ok.b2⟩
    · rw [hents]; unfold setF; rw [List.length_map]; exact ok.cnt
    · rw [hents]
      unfold setF
      intro e he
      obtain ⟨e', he', rfl⟩ := List.mem_map.1 he
      split
      · exact hid
      · exact ok.ids _ he'
  have HM := Lib.hid h
  have HX := Lib.hid (fun W (h : TMem W tb sb S n room) => h.cell q 2 (u := en y) (by omega) (by rw [ht]; rfl) hpl)
  have HOK := Lib.hid hok
  have HEN := Lib.hid hents
  have HFL := Lib.hid hfl
  clear h f hok hents hfl
  rw [ht] at hce
  have c1 := hce 1 (.bool true) (by omega) rfl
  clear hce ht
  go_enter Try.func17, Try.ntmps17
  go_wp2_with fail
  refine wp_region_kept2 [] [0, 1, 2, 3, 4, 5, 6, 7, 8, 9, 10, 11, 12, 13, 14] 15 (by kernel_rfl) (by kernel_rfl) (fun c a d u w h => by cases d <;> exact h) ?_
  simp only [pick, List.getElem?_cons_succ, List.getElem?_cons_zero, List.drop_succ_cons, List.drop_zero]
  show wpKL _ _ _ _ _ _
  repeat (first
    | (refine wpKL_op (by exact rfl) (by as_aux_lemma => intro W hK; have e0 := hK.cell c (fun x => x); have e1 := hK.cell c1 (fun x => x); go_simp; exact rfl) ?_; simp only [Act.put, List.setIfInBounds_toArray, List.set_cons_succ, List.set_cons_zero])
    | (refine wpKL_off (by exact rfl) ?_; simp only [Act.put, List.setIfInBounds_toArray, List.set_cons_succ, List.set_cons_zero])
    | (refine wpKL_call (by exact rfl) (by as_aux_lemma => intro W; go_simp; exact ⟨rfl, rfl⟩) (by intro W hK; with_reducible first | exact GM.out W hK | exact GF.out W hK) ?_; simp only [Act.put, List.setIfInBounds_toArray, List.set_cons_succ, List.set_cons_zero]))
  show ∀ W, _ → wpList _ _ _ _ _ _
  intro W2 hK2
  have HK2 := Lib.hid hK2
  have d0 := hK2.cell c (fun x => x)
  have GF2 := Lib.hid (fun W (k : Kp none' W2 W) => GF.out W (hK2.trans k))
  clear hK2 c c1
  go_wp2_with fail
  refine wp_region_kept2 [] [0, 1, 2, 3, 4, 5, 6, 7, 8, 9] 10 (by kernel_rfl) (by kernel_rfl) (fun c a d u w h => by cases d <;> exact h) ?_
  simp only [pick, List.getElem?_cons_succ, List.getElem?_cons_zero, List.drop_succ_cons, List.drop_zero]
  show wpKL _ _ _ _ _ _
  repeat (first
    | (refine wpKL_op (by exact rfl) (by as_aux_lemma => intro W hK; have e0 := hK.cell d0 (fun x => x); go_simp; exact rfl) ?_; simp only [Act.put, List.setIfInBounds_toArray, List.set_cons_succ, List.set_cons_zero])
    | (refine wpKL_off (by exact rfl) ?_; simp only [Act.put, List.setIfInBounds_toArray, List.set_cons_succ, List.set_cons_zero])
    | (refine wpKL_call (by exact rfl) (by as_aux_lemma => intro W; go_simp; exact ⟨rfl, rfl⟩) (by intro W hK; with_reducible first | exact GF2.out W hK) ?_; simp only [Act.put, List.setIfInBounds_toArray, List.set_cons_succ, List.set_cons_zero]))
  show ∀ W, _ → wpList _ _ _ _ _ _
  intro W3 hK3
  have HK3 := Lib.hid (HK2.out.trans hK3)
  have hm3 := HM.out.old HK3.out
  have x2 := HX.out _ hm3
  have z2 := hm3.cel.fz (q * 3 + 2)
  have HM3 := Lib.hid hm3
  clear hK3 d0 hm3
  go_wp2_with fail
  go_ret
  refine ⟨rfl, S.set q (some (id, x)), ⟨?_, ?_⟩, HOK.out, HEN.out, ?_⟩
  · rw [List.length_set]; exact HM3.out.top.setNe (a := ⟨sb, q * 3 + 2, none⟩) hst3 _
  · have := HM3.out.cel.set (q * 3 + 2) (en x)
    rw [HFL.out] at this
    exact this
  · exact (HK3.out.mono (T := fun b => b = tb ∨ b = sb) fun _ _ x => x.elim).set (p := ⟨sb, q * 3 + 2, none⟩) (.inl (.inr rfl)) _
theorem bLen {w : World} {B0 tb room : Nat} {E : List (Nat × Th)} (h : Tb w B0 tb room E) : Calls Try.prog 21 #[.pointer (some ⟨tb, 0, none⟩)] w fun e w' => e = .returned (.int .i64 E.length) ∧ w = w' := by
  obtain ⟨sb, S, n, hm, ok, hp, h1, h2⟩ := h
  have hl := hp.length_eq
  rw [ok.cnt] at hl
  subst hl
  exact fLen w tb sb S _ room hm
theorem bSetNone {w : World} {B0 tb room : Nat} {E : List (Nat × Th)} (h : Tb w B0 tb room E) (id : Nat) (hid : id < 4294967296) (x : Th) (hn : ∀ y, (id, y) ∉ E) :
    Calls Try.prog 17 #[.pointer (some ⟨tb, 0, none⟩), .int .u32 id, en x] w fun e w' => e = .returned (.bool false) ∧ Kp none' w w' := by
  obtain ⟨sb, S, n, hm, ok, hp, h1, h2⟩ := h
  obtain ⟨d, f⟩ := FAt.there (hm := homeN S.length) (fun id => homeN_lt _ _ ok.pw.pos) id ok.free
  exact fSetNone w tb sb S n room hm ok id hid d f (none_at ok f (fun y hy => hn y (hp.mem_iff.1 hy))) x
theorem bSet {w : World} {B0 tb room : Nat} {E : List (Nat × Th)} (h : Tb w B0 tb room E) (id : Nat) (hid : id < 4294967296) (x y : Th) (hy : (id, y) ∈ E) :
    Calls Try.prog 17 #[.pointer (some ⟨tb, 0, none⟩), .int .u32 id, en x] w fun e w' => e = .returned (.bool true) ∧ Tb w' B0 tb room (setF id x E) ∧ Ts B0 w w' := by
  obtain ⟨sb, S, n, hm, ok, hp, h1, h2⟩ := h
  obtain ⟨d, f⟩ := FAt.there (hm := homeN S.length) (fun id => homeN_lt _ _ ok.pw.pos) id ok.free
  refine (fSetSome w tb sb S n room hm ok id hid d f y ((f.some_there ok.inv y).2 (hp.mem_iff.2 hy)) x).mono ?_
  rintro e w' ⟨he, S', hm', ok', hp', hk⟩
  exact ⟨he, ⟨sb, S', n, hm', ok', by rw [hp']; exact hp.map _, h1, h2⟩, Ts.of hm h1 h2 hk⟩
end Go.Proofs.Ythnlggecjdifnaa.flowInt
