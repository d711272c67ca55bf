/- What the functions of package flow compute, at things of kind own: Put. -/
import Derived.Test.YtjhghagmnkjpkaaGreatMShaperNobodyF19
namespace Go.Proofs.YtjhghagmnkjpkaaGreat.flowOwn
set_option linter.unusedVariables false
set_option linter.unusedSimpArgs false
open Go.RowKit Go.Proofs.YtjhghagmnkjpkaaGreat

theorem TOk.put {S S1 : Slots Th} {n room id d : Nat} {x : Th} (ok : TOk S n room) (hp : Pw S1.length) (hi : FInv (homeN S1.length) S1) (he : (entsF S1).Perm (entsF S)) (hid : id < 4294967296) (f : FAt (homeN S1.length) S1 id d) (hn : tAt S1 (ad S1.length (homeN S1.length id) d) = none)
    (hl : 4 * (n + 1) ≤ 3 * S1.length) (hr : n < room) (h1 : 8 ≤ S1.length) (h2 : S1.length ≤ 8192) :
    TOk (S1.set (ad S1.length (homeN S1.length id) d) (some (id, x))) (n + 1) room ∧ (entsF (S1.set (ad S1.length (homeN S1.length id) d) (some (id, x)))).Perm ((id, x) :: entsF S) := by
  have hq := ad_lt (hi.home id) f.lt
  have hperm := (ents_put S1 _ hq hn (id, x)).trans (List.Perm.cons _ he)
  refine ⟨⟨by rw [List.length_set]; exact hp, by rw [List.length_set]; exact hi.put f hn x, by rw [hperm.length_eq, List.length_cons, ok.cnt], by rw [List.length_set]; exact hl, hr, ok.r1, ok.r2, fun e h => ?_, by rw [List.length_set]; exact h1, by rw [List.length_set]; exact h2⟩, hperm⟩
  rcases List.mem_cons.1 (hperm.mem_iff.1 h) with rfl | h
  · exact hid
  · exact ok.ids e h
set_option maxRecDepth 100000 in
set_option maxHeartbeats 4000000 in
theorem fPutThere (w : World) (tb sb : Nat) (S : Slots Th) (n room : Nat) (h : TMem w tb sb S n room) (ok : TOk S n room) (id : Nat) (hid : id < 4294967296) (d : Nat) (f : FAt (homeN S.length) S id d) (y : Th) (hy : tAt S (ad S.length (homeN S.length id) d) = some (id, y)) (x : Th) :
    Calls Tryz.prog 33 #[.pointer (some ⟨tb, 0, none⟩), .int .u32 id, en x] w fun e w' => e = .returned (.int .i64 8) ∧ Kp none' w w' := by
  have c0 := h.top.cell 0 rfl
  have hN := ok.pw.pos
  have hpl := ad_lt (homeN_lt S.length id hN) f.lt
  have HM := Lib.hid h
  have GM := Lib.hid (fun W (k : Kp none' w W) => calls_same (fMade W tb sb S n room (h.old k) hN))
  have htl := h.top.lt
  have GF := Lib.hid (fun W (k : Kp none' w W) => fFindAt S id d ok.pw ok.b2 hid ok.free f W tb sb n room (h.old k))
  have hce := fun k u h1 h2 => h.cell (ad S.length (homeN S.length id) d) k (u := u) h1 h2 hpl
  generalize ad S.length (homeN S.length id) d = q at *
  have hql : (q : Int) < S.length := by omega
  rw [hy] at hce
  have c1 := hce 1 (.bool true) (by omega) rfl
  clear hce hy h f
  go_enter Tryz.func33, Tryz.ntmps33
  go_wp2_with fail
  refine (GM.out _ ((Kp.refl none' w).alloc _)).mono ?_
  rintro e w1 ⟨rfl, k0⟩
  have HXB := Lib.hid ((Blk.new w [.int .i64 x.p, .int .u64 x.b, .int .u64 x.m] 116).kp k0 (fun x => x))
  have k1 := ((Kp.refl none' w).alloc (.cells #[.int .i64 x.p, .int .u64 x.b, .int .u64 x.m] 116)).trans k0
  clear k0
  have d0 := k1.cell c0 (fun x => x)
  have d1 := k1.cell c1 (fun x => x)
  have GF1 := Lib.hid (fun W (k : Kp none' w1 W) => GF.out W (k1.trans k))
  have HK1 := Lib.hid k1
  clear k1 c0 c1
  go_wp2_with fail
  refine wp_region_kept2 [] [0, 1, 2, 3, 4, 5, 6, 7, 8, 9] 10 (by kernel_rfl) (by kernel_rfl) (fun c a d u w h => by cases d <;> exact h) ?_
  simp only [pick, List.getElem?_cons_succ, List.getElem?_cons_zero, List.drop_succ_cons, List.drop_zero]
  show wpKL _ _ _ _ _ _
  repeat (first
    | (refine wpKL_op (by exact rfl) (by as_aux_lemma => intro W hK; have e0 := hK.cell d0 (fun x => x); have e1 := hK.cell d1 (fun x => x); go_simp; exact rfl) ?_; simp only [Act.put, List.setIfInBounds_toArray, List.set_cons_succ, List.set_cons_zero])
    | (refine wpKL_off (by exact rfl) ?_; simp only [Act.put, List.setIfInBounds_toArray, List.set_cons_succ, List.set_cons_zero])
    | (refine wpKL_call (by exact rfl) (by as_aux_lemma => intro W; go_simp; exact ⟨rfl, rfl⟩) (by intro W hK; with_reducible first | exact GF1.out W hK) ?_; simp only [Act.put, List.setIfInBounds_toArray, List.set_cons_succ, List.set_cons_zero]))
  show ∀ W, _ → wpList _ _ _ _ _ _
  intro W2 hK2
  have HK2 := Lib.hid (HK1.out.trans hK2)
  clear hK2 d0 d1
  go_wp2_with fail
  go_ret
  exact ⟨rfl, HK2.out⟩
set_option maxRecDepth 100000 in
set_option maxHeartbeats 4000000 in
theorem fPutFull (w : World) (tb sb : Nat) (S : Slots Th) (n room : Nat) (h : TMem w tb sb S n room) (ok : TOk S n room) (id : Nat) (hid : id < 4294967296) (d : Nat) (f : FAt (homeN S.length) S id d) (hy : tAt S (ad S.length (homeN S.length id) d) = none) (x : Th) (hfull : room ≤ n) :
    Calls Tryz.prog 33 #[.pointer (some ⟨tb, 0, none⟩), .int .u32 id, en x] w fun e w' => e = .returned (.int .i64 20) ∧ Kp none' w w' := by
  have c0 := h.top.cell 0 rfl
  have hN := ok.pw.pos
  have hpl := ad_lt (homeN_lt S.length id hN) f.lt
  have HM := Lib.hid h
  have GM := Lib.hid (fun W (k : Kp none' w W) => calls_same (fMade W tb sb S n room (h.old k) hN))
  have htl := h.top.lt
  have GF := Lib.hid (fun W (k : Kp none' w W) => fFindAt S id d ok.pw ok.b2 hid ok.free f W tb sb n room (h.old k))
  have hce := fun k u h1 h2 => h.cell (ad S.length (homeN S.length id) d) k (u := u) h1 h2 hpl
  have cn := h.top.cell 1 rfl
  have cr := h.top.cell 2 rfl
  generalize ad S.length (homeN S.length id) d = q at *
  have hql : (q : Int) < S.length := by omega
  have hfi : (room : Int) ≤ n := by omega
  rw [hy] at hce
  have c1 := hce 1 (.bool false) (by omega) rfl
  clear hce hy h f
  go_enter Tryz.func33, Tryz.ntmps33
  go_wp2_with fail
  refine (GM.out _ ((Kp.refl none' w).alloc _)).mono ?_
  rintro e w1 ⟨rfl, k0⟩
  have HXB := Lib.hid ((Blk.new w [.int .i64 x.p, .int .u64 x.b, .int .u64 x.m] 116).kp k0 (fun x => x))
  have k1 := ((Kp.refl none' w).alloc (.cells #[.int .i64 x.p, .int .u64 x.b, .int .u64 x.m] 116)).trans k0
  clear k0
  have d0 := k1.cell c0 (fun x => x)
  have d1 := k1.cell c1 (fun x => x)
  have dn := k1.cell cn (fun x => x)
  have dr := k1.cell cr (fun x => x)
  have GF1 := Lib.hid (fun W (k : Kp none' w1 W) => GF.out W (k1.trans k))
  have HK1 := Lib.hid k1
  clear k1 c0 c1 cn cr
  go_wp2_with fail
  refine wp_region_kept2 [] [0, 1, 2, 3, 4, 5, 6, 7, 8, 9] 10 (by kernel_rfl) (by kernel_rfl) (fun c a d u w h => by cases d <;> exact h) ?_
  simp only [pick, List.getElem?_cons_succ, List.getElem?_cons_zero, List.drop_succ_cons, List.drop_zero]
  show wpKL _ _ _ _ _ _
  repeat (first
    | (refine wpKL_op (by exact rfl) (by as_aux_lemma => intro W hK; have e0 := hK.cell d0 (fun x => x); have e1 := hK.cell d1 (fun x => x); go_simp; exact rfl) ?_; simp only [Act.put, List.setIfInBounds_toArray, List.set_cons_succ, List.set_cons_zero])
    | (refine wpKL_off (by exact rfl) ?_; simp only [Act.put, List.setIfInBounds_toArray, List.set_cons_succ, List.set_cons_zero])
    | (refine wpKL_call (by exact rfl) (by as_aux_lemma => intro W; go_simp; exact ⟨rfl, rfl⟩) (by intro W hK; with_reducible first | exact GF1.out W hK) ?_; simp only [Act.put, List.setIfInBounds_toArray, List.set_cons_succ, List.set_cons_zero]))
  show ∀ W, _ → wpList _ _ _ _ _ _
  intro W2 hK2
  have HK2 := Lib.hid (HK1.out.trans hK2)
  have en := hK2.cell dn (fun x => x)
  have er := hK2.cell dr (fun x => x)
  clear hK2 d0 d1 dn dr
  go_wp2_with fail
  refine wp_region_kept2 [] [0, 1, 2, 3, 4, 5, 6, 7, 8] 9 (by kernel_rfl) (by kernel_rfl) (fun c a d u w h => by cases d <;> exact h) ?_
  simp only [pick, List.getElem?_cons_succ, List.getElem?_cons_zero, List.drop_succ_cons, List.drop_zero]
  show wpKL _ _ _ _ _ _
  repeat (first
    | (refine wpKL_op (by exact rfl) (by as_aux_lemma => intro W hK; have e0 := hK.cell en (fun x => x); have e1 := hK.cell er (fun x => x); go_simp; exact rfl) ?_; simp only [Act.put, List.setIfInBounds_toArray, List.set_cons_succ, List.set_cons_zero])
    | (refine wpKL_off (by exact rfl) ?_; simp only [Act.put, List.setIfInBounds_toArray, List.set_cons_succ, List.set_cons_zero]))
  show ∀ W, _ → wpList _ _ _ _ _ _
  intro W3 hK3
  have HK3 := Lib.hid (HK2.out.trans hK3)
  clear hK3 en er
  go_wp2_with fail
  go_ret
  exact ⟨rfl, HK3.out⟩
set_option maxRecDepth 100000 in
set_option maxHeartbeats 8000000 in
theorem fPutNew (w : World) (tb sb : Nat) (S : Slots Th) (n room : Nat) (h : TMem w tb sb S n room) (ok : TOk S n room) (id : Nat) (hid : id < 4294967296) (d : Nat) (f : FAt (homeN S.length) S id d) (hnone : tAt S (ad S.length (homeN S.length id) d) = none) (x : Th) (hroom : n < room) :
    Calls Tryz.prog 33 #[.pointer (some ⟨tb, 0, none⟩), .int .u32 id, en x] w fun e w' => e = .returned (.int .i64 0) ∧ ∃ sb' S', TMem w' tb sb' S' (n + 1) room ∧ TOk S' (n + 1) room ∧ (entsF S').Perm ((id, x) :: entsF S) ∧ Kp (fun b => b = tb ∨ b = sb) w w' ∧ (sb' = sb ∨ w.heap.size ≤ sb') := by
  have c0 := h.top.cell 0 rfl
  have hN := ok.pw.pos
  have hpl := ad_lt (homeN_lt S.length id hN) f.lt
  have HM := Lib.hid h
  have GM := Lib.hid (fun W (k : Kp none' w W) => calls_same (fMade W tb sb S n room (h.old k) hN))
  have htl := h.top.lt
  have GF := Lib.hid (fun W (k : Kp none' w W) => fFindAt S id d ok.pw ok.b2 hid ok.free f W tb sb n room (h.old k))
  have hce := fun k u h1 h2 => h.cell (ad S.length (homeN S.length id) d) k (u := u) h1 h2 hpl
  have hnoid := f.none_there ok.inv hnone
  have hfree := ok.free
  have cn := h.top.cell 1 rfl
  have cr := h.top.cell 2 rfl
  have hr2 := ok.r2
  have hql : ((ad S.length (homeN S.length id) d : Nat) : Int) < S.length := by omega
  have hfi : ¬ (room : Int) ≤ n := by omega
  rw [hnone] at hce
  have c1 := hce 1 (.bool false) (by omega) rfl
  have HFA := Lib.hid f
  have HNO := Lib.hid hnone
  clear hce h hnone f
  obtain ⟨q, hq⟩ : ∃ q, ad S.length (homeN S.length id) d = q := ⟨_, rfl⟩
  have HQ := Lib.hid hq
  rw [hq] at hpl hql c1 GF
  clear hq
  go_enter Tryz.func33, Tryz.ntmps33
  go_wp2_with fail
  refine (GM.out _ ((Kp.refl none' w).alloc _)).mono ?_
  rintro e w1 ⟨rfl, k0⟩
  have HXB := Lib.hid ((Blk.new w [.int .i64 x.p, .int .u64 x.b, .int .u64 x.m] 116).kp k0 (fun x => x))
  have k1 := ((Kp.refl none' w).alloc (.cells #[.int .i64 x.p, .int .u64 x.b, .int .u64 x.m] 116)).trans k0
  clear k0
  have d0 := k1.cell c0 (fun x => x)
  have d1 := k1.cell c1 (fun x => x)
  have dn := k1.cell cn (fun x => x)
  have dr := k1.cell cr (fun x => x)
  have GF1 := Lib.hid (fun W (k : Kp none' w1 W) => GF.out W (k1.trans k))
  have HK1 := Lib.hid k1
  clear k1 c0 c1 cn cr
  go_wp2_with fail
  refine wp_region_kept2 [] [0, 1, 2, 3, 4, 5, 6, 7, 8, 9] 10 (by kernel_rfl) (by kernel_rfl) (fun c a d u w h => by cases d <;> exact h) ?_
  simp only [pick, List.getElem?_cons_succ, List.getElem?_cons_zero, List.drop_succ_cons, List.drop_zero]
  show wpKL _ _ _ _ _ _
  repeat (first
    | (refine wpKL_op (by exact rfl) (by as_aux_lemma => intro W hK; have e0 := hK.cell d0 (fun x => x); have e1 := hK.cell d1 (fun x => x); go_simp; exact rfl) ?_; simp only [Act.put, List.setIfInBounds_toArray, List.set_cons_succ, List.set_cons_zero])
    | (refine wpKL_off (by exact rfl) ?_; simp only [Act.put, List.setIfInBounds_toArray, List.set_cons_succ, List.set_cons_zero])
    | (refine wpKL_call (by exact rfl) (by as_aux_lemma => intro W; go_simp; exact ⟨rfl, rfl⟩) (by intro W hK; with_reducible first | exact GF1.out W hK) ?_; simp only [Act.put, List.setIfInBounds_toArray, List.set_cons_succ, List.set_cons_zero]))
  show ∀ W, _ → wpList _ _ _ _ _ _
  intro W2 hK2
  have hK2' := Lib.hid hK2
  have HK2 := Lib.hid (HK1.out.trans hK2)
  have f0 := hK2.cell d0 (fun x => x)
  have fn := hK2.cell dn (fun x => x)
  have fr := hK2.cell dr (fun x => x)
  clear hK2 d0 d1 dn dr
  go_wp2_with fail
  refine wp_region_kept2 [] [0, 1, 2, 3, 4, 5, 6, 7, 8] 9 (by kernel_rfl) (by kernel_rfl) (fun c a d u w h => by cases d <;> exact h) ?_
  simp only [pick, List.getElem?_cons_succ, List.getElem?_cons_zero, List.drop_succ_cons, List.drop_zero]
  show wpKL _ _ _ _ _ _
  repeat (first
    | (refine wpKL_op (by exact rfl) (by as_aux_lemma => intro W hK; have e0 := hK.cell fn (fun x => x); have e1 := hK.cell fr (fun x => x); go_simp; exact rfl) ?_; simp only [Act.put, List.setIfInBounds_toArray, List.set_cons_succ, List.set_cons_zero])
    | (refine wpKL_off (by exact rfl) ?_; simp only [Act.put, List.setIfInBounds_toArray, List.set_cons_succ, List.set_cons_zero]))
  show ∀ W, _ → wpList _ _ _ _ _ _
  intro W3 hK3
  have hK3' := Lib.hid hK3
  have HK3 := Lib.hid (HK2.out.trans hK3)
  have g0 := hK3.cell f0 (fun x => x)
  have gn := hK3.cell fn (fun x => x)
  clear hK3 f0 fn fr
  go_wp2_with fail
  have hb8 := ok.b2
  refine wp_region_kept2 [] [0, 1, 2, 3, 4, 5, 6, 7, 8, 9, 10, 11] 12 (by kernel_rfl) (by kernel_rfl) (fun c a d u w h => by cases d <;> exact h) ?_
  simp only [pick, List.getElem?_cons_succ, List.getElem?_cons_zero, List.drop_succ_cons, List.drop_zero]
  show wpKL _ _ _ _ _ _
  repeat (first
    | (refine wpKL_op (by exact rfl) (by as_aux_lemma => intro W hK; have e0 := hK.cell g0 (fun x => x); have e1 := hK.cell gn (fun x => x); go_simp; exact rfl) ?_; simp only [Act.put, List.setIfInBounds_toArray, List.set_cons_succ, List.set_cons_zero])
    | (refine wpKL_off (by exact rfl) ?_; simp only [Act.put, List.setIfInBounds_toArray, List.set_cons_succ, List.set_cons_zero]))
  show ∀ W, _ → wpList _ _ _ _ _ _
  intro W4 hK4
  have HK4 := Lib.hid (HK3.out.trans hK4)
  have HM4 := Lib.hid (HM.out.old HK4.out)
  have HXB4 := Lib.hid (HXB.out.kp (((hK2'.out.trans hK3'.out).trans hK4)) (fun x => x))
  clear hK4 g0 gn GF GF1 GM HK1 HK2 HK3 HXB
  by_cases hgr : 3 * S.length < 4 * (n + 1)
  · have hgi : 3 * (S.length : Int) < 4 * ((n : Int) + 1) := by omega
    have GG := Lib.hid (fGrow W4 tb sb S n room HM4.out ok (by omega))
    have hsz := HK4.out.size
    clear hpl hql HFA HQ HNO
    go_wp2_with fail
    refine GG.out.mono ?_
    rintro e W1 ⟨rfl, sb1, S1, G⟩
    have hN4 := (Pw.twice ok.pw (by omega)).2
    have HM1 := Lib.hid G.mem
    have hp1 : Pw S1.length := by rw [G.len]; exact (Pw.twice ok.pw (by omega)).1
    have hb1 : S1.length ≤ 8192 := by rw [G.len]; omega
    have hi1 : FInv (homeN S1.length) S1 := by rw [G.len]; exact G.inv
    have he1 : (entsF S1).Perm (entsF S) := by have := G.ents; rwa [List.take_length] at this
    have h81 : 8 ≤ S1.length := by rw [G.len]; have := ok.b1; omega
    have hl1 : 4 * (n + 1) ≤ 3 * S1.length := by rw [G.len]; have := ok.load; have := ok.b1; omega
    have hu1 : ∃ i, i < S1.length ∧ tAt S1 i = none := unused S1 (by have := he1.length_eq; have := ok.cnt; omega)
    obtain ⟨d1, f1⟩ := FAt.there (hm := homeN S1.length) (fun id => homeN_lt _ _ (by omega)) id hu1
    have hn1 : tAt S1 (ad S1.length (homeN S1.length id) d1) = none := by
      rcases f1.fin with h1 | ⟨y, h1⟩
      · exact h1
      · obtain ⟨i, hi, hiy⟩ := (ents_mem S _).1 (he1.mem_iff.1 ((ents_mem S1 _).2 ⟨_, ad_lt (hi1.home id) f1.lt, h1⟩))
        exact absurd hiy (hnoid i y hi)
    have hnew := G.new
    have HXW : Hid (Blk W1 w.heap.size [.int .i64 x.p, .int .u64 x.b, .int .u64 x.m] 116) := HXB4.out.kp G.kp (fun e => by omega)
    have HKW : Hid (Kp (fun b => b = tb ∨ b = sb) w W1) := (HK4.out.mono (fun _ _ x => x.elim)).then G.kp (fun _ _ x => .inl x)
    have hsb1 : (sb1 = tb ∨ sb1 = sb) ∨ w.heap.size ≤ sb1 := .inr (by omega)
    have hsb2 : sb1 = sb ∨ w.heap.size ≤ sb1 := .inr (by omega)
    clear hnoid hfree HK4 HM4 GG G
    go_wp2_with fail
    as_aux_lemma =>
      have hlen1 := HM1.out.top.cell 0 rfl
      have hcn := HM1.out.top.cell 1 rfl
      have hx0 := HXW.out.cell 0 rfl
      have hx1 := HXW.out.cell 1 rfl
      have hx2 := HXW.out.cell 2 rfl
      have GF2 := Lib.hid (fun W (k : Kp none' W1 W) => fFindAt S1 id d1 hp1 hb1 hid hu1 f1 W tb sb1 n room (HM1.out.old k))
      have hq1 := ad_lt (homeN_lt S1.length id hp1.pos) f1.lt
      have hset := flat_set enS 5 enS_len S1 (ad S1.length (homeN S1.length id) d1) (some (id, x)) hq1
      have HFI := Lib.hid (ok.put (x := x) hp1 hi1 he1 hid f1 hn1 hl1 hroom h81 hb1)
      have hfl := flat_len enS 5 enS_len S1
      generalize ad S1.length (homeN S1.length id) d1 = q1 at *
      have hq1i : (q1 : Int) < S1.length := by omega
      have hne1 : sb1 ≠ tb := fun e => blk_ne HM1.out.cel HM1.out.top (by decide) e
      have hne2 : tb ≠ sb1 := hne1.symm
      clear f1 hi1 he1 hn1 hu1
      go_wp2_with fail
      refine wp_region_kept2 [] [0, 1, 2, 3, 4, 5, 6, 7, 8, 9, 10] 11 (by kernel_rfl) (by kernel_rfl) (fun c a d u w h => by cases d <;> exact h) ?_
      simp only [pick, List.getElem?_cons_succ, List.getElem?_cons_zero, List.drop_succ_cons, List.drop_zero]
      show wpKL _ _ _ _ _ _
      repeat (first
        | (refine wpKL_op (by exact rfl) (by as_aux_lemma => intro W hK; have e0 := hK.cell hlen1 (fun x => x); have e1 := hK.cell hx0 (fun x => x); have e2 := hK.cell hx1 (fun x => x); have e3 := hK.cell hx2 (fun x => x); go_simp; exact rfl) ?_; simp only [Act.put, List.setIfInBounds_toArray, List.set_cons_succ, List.set_cons_zero])
        | (refine wpKL_off (by exact rfl) ?_; simp only [Act.put, List.setIfInBounds_toArray, List.set_cons_succ, List.set_cons_zero])
        | (refine wpKL_call (by exact rfl) (by as_aux_lemma => intro W; go_simp; exact ⟨rfl, rfl⟩) (by intro W hK; with_reducible first | exact GF2.out W hK) ?_; simp only [Act.put, List.setIfInBounds_toArray, List.set_cons_succ, List.set_cons_zero]))
      show ∀ W, _ → wpList _ _ _ _ _ _
      intro W2 hK2
      have HM2 := Lib.hid (HM1.out.old hK2)
      have HK2 := Lib.hid (HKW.out.then hK2 (fun _ _ x => x.elim))
      have hone : ∀ v ∈ enS (some (id, x)), v.oneCell' = true := by
        intro v hv
        simp only [enS, List.mem_cons, List.not_mem_nil, or_false] at hv
        rcases hv with rfl | rfl | rfl | rfl | rfl <;> rfl
      have hin : q1 * 5 + (enS (some (id, x))).length ≤ (S1.flatMap enS).length := by rw [hfl, enS_len]; omega
      have hlen2 : (S1.set q1 (some (id, x))).length = S1.length := List.length_set ..
      clear hlen1 hcn hset hK2 hx0 hx1 hx2
      refine wp_set_mid rfl 154 (.tmp 57) (.tmp 56) rfl HM2.out.cel (q1 * 5) (enS (some (id, x))) rfl rfl (by kernel_rfl) hin hone ?_
      intro W3 hB3 hO3 hK3
      rw [← flat_set enS 5 enS_len S1 q1 _ hq1] at hB3
      have hT3 := hO3 _ _ _ HM2.out.top hne2
      have HK3 := Lib.hid (hK3 _ _ HK2.out hsb1)
      have zt := hT3.fz 1
      have tn := hT3.cell 1 rfl
      have HF : Hid (TMem (W3.setCell ⟨tb, 1, none⟩ (.int .i64 ((n : Int) + 1))) tb sb1 (S1.set q1 (some (id, x))) (n + 1) room) := by
        have h2 := hT3.set 1 (.int .i64 ((n : Int) + 1))
        exact ⟨by rw [hlen2]; exact h2, hB3.setNe (a := ⟨tb, 1, none⟩) hne1 _⟩
      have HKF : Hid (Kp (fun b => b = tb ∨ b = sb) w (W3.setCell ⟨tb, 1, none⟩ (.int .i64 ((n : Int) + 1)))) := HK3.out.set (p := ⟨tb, 1, none⟩) (.inl (.inl rfl)) _
      clear hB3 hO3 hK3 hT3 hne1 hne2 hin hone hlen2 hfl
      simp only [Act.put]
      as_aux_lemma =>
        go_wp2_with fail
        go_ret
        exact ⟨rfl, sb1, _, HF.out, HFI.out.1, HFI.out.2, HKF.out, hsb2⟩
  · obtain ⟨W1, hW⟩ : ∃ W1 : World, W1 = W4 := ⟨_, rfl⟩
    subst hW
    have hgi : ¬ 3 * (S.length : Int) < 4 * ((n : Int) + 1) := by omega
    have HKW : Hid (Kp (fun b => b = tb ∨ b = sb) w W1) := HK4.out.mono (fun _ _ x => x.elim)
    have HXW := HXB4
    obtain ⟨S1, hS1⟩ : ∃ S1 : Slots Th, S1 = S := ⟨_, rfl⟩
    obtain ⟨sb1, hsb⟩ : ∃ sb1, sb1 = sb := ⟨_, rfl⟩
    obtain ⟨d1, hd1⟩ : ∃ d1, d1 = d := ⟨_, rfl⟩
    have HM1 : Hid (TMem W1 tb sb1 S1 n room) := by rw [hS1, hsb]; exact HM4.out
    have hp1 : Pw S1.length := by rw [hS1]; exact ok.pw
    have hb1 : S1.length ≤ 8192 := by rw [hS1]; exact ok.b2
    have hi1 : FInv (homeN S1.length) S1 := by rw [hS1]; exact ok.inv
    have he1 : (entsF S1).Perm (entsF S) := by rw [hS1]
    have hu1 : ∃ i, i < S1.length ∧ tAt S1 i = none := by rw [hS1]; exact hfree
    have f1 : FAt (homeN S1.length) S1 id d1 := by rw [hS1, hd1]; exact HFA.out
    have hn1 : tAt S1 (ad S1.length (homeN S1.length id) d1) = none := by rw [hS1, hd1]; exact HNO.out
    have hl1 : 4 * (n + 1) ≤ 3 * S1.length := by rw [hS1]; omega
    have h81 : 8 ≤ S1.length := by rw [hS1]; exact ok.b1
    have hsb1 : (sb1 = tb ∨ sb1 = sb) ∨ w.heap.size ≤ sb1 := .inl (.inr hsb)
    have hsb2 : sb1 = sb ∨ w.heap.size ≤ sb1 := .inl hsb
    clear hsb hd1 hpl hql hfree hnoid HFA HNO HQ
    clear hS1
    go_wp2_with fail
    as_aux_lemma =>
      have hlen1 := HM1.out.top.cell 0 rfl
      have hcn := HM1.out.top.cell 1 rfl
      have hx0 := HXW.out.cell 0 rfl
      have hx1 := HXW.out.cell 1 rfl
      have hx2 := HXW.out.cell 2 rfl
      have GF2 := Lib.hid (fun W (k : Kp none' W1 W) => fFindAt S1 id d1 hp1 hb1 hid hu1 f1 W tb sb1 n room (HM1.out.old k))
      have hq1 := ad_lt (homeN_lt S1.length id hp1.pos) f1.lt
      have hset := flat_set enS 5 enS_len S1 (ad S1.length (homeN S1.length id) d1) (some (id, x)) hq1
      have HFI := Lib.hid (ok.put (x := x) hp1 hi1 he1 hid f1 hn1 hl1 hroom h81 hb1)
      have hfl := flat_len enS 5 enS_len S1
      generalize ad S1.length (homeN S1.length id) d1 = q1 at *
      have hq1i : (q1 : Int) < S1.length := by omega
      have hne1 : sb1 ≠ tb := fun e => blk_ne HM1.out.cel HM1.out.top (by decide) e
      have hne2 : tb ≠ sb1 := hne1.symm
      clear f1 hi1 he1 hn1 hu1
      go_wp2_with fail
      refine wp_region_kept2 [] [0, 1, 2, 3, 4, 5, 6, 7, 8, 9, 10] 11 (by kernel_rfl) (by kernel_rfl) (fun c a d u w h => by cases d <;> exact h) ?_
      simp only [pick, List.getElem?_cons_succ, List.getElem?_cons_zero, List.drop_succ_cons, List.drop_zero]
      show wpKL _ _ _ _ _ _
      repeat (first
        | (refine wpKL_op (by exact rfl) (by as_aux_lemma => intro W hK; have e0 := hK.cell hlen1 (fun x => x); have e1 := hK.cell hx0 (fun x => x); have e2 := hK.cell hx1 (fun x => x); have e3 := hK.cell hx2 (fun x => x); go_simp; exact rfl) ?_; simp only [Act.put, List.setIfInBounds_toArray, List.set_cons_succ, List.set_cons_zero])
        | (refine wpKL_off (by exact rfl) ?_; simp only [Act.put, List.setIfInBounds_toArray, List.set_cons_succ, List.set_cons_zero])
        | (refine wpKL_call (by exact rfl) (by as_aux_lemma => intro W; go_simp; exact ⟨rfl, rfl⟩) (by intro W hK; with_reducible first | exact GF2.out W hK) ?_; simp only [Act.put, List.setIfInBounds_toArray, List.set_cons_succ, List.set_cons_zero]))
      show ∀ W, _ → wpList _ _ _ _ _ _
      intro W2 hK2
      have HM2 := Lib.hid (HM1.out.old hK2)
      have HK2 := Lib.hid (HKW.out.then hK2 (fun _ _ x => x.elim))
      have hone : ∀ v ∈ enS (some (id, x)), v.oneCell' = true := by
        intro v hv
        simp only [enS, List.mem_cons, List.not_mem_nil, or_false] at hv
        rcases hv with rfl | rfl | rfl | rfl | rfl <;> rfl
      have hin : q1 * 5 + (enS (some (id, x))).length ≤ (S1.flatMap enS).length := by rw [hfl, enS_len]; omega
      have hlen2 : (S1.set q1 (some (id, x))).length = S1.length := List.length_set ..
      clear hlen1 hcn hset hK2 hx0 hx1 hx2
      refine wp_set_mid rfl 154 (.tmp 57) (.tmp 56) rfl HM2.out.cel (q1 * 5) (enS (some (id, x))) rfl rfl (by kernel_rfl) hin hone ?_
      intro W3 hB3 hO3 hK3
      rw [← flat_set enS 5 enS_len S1 q1 _ hq1] at hB3
      have hT3 := hO3 _ _ _ HM2.out.top hne2
      have HK3 := Lib.hid (hK3 _ _ HK2.out hsb1)
      have zt := hT3.fz 1
      have tn := hT3.cell 1 rfl
      have HF : Hid (TMem (W3.setCell ⟨tb, 1, none⟩ (.int .i64 ((n : Int) + 1))) tb sb1 (S1.set q1 (some (id, x))) (n + 1) room) := by
        have h2 := hT3.set 1 (.int .i64 ((n : Int) + 1))
        exact ⟨by rw [hlen2]; exact h2, hB3.setNe (a := ⟨tb, 1, none⟩) hne1 _⟩
      have HKF : Hid (Kp (fun b => b = tb ∨ b = sb) w (W3.setCell ⟨tb, 1, none⟩ (.int .i64 ((n : Int) + 1)))) := HK3.out.set (p := ⟨tb, 1, none⟩) (.inl (.inl rfl)) _
      clear hB3 hO3 hK3 hT3 hne1 hne2 hin hone hlen2 hfl
      simp only [Act.put]
      as_aux_lemma =>
        go_wp2_with fail
        go_ret
        exact ⟨rfl, sb1, _, HF.out, HFI.out.1, HFI.out.2, HKF.out, hsb2⟩
end Go.Proofs.YtjhghagmnkjpkaaGreat.flowOwn
