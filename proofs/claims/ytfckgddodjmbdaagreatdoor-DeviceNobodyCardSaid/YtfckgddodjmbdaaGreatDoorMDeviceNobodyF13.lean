/- What the functions of package flow compute, at things of kind own: Put. -/
import Derived.Test.YtfckgddodjmbdaaGreatDoorMDeviceNobodyF12
import Derived.Test.YtfckgddodjmbdaaGreatDoorMDeviceNobodyF4
import Derived.Test.YtfckgddodjmbdaaGreatDoorMDeviceNobodyF6
import Derived.Test.YtfckgddodjmbdaaGreatDoorMDeviceNobodyF7
namespace Go.Proofs.YtfckgddodjmbdaaGreatDoor.flowOwn
set_option linter.unusedVariables false
set_option linter.unusedSimpArgs false
open Go.RowKit Go.Proofs.YtfckgddodjmbdaaGreatDoor
theorem TOk.put {S S1 : Slots Th} {n room id d : Nat} {x : Th} (ok : TOk S n room) (hp : Pw S1.length) (hi : FInv (homeN S1.length) S1) (he : (entsF S1).Perm (entsF S)) (hid : id < 4294967296) (f : FAt (homeN S1.length) S1 id d) (hn : tAt S1 (ad S1.length (homeN S1.length id) d) = none)
    (hl : 4 * (n + 1) ≤ 3 * S1.length) (hr : n < room) (h1 : 8 ≤ S1.length) (h2 : S1.length ≤ 8192) :
    TOk (S1.set (ad S1.length (homeN S1.length id) d) (some (id, x))) (n + 1) room ∧ (entsF (S1.set (ad S1.length (homeN S1.length id) d) (some (id, x)))).Perm ((id, x) :: entsF S) := by
  have hq := ad_lt (hi.home id) f.lt
  have hperm := (ents_put S1 _ hq hn (id, x)).trans (List.Perm.cons _ he)
  refine ⟨⟨by rw [List.length_set]; exact hp, by rw [List.length_set]; exact hi.put f hn x, by rw [hperm.length_eq, List.length_cons, ok.cnt], by rw [List.length_set]; exact hl, hr, ok.r1, ok.r2, fun e h => ?_, by rw [List.length_set]; exact h1, by rw [List.length_set]; exact h2⟩, hperm⟩
  rcases List.mem_cons.1 (hperm.mem_iff.1 h) with rfl | h
  · exact hid
  · exact ok.ids e h
set_option maxRecDepth 100000 in
set_option maxHeartbeats 8000000 in
theorem fPutNew (w : World) (tb sb : Nat) (S : Slots Th) (n room : Nat) (h : TMem w tb sb S n room) (ok : TOk S n room) (id : Nat) (hid : id < 4294967296) (d : Nat) (f : FAt (homeN S.length) S id d) (hnone : tAt S (ad S.length (homeN S.length id) d) = none) (x : Th) (hroom : n < room) :
    Calls Tryz.prog 114 #[.pointer (some ⟨tb, 0, none⟩), .int .u32 id, en x] w fun e w' => e = .returned (.int .i64 0) ∧ ∃ sb' S', TMem w' tb sb' S' (n + 1) room ∧ TOk S' (n + 1) room ∧ (entsF S').Perm ((id, x) :: entsF S) ∧ Kp (fun b => b = tb ∨ b = sb) w w' ∧ (sb' = sb ∨ w.heap.size ≤ sb') := by
  have c0 := h.top.cell 0 rfl
  have hN := ok.pw.pos
  have hpl := ad_lt (homeN_lt S.length id hN) f.lt
  have HM := Lib.hid h
  have GM := Lib.hid (fun W (k : Kp none' w W) => calls_same (fMade W tb sb S n room (h.old k) hN))
  have htl := h.top.lt
  have GF := Lib.hid (fun W (k : Kp none' w W) => fFindAt S id d ok.pw ok.b2 hid ok.free f W tb sb n room (h.old k))
  have hce := fun k u h1 h2 => h.cell (ad S.length (homeN S.length id) d) k (u := u) h1 h2 hpl
  have hnoid := f.none_there ok.inv hnone
  have hfree := ok.free
  have cn := h.top.cell 1 rfl
  have cr := h.top.cell 2 rfl
  have hr2 := ok.r2
  have hql : ((ad S.length (homeN S.length id) d : Nat) : Int) < S.length := by omega
  have hfi : ¬ (room : Int) ≤ n := by omega
  rw [hnone] at hce
  have c1 := hce 1 (.bool false) (by omega) rfl
  have HFA := Lib.hid f
  have HNO := Lib.hid hnone
  clear hce h hnone f
  obtain ⟨q, hq⟩ : ∃ q, ad S.length (homeN S.length id) d = q := ⟨_, rfl⟩
  have HQ := Lib.hid hq
  rw [hq] at hpl hql c1 GF
  clear hq
  go_enter Tryz.func114, Tryz.ntmps114
  go_wp2_with fail
  refine (GM.out _ ((Kp.refl none' w).alloc _)).mono ?_
  rintro e w1 ⟨rfl, k0⟩
  have HXB := Lib.hid ((Blk.new w [.int .i64 x.p, .int .u64 x.b, .int .u64 x.m] 232).kp k0 (fun x => x))
  have k1 := ((Kp.refl none' w).alloc (.cells #[.int .i64 x.p, .int .u64 x.b, .int .u64 x.m] 232)).trans k0
  clear k0
  have d0 := k1.cell c0 (fun x => x)
  have d1 := k1.cell c1 (fun x => x)
  have dn := k1.cell cn (fun x => x)
  have dr := k1.cell cr (fun x => x)
  have GF1 := Lib.hid (fun W (k : Kp none' w1 W) => GF.out W (k1.trans k))
  have HK1 := Lib.hid k1
  clear k1 c0 c1 cn cr
  go_wp2_with fail
  refine wp_region_kept2 [] [0, 1, 2, 3, 4, 5, 6, 7, 8, 9] 10 (by kernel_rfl) (by kernel_rfl) (fun c a d u w h => by cases d <;> exact h) ?_
  simp only [pick, List.getElem?_cons_succ, List.getElem?_cons_zero, List.drop_succ_cons, List.drop_zero]
  show wpKL _ _ _ _ _ _
  repeat (first
    | (refine wpKL_op (by exact rfl) (by as_aux_lemma => intro W hK; have e0 := hK.cell d0 (fun x => x); have e1 := hK.cell d1 (fun x => x); go_simp; exact rfl) ?_; simp only [Act.put, List.setIfInBounds_toArray, List.set_cons_succ, List.set_cons_zero])
    | (refine wpKL_off (by exact rfl) ?_; simp only [Act.put, List.setIfInBounds_toArray, List.set_cons_succ, List.set_cons_zero])
    | (refine wpKL_call (by exact rfl) (by as_aux_lemma => intro W; go_simp; exact ⟨rfl, rfl⟩) (by intro W hK; with_reducible first | exact GF1.out W hK) ?_; simp only [Act.put, List.setIfInBounds_toArray, List.set_cons_succ, List.set_cons_zero]))
  show ∀ W, _ → wpList _ _ _ _ _ _
  intro W2 hK2
  have hK2' := Lib.hid hK2
  have HK2 := Lib.hid (HK1.out.trans hK2)
  have f0 := hK2.cell d0 (fun x => x)
  have fn := hK2.cell dn (fun x => x)
  have fr := hK2.cell dr (fun x => x)
  clear hK2 d0 d1 dn dr
  go_wp2_with fail
  refine wp_region_kept2 [] [0, 1, 2, 3, 4, 5, 6, 7, 8] 9 (by kernel_rfl) (by kernel_rfl) (fun c a d u w h => by cases d <;> exact h) ?_
  simp only [pick, List.getElem?_cons_succ, List.getElem?_cons_zero, List.drop_succ_cons, List.drop_zero]
  show wpKL _ _ _ _ _ _
  repeat (first
    | (refine wpKL_op (by exact rfl) (by as_aux_lemma => intro W hK; have e0 := hK.cell fn (fun x => x); have e1 := hK.cell fr (fun x => x); go_simp; exact rfl) ?_; simp only [Act.put, List.setIfInBounds_toArray, List.set_cons_succ, List.set_cons_zero])
    | (refine wpKL_off (by exact rfl) ?_; simp only [Act.put, List.setIfInBounds_toArray, List.set_cons_succ, List.set_cons_zero]))
  show ∀ W, _ → wpList _ _ _ _ _ _
  intro W3 hK3
  have hK3' := Lib.hid hK3
  have HK3 := Lib.hid (HK2.out.trans hK3)
  have g0 := hK3.cell f0 (fun x => x)
  have gn := hK3.cell fn (fun x => x)
  clear hK3 f0 fn fr
  go_wp2_with fail
  have hb8 := ok.b2
  refine wp_region_kept2 [] [0, 1, 2, 3, 4, 5, 6, 7, 8, 9, 10, 11] 12 (by kernel_rfl) (by kernel_rfl) (fun c a d u w h => by cases d <;> exact h) ?_
  simp only [pick, List.getElem?_cons_succ, List.getElem?_cons_zero, List.drop_succ_cons, List.drop_zero]
  show wpKL _ _ _ _ _ _
  repeat (first
    | (refine wpKL_op (by exact rfl) (by as_aux_lemma => intro W hK; have e0 := hK.cell g0 (fun x => x); have e1 := hK.cell gn (fun x => x); go_simp; exact rfl) ?_; simp only [Act.put, List.setIfInBounds_toArray, List.set_cons_succ, List.set_cons_zero])
    | (refine wpKL_off (by exact rfl) ?_; simp only [Act.put, List.setIfInBounds_toArray, List.set_cons_succ, List.set_cons_zero]))
  show ∀ W, _ → wpList _ _ _ _ _ _
  intro W4 hK4
  have HK4 := Lib.hid (HK3.out.trans hK4)
  have HM4 := Lib.hid (HM.out.old HK4.out)
  have HXB4 := Lib.hid (HXB.out.kp (((hK2'.out.trans hK3'.out).trans hK4)) (fun x => x))
  clear hK4 g0 gn GF GF1 GM HK1 HK2 HK3 HXB
  by_cases hgr : 3 * S.length < 4 * (n + 1)
  · have hgi : 3 * (S.length : Int) < 4 * ((n : Int) + 1) := by omega
    have GG := Lib.hid (fGrow W4 tb sb S n room HM4.out ok (by omega))
    have hsz := HK4.out.size
    clear hpl hql HFA HQ HNO
    go_wp2_with fail
    refine GG.out.mono ?_
    rintro e W1 ⟨rfl, sb1, S1, G⟩
    have hN4 := (Pw.twice ok.pw (by omega)).2
    have HM1 := Lib.hid G.mem
    have hp1 : Pw S1.length := by rw [G.len]; exact (Pw.twice ok.pw (by omega)).1
    have hb1 : S1.length ≤ 8192 := by rw [G.len]; omega
    have hi1 : FInv (homeN S1.length) S1 := by rw [G.len]; exact G.inv
    have he1 : (entsF S1).Perm (entsF S) := by have := G.ents; rwa [List.take_length] at this
    have h81 : 8 ≤ S1.length := by rw [G.len]; have := ok.b1; omega
    have hl1 : 4 * (n + 1) ≤ 3 * S1.length := by rw [G.len]; have := ok.load; have := ok.b1; omega
    have hu1 : ∃ i, i < S1.length ∧ tAt S1 i = none := unused S1 (by have := he1.length_eq; have := ok.cnt; omega)
    obtain ⟨d1, f1⟩ := FAt.there (hm := homeN S1.length) (fun id => homeN_lt _ _ (by omega)) id hu1
    have hn1 : tAt S1 (ad S1.length (homeN S1.length id) d1) = none := by
      rcases f1.fin with h1 | ⟨y, h1⟩
      · exact h1
      · obtain ⟨i, hi, hiy⟩ := (ents_mem S _).1 (he1.mem_iff.1 ((ents_mem S1 _).2 ⟨_, ad_lt (hi1.home id) f1.lt, h1⟩))
        exact absurd hiy (hnoid i y hi)
    have hnew := G.new
    have HXW : Hid (Blk W1 w.heap.size [.int .i64 x.p, .int .u64 x.b, .int .u64 x.m] 232) := HXB4.out.kp G.kp (fun e => by omega)
    have HKW : Hid (Kp (fun b => b = tb ∨ b = sb) w W1) := (HK4.out.mono (fun _ _ x => x.elim)).then G.kp (fun _ _ x => .inl x)
    have hsb1 : (sb1 = tb ∨ sb1 = sb) ∨ w.heap.size ≤ sb1 := .inr (by omega)
    have hsb2 : sb1 = sb ∨ w.heap.size ≤ sb1 := .inr (by omega)
    clear hnoid hfree HK4 HM4 GG G
    go_wp2_with fail
    as_aux_lemma =>
      have hlen1 := HM1.out.top.cell 0 rfl
      have hcn := HM1.out.top.cell 1 rfl
      have hx0 := HXW.out.cell 0 rfl
      have hx1 := HXW.out.cell 1 rfl
      have hx2 := HXW.out.cell 2 rfl
      have GF2 := Lib.hid (fun W (k : Kp none' W1 W) => fFindAt S1 id d1 hp1 hb1 hid hu1 f1 W tb sb1 n room (HM1.out.old k))
      have hq1 := ad_lt (homeN_lt S1.length id hp1.pos) f1.lt
      have hset := flat_set enS 5 enS_len S1 (ad S1.length (homeN S1.length id) d1) (some (id, x)) hq1
      have HFI := Lib.hid (ok.put (x := x) hp1 hi1 he1 hid f1 hn1 hl1 hroom h81 hb1)
      have hfl := flat_len enS 5 enS_len S1
      generalize ad S1.length (homeN S1.length id) d1 = q1 at *
      have hq1i : (q1 : Int) < S1.length := by omega
      have hne1 : sb1 ≠ tb := fun e => blk_ne HM1.out.cel HM1.out.top (by decide) e
      have hne2 : tb ≠ sb1 := hne1.symm
      clear f1 hi1 he1 hn1 hu1
      go_wp2_with fail
      refine wp_region_kept2 [] [0, 1, 2, 3, 4, 5, 6, 7, 8, 9, 10] 11 (by kernel_rfl) (by kernel_rfl) (fun c a d u w h => by cases d <;> exact h) ?_
      simp only [pick, List.getElem?_cons_succ, List.getElem?_cons_zero, List.drop_succ_cons, List.drop_zero]
      show wpKL _ _ _ _ _ _
      repeat (first
        | (refine wpKL_op (by exact rfl) (by as_aux_lemma => intro W hK; have e0 := hK.cell hlen1 (fun x => x); have e1 := hK.cell hx0 (fun x => x); have e2 := hK.cell hx1 (fun x => x); have e3 := hK.cell hx2 (fun x => x); go_simp; exact rfl) ?_; simp only [Act.put, List.setIfInBounds_toArray, List.set_cons_succ, List.set_cons_zero])
        | (refine wpKL_off (by exact rfl) ?_; simp only [Act.put, List.setIfInBounds_toArray, List.set_cons_succ, List.set_cons_zero])
        | (refine wpKL_call (by exact rfl) (by as_aux_lemma => intro W; go_simp; exact ⟨rfl, rfl⟩) (by intro W hK; with_reducible first | exact GF2.out W hK) ?_; simp only [Act.put, List.setIfInBounds_toArray, List.set_cons_succ, List.set_cons_zero]))
      show ∀ W, _ → wpList _ _ _ _ _ _
      intro W2 hK2
      have HM2 := Lib.hid (HM1.out.old hK2)
      have HK2 := Lib.hid (HKW.out.then hK2 (fun _ _ x => x.elim))
      have hone : ∀ v ∈ enS (some (id, x)), v.oneCell' = true := by
        intro v hv
        simp only [enS, List.mem_cons, List.not_mem_nil, or_false] at hv
        rcases hv with rfl | rfl | rfl | rfl | rfl <;> rfl
      have hin : q1 * 5 + (enS (some (id, x))).length ≤ (S1.flatMap enS).length := by rw [hfl, enS_len]; omega
      have hlen2 : (S1.set q1 (some (id, x))).length = S1.length := List.length_set ..
      clear hlen1 hcn hset hK2 hx0 hx1 hx2
      refine wp_set_mid rfl 275 (.tmp 57) (.tmp 56) rfl HM2.out.cel (q1 * 5) (enS (some (id, x))) rfl rfl (by kernel_rfl) hin hone ?_
      intro W3 hB3 hO3 hK3
      rw [← flat_set enS 5 enS_len S1 q1 _ hq1] at hB3
      have hT3 := hO3 _ _ _ HM2.out.top hne2
      have HK3 := Lib.hid (hK3 _ _ HK2.out hsb1)
      have zt := hT3.fz 1
      have tn := hT3.cell 1 rfl
      have HF : Hid (TMem (W3.setCell ⟨tb, 1, none⟩ (.int .i64 ((n : Int) + 1))) tb sb1 (S1.set q1 (some (id, x))) (n + 1) room) := by
        have h2 := hT3.set 1 (.int .i64 ((n : Int) + 1))
        exact ⟨by rw [hlen2]; exact h2, hB3.setNe (a := ⟨tb, 1, none⟩) hne1 _⟩
      have HKF : Hid (Kp (fun b => b = tb ∨ b = sb) w (W3.setCell ⟨tb, 1, none⟩ (.int .i64 ((n : Int) + 1)))) := HK3.out.set (p := ⟨tb, 1, none⟩) (.inl (.inl rfl)) _
      clear hB3 hO3 hK3 hT3 hne1 hne2 hin hone hlen2 hfl
      simp only [Act.put]
      as_aux_lemma =>
        go_wp2_with fail
        go_ret
        exact ⟨rfl, sb1, _, HF.out, HFI.out.1, HFI.out.2, HKF.out, hsb2⟩
  · obtain ⟨W1, hW⟩ : ∃ W1 : World, W1 = W4 := ⟨_, rfl⟩
    subst hW
    have hgi : ¬ 3 * (S.length : Int) < 4 * ((n : Int) + 1) := by omega
    have HKW : Hid (Kp (fun b => b = tb ∨ b = sb) w W1) := HK4.out.mono (fun _ _ x => x.elim)
    have HXW := HXB4
    obtain ⟨S1, hS1⟩ : ∃ S1 : Slots Th, S1 = S := ⟨_, rfl⟩
    obtain ⟨sb1, hsb⟩ : ∃ sb1, sb1 = sb := ⟨_, rfl⟩
    obtain ⟨d1, hd1⟩ : ∃ d1, d1 = d := ⟨_, rfl⟩
    have HM1 : Hid (TMem W1 tb sb1 S1 n room) := by rw [hS1, hsb]; exact HM4.out
    have hp1 : Pw S1.length := by rw [hS1]; exact ok.pw
    have hb1 : S1.length ≤ 8192 := by rw [hS1]; exact ok.b2
    have hi1 : FInv (homeN S1.length) S1 := by rw [hS1]; exact ok.inv
    have he1 : (entsF S1).Perm (entsF S) := by rw [hS1]
    have hu1 : ∃ i, i < S1.length ∧ tAt S1 i = none := by rw [hS1]; exact hfree
    have f1 : FAt (homeN S1.length) S1 id d1 := by rw [hS1, hd1]; exact HFA.out
    have hn1 : tAt S1 (ad S1.length (homeN S1.length id) d1) = none := by rw [hS1, hd1]; exact HNO.out
    have hl1 : 4 * (n + 1) ≤ 3 * S1.length := by rw [hS1]; omega
    have h81 : 8 ≤ S1.length := by rw [hS1]; exact ok.b1
    have hsb1 : (sb1 = tb ∨ sb1 = sb) ∨ w.heap.size ≤ sb1 := .inl (.inr hsb)
    have hsb2 : sb1 = sb ∨ w.heap.size ≤ sb1 := .inl hsb
    clear hsb hd1 hpl hql hfree hnoid HFA HNO HQ
    clear hS1
    go_wp2_with fail
    as_aux_lemma =>
      have hlen1 := HM1.out.top.cell 0 rfl
      have hcn := HM1.out.top.cell 1 rfl
      have hx0 := HXW.out.cell 0 rfl
      have hx1 := HXW.out.cell 1 rfl
      have hx2 := HXW.out.cell 2 rfl
      have GF2 := Lib.hid (fun W (k : Kp none' W1 W) => fFindAt S1 id d1 hp1 hb1 hid hu1 f1 W tb sb1 n room (HM1.out.old k))
      have hq1 := ad_lt (homeN_lt S1.length id hp1.pos) f1.lt
      have hset := flat_set enS 5 enS_len S1 (ad S1.length (homeN S1.length id) d1) (some (id, x)) hq1
      have HFI := Lib.hid (ok.put (x := x) hp1 hi1 he1 hid f1 hn1 hl1 hroom h81 hb1)
      have hfl := flat_len enS 5 enS_len S1
      generalize ad S1.length (homeN S1.length id) d1 = q1 at *
      have hq1i : (q1 : Int) < S1.length := by omega
      have hne1 : sb1 ≠ tb := fun e => blk_ne HM1.out.cel HM1.out.top (by decide) e
      have hne2 : tb ≠ sb1 := hne1.symm
      clear f1 hi1 he1 hn1 hu1
      go_wp2_with fail
      refine wp_region_kept2 [] [0, 1, 2, 3, 4, 5, 6, 7, 8, 9, 10] 11 (by kernel_rfl) (by kernel_rfl) (fun c a d u w h => by cases d <;> exact h) ?_
      simp only [pick, List.getElem?_cons_succ, List.getElem?_cons_zero, List.drop_succ_cons, List.drop_zero]
      show wpKL _ _ _ _ _ _
      repeat (first
        | (refine wpKL_op (by exact rfl) (by as_aux_lemma => intro W hK; have e0 := hK.cell hlen1 (fun x => x); have e1 := hK.cell hx0 (fun x => x); have e2 := hK.cell hx1 (fun x => x); have e3 := hK.cell hx2 (fun x => x); go_simp; exact rfl) ?_; simp only [Act.put, List.setIfInBounds_toArray, List.set_cons_succ, List.set_cons_zero])
        | (refine wpKL_off (by exact rfl) ?_; simp only [Act.put, List.setIfInBounds_toArray, List.set_cons_succ, List.set_cons_zero])
        | (refine wpKL_call (by exact rfl) (by as_aux_lemma => intro W; go_simp; exact ⟨rfl, rfl⟩) (by intro W hK; with_reducible first | exact GF2.out W hK) ?_; simp only [Act.put, List.setIfInBounds_toArray, List.set_cons_succ, List.set_cons_zero]))
      show ∀ W, _ → wpList _ _ _ _ _ _
      intro W2 hK2
      have HM2 := Lib.hid (HM1.out.old hK2)
      have HK2 := Lib.hid (HKW.out.then hK2 (fun _ _ x => x.elim))
      have hone : ∀ v ∈ enS (some (id, x)), v.oneCell' = true := by
        intro v hv
        simp only [enS, List.mem_cons, List.not_mem_nil, or_false] at hv
        rcases hv with rfl | rfl | rfl | rfl | rfl <;> rfl
      have hin : q1 * 5 + (enS (some (id, x))).length ≤ (S1.flatMap enS).length := by rw [hfl, enS_len]; omega
      have hlen2 : (S1.set q1 (some (id, x))).length = S1.length := List.length_set ..
      clear hlen1 hcn hset hK2 hx0 hx1 hx2
      refine wp_set_mid rfl 275 (.tmp 57) (.tmp 56) rfl HM2.out.cel (q1 * 5) (enS (some (id, x))) rfl rfl (by kernel_rfl) hin hone ?_
      intro W3 hB3 hO3 hK3
      rw [← flat_set enS 5 enS_len S1 q1 _ hq1] at hB3
      have hT3 := hO3 _ _ _ HM2.out.top hne2
      have HK3 := Lib.hid (hK3 _ _ HK2.out hsb1)
      have zt := hT3.fz 1
      have tn := hT3.cell 1 rfl
      have HF : Hid (TMem (W3.setCell ⟨tb, 1, none⟩ (.int .i64 ((n : Int) + 1))) tb sb1 (S1.set q1 (some (id, x))) (n + 1) room) := by
        have h2 := hT3.set 1 (.int .i64 ((n : Int) + 1))
        exact ⟨by rw [hlen2]; exact h2, hB3.setNe (a := ⟨tb, 1, none⟩) hne1 _⟩
      have HKF : Hid (Kp (fun b => b = tb ∨ b = sb) w (W3.setCell ⟨tb, 1, none⟩ (.int .i64 ((n : Int) + 1)))) := HK3.out.set (p := ⟨tb, 1, none⟩) (.inl (.inl rfl)) _
      clear hB3 hO3 hK3 hT3 hne1 hne2 hin hone hlen2 hfl
      simp only [Act.put]
      as_aux_lemma =>
        go_wp2_with fail
        go_ret
        exact ⟨rfl, sb1, _, HF.out, HFI.out.1, HFI.out.2, HKF.out, hsb2⟩

theorem TOk.new (room : Nat) (h1 : 1 ≤ room) (h2 : room ≤ 4096) : TOk (List.replicate 8 none) 0 room :=
  ⟨⟨3, by decide, rfl⟩, FInv.nil 8 (fun id => homeN_lt 8 id (by decide)), by rw [ents_nil]; rfl, by decide, Nat.zero_le _, h1, h2, fun e h => (by rw [ents_nil] at h; cases h), by decide, by decide⟩
set_option maxRecDepth 100000 in
set_option maxHeartbeats 4000000 in
theorem fNew (room : Nat) (h1 : 1 ≤ room) (h2 : room ≤ 4096) (w : World) : Calls Tryz.prog 113 #[.int .i64 room] w fun e w' => ∃ tb sb, e = .returned (.tuple #[.pointer (some ⟨tb, 0, none⟩), .int .i64 0]) ∧ TMem w' tb sb (List.replicate 8 none) 0 room ∧ w.heap.size ≤ tb ∧ w.heap.size ≤ sb ∧ Kp none' w w' := by
  have hmk := run_make_flat tSl enS enS_len none rfl 8 (by omega) (by omega) w
  have d1 : ¬ (room : Int) < 1 := by omega
  have d2 : ¬ (4096 : Int) < room := by omega
  have hmk2 : (Instr.makeSlice 276 (.int .i64 8) (.int .i64 8)).run Tryz.prog w = .ok (.slice (some ⟨w.heap.size, 0, none⟩) 8 8) (w.alloc (.cells ((List.replicate 8 (none : Option (Nat × Th))).flatMap enS).toArray 275)) := hmk
  obtain ⟨L0, hL0⟩ : ∃ L0, (List.replicate 8 (none : Option (Nat × Th))).flatMap enS = L0 := ⟨_, rfl⟩
  have HM : Hid (TMem ((w.alloc (.cells L0.toArray 275)).alloc (.cells #[.slice (some ⟨w.heap.size, 0, none⟩) 8 8, .int .i64 0, .int .i64 room] 278)) (w.heap.size + 1) w.heap.size (List.replicate 8 none) 0 room) := by
    have h1 := Blk.new (w.alloc (.cells L0.toArray 275)) [.slice (some ⟨w.heap.size, 0, none⟩) 8 8, .int .i64 0, .int .i64 room] 278
    rw [World.size_alloc] at h1
    exact ⟨h1, by rw [hL0]; exact (Blk.new w L0 _).alloc _⟩
  have HK : Hid (Kp none' w ((w.alloc (.cells L0.toArray 275)).alloc (.cells #[.slice (some ⟨w.heap.size, 0, none⟩) 8 8, .int .i64 0, .int .i64 room] 278))) := ((Kp.refl _ _).alloc _).alloc _
  rw [hL0] at hmk2
  clear hmk hL0
  go_enter Tryz.func113, Tryz.ntmps113
  go_wp2
  go_ret2
  exact ⟨w.heap.size + 1, rfl, w.heap.size, HM.out, by omega, by omega, HK.out⟩
theorem ents_keys {hm : Nat → Nat} {S : Slots Th} (h : FInv hm S) : ((entsF S).map (·.1)).Nodup := by
  unfold entsF List.Nodup
  rw [List.pairwise_map, List.pairwise_filterMap, List.pairwise_iff_getElem]
  intro i j hi hj hij x hx y hy e
  simp only [id] at hx hy
  have tx : tAt S i = some (x.1, x.2) := by unfold tAt; rw [List.getD_eq_getElem?_getD, List.getElem?_eq_getElem hi, hx]; rfl
  have ty : tAt S j = some (x.1, y.2) := by unfold tAt; rw [List.getD_eq_getElem?_getD, List.getElem?_eq_getElem hj, hy, e]; rfl
  have := h.one i j x.1 x.2 y.2 hi hj tx ty
  omega
theorem none_at {S : Slots Th} {n room id d : Nat} (ok : TOk S n room) (f : FAt (homeN S.length) S id d) (hn : ∀ y, (id, y) ∉ entsF S) : tAt S (ad S.length (homeN S.length id) d) = none := by
  rcases f.fin with h | ⟨y, h⟩
  · exact h
  · exact absurd ((f.some_there ok.inv y).1 h) (hn y)
def Tf (w : World) (F : Nat → Prop) (tb room : Nat) (E : List (Nat × Th)) : Prop := ∃ sb S n, F = (fun b => b = tb ∨ b = sb) ∧ TMem w tb sb S n room ∧ TOk S n room ∧ (entsF S).Perm E
theorem Tf.kp {T : Nat → Prop} {w w' : World} {F : Nat → Prop} {tb room : Nat} {E : List (Nat × Th)} (h : Tf w F tb room E) (k : Kp T w w') (hT : ∀ b, F b → ¬ T b) : Tf w' F tb room E := by
  obtain ⟨sb, S, n, rfl, hm, ok, hp⟩ := h
  exact ⟨sb, S, n, rfl, hm.kp k (hT _ (.inl rfl)) (hT _ (.inr rfl)), ok, hp⟩
theorem Tf.old {w w' : World} {F : Nat → Prop} {tb room : Nat} {E : List (Nat × Th)} (h : Tf w F tb room E) (k : Kp none' w w') : Tf w' F tb room E := h.kp k (fun _ _ x => x)
theorem Tf.lt {w : World} {F : Nat → Prop} {tb room : Nat} {E : List (Nat × Th)} (h : Tf w F tb room E) {b : Nat} (hb : F b) : b < w.heap.size := by
  obtain ⟨sb, S, n, rfl, hm, ok, hp⟩ := h
  rcases hb with rfl | rfl
  · exact hm.top.lt
  · exact hm.cel.lt
theorem Tf.mem {w : World} {F : Nat → Prop} {tb room : Nat} {E : List (Nat × Th)} (h : Tf w F tb room E) : ∀ e ∈ E, e.1 < 4294967296 := by
  obtain ⟨sb, S, n, _, hm, ok, hp⟩ := h
  exact fun e he => ok.ids e (hp.mem_iff.2 he)
theorem bNew (room : Nat) (h1 : 1 ≤ room) (h2 : room ≤ 4096) (w : World) : Calls Tryz.prog 113 #[.int .i64 room] w fun e w' => ∃ F tb, e = .returned (.tuple #[.pointer (some ⟨tb, 0, none⟩), .int .i64 0]) ∧ Tf w' F tb room [] ∧ (∀ b, F b → w.heap.size ≤ b) ∧ Kp none' w w' :=
  (fNew room h1 h2 w).mono fun e w' ⟨tb, sb, he, hm, hb1, hb2, hk⟩ => ⟨_, tb, he, ⟨sb, _, 0, rfl, hm, TOk.new room h1 h2, by rw [ents_nil]⟩, fun b hb => by rcases hb with rfl | rfl <;> assumption, hk⟩
theorem bPutNew {w : World} {F : Nat → Prop} {tb room : Nat} {E : List (Nat × Th)} (h : Tf w F tb room E) (id : Nat) (hid : id < 4294967296) (x : Th) (hn : ∀ y, (id, y) ∉ E) (hr : E.length < room) :
    Calls Tryz.prog 114 #[.pointer (some ⟨tb, 0, none⟩), .int .u32 id, en x] w fun e w' => e = .returned (.int .i64 0) ∧ ∃ F', Tf w' F' tb room ((id, x) :: E) ∧ Kp F w w' ∧ Nw w F F' := by
  obtain ⟨sb, S, n, rfl, hm, ok, hp⟩ := h
  obtain ⟨d, f⟩ := FAt.there (hm := homeN S.length) (fun id => homeN_lt _ _ ok.pw.pos) id ok.free
  have hl := hp.length_eq
  rw [ok.cnt] at hl
  refine (fPutNew w tb sb S n room hm ok id hid d f (none_at ok f (fun y hy => hn y (hp.mem_iff.1 hy))) x (by omega)).mono ?_
  rintro e w' ⟨he, sb', S', hm', ok', hp', hk, hs⟩
  refine ⟨he, _, ⟨sb', S', n + 1, rfl, hm', ok', hp'.trans (List.Perm.cons _ hp)⟩, hk, fun b hb => ?_⟩
  rcases hb with rfl | rfl
  · exact .inl (.inl rfl)
  · rcases hs with rfl | hs
    · exact .inl (.inr rfl)
    · exact .inr hs
theorem bGet {w : World} {F : Nat → Prop} {tb room : Nat} {E : List (Nat × Th)} (h : Tf w F tb room E) (id : Nat) (hid : id < 4294967296) (x : Th) (hx : (id, x) ∈ E) : Calls Tryz.prog 105 #[.pointer (some ⟨tb, 0, none⟩), .int .u32 id] w fun e w' => e = .returned (.tuple #[en x, .bool true]) ∧ Kp none' w w' := by
  obtain ⟨sb, S, n, _, hm, ok, hp⟩ := h
  obtain ⟨d, f⟩ := FAt.there (hm := homeN S.length) (fun id => homeN_lt _ _ ok.pw.pos) id ok.free
  exact fGetSome w tb sb S n room hm ok id hid d f x ((f.some_there ok.inv x).2 (hp.mem_iff.2 hx))
theorem bGetNone {w : World} {F : Nat → Prop} {tb room : Nat} {E : List (Nat × Th)} (h : Tf w F tb room E) (id : Nat) (hid : id < 4294967296) (hn : ∀ y, (id, y) ∉ E) : Calls Tryz.prog 105 #[.pointer (some ⟨tb, 0, none⟩), .int .u32 id] w fun e w' => e = .returned (.tuple #[en zx, .bool false]) ∧ Kp none' w w' := by
  obtain ⟨sb, S, n, _, hm, ok, hp⟩ := h
  obtain ⟨d, f⟩ := FAt.there (hm := homeN S.length) (fun id => homeN_lt _ _ ok.pw.pos) id ok.free
  exact fGetNone w tb sb S n room hm ok id hid d f (none_at ok f (fun y hy => hn y (hp.mem_iff.1 hy)))
end Go.Proofs.YtfckgddodjmbdaaGreatDoor.flowOwn

namespace Go.Proofs.YtfckgddodjmbdaaGreatDoor
set_option linter.unusedVariables false
set_option linter.unusedSimpArgs false
open flowOwn (Th)
def shN (a s : Nat) : Nat := if a * 2 ^ s < 18446744073709551616 then a * 2 ^ s else 18446744073709551615
structure Ga where
  c : CfR
  st : List Th
def sumP (l : List Th) : Int := (l.map (·.p)).sum
def sumB (l : List Th) : Nat := (l.map (·.b)).sum
def tabE (l : List FlR) (st : List Th) : List (Nat × Th) := (l.zip st).map (fun e => (e.1.id, e.2))
structure Ga.Ok (g : Ga) : Prop where
  cok : g.c.ok
  adm : admE g.c = 0
  len : g.st.length = g.c.flows.length
  caps : ∀ (i : Nat) (x : Th) (f : FlR), g.st[i]? = some x → g.c.flows[i]? = some f → x.m = f.cap
  own : ∀ x ∈ g.st, 0 ≤ x.p ∧ x.b ≤ x.m
  bts : sumB g.st ≤ g.c.bytes
  pks : sumP g.st ≤ g.c.packets
theorem Ga.Ok.lims {g : Ga} (h : g.Ok) : 1 ≤ g.c.packets ∧ g.c.packets ≤ 4096 ∧ 0 ≤ g.c.share ∧ g.c.share ≤ 16 ∧ 1 ≤ g.c.mtu ∧ g.c.mtu ≤ 65535 ∧ flowsE g.c.flows = 0 := by
  have := h.adm
  unfold admE at this
  split at this
  · omega
  · split at this
    · omega
    · split at this
      · omega
      · omega
theorem Ga.Ok.nod {g : Ga} (h : g.Ok) : (g.c.flows.map (·.id)).Nodup ∧ 1 ≤ g.c.flows.length ∧ g.c.flows.length ≤ 64 := by
  have := h.lims.2.2.2.2.2.2
  unfold flowsE at this
  split at this
  · omega
  · split at this
    · rename_i h1 h2; exact ⟨h2, by omega, by omega⟩
    · omega
def Ga.at (g : Ga) (id : Nat) : Int := findF g.c.flows id
def Ga.x (g : Ga) (id : Nat) : Th := (g.st[(g.at id).toNat]?).getD ⟨0, 0, 0⟩
def fitG (g : Ga) (id n : Nat) : Int :=
  if n = 0 ∨ g.c.mtu < n then 12 else if g.at id < 0 then 13 else if g.c.packets ≤ sumP g.st then 14 else if g.c.bytes - sumB g.st < n then 15
  else if (g.x id).m - (g.x id).b < n then 16 else 0
def mayG (g : Ga) (id n : Nat) : Int :=
  if fitG g id n ≠ 0 then fitG g id n else if shN (g.c.bytes - sumB g.st) g.c.share.toNat ≤ (g.x id).b then 17 else 0
def Ga.put (g : Ga) (id : Nat) (x : Th) : Ga := { g with st := g.st.set (g.at id).toNat x }
def Ga.lay (g : Ga) (id n : Nat) : Ga := g.put id ⟨(g.x id).p + 1, (g.x id).b + n, (g.x id).m⟩
def inG (g : Ga) (id n : Nat) : Ga := if mayG g id n = 0 then g.lay id n else g
def outE (g : Ga) (id n : Nat) : Int := if g.at id < 0 then 13 else if (g.x id).p = 0 ∨ (g.x id).b < n then 9 else 0
def outG (g : Ga) (id n : Nat) : Ga := if outE g id n = 0 then g.put id ⟨(g.x id).p - 1, (g.x id).b - n, (g.x id).m⟩ else g
theorem sum_set (l : List Int) (i : Nat) (v : Int) (h : i < l.length) : (l.set i v).sum = l.sum - l[i] + v := by
  induction l generalizing i with
  | nil => simp at h
  | cons a r ih =>
    cases i with
    | zero => simp; omega
    | succ i =>
      have := ih i (by simpa using h)
      simp only [List.set_cons_succ, List.sum_cons, List.getElem_cons_succ, this]; omega
theorem sumN_set (l : List Nat) (i : Nat) (v : Nat) (h : i < l.length) : (l.set i v).sum + l[i] = l.sum + v := by
  induction l generalizing i with
  | nil => simp at h
  | cons a r ih =>
    cases i with
    | zero => simp; omega
    | succ i =>
      have := ih i (by simpa using h)
      simp only [List.set_cons_succ, List.sum_cons, List.getElem_cons_succ]; omega
theorem sumP_set (l : List Th) (i : Nat) (x : Th) (h : i < l.length) : sumP (l.set i x) = sumP l - (l[i]).p + x.p := by
  unfold sumP
  rw [List.map_set, sum_set _ _ _ (by simpa using h)]; simp
theorem sumB_set (l : List Th) (i : Nat) (x : Th) (h : i < l.length) : sumB (l.set i x) + (l[i]).b = sumB l + x.b := by
  unfold sumB
  have := sumN_set (l.map (·.b)) i x.b (by simpa using h)
  rw [List.map_set]; simpa using this
theorem mem_le_sumB {l : List Th} {x : Th} (h : x ∈ l) : x.b ≤ sumB l := by
  induction l with
  | nil => cases h
  | cons a r ih =>
    unfold sumB at *
    simp only [List.map_cons, List.sum_cons]
    rcases List.mem_cons.1 h with rfl | h
    · omega
    · have := ih h; omega
theorem mem_le_sumP {l : List Th} (hl : ∀ y ∈ l, 0 ≤ y.p) {x : Th} (h : x ∈ l) : x.p ≤ sumP l := by
  induction l with
  | nil => cases h
  | cons a r ih =>
    have hr : 0 ≤ sumP r := by
      clear ih h
      induction r with
      | nil => simp [sumP]
      | cons b r ih =>
        have h1 := ih (fun y hy => hl y (by simp at hy ⊢; rcases hy with h | h; exact .inl h; exact .inr (.inr h)))
        have h2 := hl b (by simp)
        unfold sumP at *; simp only [List.map_cons, List.sum_cons]; omega
    have ha := hl a (by simp)
    rcases List.mem_cons.1 h with rfl | h
    · unfold sumP at *; simp only [List.map_cons, List.sum_cons]; omega
    · have := ih (fun y hy => hl y (by simp [hy])) h
      unfold sumP at *; simp only [List.map_cons, List.sum_cons]; omega
theorem Ga.Ok.atb {g : Ga} (h : g.Ok) (id : Nat) : -1 ≤ g.at id ∧ g.at id < g.st.length := by
  have := findF_ge g.c.flows id
  have := h.len
  unfold Ga.at; omega
theorem Ga.Ok.x_get {g : Ga} (h : g.Ok) {id : Nat} (h0 : 0 ≤ g.at id) : ∃ h : (g.at id).toNat < g.st.length, g.x id = g.st[(g.at id).toNat] := by
  have := h.atb id
  have h1 : (g.at id).toNat < g.st.length := by omega
  exact ⟨h1, by unfold Ga.x; rw [List.getElem?_eq_getElem h1]; rfl⟩
theorem Ga.Ok.x_mem {g : Ga} (h : g.Ok) {id : Nat} (h0 : 0 ≤ g.at id) : g.x id ∈ g.st := by
  obtain ⟨h1, h2⟩ := h.x_get h0
  rw [h2]; exact List.getElem_mem h1
theorem Ga.Ok.put {g : Ga} (h : g.Ok) {id : Nat} (h0 : 0 ≤ g.at id) (x : Th) (hm : x.m = (g.x id).m) (hp : 0 ≤ x.p) (hb : x.b ≤ x.m) (hs : sumB g.st - (g.x id).b + x.b ≤ g.c.bytes) (hk : sumP g.st - (g.x id).p + x.p ≤ g.c.packets) : (g.put id x).Ok := by
  obtain ⟨h1, h2⟩ := h.x_get h0
  have h3 := sumB_set g.st _ x h1
  have h4 := sumP_set g.st _ x h1
  have h5 := mem_le_sumB (h.x_mem h0)
  rw [← h2] at h3 h4
  refine ⟨h.cok, h.adm, by show (g.st.set _ _).length = _; rw [List.length_set]; exact h.len, fun i y f hi hf => ?_, fun y hy => ?_, by show sumB (g.st.set _ _) ≤ g.c.bytes; omega, by show sumP (g.st.set _ _) ≤ g.c.packets; rw [h4]; exact hk⟩
  · have hi : (g.st.set (g.at id).toNat x)[i]? = some y := hi
    have hf : g.c.flows[i]? = some f := hf
    by_cases e : (g.at id).toNat = i
    · subst e
      rw [List.getElem?_set_self h1] at hi
      injection hi with hi
      subst hi
      rw [hm]
      exact h.caps _ _ f (by rw [h2]; exact List.getElem?_eq_getElem h1) hf
    · rw [List.getElem?_set_ne e] at hi
      exact h.caps i y f hi hf
  · rcases List.mem_or_eq_of_mem_set hy with hy | rfl
    · exact h.own y hy
    · exact ⟨hp, hb⟩
theorem tab_get {l : List FlR} {st : List Th} (hl : st.length = l.length) (hn : (l.map (·.id)).Nodup) (id : Nat) : (0 ≤ findF l id → (id, (st[(findF l id).toNat]?).getD ⟨0, 0, 0⟩) ∈ tabE l st) ∧ (findF l id < 0 → ∀ y, (id, y) ∉ tabE l st) := by
  induction l generalizing st with
  | nil => simp [findF, tabE]
  | cons f r ih =>
    cases st with
    | nil => simp at hl
    | cons s st =>
      have ih := ih (st := st) (by simpa using hl) (by rw [List.map_cons, List.nodup_cons] at hn; exact hn.2)
      have hg := findF_ge r id
      unfold findF
      by_cases h1 : f.id = id
      · rw [if_pos h1]
        refine ⟨fun _ => by subst h1; simp [tabE], fun h => by omega⟩
      · rw [if_neg h1]
        by_cases h2 : findF r id < 0
        · rw [if_pos h2]
          refine ⟨fun h => by omega, fun _ y hy => ?_⟩
          simp only [tabE, List.zip_cons_cons, List.map_cons, List.mem_cons, Prod.mk.injEq] at hy
          rcases hy with ⟨e, _⟩ | hy
          · exact h1 e.symm
          · exact ih.2 h2 y hy
        · rw [if_neg h2]
          refine ⟨fun _ => ?_, fun h => by omega⟩
          have e : (findF r id + 1).toNat = (findF r id).toNat + 1 := by omega
          rw [e, List.getElem?_cons_succ]
          have := ih.1 (by omega)
          unfold tabE at *
          simp only [List.zip_cons_cons, List.map_cons, List.mem_cons]
          exact .inr this
theorem tab_set {l : List FlR} {st : List Th} (hl : st.length = l.length) (hn : (l.map (·.id)).Nodup) (id : Nat) (x : Th) (h0 : 0 ≤ findF l id) : (tabE l st).map (fun e => if e.1 = id then (id, x) else e) = tabE l (st.set (findF l id).toNat x) := by
  induction l generalizing st with
  | nil => simp [findF] at h0
  | cons f r ih =>
    cases st with
    | nil => simp at hl
    | cons s st =>
      rw [List.map_cons, List.nodup_cons] at hn
      have ih := ih (st := st) (by simpa using hl) hn.2
      have hg := findF_ge r id
      have hex : ∀ st' : List Th, f.id = id → (tabE r st').map (fun e => if e.1 = id then (id, x) else e) = tabE r st' := fun st' hfi => by
        refine (List.map_congr_left (g := fun e => e) (fun e he => if_neg ?_)).trans (List.map_id' _)
        unfold tabE at he
        obtain ⟨p, hp, rfl⟩ := List.mem_map.1 he
        intro hc
        exact hn.1 (by rw [hfi]; show id ∈ _; rw [← hc]; exact List.mem_map_of_mem (List.of_mem_zip hp).1)
      have hc1 : ∀ (s' : Th) (st' : List Th), tabE (f :: r) (s' :: st') = (f.id, s') :: tabE r st' := fun _ _ => rfl
      rw [hc1, List.map_cons]
      unfold findF at h0 ⊢
      by_cases h1 : f.id = id
      · rw [if_pos h1, if_pos h1, hex st h1]
        show _ = tabE (f :: r) ((s :: st).set 0 x)
        rw [List.set_cons_zero, hc1, h1]
      · rw [if_neg h1] at h0 ⊢
        rw [if_neg h1]
        by_cases h2 : findF r id < 0
        · rw [if_pos h2] at h0; omega
        · rw [if_neg h2]
          have e : (findF r id + 1).toNat = (findF r id).toNat + 1 := by omega
          rw [e, List.set_cons_succ, hc1, ih (by omega)]
end Go.Proofs.YtfckgddodjmbdaaGreatDoor
