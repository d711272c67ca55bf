/- What the functions of package flow compute, at things of kind string: Drop. -/
import Derived.Test.YthnlggecjdifnaaFlowYString
namespace Go.Proofs.Ythnlggecjdifnaa.flowString
set_option linter.unusedVariables false
set_option linter.unusedSimpArgs false
open Go.RowKit Go.Proofs.Ythnlggecjdifnaa

/-- What the loop keeps: C: the table with its hole not in use; what lies in the hole is whatever. -/
structure DrI (S C : Slots Th) (w wr : World) (tb sb id : Nat) (x : Th) (n room h k m : Nat) (o : Option (Nat × Th)) : Prop where
  top : Blk wr tb [.slice (some ⟨sb, 0, none⟩) S.length S.length, .int .i64 n, .int .i64 room] 67
  cel : Blk wr sb ((C.set h o).flatMap enS) 69
  len : C.length = S.length
  inv : DInv (homeN S.length) C h k m
  ents : (entsF S).Perm ((id, x) :: entsF C)
  kp : Kp (fun b => b = tb ∨ b = sb) w wr
theorem DrI.next {S C : Slots Th} {w wr w' : World} {tb sb id : Nat} {x : Th} {n room h k m : Nat} {o : Option (Nat × Th)} (D : DrI S C w wr tb sb id x n room h k m o) (K : Kp none' wr w') : DrI S C w w' tb sb id x n room h k m o :=
  ⟨D.top.kp K (fun x => x), D.cel.kp K (fun x => x), D.len, D.inv, D.ents, D.kp.then K (fun _ _ x => x.elim)⟩
theorem DrI.cell {S C : Slots Th} {w wr : World} {tb sb id : Nat} {x : Th} {n room h k m : Nat} {o : Option (Nat × Th)} (D : DrI S C w wr tb sb id x n room h k m o) (i j : Nat) {u : Value} (hi : i < S.length) (hih : i ≠ h) (hj : j < 3) (hu : (enS (tAt C i))[j]? = some u) : wr.cell? ⟨sb, i * 3 + j, none⟩ = some u := by
  refine D.cel.cell _ ?_
  have hl : i < (C.set h o).length := by rw [List.length_set, D.len]; exact hi
  have hc : i < C.length := by rw [D.len]; exact hi
  rw [flat_get enS 3 enS_len _ _ _ hj, List.getElem?_eq_getElem hl, List.getElem_set_ne (fun e => hih e.symm)]
  unfold tAt at hu
  rw [List.getD_eq_getElem?_getD, List.getElem?_eq_getElem hc] at hu
  simpa using hu
theorem set_self {α : Type} (l : List α) (i : Nat) (a : α) (h : l[i]? = some a) : l.set i a = l := by
  apply List.ext_getElem?
  intro j
  by_cases e : j = i
  · subst e; rw [List.getElem?_set_self (List.getElem?_eq_some_iff.1 h).1, h]
  · rw [List.getElem?_set_ne (fun x => e x.symm)]
theorem tAt_get (C : Slots Th) (i : Nat) (hi : i < C.length) : C[i]? = some (tAt C i) := by
  unfold tAt; rw [List.getD_eq_getElem?_getD, List.getElem?_eq_getElem hi]; rfl
theorem DrI.stay {S C : Slots Th} {w wr : World} {tb sb id : Nat} {x : Th} {n room h k m : Nat} {o : Option (Nat × Th)} (D : DrI S C w wr tb sb id x n room h k m o) (hkm : k < m) {j : Nat} {y : Th} (he : tAt C (ad C.length h k) = some (j, y)) (hlt : dst C.length (homeN S.length j) (ad C.length h k) < k) : DrI S C w wr tb sb id x n room h (k + 1) m o :=
  { D with inv := D.inv.stay hkm he hlt }
/-- The thing moved: the block's cells behind it. -/
theorem move_cells (C : Slots Th) (h a : Nat) (o e : Option (Nat × Th)) (ha : a < C.length) (hah : a ≠ h) (he : tAt C a = e) : ((C.set h o).set h e) = ((C.set h e).set a none).set a e := by
  rw [List.set_set, List.set_set]
  refine (set_self _ _ _ ?_).symm
  rw [List.getElem?_set_ne (fun x => hah x.symm), tAt_get C a ha, he]
set_option maxRecDepth 100000 in
set_option maxHeartbeats 8000000 in
theorem fDropNone (w : World) (tb sb : Nat) (S : Slots Th) (n room : Nat) (h : TMem w tb sb S n room) (ok : TOk S n room) (id : Nat) (hid : id < 4294967296) (d : Nat) (f : FAt (homeN S.length) S id d) (hnone : tAt S (ad S.length (homeN S.length id) d) = none) :
    Calls Try.prog 13 #[.pointer (some ⟨tb, 0, none⟩), .int .u32 id] w fun e w' => e = .returned (.tuple #[en zx, .bool false]) ∧ Kp none' w w' := by
  have hg := fGet w tb sb S n room h ok id hid d f
  rw [hnone] at hg
  simp only at hg
  have HG := Lib.hid hg
  clear hg h f hnone
  go_enter Try.func13, Try.ntmps13
  go_wp2_with fail
  refine HG.out.mono ?_
  rintro e w1 ⟨rfl, k1⟩
  have HK1 := Lib.hid k1
  clear k1
  go_wp2_with fail
  go_ret2
  exact ⟨rfl, HK1.out⟩
/-- The first unused place behind one. -/
theorem first_free {V : Type} {S : Slots V} {p : Nat} (hp : p < S.length) (hu : ∃ i, i < S.length ∧ tAt S i = none) (hne : tAt S p ≠ none) : ∃ m, 1 ≤ m ∧ m < S.length ∧ (∀ r, 1 ≤ r → r < m → tAt S (ad S.length p r) ≠ none) ∧ tAt S (ad S.length p m) = none := by
  obtain ⟨i, hi, hz⟩ := hu
  obtain ⟨m, h1, ⟨h2, h3⟩, h4⟩ := least (P := fun r => 1 ≤ r ∧ tAt S (ad S.length p r) = none) (dst S.length p i) ⟨by
    refine Classical.byContradiction fun hc => ?_
    have : dst S.length p i = 0 := by omega
    have e := ad_dst hp hi
    rw [this, ad_zero hp] at e
    rw [e] at hne; exact hne hz, by rw [ad_dst hp hi]; exact hz⟩
  have := dst_lt hp hi
  exact ⟨m, h2, by omega, fun r hr1 hr2 hr3 => h4 r hr2 ⟨hr1, hr3⟩, h3⟩
theorem dst_self {N h k m : Nat} (hh : h < N) (hk : k ≤ m) (hm : m < N) : dst N (ad N h k) (ad N h m) = m - k := by
  have h1 := ad_from hh hk hm
  rw [← h1]
  exact dst_ad (ad_lt hh (by omega)) (by omega)
set_option maxRecDepth 100000 in
set_option maxHeartbeats 8000000 in
theorem fDropSome (w : World) (tb sb : Nat) (S : Slots Th) (n room : Nat) (h : TMem w tb sb S n room) (ok : TOk S n room) (id : Nat) (hid : id < 4294967296) (d : Nat) (f : FAt (homeN S.length) S id d) (x : Th) (hsome : tAt S (ad S.length (homeN S.length id) d) = some (id, x)) :
    Calls Try.prog 13 #[.pointer (some ⟨tb, 0, none⟩), .int .u32 id] w fun e w' => e = .returned (.tuple #[en x, .bool true]) ∧ ∃ S', S'.length = S.length ∧ TMem w' tb sb S' (n - 1) room ∧ TOk S' (n - 1) room ∧ (entsF S).Perm ((id, x) :: entsF S') ∧ Kp (fun b => b = tb ∨ b = sb) w w' := by
  have hg := fGet w tb sb S n room h ok id hid d f
  rw [hsome] at hg
  simp only at hg
  have HG := Lib.hid hg
  have hN := ok.pw.pos
  have hpl := ad_lt (homeN_lt S.length id hN) f.lt
  have GF := Lib.hid (fun W (k : Kp none' w W) => fFindAt S id d ok.pw ok.b2 hid ok.free f W tb sb n room (h.old k))
  obtain ⟨m0, hm1, hm2, hm3, hm4⟩ := first_free hpl ok.free (by rw [hsome]; simp)
  have hD0 := DInv.start ok.inv hpl hsome hm1 hm2 hm3 hm4
  have hperm := ents_take S _ hpl hsome
  have hself : S.set (ad S.length (homeN S.length id) d) (some (id, x)) = S := set_self _ _ _ (by rw [tAt_get S _ hpl, hsome])
  obtain ⟨e, he⟩ : ∃ e, ad S.length (ad S.length (homeN S.length id) d) m0 = e := ⟨_, rfl⟩
  have heN : e < S.length := by rw [← he]; exact ad_lt hpl hm2
  generalize ad S.length (homeN S.length id) d = p at *
  have HM := Lib.hid h
  have HD0 := Lib.hid hD0
  have HPE := Lib.hid hperm
  have HSE := Lib.hid hself
  have HE := Lib.hid he
  have hmn := mask_next S.length ok.pw p hpl
  have c0 := h.top.cell 0 rfl
  have hb8 := ok.b2
  clear hg h f hsome hD0 hperm hself he hm3 hm4
  go_enter Try.func13, Try.ntmps13
  go_wp2_with fail
  refine HG.out.mono ?_
  rintro ee w1 ⟨rfl, k1⟩
  have HK1 := Lib.hid k1
  have d0 := k1.cell c0 (fun x => x)
  clear k1 c0
  go_wp2_with fail
  refine (GF.out _ HK1.out).mono ?_
  rintro ee w2 ⟨rfl, k2⟩
  have HK2 := Lib.hid (HK1.out.trans k2)
  have hI : DrI S (S.set p none) w w2 tb sb id x n room p 1 m0 (some (id, x)) := by
    have hm := HM.out.old HK2.out
    refine ⟨hm.top, ?_, List.length_set .., HD0.out, HPE.out, HK2.out.mono (fun _ _ x => x.elim)⟩
    rw [List.set_set, HSE.out]; exact hm.cel
  have HI := Lib.hid hI
  clear k2 d0 hI HG GF
  go_wp2_with fail
  go_loopw [9, 10] (fun h0 a0 wr => ∃ (C : Slots Th) (h k m : Nat) (o : Option (Nat × Th)), h0 = .int .i64 h ∧ a0 = .int .i64 (ad S.length h k : Nat) ∧ h < S.length ∧ 1 ≤ k ∧ k ≤ m ∧ m < S.length ∧ Hid (ad S.length h m = e ∧ DrI S C w wr tb sb id x n room h k m o)) (fun _ a0 _ => dst S.length (intOf a0).toNat e)
  case atStart => exact ⟨S.set p none, p, 1, m0, _, rfl, rfl, hpl, by omega, hm1, hm2, HE.out, HI.out⟩
  case round =>
    obtain ⟨C, h, k, m, o, rfl, rfl, hh, hk1, hkm, hmN, hr⟩ := hrel
    have hkN : k < S.length := by omega
    have haN := ad_lt hh hkN
    have hinv := hr.out.2.inv
    have hCl := hr.out.2.len
    have hlen : (C.set h o).length = S.length := by rw [List.length_set]; exact hCl
    have hmem : TMem wr tb sb (C.set h o) n room := ⟨by rw [hlen]; exact hr.out.2.top, hr.out.2.cel⟩
    have t0 := hr.out.2.top.cell 0 rfl
    have hds : dst S.length (ad S.length h k) e = m - k := by rw [← hr.out.1]; exact dst_self hh hkm hmN
    have hah : ad S.length h k ≠ h := fun q => by
      have := ad_inj (e := 0) hh hkN (by omega) (q.trans (ad_zero hh).symm)
      omega
    have hR := Lib.hid hr.out.2
    have hE := Lib.hid hr.out.1
    by_cases hlt : k < m
    · obtain ⟨⟨j, y⟩, hjy⟩ : ∃ ex, tAt C (ad S.length h k) = some ex := by
        have := hinv.used k hk1 hlt
        rw [hCl] at this
        cases ht : tAt C (ad S.length h k) with
        | none => exact absurd ht this
        | some ex => exact ⟨ex, rfl⟩
      have b0 := hR.out.cell (ad S.length h k) 0 haN hah (by omega) (u := .int .u32 j) (by rw [hjy]; rfl)
      have b1 := hR.out.cell (ad S.length h k) 1 haN hah (by omega) (u := .bool true) (by rw [hjy]; rfl)
      have b2 := hR.out.cell (ad S.length h k) 2 haN hah (by omega) (u := en y) (by rw [hjy]; rfl)
      simp only [Nat.add_zero] at b0
      have hnx := mask_next S.length ok.pw (ad S.length h k) haN
      have hjm : (j, y) ∈ entsF S := hR.out.ents.mem_iff.2 (List.mem_cons_of_mem _ ((ents_mem C _).2 ⟨_, by rw [hCl]; exact haN, hjy⟩))
      have hj32 : j < 4294967296 := ok.ids _ hjm
      have hhome := homeN_lt S.length j hN
      have GH := Lib.hid (fHome wr tb sb (C.set h o) n room hmem (by rw [hlen]; exact ok.pw) (by rw [hlen]; exact ok.b2) j hj32)
      rw [hlen] at GH
      have hm1' := mask_dst S.length ok.pw (homeN S.length j) (ad S.length h k) hhome haN
      have hm2' := mask_dst S.length ok.pw h (ad S.length h k) hh haN
      rw [dst_ad hh hkN] at hm2'
      have hadk := ad_ad (e := 1) hh (show k + 1 < S.length by omega)
      have hmove := fun (q : k ≤ dst C.length (homeN S.length j) (ad C.length h k)) => hinv.move hlt (by rw [hCl]; exact hjy) q
      have hstay := fun (q : dst C.length (homeN S.length j) (ad C.length h k) < k) => hR.out.stay hlt (by rw [hCl]; exact hjy) q
      have hcm := move_cells C h (ad S.length h k) o (some (j, y)) (by rw [hCl]; exact haN) hah hjy
      have hpm := fun q => ents_move C h (ad S.length h k) (by rw [hCl]; exact hh) (by rw [hCl]; exact haN) hah q hjy
      have hrest : ad S.length (ad S.length h k) (m - k) = e := by rw [ad_from hh hkm hmN]; exact hE.out
      rw [hCl] at hmove hstay
      have HMV := Lib.hid hmove; have HST := Lib.hid hstay; have HCM := Lib.hid hcm; have HPM := Lib.hid hpm; have HRS := Lib.hid hrest; have HAD := Lib.hid hadk
      have HHO := Lib.hid hinv.hole
      clear hmove hstay hcm hpm hrest hadk hjm hjy hinv hmem hr
      obtain ⟨a, ha⟩ : ∃ a, ad S.length h k = a := ⟨_, rfl⟩
      rw [ha] at HMV HST HCM HPM HRS HAD hm1' hm2' hnx b0 b1 b2 haN hah hds ⊢
      have HA := Lib.hid ha
      have hai : (a : Int) < S.length := by omega
      have hhi : (h : Int) < S.length := by omega
      generalize homeN S.length j = hj at *
      have hdl := dst_lt hhome haN
      clear ha
      go_wp2_with fail
      refine GH.out.mono ?_
      rintro ee w4 ⟨rfl, rfl⟩
      by_cases hge : k ≤ dst S.length hj a
      · have hgi : (k : Int) ≤ (dst S.length hj a : Nat) := by omega
        have hone : ∀ v ∈ enS (some (j, y)), v.oneCell' = true := by
          intro v hv
          simp only [enS, List.mem_cons, List.not_mem_nil, or_false] at hv
          rcases hv with rfl | rfl | rfl <;> rfl
        have hhl : h < (C.set h o).length := by rw [hlen]; exact hh
        have hin : h * 3 + (enS (some (j, y))).length ≤ ((C.set h o).flatMap enS).length := by rw [flat_len enS 3 enS_len, hlen, enS_len]; omega
        have hst3 : tb ≠ sb := fun q => blk_ne hR.out.top hR.out.cel (by decide) q
        have hMV2 := HMV.out hge
        have hPM2 := HPM.out HHO.out
        have hds1 : dst S.length (ad S.length a 1) e = (m - k) - 1 := by rw [← HRS.out]; exact dst_self haN (by omega) (by omega)
        clear HST HMV HPM GH
        go_wp2_with fail
        refine wp_region_kept2 [] [0, 1, 2, 3, 4, 5, 6, 7, 8, 9, 10, 11, 12] 13 (by kernel_rfl) (by kernel_rfl) (fun c a d u w h => by cases d <;> exact h) ?_
        simp only [pick, List.getElem?_cons_succ, List.getElem?_cons_zero, List.drop_succ_cons, List.drop_zero]
        show wpKL _ _ _ _ _ _
        repeat (first
          | (refine wpKL_op (by exact rfl) (by as_aux_lemma => intro W hK; have e0 := hK.cell t0 (fun x => x); have e1 := hK.cell b0 (fun x => x); have e2 := hK.cell b1 (fun x => x); have e3 := hK.cell b2 (fun x => x); go_simp; exact rfl) ?_; simp only [Act.put, List.setIfInBounds_toArray, List.set_cons_succ, List.set_cons_zero])
          | (refine wpKL_off (by exact rfl) ?_; simp only [Act.put, List.setIfInBounds_toArray, List.set_cons_succ, List.set_cons_zero]))
        show ∀ W, _ → wpList _ _ _ _ _ _
        intro W5 hK5
        have D5 := hR.out.next hK5
        refine wp_set_mid rfl 69 (.tmp 79) (.tmp 78) rfl D5.cel (h * 3) (enS (some (j, y))) rfl rfl (by kernel_rfl) hin hone ?_
        intro W6 hB6 hO6 hK6
        rw [← flat_set enS 3 enS_len (C.set h o) h _ hhl, HCM.out] at hB6
        have HD6 : Hid (DrI S ((C.set h (some (j, y))).set a none) w W6 tb sb id x n room a 1 (m - k) (some (j, y))) :=
          ⟨hO6 _ _ _ D5.top hst3, hB6, by rw [List.length_set, List.length_set]; exact hCl, hMV2, hR.out.ents.trans (List.Perm.cons _ hPM2.symm), hK6 _ _ D5.kp (.inl (.inr rfl))⟩
        clear hB6 hO6 hK6 D5 hK5 hMV2 hPM2 t0 b0 b1 b2
        simp only [Act.put]
        go_wp2_with fail
        go_roundw
        case rel => exact ⟨_, a, 1, m - k, _, rfl, rfl, haN, by omega, by omega, by omega, HRS.out, HD6.out⟩
        case measure => simp only [intOf, Int.toNat_natCast, hds, hds1]; omega
      · have hgi : ¬ (k : Int) ≤ (dst S.length hj a : Nat) := by omega
        have HS2 := Lib.hid (HST.out (by omega))
        rw [HAD.out] at hnx
        have hds2 := dst_self hh (show k + 1 ≤ m by omega) hmN
        rw [hE.out] at hds2
        clear HMV HST HCM HPM HRS HAD
        go_wp2_with fail
        go_roundw
        case rel => exact ⟨C, h, k + 1, m, o, rfl, rfl, hh, by omega, by omega, hmN, hE.out, HS2.out⟩
        case measure => simp only [intOf, Int.toNat_natCast, hds, hds2]; omega
    · have hke : k = m := by omega
      subst hke
      have hfin := hinv.fin
      rw [hCl] at hfin
      have b1 := hR.out.cell (ad S.length h k) 1 haN hah (by omega) (u := .bool false) (by rw [hfin]; rfl)
      have hok : TOk C (n - 1) room := by
        have hp := hR.out.ents
        have hl := hp.length_eq
        rw [List.length_cons, ok.cnt] at hl
        exact ⟨by rw [hCl]; exact ok.pw, by rw [hCl]; exact hinv.done, by omega, by rw [hCl]; have := ok.load; omega, by have := ok.nr; omega, ok.r1, ok.r2, fun e h => ok.ids e (hp.mem_iff.2 (List.mem_cons_of_mem _ h)), by rw [hCl]; exact ok.b1, by rw [hCl]; exact ok.b2⟩
      have hn1 : 1 ≤ n := by
        have hl := hR.out.ents.length_eq
        rw [List.length_cons, ok.cnt] at hl
        omega
      have hone : ∀ v ∈ enS none, v.oneCell' = true := by
        intro v hv
        simp only [enS, List.mem_cons, List.not_mem_nil, or_false] at hv
        rcases hv with rfl | rfl | rfl <;> rfl
      have hhl : h < (C.set h o).length := by rw [hlen]; exact hh
      have hin : h * 3 + (enS none).length ≤ ((C.set h o).flatMap enS).length := by rw [flat_len enS 3 enS_len, hlen, enS_len]; omega
      have hst3 : tb ≠ sb := fun q => blk_ne hR.out.top hR.out.cel (by decide) q
      have hcs : (C.set h o).set h none = C := by
        rw [List.set_set]
        exact set_self _ _ _ (by rw [tAt_get C h (by rw [hCl]; exact hh), hinv.hole])
      have HOK := Lib.hid hok
      have HCS := Lib.hid hcs
      obtain ⟨a, ha⟩ : ∃ a, ad S.length h k = a := ⟨_, rfl⟩
      rw [ha] at b1 haN ⊢
      have hai : (a : Int) < S.length := by omega
      have hhi : (h : Int) < S.length := by omega
      have hnc : ((n - 1 : Nat) : Int) = (n : Int) - 1 := by omega
      have HNC := Lib.hid hnc
      have hnn : (n : Int) ≤ 4096 := by have := ok.nr; have := ok.r2; omega
      have hn1i : (1 : Int) ≤ n := by omega
      clear ha hok hcs hfin hinv hmem hr hnc hds hah
      go_wp2_with (refine wp_set_mid rfl 69 (.tmp 87) (.tmp 86) rfl hR.out.cel (h * 3) (enS none) rfl rfl (by kernel_rfl) hin hone ?_
                   intro W6 hB6 hO6 hK6
                   have hT := hO6 _ _ _ hR.out.top hst3
                   have tn := hT.cell 1 rfl
                   have zt := hT.fz 1
                   have HT := Lib.hid hT; have HB6 := Lib.hid hB6; have HK6 := Lib.hid (hK6 _ _ hR.out.kp (.inl (.inr rfl)))
                   clear hT hB6 hO6 hK6)
      have hB6 := HB6.out
      rw [← flat_set enS 3 enS_len (C.set h o) h _ hhl, HCS.out] at hB6
      have hT2 := HT.out.set 1 (.int .i64 ((n : Int) - 1))
      go_ret2
      refine ⟨rfl, C, hCl, ⟨?_, hB6.setNe (a := ⟨tb, 1, none⟩) hst3.symm _⟩, HOK.out, hR.out.ents, HK6.out.set (p := ⟨tb, 1, none⟩) (.inl (.inl rfl)) _⟩
      rw [hCl, HNC.out]
      exact hT2
end Go.Proofs.Ythnlggecjdifnaa.flowString
