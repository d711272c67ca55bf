/- What the functions of package flow compute, at things of kind own: Set, Len. -/
import Derived.Test.YtfckgddodjmbdaaGreatDoorMDeviceNobodyF13
import Derived.Test.YtfckgddodjmbdaaGreatDoorMDeviceNobodyF10
import Derived.Test.YtfckgddodjmbdaaGreatDoorShelf
import Derived.Test.YtfckgddodjmbdaaGreatDoorMDeviceNobodyF7
namespace Go.Proofs.YtfckgddodjmbdaaGreatDoor.flowOwn
set_option linter.unusedVariables false
set_option linter.unusedSimpArgs false
open Go.RowKit Go.Proofs.YtfckgddodjmbdaaGreatDoor
def setF (id : Nat) (x : Th) (E : List (Nat × Th)) : List (Nat × Th) := E.map (fun e => if e.1 = id then (id, x) else e)
theorem set_row {S : Slots Th} {q id : Nat} {y : Th} (x : Th) (hq : q < S.length) (ht : tAt S q = some (id, y)) (i k : Nat) (z : Th) (h : tAt (S.set q (some (id, x))) i = some (k, z)) : ∃ z', tAt S i = some (k, z') := by
  rw [tAt_set S q i _ hq] at h
  by_cases hi : i = q
  · rw [if_pos hi] at h
    simp only [Option.some.injEq, Prod.mk.injEq] at h
    exact ⟨y, by rw [hi, ht, h.1]⟩
  · rw [if_neg hi] at h; exact ⟨z, h⟩
theorem set_none {S : Slots Th} {q id : Nat} {y : Th} (x : Th) (hq : q < S.length) (ht : tAt S q = some (id, y)) (i : Nat) (h : tAt S i ≠ none) : tAt (S.set q (some (id, x))) i ≠ none := by
  rw [tAt_set S q i _ hq]
  split
  · simp
  · exact h
theorem set_inv {hm : Nat → Nat} {S : Slots Th} (h : FInv hm S) {q id : Nat} {y : Th} (x : Th) (hq : q < S.length) (ht : tAt S q = some (id, y)) : FInv hm (S.set q (some (id, x))) := by
  refine ⟨fun k => by rw [List.length_set]; exact h.home k, fun i k z hi he d hd => ?_, fun i j k z z2 hi hj he hf => ?_⟩
  · rw [List.length_set] at hi hd ⊢
    obtain ⟨z', he'⟩ := set_row x hq ht i k z he
    exact set_none x hq ht _ (h.path i k z' hi he' d hd)
  · rw [List.length_set] at hi hj
    obtain ⟨z', he'⟩ := set_row x hq ht i k z he
    obtain ⟨z2', hf'⟩ := set_row x hq ht j k z2 hf
    exact h.one i j k z' z2' hi hj he' hf'
theorem set_ents {S : Slots Th} {q id : Nat} {y : Th} (x : Th) (hq : q < S.length) (ht : tAt S q = some (id, y)) (hk : ((entsF S).map (·.1)).Nodup) : entsF (S.set q (some (id, x))) = setF id x (entsF S) := by
  rw [ents_split S q hq, ents_self S q hq, ht]
  rw [ents_self S q hq, ht] at hk
  simp only [Option.toList_some, List.map_append, List.map_cons, List.map_nil, List.append_assoc, List.singleton_append] at hk ⊢
  rw [List.nodup_append] at hk
  obtain ⟨_, h2, h3⟩ := hk
  rw [List.nodup_cons] at h2
  have hsame : ∀ L : List (Nat × Th), (∀ e ∈ L, e.1 ≠ id) → L.map (fun e => if e.1 = id then (id, x) else e) = L := fun L hL => by
    rw [List.map_congr_left (g := fun e => e) (fun e he => if_neg (hL e he))]
    exact List.map_id' L
  unfold setF
  rw [List.map_append, List.map_cons, if_pos rfl, hsame _ (fun e he hc => h3 e.1 (List.mem_map_of_mem he) id (by simp) hc), hsame _ (fun e he hc => h2.1 (by rw [← hc]; exact List.mem_map_of_mem he))]
theorem flat_part {α : Type} (en : α → List Value) (sz : Nat) (hl : ∀ a, (en a).length = sz) (l : List α) (i : Nat) (c a : α) (o : Nat) (vs : List Value) (hi : l[i]? = some c) (ho : o + vs.length ≤ sz) (ha : en a = setFlat (en c) o vs) : setFlat (l.flatMap en) (i * sz + o) vs = (l.set i a).flatMap en := by
  have hil : i < l.length := (List.getElem?_eq_some_iff.1 hi).1
  have hlen := flat_len en sz hl l
  have hjs : i * sz + sz ≤ l.length * sz := by rw [← Nat.succ_mul]; exact Nat.mul_le_mul_right _ hil
  rw [flat_set en sz hl l i a hil]
  apply List.ext_getElem?
  intro k
  rw [setFlat_get _ _ _ _ (by rw [hlen]; omega), setFlat_get _ _ _ _ (by rw [hlen, hl]; exact hjs), hl]
  by_cases h1 : i * sz ≤ k ∧ k < i * sz + sz
  · rw [if_pos h1, ha, setFlat_get _ _ _ _ (by rw [hl]; exact ho)]
    obtain ⟨m, rfl⟩ : ∃ m, k = i * sz + m := ⟨k - i * sz, by omega⟩
    rw [Nat.add_sub_cancel_left]
    by_cases h2 : o ≤ m ∧ m < o + vs.length
    · rw [if_pos (by omega), if_pos h2]; congr 1; omega
    · rw [if_neg (by omega), if_neg h2, flat_get en sz hl l i m (by omega), hi]; rfl
  · rw [if_neg h1, if_neg (by omega)]
set_option maxRecDepth 100000 in
set_option maxHeartbeats 4000000 in
theorem fSetSome (w : World) (tb sb : Nat) (S : Slots Th) (n room : Nat) (h : TMem w tb sb S n room) (ok : TOk S n room) (id : Nat) (hid : id < 4294967296) (d : Nat) (f : FAt (homeN S.length) S id d) (y : Th) (ht : tAt S (ad S.length (homeN S.length id) d) = some (id, y)) (x : Th) :
    Calls Tryz.prog 107 #[.pointer (some ⟨tb, 0, none⟩), .int .u32 id, en x] w fun e w' => e = .returned (.bool true) ∧ ∃ S', TMem w' tb sb S' n room ∧ TOk S' n room ∧ entsF S' = setF id x (entsF S) ∧ Kp (fun b => b = tb ∨ b = sb) w w' := by
  have c := h.top.cell 0 rfl
  have hN := ok.pw.pos
  have hpl := ad_lt (homeN_lt S.length id hN) f.lt
  have GM := Lib.hid (fun W (k : Kp none' w W) => calls_same (fMade W tb sb S n room (h.old k) hN))
  have GF := Lib.hid (fun W (k : Kp none' w W) => fFindAt S id d ok.pw ok.b2 hid ok.free f W tb sb n room (h.old k))
  have hce := fun k u h1 h2 => h.cell (ad S.length (homeN S.length id) d) k (u := u) h1 h2 hpl
  generalize ad S.length (homeN S.length id) d = q at *
  have hql : (q : Int) < S.length := by omega
  have hst3 : tb ≠ sb := fun q => blk_ne h.top h.cel (by decide) q
  have hents := set_ents x hpl ht (ents_keys ok.inv)
  have hyS : S[q]? = some (some (id, y)) := by
    unfold tAt at ht
    rw [List.getD_eq_getElem?_getD, List.getElem?_eq_getElem hpl] at ht
    rw [List.getElem?_eq_getElem hpl]; simpa using ht
  have hfl : setFlat (S.flatMap enS) (q * 5 + 2) (enx x) = (S.set q (some (id, x))).flatMap enS := by
    exact flat_part enS 5 enS_len S q (some (id, y)) (some (id, x)) 2 (enx x) hyS (by show 2 + 3 ≤ 5; omega) rfl
  have hok : TOk (S.set q (some (id, x))) n room := by
    have hl : (S.set q (some (id, x))).length = S.length := List.length_set
    refine ⟨by rw [hl]; exact ok.pw, by rw [hl]; exact set_inv ok.inv x hpl ht, ?_, by rw [hl]; exact ok.load, ok.nr, ok.r1, ok.r2, ?_, by rw [hl]; exact ok.b1, by rw [hl]; exact ok.b2⟩
    · rw [hents]; unfold setF; rw [List.length_map]; exact ok.cnt
    · rw [hents]
      unfold setF
      intro e he
      obtain ⟨e', he', rfl⟩ := List.mem_map.1 he
      split
      · exact hid
      · exact ok.ids _ he'
  have HM := Lib.hid h
  have HOK := Lib.hid hok
  have HEN := Lib.hid hents
  have HFL := Lib.hid hfl
  clear h f hok hents hfl hyS
  rw [ht] at hce
  have c1 := hce 1 (.bool true) (by omega) rfl
  clear hce ht
  go_enter Tryz.func107, Tryz.ntmps107
  go_wp2_with fail
  have HB5 := Lib.hid (Blk.new w [.int .i64 x.p, .int .u64 x.b, .int .u64 x.m] 232)
  have HK1 := Lib.hid ((Kp.refl none' w).alloc (.cells #[.int .i64 x.p, .int .u64 x.b, .int .u64 x.m] 232))
  change Code.wp _ _ _ _ (w.alloc (.cells #[.int .i64 x.p, .int .u64 x.b, .int .u64 x.m] 232))
  generalize w.alloc (.cells #[.int .i64 x.p, .int .u64 x.b, .int .u64 x.m] 232) = W1 at *
  have d0 := HK1.out.cell c (fun x => x)
  have d1 := HK1.out.cell c1 (fun x => x)
  have GM1 := Lib.hid (fun W (k : Kp none' W1 W) => GM.out W (HK1.out.trans k))
  have GF1 := Lib.hid (fun W (k : Kp none' W1 W) => GF.out W (HK1.out.trans k))
  refine wp_region_kept2 [] [0, 1, 2, 3, 4, 5, 6, 7, 8, 9, 10, 11, 12, 13, 14] 15 (by kernel_rfl) (by kernel_rfl) (fun c a d u w h => by cases d <;> exact h) ?_
  simp only [pick, List.getElem?_cons_succ, List.getElem?_cons_zero, List.drop_succ_cons, List.drop_zero]
  show wpKL _ _ _ _ _ _
  repeat (first
    | (refine wpKL_op (by exact rfl) (by as_aux_lemma => intro W hK; have e0 := hK.cell d0 (fun x => x); have e1 := hK.cell d1 (fun x => x); go_simp; exact rfl) ?_; simp only [Act.put, List.setIfInBounds_toArray, List.set_cons_succ, List.set_cons_zero])
    | (refine wpKL_off (by exact rfl) ?_; simp only [Act.put, List.setIfInBounds_toArray, List.set_cons_succ, List.set_cons_zero])
    | (refine wpKL_call (by exact rfl) (by as_aux_lemma => intro W; go_simp; exact ⟨rfl, rfl⟩) (by intro W hK; with_reducible first | exact GM1.out W hK | exact GF1.out W hK) ?_; simp only [Act.put, List.setIfInBounds_toArray, List.set_cons_succ, List.set_cons_zero]))
  show ∀ W, _ → wpList _ _ _ _ _ _
  intro W2 hK2
  have HK2 := Lib.hid (HK1.out.trans hK2)
  have HC5 := Lib.hid (HB5.out.kp hK2 (fun x => x))
  have d2 := hK2.cell d0 (fun x => x)
  have GF2 := Lib.hid (fun W (k : Kp none' W2 W) => GF1.out W (hK2.trans k))
  have x0 := HC5.out.cell 0 rfl
  have x1 := HC5.out.cell 1 rfl
  have x2 := HC5.out.cell 2 rfl
  clear hK2 d0 d1 HB5 c c1
  go_wp2_with fail
  refine wp_region_kept2 [] [0, 1, 2, 3, 4, 5, 6, 7, 8, 9] 10 (by kernel_rfl) (by kernel_rfl) (fun c a d u w h => by cases d <;> exact h) ?_
  simp only [pick, List.getElem?_cons_succ, List.getElem?_cons_zero, List.drop_succ_cons, List.drop_zero]
  show wpKL _ _ _ _ _ _
  repeat (first
    | (refine wpKL_op (by exact rfl) (by as_aux_lemma => intro W hK; have e0 := hK.cell d2 (fun x => x); have e1 := hK.cell x0 (fun x => x); have e2 := hK.cell x1 (fun x => x); have e3 := hK.cell x2 (fun x => x); go_simp; exact rfl) ?_; simp only [Act.put, List.setIfInBounds_toArray, List.set_cons_succ, List.set_cons_zero])
    | (refine wpKL_off (by exact rfl) ?_; simp only [Act.put, List.setIfInBounds_toArray, List.set_cons_succ, List.set_cons_zero])
    | (refine wpKL_call (by exact rfl) (by as_aux_lemma => intro W; go_simp; exact ⟨rfl, rfl⟩) (by intro W hK; with_reducible first | exact GF2.out W hK) ?_; simp only [Act.put, List.setIfInBounds_toArray, List.set_cons_succ, List.set_cons_zero]))
  show ∀ W, _ → wpList _ _ _ _ _ _
  intro W3 hK3
  have HK3 := Lib.hid (HK2.out.trans hK3)
  have HM3 := Lib.hid (HM.out.old HK3.out)
  clear hK3 d2 x0 x1 x2
  refine wp_set_mid rfl 232 (.tmp 32) (.tmp 30) rfl HM3.out.cel (q * 5 + 2) (enx x) rfl rfl infoOwn (by rw [flat_len enS 5 enS_len]; show q * 5 + 2 + 3 ≤ _; omega) (by intro v hv; simp only [enx, List.mem_cons, List.not_mem_nil, or_false] at hv; rcases hv with rfl | rfl | rfl <;> rfl) ?_
  intro W4 hB4 hO4 hK4
  rw [HFL.out] at hB4
  have HT4 := Lib.hid (hO4 _ _ _ HM3.out.top hst3)
  have HB4 := Lib.hid hB4
  have HK4 := Lib.hid (hK4 (fun b => b = tb ∨ b = sb) w (HK3.out.mono fun _ _ x => x.elim) (.inl (.inr rfl)))
  clear hB4 hO4 hK4
  simp only [Act.put]
  go_wp2_with fail
  go_ret
  exact ⟨rfl, S.set q (some (id, x)), ⟨by rw [List.length_set]; exact HT4.out, HB4.out⟩, HOK.out, HEN.out, HK4.out⟩
theorem bSet {w : World} {F : Nat → Prop} {tb room : Nat} {E : List (Nat × Th)} (h : Tf w F tb room E) (id : Nat) (hid : id < 4294967296) (x y : Th) (hy : (id, y) ∈ E) :
    Calls Tryz.prog 107 #[.pointer (some ⟨tb, 0, none⟩), .int .u32 id, en x] w fun e w' => e = .returned (.bool true) ∧ Tf w' F tb room (setF id x E) ∧ Kp F w w' := by
  obtain ⟨sb, S, n, rfl, hm, ok, hp⟩ := h
  obtain ⟨d, f⟩ := FAt.there (hm := homeN S.length) (fun id => homeN_lt _ _ ok.pw.pos) id ok.free
  refine (fSetSome w tb sb S n room hm ok id hid d f y ((f.some_there ok.inv y).2 (hp.mem_iff.2 hy)) x).mono ?_
  rintro e w' ⟨he, S', hm', ok', hp', hk⟩
  exact ⟨he, ⟨sb, S', n, rfl, hm', ok', by rw [hp']; exact hp.map _⟩, hk⟩
end Go.Proofs.YtfckgddodjmbdaaGreatDoor.flowOwn

namespace Go.Proofs.YtfckgddodjmbdaaGreatDoor
set_option linter.unusedVariables false
set_option linter.unusedSimpArgs false
open Go Go.RowKit Go.Shelf
theorem chk_kind {c : CfR} (h : c.rank < 1 ∨ 3 < c.rank ∨ c.back < 1 ∨ 3 < c.back) : chk c = 22 := by unfold chk; rw [if_pos h]
theorem chk_lev {c : CfR} (h : ¬ (c.rank < 1 ∨ 3 < c.rank ∨ c.back < 1 ∨ 3 < c.back)) (h2 : c.levels < 1 ∨ 3 < c.levels) : chk c = 23 := by unfold chk; rw [if_neg h, if_pos h2]
theorem chk_que {c : CfR} (h : ¬ (c.rank < 1 ∨ 3 < c.rank ∨ c.back < 1 ∨ 3 < c.back)) (h2 : ¬ (c.levels < 1 ∨ 3 < c.levels)) (h3 : c.queues < 1 ∨ 32 < c.queues) : chk c = 24 := by unfold chk; rw [if_neg h, if_neg h2, if_pos h3]
theorem chk_rest {c : CfR} (h : ¬ (c.rank < 1 ∨ 3 < c.rank ∨ c.back < 1 ∨ 3 < c.back)) (h2 : ¬ (c.levels < 1 ∨ 3 < c.levels)) (h3 : ¬ (c.queues < 1 ∨ 32 < c.queues)) : chk c = if admE c ≠ 0 then admE c else if c.rate = 0 then 27 else if c.burst < c.mtu then 28 else 0 := by unfold chk; rw [if_neg h, if_neg h2, if_neg h3]
set_option maxRecDepth 100000 in
set_option maxHeartbeats 4000000 in
theorem gChk (c : CfR) (hc : c.ok) (v : Value) (w : World) (h : Sl w v c.flows.length 5 (c.flows.flatMap enFl)) : Calls Tryz.prog 82 #[.agg (enC c v).toArray] w fun e w' => e = .returned (.int .i64 (chk c)) ∧ Kp none' w w' := by
  have GA := Lib.hid (fun W hs => gAdm c hc v W hs)
  have H1 := Lib.hid (@chk_kind c); have H2 := Lib.hid (@chk_lev c); have H3 := Lib.hid (@chk_que c); have H4 := Lib.hid (@chk_rest c)
  have HS := Lib.hid h
  have b7 := hc.mtu; have b8 := hc.rate; have b9 := hc.burst
  unfold M64 at b7 b8 b9
  obtain ⟨ad, had⟩ : ∃ a, admE c = a := ⟨_, rfl⟩
  rw [had] at GA H4
  clear had
  obtain ⟨rk, bk, lv, qu, pk, bt, sh, mt, rt, bu, fl⟩ := c
  unfold enC at GA ⊢
  simp only at GA H1 H2 H3 H4 HS b7 b8 b9 ⊢
  clear h hc
  by_cases h1 : rk < 1
  · have HE := Lib.hid (H1.out (.inl h1))
    go_enter Tryz.func82, Tryz.ntmps82
    go_wp2
    go_ret
    exact ⟨by rw [HE.out]; rfl, (Kp.refl _ _).alloc _⟩
  · by_cases h2 : 3 < rk
    · have HE := Lib.hid (H1.out (.inr (.inl h2)))
      go_enter Tryz.func82, Tryz.ntmps82
      go_wp2
      go_ret
      exact ⟨by rw [HE.out]; rfl, (Kp.refl _ _).alloc _⟩
    · by_cases h3 : bk < 1
      · have HE := Lib.hid (H1.out (.inr (.inr (.inl h3))))
        go_enter Tryz.func82, Tryz.ntmps82
        go_wp2
        go_ret
        exact ⟨by rw [HE.out]; rfl, (Kp.refl _ _).alloc _⟩
      · by_cases h4 : 3 < bk
        · have HE := Lib.hid (H1.out (.inr (.inr (.inr h4))))
          go_enter Tryz.func82, Tryz.ntmps82
          go_wp2
          go_ret
          exact ⟨by rw [HE.out]; rfl, (Kp.refl _ _).alloc _⟩
        · have HN1 : Hid (¬ (rk < 1 ∨ 3 < rk ∨ bk < 1 ∨ 3 < bk)) := by show ¬ _; omega
          by_cases h5 : lv < 1
          · have HE := Lib.hid (H2.out HN1.out (.inl h5))
            go_enter Tryz.func82, Tryz.ntmps82
            go_wp2
            go_ret
            exact ⟨by rw [HE.out]; rfl, (Kp.refl _ _).alloc _⟩
          · by_cases h6 : 3 < lv
            · have HE := Lib.hid (H2.out HN1.out (.inr h6))
              go_enter Tryz.func82, Tryz.ntmps82
              go_wp2
              go_ret
              exact ⟨by rw [HE.out]; rfl, (Kp.refl _ _).alloc _⟩
            · have HN2 : Hid (¬ (lv < 1 ∨ 3 < lv)) := by show ¬ _; omega
              by_cases h7 : qu < 1
              · have HE := Lib.hid (H3.out HN1.out HN2.out (.inl h7))
                go_enter Tryz.func82, Tryz.ntmps82
                go_wp2
                go_ret
                exact ⟨by rw [HE.out]; rfl, (Kp.refl _ _).alloc _⟩
              · by_cases h8 : 32 < qu
                · have HE := Lib.hid (H3.out HN1.out HN2.out (.inr h8))
                  go_enter Tryz.func82, Tryz.ntmps82
                  go_wp2
                  go_ret
                  exact ⟨by rw [HE.out]; rfl, (Kp.refl _ _).alloc _⟩
                · have HE4 := Lib.hid (H4.out HN1.out HN2.out (by omega))
                  have hb0 := Blk.new w (enC ⟨rk, bk, lv, qu, pk, bt, sh, mt, rt, bu, fl⟩ v) 76
                  have hk0 := (Kp.refl none' w).alloc (.cells (enC ⟨rk, bk, lv, qu, pk, bt, sh, mt, rt, bu, fl⟩ v).toArray 76)
                  unfold enC at hb0 hk0
                  have HB0 := Lib.hid hb0; have HK0 := Lib.hid hk0
                  clear hb0 hk0 H1 H2 H3 H4
                  go_enter Tryz.func82, Tryz.ntmps82
                  go_wp2_with fail
                  refine (GA.out _ (HS.out.old HK0.out)).mono ?_
                  rintro e w2 ⟨rfl, k2⟩
                  have HK2 := Lib.hid (HK0.out.trans k2)
                  have hb2 := HB0.out.kp k2 (fun x => x)
                  have c7 := hb2.cell 7 rfl; have c8 := hb2.cell 8 rfl; have c9 := hb2.cell 9 rfl
                  clear k2 hb2 HB0 GA
                  by_cases ha : ad = 0
                  · subst ha
                    by_cases hr : rt = 0
                    · subst hr
                      have HE : Hid (chk ⟨rk, bk, lv, qu, pk, bt, sh, mt, 0, bu, fl⟩ = 27) := by show _ = _; rw [HE4.out]; rfl
                      go_wp2
                      go_ret
                      exact ⟨by rw [HE.out]; rfl, HK2.out⟩
                    · have hrb : ((rt : Int) == 0) = false := by rw [beq_eq_false_iff_ne]; omega
                      by_cases hm : bu < mt
                      · have HE : Hid (chk ⟨rk, bk, lv, qu, pk, bt, sh, mt, rt, bu, fl⟩ = 28) := by show _ = _; rw [HE4.out, if_neg (by simp), if_neg hr, if_pos hm]
                        have hmi : (bu : Int) < mt := by omega
                        clear hr hm
                        go_wp2
                        go_ret
                        exact ⟨by rw [HE.out]; rfl, HK2.out⟩
                      · have HE : Hid (chk ⟨rk, bk, lv, qu, pk, bt, sh, mt, rt, bu, fl⟩ = 0) := by show _ = _; rw [HE4.out, if_neg (by simp), if_neg hr, if_neg hm]
                        have hmi : ¬ (bu : Int) < mt := by omega
                        clear hr hm
                        go_wp2
                        go_ret
                        exact ⟨by rw [HE.out]; rfl, HK2.out⟩
                  · have HE : Hid (chk ⟨rk, bk, lv, qu, pk, bt, sh, mt, rt, bu, fl⟩ = ad) := by show _ = _; rw [HE4.out, if_pos ha]
                    have hab : (ad != 0) = true := by simpa using ha
                    clear ha
                    go_wp2
                    go_ret
                    exact ⟨by rw [HE.out]; rfl, HK2.out⟩

theorem infoWt : (Tryz.prog.info? 230).map (·.size) = some 2 := by kernel_rfl
set_option maxRecDepth 100000 in
set_option maxHeartbeats 1000000 in
theorem gPlus (p : Int) (b n : Nat) (hp : 0 ≤ p ∧ p ≤ 1000000) (hb : b + n < 18446744073709551616) (w : World) : Calls Tryz.prog 127 #[.agg #[.int .i64 p, .int .u64 b], .int .u64 n] w fun e w' => e = .returned (.agg #[.int .i64 (p + 1), .int .u64 ((b : Int) + n)]) ∧ Kp none' w w' := by
  have hw : IntKind.u64.wrap ((b : Int) + n) = (b : Int) + n := by rw [IntKind.wrap_u64]; omega
  go_enter Tryz.func127, Tryz.ntmps127
  go_wp2
  have hb1 := Blk.new (w.alloc (.cells #[.int .i64 p, .int .u64 b] 230)) [.int .i64 (p + 1), .int .u64 ((b : Int) + n)] 230
  rw [World.size_alloc] at hb1
  exact ret_row (by exact rfl) hb1 _ Tryz.underlying230 rfl infoWt (by exact rfl) ⟨rfl, ((Kp.refl none' w).alloc _).alloc _⟩
set_option maxRecDepth 100000 in
set_option maxHeartbeats 1000000 in
theorem gLess (p : Int) (b n : Nat) (hp : 1 ≤ p ∧ p ≤ 1000000) (hb : n ≤ b) (hb2 : b < 18446744073709551616) (w : World) : Calls Tryz.prog 106 #[.agg #[.int .i64 p, .int .u64 b], .int .u64 n] w fun e w' => e = .returned (.agg #[.int .i64 (p - 1), .int .u64 ((b : Int) - n)]) ∧ Kp none' w w' := by
  have hw : IntKind.u64.wrap ((b : Int) - n) = (b : Int) - n := by rw [IntKind.wrap_u64]; omega
  go_enter Tryz.func106, Tryz.ntmps106
  go_wp2
  have hb1 := Blk.new (w.alloc (.cells #[.int .i64 p, .int .u64 b] 230)) [.int .i64 (p - 1), .int .u64 ((b : Int) - n)] 230
  rw [World.size_alloc] at hb1
  exact ret_row (by exact rfl) hb1 _ Tryz.underlying230 rfl infoWt (by exact rfl) ⟨rfl, ((Kp.refl none' w).alloc _).alloc _⟩
theorem shN_zero (s : Nat) : shN 0 s = 0 := by simp [shN]
theorem shN_nought (a : Nat) (h : a < 18446744073709551616) : shN a 0 = a := by simp [shN, h]
theorem shN_fit {a s : Nat} (L : Nat) (h1 : a < 2 ^ L) (h2 : L + s ≤ 64) : shN a s = a * 2 ^ s := by
  unfold shN
  rw [if_pos]
  have h3 : a * 2 ^ s < 2 ^ L * 2 ^ s := Nat.mul_lt_mul_of_pos_right h1 (Nat.pos_of_ne_zero (by simp))
  rw [← Nat.pow_add] at h3
  have h4 : 2 ^ (L + s) ≤ 2 ^ 64 := Nat.pow_le_pow_right (by decide) h2
  have h5 : (2 : Nat) ^ 64 = 18446744073709551616 := by decide
  omega
theorem shN_over {a s : Nat} (L : Nat) (h0 : 0 < L) (h1 : 2 ^ (L - 1) ≤ a) (h2 : 64 < L + s) : shN a s = 18446744073709551615 := by
  unfold shN
  rw [if_neg]
  have h3 : 2 ^ (L - 1) * 2 ^ s ≤ a * 2 ^ s := Nat.mul_le_mul_right _ h1
  rw [← Nat.pow_add] at h3
  have h4 : (2 : Nat) ^ 64 ≤ 2 ^ (L - 1 + s) := Nat.pow_le_pow_right (by decide) (by omega)
  have h5 : (2 : Nat) ^ 64 = 18446744073709551616 := by decide
  omega
theorem bl_zero (f : Nat) : Lib.bitLenAux f 0 = 0 := by cases f <;> simp [Lib.bitLenAux]
theorem bl_spec : ∀ (f x : Nat), x < 2 ^ f → 0 < x → 0 < Lib.bitLenAux f x ∧ Lib.bitLenAux f x ≤ f ∧ 2 ^ (Lib.bitLenAux f x - 1) ≤ x ∧ x < 2 ^ Lib.bitLenAux f x
  | 0, x, h, h0 => by simp at h; omega
  | f + 1, x, h, h0 => by
    have e : Lib.bitLenAux (f + 1) x = 1 + Lib.bitLenAux f (x / 2) := by
      show (if x = 0 then 0 else 1 + Lib.bitLenAux f (x / 2)) = _
      rw [if_neg (by omega)]
    rw [e]
    rw [Nat.pow_succ] at h
    by_cases h1 : x / 2 = 0
    · rw [h1, bl_zero]
      refine ⟨by omega, by omega, ?_, ?_⟩
      · show 2 ^ (1 + 0 - 1) ≤ x; simp; omega
      · show x < 2 ^ (1 + 0); simp; omega
    · obtain ⟨a1, a2, a3, a4⟩ := bl_spec f (x / 2) (by omega) (by omega)
      generalize Lib.bitLenAux f (x / 2) = L at *
      obtain ⟨K, rfl⟩ : ∃ K, L = K + 1 := ⟨L - 1, by omega⟩
      have p1 : 2 ^ (K + 1) = 2 ^ K * 2 := Nat.pow_succ ..
      have p2 : 2 ^ (1 + (K + 1)) = 2 ^ K * 2 * 2 := by rw [show 1 + (K + 1) = K + 1 + 1 by omega, Nat.pow_succ, Nat.pow_succ]
      rw [Nat.add_sub_cancel] at a3
      refine ⟨by omega, by omega, ?_, ?_⟩
      · rw [show 1 + (K + 1) - 1 = K + 1 by omega]; omega
      · omega
set_option maxRecDepth 100000 in
set_option maxHeartbeats 1000000 in
theorem sShift (a s : Nat) (ha : a < 18446744073709551616) (hs : s ≤ 16) (w : World) : Calls Tryz.prog 126 #[.int .u64 a, .int .i64 s] w fun e w' => e = .returned (.int .u64 (shN a s)) ∧ w = w' := by
  by_cases h0 : a = 0
  · subst h0
    rw [shN_zero]
    go_enter Tryz.func126, Tryz.ntmps126
    go_wp2
    go_ret
    exact ⟨rfl, rfl⟩
  · have h0' : ((a : Int) == 0) = false := by rw [beq_eq_false_iff_ne]; omega
    by_cases h1 : s = 0
    · subst h1
      rw [shN_nought a ha]
      go_enter Tryz.func126, Tryz.ntmps126
      go_wp2
      go_ret
      exact ⟨rfl, rfl⟩
    · have h1' : ¬ (s : Int) ≤ 0 := by omega
      have h2' : ¬ (64 : Int) ≤ s := by omega
      obtain ⟨b1, b2, b3, b4⟩ := bl_spec 64 a (by have : (2 : Nat) ^ 64 = 18446744073709551616 := (by decide); omega) (by omega)
      have hb := Tryz.bits_Len64 (a : Int) w (by omega) (by omega)
      rw [Int.toNat_natCast] at hb
      unfold Lib.bitLen at hb
      obtain ⟨L, hL⟩ : ∃ L, Lib.bitLenAux 64 a = L := ⟨_, rfl⟩
      rw [hL] at b1 b2 b3 b4 hb
      have HB := Lib.hid hb
      by_cases h3 : L + s ≤ 64
      · have h3' : ¬ (64 : Int) < (L : Int) + s := by omega
        have HS := Lib.hid (shN_fit L b4 h3)
        have HP : Hid (IntKind.u64.wrap ((a : Int) * 2 ^ s) = ((a * 2 ^ s : Nat) : Int)) := by
          show _ = _
          have h4 : a * 2 ^ s < 2 ^ L * 2 ^ s := Nat.mul_lt_mul_of_pos_right b4 (Nat.pos_of_ne_zero (by simp))
          rw [← Nat.pow_add] at h4
          have h5 : 2 ^ (L + s) ≤ 2 ^ 64 := Nat.pow_le_pow_right (by decide) h3
          have h6 : (2 : Nat) ^ 64 = 18446744073709551616 := by decide
          have h7 : ((a * 2 ^ s : Nat) : Int) = (a : Int) * 2 ^ s := by simp
          rw [← h7, IntKind.wrap_u64]; omega
        clear hb b3 b4 hL
        go_enter Tryz.func126, Tryz.ntmps126
        go_wp2_with (go_at_call 141; refine HB.out.mono ?_; rintro e w' ⟨rfl, rfl⟩)
        go_ret
        exact ⟨by rw [HS.out, ← HP.out]; rfl, rfl⟩
      · have h3' : (64 : Int) < (L : Int) + s := by omega
        have HS := Lib.hid (shN_over (s := s) L b1 b3 (by omega))
        clear hb b3 b4 hL
        go_enter Tryz.func126, Tryz.ntmps126
        go_wp2_with (go_at_call 141; refine HB.out.mono ?_; rintro e w' ⟨rfl, rfl⟩)
        go_ret
        exact ⟨by rw [HS.out]; rfl, rfl⟩
end Go.Proofs.YtfckgddodjmbdaaGreatDoor
