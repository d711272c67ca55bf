/- Heaps (layer 9): Peek, Pop. -/
import Derived.Test.YtfckgddodjmbdaaGreatDoorMDeviceNobodyF3
import Derived.Test.YtfckgddodjmbdaaGreatDoorMDeviceNobodyF1
import Derived.WalkKit
import Derived.Laws.MakeOwn
namespace Go.Proofs.YtfckgddodjmbdaaGreatDoor
set_option linter.unusedVariables false
set_option linter.unusedSimpArgs false
open Go Go.RowKit Go.Shelf
theorem infoPk : (Tryz.prog.info? 65).map (·.size) = some 3 := by kernel_rfl
theorem ret_mid {P : Program} {f : Func} {s u1 u2 : Tmp} {ty : TypeId} (hf : f.results = #[.tmp u1, .cell s ty, .tmp u2]) {R : Ending → World → Prop} {W : World} {g : Nat} {cs : List Value} {t : TypeId} {T : Array Value} (hb : Blk W g cs t) (d : TypeDesc) (hu : P.underlying ty = some d) (hd : (match d with | .struct _ | .array _ _ => true | _ => false) = true)
    (hi : (P.info? ty).map (·.size) = some cs.length) (h2 : T.getD s undef = .pointer (some ⟨g, 0, none⟩)) (hR : R (.returned (.tuple #[T.getD u1 undef, .agg cs.toArray, T.getD u2 undef])) W) : bodyPost P f R Exit.ret { tmps := T, defers := [] } W := by
  refine bodyPost_ret (v := .tuple #[T.getD u1 undef, .agg cs.toArray, T.getD u2 undef]) ?_ rfl hR
  have h2' : T[s]?.getD undef = .pointer (some ⟨g, 0, none⟩) := by simpa using h2
  simp [results, hf, h2', asAddr, run_loadVar_row W g t ty cs.toArray (0, 0) d hb.is hu hd (by rw [List.size_toArray]; exact hi)]
set_option maxRecDepth 100000 in
set_option maxHeartbeats 2000000 in
theorem hPeekNone (w : World) (B hb : Nat) (vc : Value) (came room : Nat) (h : HMem w B hb vc came room []) :
    Calls Tryz.prog 186 #[.pointer (some ⟨hb, 0, none⟩)] w fun e w' => e = .returned (.tuple #[.int .u64 0, .agg (enP zPk).toArray, .bool false]) ∧ Kp none' w w' := by
  have HL := Lib.hid (fun W (k : Kp none' w W) => hLen W B hb vc came room [] (h.old k))
  clear h
  show Calls _ _ _ _ fun e w' => e = .returned (.tuple #[.int .u64 0, .agg #[.int .u32 0, .int .u32 0, .int .u64 0], .bool false]) ∧ Kp none' w w'
  go_enter Tryz.func186, Tryz.ntmps186
  go_wp2_with fail
  refine (HL.out _ (((Kp.refl none' w).alloc _).alloc _)).mono ?_
  rintro e w2 ⟨rfl, rfl⟩
  go_wp2_with fail
  go_region
  all_goals
    go_wp2_with fail
    exact ret_mid (by exact rfl) (((Blk.new w [.int .u32 0, .int .u32 0, .int .u64 0] 65).alloc _).drew) _ Tryz.underlying65 rfl infoPk (by exact rfl) ⟨rfl, (((Kp.refl none' w).alloc _).alloc _).drew⟩
set_option maxRecDepth 100000 in
set_option maxHeartbeats 2000000 in
theorem hPeekSome (w : World) (B hb : Nat) (vc : Value) (came room : Nat) (l : List (En Pk)) (h : HMem w B hb vc came room l) (h0 : 0 < l.length) (h1 : l.length ≤ 100000) :
    Calls Tryz.prog 186 #[.pointer (some ⟨hb, 0, none⟩)] w fun e w' => e = .returned (.tuple #[.int .u64 (atE zEn l 0).rank, .agg (enP (atE zEn l 0).x).toArray, .bool true]) ∧ Kp none' w w' := by
  have HL := Lib.hid (fun W (k : Kp none' w W) => hLen W B hb vc came room l (h.old k))
  obtain ⟨g, cap, rfl, hg⟩ := own_shape1 h.row h0
  rw [atE_get h0]
  have hce : ∀ k u, (enE l[0])[k]? = some u → w.cell? ⟨g, k, none⟩ = some u := fun k u hu => by
    have := own_cell h.row (i := 0 * 5 + k) (u := u) (by
      rw [flat_get enE 5 enE_len _ _ _ (by have := (List.getElem?_eq_some_iff.1 hu).1; simpa [enE, enP] using this), List.getElem?_eq_getElem h0]; exact hu)
    simpa using this
  have c0 := h.top.cell 0 rfl
  have hbl := h.top.lt
  have hgl := (own_block h.row rfl).2
  generalize l[0] = e0 at *
  obtain ⟨r, cm, ⟨fl, id, ln⟩⟩ := e0
  have e0 := hce 0 _ rfl
  have e2 := hce 2 _ rfl
  have e3 := hce 3 _ rfl
  have e4 := hce 4 _ rfl
  have hn0 : ((l.length : Int) == 0) = false := by rw [beq_eq_false_iff_ne]; omega
  have hn1 : (0 : Int) < l.length := by omega
  clear h hce
  generalize l.length = n at *
  show Calls _ _ _ _ fun e w' => e = .returned (.tuple #[.int .u64 (r : Int), .agg #[.int .u32 (fl : Int), .int .u32 (id : Int), .int .u64 (ln : Int)], .bool true]) ∧ Kp none' w w'
  go_enter Tryz.func186, Tryz.ntmps186
  go_wp2_with fail
  refine (HL.out _ (((Kp.refl none' w).alloc _).alloc _)).mono ?_
  rintro e w2 ⟨rfl, rfl⟩
  go_wp2_with fail
  go_region
  all_goals
    go_wp2_with fail
    exact ret_mid (by exact rfl) (((Blk.new w [.int .u32 (fl : Int), .int .u32 (id : Int), .int .u64 (ln : Int)] 65).alloc _).drew) _ Tryz.underlying65 rfl infoPk (by exact rfl) ⟨rfl, (((Kp.refl none' w).alloc _).alloc _).drew⟩
theorem own_cutS {w : World} {base : Nat} {e : TypeId} {size n g cap : Nat} {xs : List Value} (h : w.ownsRow base e size (.slice (some ⟨g, 0, none⟩) n cap) n xs) (k : Nat) (hk : k ≤ n) : w.ownsRow base e size (.slice (some ⟨g, 0, none⟩) k cap) k (xs.take (k * size)) := by
  have hks : k * size ≤ n * size := Nat.mul_le_mul_right _ hk
  refine ⟨by rw [List.length_take, h.1]; omega, ?_⟩
  rcases h.2 with ⟨h, _⟩ | ⟨g', cap', cur, hv, hg, hh, h1, h2, h3, h4⟩
  · cases h
  · cases hv
    refine .inr ⟨g, cap, cur, rfl, hg, hh, by omega, h2, h3, ?_⟩
    rw [← h4, List.take_take, Nat.min_eq_left hks]
theorem own_cap {w : World} {base : Nat} {e : TypeId} {size n g cap : Nat} {xs : List Value} (h : w.ownsRow base e size (.slice (some ⟨g, 0, none⟩) n cap) n xs) : n ≤ cap ∧ cap ≤ maxLen := by
  rcases h.2 with ⟨h, _⟩ | ⟨g', cap', cur, hv, hg, hh, h1, h2, h3, h4⟩
  · cases h
  · cases hv; exact ⟨h1, h2⟩
theorem flat_take {α : Type} (enc : α → List Value) (size : Nat) (hl : ∀ a, (enc a).length = size) (l : List α) (k : Nat) (hk : k ≤ l.length) : (l.flatMap enc).take (k * size) = (l.take k).flatMap enc := by
  have e : l = l.take k ++ l.drop k := (List.take_append_drop k l).symm
  have hlen : ((l.take k).flatMap enc).length = k * size := by rw [flat_len enc size hl]; rw [List.length_take]; congr 1; omega
  conv => lhs; rw [e, List.flatMap_append]
  rw [← hlen, List.take_left']
  rfl
set_option maxRecDepth 100000 in
set_option maxHeartbeats 2000000 in
theorem hPop (w : World) (B hb : Nat) (vc : Value) (came room : Nat) (l : List (En Pk)) (h : HMem w B hb vc came room l) (h0 : 0 < l.length) (h1 : l.length ≤ 100000) (hH : HeapOk zEn l) :
    Calls Tryz.prog 187 #[.pointer (some ⟨hb, 0, none⟩)] w fun e w' => e = .returned (.tuple #[.int .u64 (atE zEn l 0).rank, .agg (enP (atE zEn l 0).x).toArray, .bool true]) ∧
      ∃ vc' l', HMem w' B hb vc' came room l' ∧ HeapOk zEn l' ∧ (atE zEn l 0 :: l').Perm l ∧ Kp (HF hb vc) w w' ∧ vc'.ownBlock = vc.ownBlock := by
  have HP := Lib.hid (fun W (k : Kp none' w W) => hPeekSome W B hb vc came room l (h.old k) h0 h1)
  obtain ⟨g, cap, rfl, hg⟩ := own_shape1 h.row h0
  obtain ⟨n, hn⟩ : ∃ n, l.length = n := ⟨_, rfl⟩
  rw [hn] at h0 h1
  obtain ⟨q, hq⟩ : ∃ q, n - 1 = q := ⟨_, rfl⟩
  have hqi : (n : Int) - 1 = (q : Int) := by omega
  have hcap := own_cap h.row
  rw [hn] at hcap
  have hqc : (q : Int) ≤ cap := by omega
  have hqn : (q : Int) < n := by omega
  have hn1 : (0 : Int) < n := by omega
  have hne : g ≠ hb := fun e => own_ne_blk h.row h.top (by decide) (by rw [e]; rfl)
  have HM := Lib.hid h
  have HN := Lib.hid hn
  have HH := Lib.hid hH
  clear h hH hcap
  rw [hn] at HM
  obtain ⟨e0, he0⟩ : ∃ e0, atE zEn l 0 = e0 := ⟨_, rfl⟩
  rw [he0] at HP
  rw [he0]
  have HE0 := Lib.hid he0
  clear he0
  obtain ⟨r, cm, ⟨fl, id, ln⟩⟩ := e0
  go_enter Tryz.func187, Tryz.ntmps187
  go_wp2_with fail
  refine (HP.out _ ((Kp.refl none' w).alloc _)).mono ?_
  rintro e w2 ⟨rfl, hk2⟩
  have HX2 := Lib.hid ((Blk.new w [.int .u32 0, .int .u32 0, .int .u64 0] 65).kp hk2 (fun x => x))
  have HK2 := Lib.hid (((Kp.refl none' w).alloc (.cells #[.int .u32 0, .int .u32 0, .int .u64 0] 65)).trans hk2)
  have HM2 := Lib.hid (HM.out.old HK2.out)
  have hsz2 : w.heap.size < w2.heap.size := HX2.out.lt
  have c2 := HM2.out.top.cell 0 rfl
  have hbl2 := HM2.out.top.lt
  clear hk2
  simp only [enP]
  go_wp2_with fail
  have HK3 := Lib.hid (HK2.out.alloc (.cells #[.int .u32 (fl : Int), .int .u32 (id : Int), .int .u64 (ln : Int)] 65))
  have HM3 := Lib.hid (HM2.out.old ((Kp.refl none' w2).alloc (.cells #[.int .u32 (fl : Int), .int .u32 (id : Int), .int .u64 (ln : Int)] 65)))
  have HX3 := Lib.hid (HX2.out.alloc (.cells #[.int .u32 (fl : Int), .int .u32 (id : Int), .int .u64 (ln : Int)] 65))
  have HY3 := Lib.hid (Blk.new w2 [.int .u32 (fl : Int), .int .u32 (id : Int), .int .u64 (ln : Int)] 65)
  obtain ⟨y, hy⟩ : ∃ y, w2.heap.size = y := ⟨_, rfl⟩
  rw [hy] at HY3 hsz2 ⊢
  have hyw : w.heap.size < y := hsz2
  generalize w2.alloc (.cells #[.int .u32 (fl : Int), .int .u32 (id : Int), .int .u64 (ln : Int)] 65) = W3 at *
  have HRow3 : Hid (W3.ownsRow B 355 5 (.slice (some ⟨g, 0, none⟩) n cap) n (l.flatMap enE)) := by have := HM3.out.row; rw [HN.out] at this; exact this
  clear c2 hbl2
  have c3 := HM3.out.top.cell 0 rfl
  have L1 := Lib.hid (ent_load HRow3.out q (by omega))
  refine wp_region_kept2 [] [0, 1, 2, 3, 4, 5, 6, 7, 8, 9, 10] 11 (by kernel_rfl) (by kernel_rfl) (fun c a d u w h => by cases d <;> exact h) ?_
  simp only [pick, List.getElem?_cons_succ, List.getElem?_cons_zero, List.drop_succ_cons, List.drop_zero]
  show wpKL _ _ _ _ _ _
  repeat (first
    | (refine wpKL_op (by exact rfl) (load_at rfl rfl L1.out) ?_; simp only [Act.put, List.setIfInBounds_toArray, List.set_cons_succ, List.set_cons_zero])
    | (refine wpKL_op (by exact rfl) (by as_aux_lemma => intro W hK; have e0 := hK.cell c3 (fun x => x); go_simp; exact rfl) ?_; simp only [Act.put, List.setIfInBounds_toArray, List.set_cons_succ, List.set_cons_zero])
    | (refine wpKL_off (by exact rfl) ?_; simp only [Act.put, List.setIfInBounds_toArray, List.set_cons_succ, List.set_cons_zero]))
  show ∀ W, _ → wpList _ _ _ _ _ _
  intro W4 hK4
  have HO4 := Lib.hid (own_kp HRow3.out hK4 (fun _ _ x => x))
  have HB4 := Lib.hid (HM3.out.top.kp hK4 (fun x => x))
  have HX4 := Lib.hid (HX3.out.kp hK4 (fun x => x))
  have HY4 := Lib.hid (HY3.out.kp hK4 (fun x => x))
  have HK4 : Hid (Kp none' w W4) := Lib.hid (HK3.out.trans hK4)
  clear hK4 c3
  obtain ⟨a, ha⟩ : ∃ a, l[q]'(by omega) = a := ⟨_, rfl⟩
  rw [ha]
  have HA := Lib.hid ha
  clear ha
  go_wp2_with (first
    | (refine wp_set_ent rfl 355 (.tmp 33) (.tmp 32) rfl enE 5 enE_len l HO4.out 0 (by omega) a rfl rfl rfl (infoEn a) rfl ?_
       intro W5 ho5 hk5
       have HO5 := Lib.hid ho5
       have HB5 := Lib.hid (HB4.out.kp hk5 (fun e => hne e.symm))
       have HX5 := Lib.hid (HX4.out.kp hk5 (fun e => own_ne_blk HO4.out HX4.out (by decide) (by rw [e]; rfl)))
       have HY5 := Lib.hid (HY4.out.kp hk5 (fun e => own_ne_blk HO4.out HY4.out (by decide) (by rw [e]; rfl)))
       have HK5 : Hid (Kp (fun b => b = g) w W5) := Lib.hid ((HK4.out.mono (fun _ _ x => x.elim)).trans hk5)
       have c5 := HB5.out.cell 0 rfl
       clear ho5 hk5)
    | (refine wp_set_ent rfl 355 (.tmp 40) (.tmp 39) rfl enE 5 enE_len (l.set 0 a) HO5.out q (by rw [List.length_set]; omega) zEn rfl rfl rfl (infoEn zEn) rfl ?_
       intro W6 ho6 hk6
       have HO6 := Lib.hid ho6
       have HB6 := Lib.hid (HB5.out.kp hk6 (fun e => hne e.symm))
       have HX6 := Lib.hid (HX5.out.kp hk6 (fun e => own_ne_blk HO5.out HX5.out (by decide) (by rw [e]; rfl)))
       have HY6 := Lib.hid (HY5.out.kp hk6 (fun e => own_ne_blk HO5.out HY5.out (by decide) (by rw [e]; rfl)))
       have HK6 : Hid (Kp (fun b => b = g) w W6) := Lib.hid (HK5.out.trans hk6)
       have c6 := HB6.out.cell 0 rfl
       have fz6 := HB6.out.fz 0
       clear ho6 hk6 c5))
  have HD : Hid (DownOk zEn ((l.set 0 a).take q) 0 ∧ ((⟨r, cm, ⟨fl, id, ln⟩⟩ : En Pk) :: (l.set 0 a).take q).Perm l) := by
    show _ ∧ _
    by_cases hn2 : 1 < l.length
    · have hd := down_first HH.out hn2
      have e1 : atE zEn l (l.length - 1) = a := by
        have e2 : l.length - 1 = q := by omega
        rw [e2, atE_get (by omega)]; exact HA.out
      rw [e1, HE0.out] at hd
      have e2 : l.length - 1 = q := by omega
      rw [e2] at hd
      exact hd
    · have hq0 : q = 0 := by omega
      subst hq0
      rw [List.take_zero]
      refine ⟨⟨fun j hj => by simp at hj, fun j hj => by simp at hj⟩, ?_⟩
      obtain ⟨b, hb1⟩ := List.length_eq_one_iff.1 (show l.length = 1 by omega)
      have h3 := HE0.out
      rw [hb1] at h3 ⊢
      have h4 : b = _ := h3
      rw [h4]
  have HS : Hid (((l.set 0 a).set q zEn).take q = (l.set 0 a).take q) := by
    show _ = _
    apply List.ext_getElem?
    intro j
    by_cases hj : j < q
    · rw [List.getElem?_take_of_lt hj, List.getElem?_take_of_lt hj, List.getElem?_set_ne (by omega)]
    · rw [List.getElem?_eq_none (by rw [List.length_take]; omega), List.getElem?_eq_none (by rw [List.length_take]; omega)]
  have HO7 : Hid ((W6.setCell ⟨hb, 0, none⟩ (.slice (some ⟨g, 0, none⟩) q cap)).ownsRow B 355 5 (.slice (some ⟨g, 0, none⟩) q cap) q (((l.set 0 a).take q).flatMap enE)) := by
    show World.ownsRow _ _ _ _ _ _ _
    have h2 := own_cutS HO6.out q (by omega)
    rw [flat_take enE 5 enE_len _ _ (by simp; omega), HS.out] at h2
    exact own_setNe h2 (fun b hbb e => by cases hbb; exact hne e) _
  have HB7 := Lib.hid (HB6.out.set 0 (.slice (some ⟨g, 0, none⟩) q cap))
  have HX7 := Lib.hid (HX6.out.setNe (a := ⟨hb, 0, none⟩) (blk_ne HX6.out HB6.out (by decide)) (.slice (some ⟨g, 0, none⟩) q cap))
  have HY7 := Lib.hid (HY6.out.setNe (a := ⟨hb, 0, none⟩) (blk_ne HY6.out HB6.out (by decide)) (.slice (some ⟨g, 0, none⟩) q cap))
  have HK7 : Hid (Kp (HF hb (.slice (some ⟨g, 0, none⟩) n cap)) w (W6.setCell ⟨hb, 0, none⟩ (.slice (some ⟨g, 0, none⟩) q cap))) := Lib.hid ((HK6.out.mono (fun b _ e => .inr (by rw [e]; rfl))).set (.inl (.inl rfl)) _)
  have hlt : ((l.set 0 a).take q).length = q := by rw [List.length_take, List.length_set]; omega
  refine (hDown zEn (n := q) _ hlt (by omega) 0 HD.out.1 (by omega) _ HB7.out HO7.out).mono ?_
  rintro e w8 ⟨rfl, l', g1, g2, g3, g4⟩
  have HB8 := Lib.hid (HB7.out.kp g4 (fun e => hne e.symm))
  have HX8 := Lib.hid (HX7.out.kp g4 (fun e => own_ne_blk HO7.out HX7.out (by decide) (by rw [e]; rfl)))
  have HY8 := Lib.hid (HY7.out.kp g4 (fun e => own_ne_blk HO7.out HY7.out (by decide) (by rw [e]; rfl)))
  have HK8 : Hid (Kp (HF hb (.slice (some ⟨g, 0, none⟩) n cap)) w w8) := Lib.hid (HK7.out.trans (g4.mono (fun b _ e => .inr (by rw [e]; rfl))))
  have HH8 := Lib.hid g1
  have HP8 : Hid (((⟨r, cm, ⟨fl, id, ln⟩⟩ : En Pk) :: l').Perm l) := Lib.hid ((List.Perm.cons _ g2).trans HD.out.2)
  have HL8 : Hid (l'.length = q) := Lib.hid (by rw [g2.length_eq, hlt])
  have HO8 := Lib.hid g3
  have y0 := HY8.out.cell 0 rfl
  have y1 := HY8.out.cell 1 rfl
  have y2 := HY8.out.cell 2 rfl
  have x0 := HX8.out.cell 0 rfl
  have x1 := HX8.out.cell 1 rfl
  have x2 := HX8.out.cell 2 rfl
  have xf := fun j => HX8.out.fz j
  have hxy : w.heap.size ≠ y := by omega
  clear g1 g2 g3 g4 hlt c6 fz6
  go_wp2_with fail
  go_region
  all_goals
    go_wp2_with fail
    have hkp9 : Kp (fun b => b = w.heap.size) w8 (((w8.setCell ⟨w.heap.size, 0, none⟩ (.int .u32 (fl : Int))).setCell ⟨w.heap.size, 1, none⟩ (.int .u32 (id : Int))).setCell ⟨w.heap.size, 2, none⟩ (.int .u64 (ln : Int))).drew := ((((Kp.refl (fun b => b = w.heap.size) w8).set (p := ⟨w.heap.size, 0, none⟩) (.inl rfl) _).set (p := ⟨w.heap.size, 1, none⟩) (.inl rfl) _).set (p := ⟨w.heap.size, 2, none⟩) (.inl rfl) _).drew
    have hwg : g ≠ w.heap.size := fun e => own_ne_blk HO8.out HX8.out (by decide) (by rw [e]; rfl)
    refine ret_mid (by exact rfl) ((((HX8.out.set 0 (.int .u32 (fl : Int))).set 1 (.int .u32 (id : Int))).set 2 (.int .u64 (ln : Int))).drew) _ Tryz.underlying65 rfl infoPk (by exact rfl) ⟨rfl, .slice (some ⟨g, 0, none⟩) q cap, l', ⟨?_, ?_⟩, HH8.out, HP8.out, ?_, rfl⟩
    · exact HB8.out.kp hkp9 (blk_ne HB8.out HX8.out (by decide))
    · rw [HL8.out]; exact own_kp HO8.out hkp9 (fun b hb2 => by cases hb2; exact hwg)
    · exact HK8.out.then hkp9 (fun b hb2 e => by omega)
end Go.Proofs.YtfckgddodjmbdaaGreatDoor

namespace Go.Proofs.YtfckgddodjmbdaaGreatDoor
set_option linter.unusedVariables false
set_option linter.unusedSimpArgs false
open Go.RowKit
def Nw (w : World) (F F' : Nat → Prop) : Prop := ∀ b, F' b → F b ∨ w.heap.size ≤ b
theorem Nw.refl (w : World) (F : Nat → Prop) : Nw w F F := fun _ h => .inl h
theorem Nw.trans {w w' : World} {F F' F'' : Nat → Prop} (h : Nw w F F') (h' : Nw w' F' F'') (hs : w.heap.size ≤ w'.heap.size) : Nw w F F'' := fun b hb => by
  rcases h' b hb with h1 | h1
  · exact h b h1
  · exact .inr (by omega)
theorem Nw.apart {w : World} {F F' G : Nat → Prop} (h : Nw w F F') (hG : ∀ b, G b → b < w.heap.size) (hd : ∀ b, G b → ¬ F b) : ∀ b, G b → ¬ F' b := fun b hg hf => by
  rcases h b hf with h1 | h1
  · exact hd b hg h1
  · have := hG b hg; omega
theorem Kp.steps {w w1 w2 : World} {F F' : Nat → Prop} (k : Kp F w w1) (hn : Nw w F F') (k' : Kp F' w1 w2) : Kp F w w2 :=
  k.then k' (fun b hb hf => by
    rcases hn b hf with h | h
    · exact h
    · omega)
theorem own_grownF {w w1 : World} {base : Nat} {e : TypeId} {size n : Nat} {v : Value} {row : Option Nat} {xs : List Value} (h : w.ownsRow base e size v n xs) (hg : w.grownBy w1 row) (hne : ∀ b, v.ownBlock = some b → row ≠ some b) : w1.ownsRow base e size v n xs := by
  refine ⟨h.1, ?_⟩
  rcases h.2 with ⟨rfl, rfl⟩ | ⟨g, cap, cur, rfl, hb, hh, r⟩
  · exact .inl ⟨rfl, rfl⟩
  · exact .inr ⟨g, cap, cur, rfl, hb, (hg.block g (Array.getElem?_eq_some_iff.1 hh).1 (fun e => hne g rfl e.symm)).trans hh, r⟩
end Go.Proofs.YtfckgddodjmbdaaGreatDoor

namespace Go.Proofs.YtfckgddodjmbdaaGreatDoor
set_option linter.unusedVariables false
set_option linter.unusedSimpArgs false
open Go Go.RowKit Go.Shelf
def Hp (w : World) (F : Nat → Prop) (hb room n : Nat) (S : List (En Pk)) : Prop := ∃ vc l, F = HF hb vc ∧ HMem w 0 hb vc n room l ∧ HpR zEn n l S ∧ S.length ≤ room ∧ room ≤ 4096
theorem Hp.kp {T : Nat → Prop} {w w' : World} {F : Nat → Prop} {hb room n : Nat} {S : List (En Pk)} (h : Hp w F hb room n S) (k : Kp T w w') (hT : ∀ b, F b → ¬ T b) : Hp w' F hb room n S := by
  obtain ⟨vc, l, rfl, hm, hr⟩ := h
  exact ⟨vc, l, rfl, hm.kp k hT, hr⟩
theorem Hp.old {w w' : World} {F : Nat → Prop} {hb room n : Nat} {S : List (En Pk)} (h : Hp w F hb room n S) (k : Kp none' w w') : Hp w' F hb room n S := h.kp k (fun _ _ x => x)
theorem Hp.lt {w : World} {F : Nat → Prop} {hb room n : Nat} {S : List (En Pk)} (h : Hp w F hb room n S) {b : Nat} (hF : F b) : b < w.heap.size := by
  obtain ⟨vc, l, rfl, hm, hr⟩ := h
  exact hm.lt hF
theorem hpNew (room : Nat) (h1 : 1 ≤ room) (h2 : room ≤ 4096) (w : World) : Calls Tryz.prog 110 #[.int .i64 room] w fun e w' => ∃ hb F, e = .returned (.tuple #[.pointer (some ⟨hb, 0, none⟩), .int .i64 0]) ∧ Hp w' F hb room 0 [] ∧ (∀ b, F b → w.heap.size ≤ b) ∧ Kp none' w w' := by
  refine (hNew room h1 h2 w).mono ?_
  rintro e w' ⟨hb, he, hm, hl, hk⟩
  refine ⟨hb, _, he, ⟨.slice none 0 0, [], rfl, ⟨hm.top, rfl, .inl ⟨rfl, rfl⟩⟩, HpR.nil _ _, Nat.zero_le _, h2⟩, fun b h => ?_, hk⟩
  rcases h with rfl | h
  · exact hl
  · simp [Value.ownBlock] at h
theorem hpPush {w : World} {F : Nat → Prop} {hb room n : Nat} {S : List (En Pk)} (h : Hp w F hb room n S) (hl : S.length < room) (hc : n < 9223372036854775807) (r fl id ln : Nat) :
    Calls Tryz.prog 188 #[.pointer (some ⟨hb, 0, none⟩), .int .u64 r, .agg #[.int .u32 fl, .int .u32 id, .int .u64 ln]] w fun e w' => e = .returned (.bool true) ∧ ∃ F', Hp w' F' hb room (n + 1) (insE S ⟨r, n, ⟨fl, id, ln⟩⟩) ∧ Kp F w w' ∧ Nw w F F' := by
  obtain ⟨vc, l, rfl, hm, hr, h3, h4⟩ := h
  refine (hPush w 0 hb vc n room l hm (Nat.zero_le _) (by rw [hr.len]; exact hl) h4 hc hr.heap r ⟨fl, id, ln⟩).mono ?_
  rintro e w' ⟨he, vc', l', hm', hh, hp, hk, ho⟩
  have hR := hr.push rfl hp hh
  refine ⟨he, HF hb vc', ⟨vc', l', rfl, hm', hR, ?_, h4⟩, hk, fun b hb' => ?_⟩
  · rw [(insE_perm _ S).length_eq, List.length_cons]; omega
  · rcases hb' with rfl | hb'
    · exact .inl (.inl rfl)
    · rcases ho with ho | ⟨g, hg, hgl⟩
      · exact .inl (.inr (by rw [← ho]; exact hb'))
      · rw [hg] at hb'; injection hb' with hb'; subst hb'; exact .inr hgl
def peekH (S : List (En Pk)) : En Pk × Bool := match S with | [] => (zEn, false) | s :: _ => (s, true)
theorem hpPeek {w : World} {F : Nat → Prop} {hb room n : Nat} {S : List (En Pk)} (h : Hp w F hb room n S) :
    Calls Tryz.prog 186 #[.pointer (some ⟨hb, 0, none⟩)] w fun e w' => e = .returned (.tuple #[.int .u64 (peekH S).1.rank, .agg (enP (peekH S).1.x).toArray, .bool (peekH S).2]) ∧ Kp none' w w' := by
  obtain ⟨vc, l, rfl, hm, hr, h3, h4⟩ := h
  cases S with
  | nil =>
    have hl : l = [] := List.eq_nil_of_length_eq_zero (by rw [hr.len]; rfl)
    subst hl
    exact hPeekNone w 0 hb vc n room hm
  | cons s T =>
    have h0 : 0 < l.length := by rw [hr.len, List.length_cons]; omega
    obtain ⟨T', hT⟩ := hr.head h0
    injection hT with h5 h6
    have := hPeekSome w 0 hb vc n room l hm h0 (by rw [hr.len]; omega)
    rw [← h5] at this
    exact this
theorem hpPop {w : World} {F : Nat → Prop} {hb room n : Nat} {s : En Pk} {T : List (En Pk)} (h : Hp w F hb room n (s :: T)) :
    Calls Tryz.prog 187 #[.pointer (some ⟨hb, 0, none⟩)] w fun e w' => e = .returned (.tuple #[.int .u64 s.rank, .agg (enP s.x).toArray, .bool true]) ∧ Hp w' F hb room n T ∧ Kp F w w' := by
  obtain ⟨vc, l, rfl, hm, hr, h3, h4⟩ := h
  have h0 : 0 < l.length := by rw [hr.len, List.length_cons]; omega
  obtain ⟨T', hT⟩ := hr.head h0
  have hT2 := hT
  injection hT with h5 h6
  subst h6
  refine (hPop w 0 hb vc n room l hm h0 (by rw [hr.len]; omega) hr.heap).mono ?_
  rintro e w' ⟨he, vc', l', hm', hh, hp, hk, ho⟩
  rw [← h5] at he
  refine ⟨he, ⟨vc', l', ?_, hm', hr.pop hT2 hp hh, by rw [List.length_cons] at h3; omega, h4⟩, hk⟩
  funext b; unfold HF; rw [ho]
end Go.Proofs.YtfckgddodjmbdaaGreatDoor

namespace Go.Proofs.YtfckgddodjmbdaaGreatDoor
set_option linter.unusedVariables false
set_option linter.unusedSimpArgs false
variable {α : Type}
def atB (bs : List Nat) (r : Nat) : Nat → Nat
  | 0 => 0
  | k + 1 => if bs.getD (k + 1) 0 ≤ r then k + 1 else atB bs r k
theorem atB_le (bs : List Nat) (r : Nat) : ∀ k, atB bs r k ≤ k
  | 0 => Nat.le_refl _
  | k + 1 => by unfold atB; split; exact Nat.le_refl _; have := atB_le bs r k; omega
def pushB (bs : List Nat) (r : Nat) : List Nat :=
  if atB bs r (bs.length - 1) = 0 ∧ r < bs.getD 0 0 then bs.map (fun b => b - (bs.getD 0 0 - r)) else bs.set (atB bs r (bs.length - 1)) r
def pushQ (bs : List Nat) (Qs : List (List α)) (r : Nat) (x : α) : List (List α) :=
  Qs.set (atB bs r (bs.length - 1)) (Qs.getD (atB bs r (bs.length - 1)) [] ++ [x])
def fstQ : List (List α) → Option Nat
  | [] => none
  | [] :: r => (fstQ r).map (· + 1)
  | (_ :: _) :: _ => some 0
def totQ (Qs : List (List α)) : Nat := (Qs.map List.length).sum
def Upw (bs : List Nat) : Prop := ∀ i, i < bs.length → bs.getD 0 0 ≤ bs.getD i 0
theorem fstQ_some {Qs : List (List α)} {i : Nat} (h : fstQ Qs = some i) : ∃ q Q, Qs[i]? = some (q :: Q) ∧ ∀ j, j < i → Qs[j]? = some [] := by
  induction Qs generalizing i with
  | nil => cases h
  | cons a r ih =>
    cases a with
    | nil =>
      simp only [fstQ, Option.map_eq_some_iff] at h
      obtain ⟨k, hk, rfl⟩ := h
      obtain ⟨q, Q, h1, h2⟩ := ih hk
      refine ⟨q, Q, by simpa using h1, fun j hj => ?_⟩
      cases j with
      | zero => rfl
      | succ j => simpa using h2 j (by omega)
    | cons q Q =>
      simp only [fstQ, Option.some.injEq] at h
      subst h
      exact ⟨q, Q, rfl, fun j hj => by omega⟩
theorem fstQ_none {Qs : List (List α)} (h : fstQ Qs = none) : ∀ j, j < Qs.length → Qs[j]? = some [] := by
  induction Qs with
  | nil => intro j hj; simp at hj
  | cons a r ih =>
    cases a with
    | nil =>
      simp only [fstQ, Option.map_eq_none_iff] at h
      intro j hj
      cases j with
      | zero => rfl
      | succ j => simpa using ih h j (by simpa using hj)
    | cons q Q => cases h
theorem fstQ_at {Qs : List (List α)} {i : Nat} {q : α} {Q : List α} (h : Qs[i]? = some (q :: Q)) (h2 : ∀ j, j < i → Qs[j]? = some []) : fstQ Qs = some i := by
  cases e : fstQ Qs with
  | none =>
    have hi : i < Qs.length := (List.getElem?_eq_some_iff.1 h).1
    rw [fstQ_none e i hi] at h; cases h
  | some k =>
    obtain ⟨q', Q', h3, h4⟩ := fstQ_some e
    by_cases h5 : k < i
    · rw [h2 k h5] at h3; cases h3
    · by_cases h6 : i < k
      · rw [h4 i h6] at h; cases h
      · have : k = i := by omega
        rw [this]
end Go.Proofs.YtfckgddodjmbdaaGreatDoor

namespace Go.Proofs.YtfckgddodjmbdaaGreatDoor
set_option linter.unusedVariables false
set_option linter.unusedSimpArgs false
variable {α : Type}
def slN (a fr i : Nat) : Nat := if fr + i < a then fr + i else fr + i - a
theorem slN_lt {a fr i : Nat} (h : fr < a) (hi : i ≤ a) : slN a fr i < a := by unfold slN; split <;> omega
theorem slN_mod {a fr i : Nat} (h : fr < a) (hi : i ≤ a) : (fr + i) % a = slN a fr i := by
  unfold slN
  by_cases h1 : fr + i < a
  · rw [if_pos h1, Nat.mod_eq_of_lt h1]
  · rw [if_neg h1, Nat.mod_eq_sub_mod (by omega), Nat.mod_eq_of_lt (by omega)]
theorem slN_inj {a fr i j : Nat} (h : fr < a) (hi : i < a) (hj : j < a) (e : slN a fr i = slN a fr j) : i = j := by
  unfold slN at e; split at e <;> split at e <;> omega
theorem slN_next {a fr i : Nat} (h : fr < a) (hi : i + 1 ≤ a) : slN a (slN a fr 1) i = slN a fr (i + 1) := by
  unfold slN; split <;> split <;> split <;> omega
structure RgOk (S : List α) (fr n room : Nat) (Q : List α) : Prop where
  len : Q.length = n
  n_le : n ≤ S.length
  fits : S.length ≤ room
  frb : fr < S.length ∨ (S.length = 0 ∧ fr = 0)
  get : ∀ i, i < n → S[slN S.length fr i]? = Q[i]?
theorem RgOk.nil (room : Nat) : RgOk ([] : List α) 0 0 room [] := ⟨rfl, Nat.le_refl _, Nat.zero_le _, .inr ⟨rfl, rfl⟩, fun i h => by omega⟩
theorem RgOk.frlt {S : List α} {fr n room : Nat} {Q : List α} (h : RgOk S fr n room Q) (hn : 0 < S.length) : fr < S.length := by rcases h.frb with h | h; exact h; omega
theorem RgOk.put {S : List α} {fr n room : Nat} {Q : List α} (h : RgOk S fr n room Q) (hn : n < S.length) (x : α) : RgOk (S.set (slN S.length fr n) x) fr (n + 1) room (Q ++ [x]) := by
  have hf := h.frlt (by omega)
  have hl : (S.set (slN S.length fr n) x).length = S.length := List.length_set
  refine ⟨by simp [h.len], by rw [hl]; omega, by rw [hl]; exact h.fits, by rw [hl]; exact .inl hf, fun i hi => ?_⟩
  rw [hl]
  by_cases e : i = n
  · subst e
    rw [List.getElem?_set_self (slN_lt (a := S.length) (i := i) hf (by omega)), List.getElem?_append_right (by rw [h.len]; exact Nat.le_refl _), h.len]; simp
  · rw [List.getElem?_set_ne (fun e2 => e (slN_inj hf (by omega) (by omega) e2.symm)), List.getElem?_append_left (by rw [h.len]; omega)]
    exact h.get i (by omega)
theorem RgOk.take {S : List α} {fr n room : Nat} {q : α} {Q : List α} (h : RgOk S fr n room (q :: Q)) (z : α) : S[fr]? = some q ∧ RgOk (S.set fr z) (slN S.length fr 1) (n - 1) room Q := by
  have hn := h.len
  rw [List.length_cons] at hn
  have hnl := h.n_le
  have hf := h.frlt (by omega)
  have h0 := h.get 0 (by omega)
  have e0 : slN S.length fr 0 = fr := by unfold slN; rw [if_pos (by omega)]; omega
  rw [e0] at h0
  refine ⟨by simpa using h0, by omega, by rw [List.length_set]; omega, by rw [List.length_set]; exact h.fits, .inl (by rw [List.length_set]; exact slN_lt hf (by omega)), fun i hi => ?_⟩
  rw [List.length_set, slN_next hf (by omega)]
  have h1 := h.get (i + 1) (by omega)
  rw [List.getElem?_cons_succ] at h1
  rw [List.getElem?_set_ne, h1]
  intro e
  have : (0 : Nat) = i + 1 := slN_inj hf (by omega) (by omega) (by rw [e0]; exact e)
  omega
theorem RgOk.anew {S S2 : List α} {fr n room : Nat} {Q : List α} (h : RgOk S fr n room Q) (h1 : n < S2.length) (h2 : S2.length ≤ room) (h3 : ∀ i, i < n → S2[i]? = Q[i]?) : RgOk S2 0 n room Q :=
  ⟨h.len, by omega, h2, .inl (by omega), fun i hi => by
    have : slN S2.length 0 i = i := by unfold slN; rw [if_pos (by omega)]; omega
    rw [this]; exact h3 i hi⟩
end Go.Proofs.YtfckgddodjmbdaaGreatDoor

namespace Go.Proofs.YtfckgddodjmbdaaGreatDoor
set_option linter.unusedVariables false
set_option linter.unusedSimpArgs false
open Go.RowKit
theorem made_flat {α : Type} (en : α → List Value) (sz : Nat) (hl : ∀ a, (en a).length = sz) (hp : 0 < sz) (a : α) (n : Nat) : madeCells (en a).toArray (n * sz) = ((List.replicate n a).flatMap en).toArray := by
  apply Array.ext
  · rw [size_madeCells, List.size_toArray, flat_len en sz hl, List.length_replicate]
  · intro i h1 h2
    rw [size_madeCells] at h1
    have hr : i % sz < sz := Nat.mod_lt _ hp
    have hd : i / sz < n := (Nat.div_lt_iff_lt_mul hp).2 h1
    have hdm : i / sz * sz + i % sz = i := by rw [Nat.mul_comm]; exact Nat.div_add_mod i sz
    have h3 := flat_get en sz hl (List.replicate n a) (i / sz) (i % sz) hr
    rw [hdm, List.getElem?_replicate, if_pos hd] at h3
    have hi : i % sz < (en a).length := by rw [hl]; exact hr
    simp only [madeCells, Array.getElem_map, Array.getElem_range, List.size_toArray, hl]
    have h4 : ((List.replicate n a).flatMap en)[i]? = some ((en a)[i % sz]'hi) := by rw [h3]; simp [hi]
    have h5 : ((List.replicate n a).flatMap en).toArray[i] = (en a)[i % sz]'hi := by
      have := (List.getElem?_eq_some_iff.1 h4).2
      simpa using this
    rw [h5]
    simp [hi]
theorem run_make_flat {P : Program} {t e : TypeId} {z : Value} {sz bytes : Nat} (T : SlT P t e z sz bytes) {α : Type} (en : α → List Value) (hl : ∀ a, (en a).length = sz) (a : α) (ha : z.cells = (en a).toArray) (n : Nat) (hb : bytes * n ≤ 281474976710656) (hn : n ≤ 9223372036854775807) (w : World) :
    (Instr.makeSlice t (.int .i64 (n : Int)) (.int .i64 (n : Int))).run P w = .ok (.slice (some ⟨w.heap.size, 0, none⟩) n n) (w.alloc (.cells ((List.replicate n a).flatMap en).toArray e)) := by
  obtain ⟨i, hi, hzz⟩ := Option.map_eq_some_iff.1 T.info
  simp only [Prod.mk.injEq] at hzz
  obtain ⟨hz, hs, hbb⟩ := hzz
  have hb' : (bytes : Int) * (n : Int) ≤ 281474976710656 := by
    have h : ((bytes * n : Nat) : Int) ≤ 281474976710656 := by omega
    rwa [Int.natCast_mul] at h
  have hr := run_make (P := P) w t e i z T.ht hi hz .i64 .i64 n n (by omega) (Int.le_refl _) (by rw [hbb]; exact hb') (by omega)
  rw [hs, ha] at hr
  simp only [Int.toNat_natCast] at hr
  rw [hr, made_flat en sz hl T.pos a n]
end Go.Proofs.YtfckgddodjmbdaaGreatDoor

namespace Go.Proofs.YtfckgddodjmbdaaGreatDoor
set_option linter.unusedVariables false
set_option linter.unusedSimpArgs false
open Go Go.RowKit Go.Shelf
structure It where
  rank : Nat
  x : Pk
def enI (i : It) : List Value := [.int .u64 i.rank, .int .u32 i.x.flow, .int .u32 i.x.id, .int .u64 i.x.len]
theorem enI_len (i : It) : (enI i).length = 4 := rfl
def zIt : It := ⟨0, zPk⟩
theorem infoIt (i : It) : (Tryz.prog.info? 314).map (·.size) = some (enI i).length := by rw [enI_len]; kernel_rfl
theorem tIt : SlT Tryz.prog 325 314 (.agg #[.int .u64 0, .int .u32 0, .int .u32 0, .int .u64 0]) 4 24 := ⟨Tryz.underlying325, by kernel_rfl, rfl, by decide⟩
structure RgM (w : World) (rb : Nat) (v : Value) (S : List It) (fr n room : Nat) : Prop where
  top : Blk w rb [v, .int .i64 fr, .int .i64 n, .int .i64 room] 327
  row : w.ownsRow 0 314 4 v S.length (S.flatMap enI)
def RgF (rb : Nat) (v : Value) : Nat → Prop := fun b => b = rb ∨ v.ownBlock = some b
theorem RgM.kp {T : Nat → Prop} {w w' : World} {rb : Nat} {v : Value} {S : List It} {fr n room : Nat} (h : RgM w rb v S fr n room) (k : Kp T w w') (hT : ∀ b, RgF rb v b → ¬ T b) : RgM w' rb v S fr n room :=
  ⟨h.top.kp k (hT _ (.inl rfl)), own_kp h.row k (fun b hb => hT b (.inr hb))⟩
theorem RgM.old {w w' : World} {rb : Nat} {v : Value} {S : List It} {fr n room : Nat} (h : RgM w rb v S fr n room) (k : Kp none' w w') : RgM w' rb v S fr n room := h.kp k (fun _ _ x => x)
set_option maxHeartbeats 1000000 in
theorem rgLen {w : World} {rb : Nat} {v : Value} {S : List It} {fr n room : Nat} (h : RgM w rb v S fr n room) : Calls Tryz.prog 233 #[.pointer (some ⟨rb, 0, none⟩)] w fun e w' => e = .returned (.int .i64 n) ∧ w = w' := by
  have c := h.top.cell 2 rfl
  clear h
  go_enter Tryz.func233, Tryz.ntmps233
  go_wp2
  go_ret
  exact ⟨rfl, rfl⟩
set_option maxHeartbeats 1000000 in
theorem rgRoom {w : World} {rb : Nat} {v : Value} {S : List It} {fr n room : Nat} (h : RgM w rb v S fr n room) (h1 : n ≤ room) (h2 : room ≤ 65536) : Calls Tryz.prog 236 #[.pointer (some ⟨rb, 0, none⟩)] w fun e w' => e = .returned (.int .i64 (room - n : Nat)) ∧ Kp none' w w' := by
  have c := h.top.cell 2 rfl
  have c3 := h.top.cell 3 rfl
  obtain ⟨q, hq⟩ : ∃ q, room - n = q := ⟨_, rfl⟩
  have hqi : (room : Int) - n = q := by omega
  rw [hq]
  clear h hq
  go_enter Tryz.func236, Tryz.ntmps236
  go_wp2_with fail
  go_region
  all_goals
    go_wp2_with fail
    go_ret
    exact ⟨rfl, (Kp.refl none' w).drew⟩
set_option maxHeartbeats 1000000 in
theorem rgSlot {w : World} {rb : Nat} {v : Value} {S : List It} {fr n room : Nat} (h : RgM w rb v S fr n room) (hf : fr < S.length) (hS : S.length ≤ 65536) (i : Nat) (hi : i ≤ S.length) : Calls Tryz.prog 235 #[.pointer (some ⟨rb, 0, none⟩), .int .i64 i] w fun e w' => e = .returned (.int .i64 (slN S.length fr i)) ∧ Kp none' w w' := by
  have c0 := h.top.cell 0 rfl
  have c1 := h.top.cell 1 rfl
  obtain ⟨g, cap, rfl, _⟩ := own_shape1 h.row (by omega)
  have hm := slN_mod hf hi
  have HM : Hid (((fr : Int) + i).tmod (S.length : Int) = (slN S.length fr i : Nat)) := by
    show _ = _
    rw [← hm, Int.tmod_eq_emod_of_nonneg (by omega)]; simp
  have hN : (0 : Int) < S.length := by omega
  have hlt := slN_lt hf hi
  clear h hm
  generalize slN S.length fr i = R at *
  generalize S.length = N at *
  have hm2 := HM.out
  go_enter Tryz.func235, Tryz.ntmps235
  go_wp2_with fail
  go_region
  all_goals
    go_wp2_with fail
    go_ret
    trace_state
    exact ⟨rfl, (Kp.refl none' w).drew⟩
end Go.Proofs.YtfckgddodjmbdaaGreatDoor
