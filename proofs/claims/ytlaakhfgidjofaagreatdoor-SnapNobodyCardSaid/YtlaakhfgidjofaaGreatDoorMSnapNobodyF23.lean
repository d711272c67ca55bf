/- What the functions of package flow compute, at things of kind own: grow. -/
import Derived.Test.YtlaakhfgidjofaaGreatDoorMSnapNobodyF22
import Derived.Test.YtlaakhfgidjofaaGreatDoorMSnapNobodyF20
import Derived.Test.YtlaakhfgidjofaaGreatDoorMSnapNobodyF13
namespace Go.Proofs.YtlaakhfgidjofaaGreatDoor.flowOwn
set_option linter.unusedVariables false
set_option linter.unusedSimpArgs false
open Go.RowKit Go.Proofs.YtlaakhfgidjofaaGreatDoor
theorem tSl : SlT Tryz.prog 250 254 (.agg #[.int .u32 0, .bool false, .int .i64 0, .int .u64 0, .int .u64 0]) 5 32 := ⟨Tryz.underlying250, by kernel_rfl, rfl, by decide⟩
theorem Pw.twice {N : Nat} (h : Pw N) (hb : N ≤ 5462) : Pw (2 * N) ∧ N ≤ 4096 := by
  obtain ⟨k, hk, rfl⟩ := h
  have h12 : k ≤ 12 := by
    refine Classical.byContradiction fun hc => ?_
    have : (2 : Nat) ^ 13 ≤ 2 ^ k := Nat.pow_le_pow_right (by decide) (by omega)
    omega
  have : (2 : Nat) ^ k ≤ 2 ^ 12 := Nat.pow_le_pow_right (by decide) h12
  exact ⟨⟨k + 1, by omega, by rw [Nat.pow_succ, Nat.mul_comm]⟩, by omega⟩
structure GrI (S : Slots Th) (w wr : World) (tb sb nb i : Nat) (S2 : Slots Th) (n room : Nat) : Prop where
  mem : TMem wr tb nb S2 n room
  old : Blk wr sb (S.flatMap enS) 254
  inv : FInv (homeN (2 * S.length)) S2
  len : S2.length = 2 * S.length
  ents : (entsF S2).Perm (entsF (S.take i))
  kp : Kp (fun b => b = tb) w wr
  new : w.heap.size ≤ nb
theorem GrI.next {S : Slots Th} {w wr w' : World} {tb sb nb i : Nat} {S2 : Slots Th} {n room : Nat} (h : GrI S w wr tb sb nb i S2 n room) (k : Kp none' wr w') : GrI S w w' tb sb nb i S2 n room :=
  ⟨h.mem.old k, h.old.kp k id, h.inv, h.len, h.ents, h.kp.then k (fun _ _ x => x.elim), h.new⟩
set_option maxRecDepth 100000 in
set_option maxHeartbeats 4000000 in
theorem fGrow (w : World) (tb sb : Nat) (S : Slots Th) (n room : Nat) (h : TMem w tb sb S n room) (ok : TOk S n room) (hb : S.length ≤ 5462) :
    Calls Tryz.prog 127 #[.pointer (some ⟨tb, 0, none⟩)] w fun e w' => e = .returned (.tuple #[]) ∧ ∃ nb S2, GrI S w w' tb sb nb S.length S2 n room := by
  have c := h.top.cell 0 rfl
  have fz := h.top.fz 0
  obtain ⟨hp2, hb2⟩ := Pw.twice ok.pw hb
  have hN := ok.pw.pos
  have hmk := run_make_flat tSl enS enS_len none rfl (2 * S.length) (by omega) (by omega) w
  have hne : sb ≠ tb := fun e => by have := (blk_ne h.cel h.top (by decide)); exact this e
  have HI : Hid (GrI S w ((w.alloc (.cells ((List.replicate (2 * S.length) (none : Option (Nat × Th))).flatMap enS).toArray 254)).setCell ⟨tb, 0, none⟩ (.slice (some ⟨w.heap.size, 0, none⟩) (2 * S.length) (2 * S.length))) tb sb w.heap.size 0 (List.replicate (2 * S.length) none) n room) := by
    have hlt := h.top.lt
    refine ⟨⟨?_, ?_⟩, ?_, FInv.nil _ (fun id => homeN_lt _ _ (by omega)), by rw [List.length_replicate], by rw [ents_nil, List.take_zero]; exact List.Perm.refl _, ?_, Nat.le_refl _⟩
    · have := (h.top.alloc (.cells ((List.replicate (2 * S.length) (none : Option (Nat × Th))).flatMap enS).toArray 254)).set 0 (.slice (some ⟨w.heap.size, 0, none⟩) (2 * S.length) (2 * S.length))
      rw [List.length_replicate]; exact this
    · exact (Blk.new w _ _).setNe (a := ⟨tb, 0, none⟩) (by show w.heap.size ≠ tb; omega) _
    · exact (h.cel.alloc _).setNe (a := ⟨tb, 0, none⟩) hne _
    · exact ((Kp.refl (fun b => b = tb) w).alloc _).set (p := ⟨tb, 0, none⟩) (.inl rfl) _
  have hcast : ((2 * S.length : Nat) : Int) = 2 * (S.length : Int) := by omega
  rw [hcast] at hmk
  have hmk2 : (Instr.makeSlice 250 (.int .i64 (2 * (S.length : Int))) (.int .i64 (2 * (S.length : Int)))).run Tryz.prog w = .ok (.slice (some ⟨w.heap.size, 0, none⟩) (2 * S.length) (2 * S.length)) (w.alloc (.cells ((List.replicate (2 * S.length) (none : Option (Nat × Th))).flatMap enS).toArray 254)) := hmk
  have c1 := (Kp.refl none' w).alloc (.cells ((List.replicate (2 * S.length) (none : Option (Nat × Th))).flatMap enS).toArray 254)
  have c2 := c1.cell c id
  have fz2 : (w.alloc (.cells ((List.replicate (2 * S.length) (none : Option (Nat × Th))).flatMap enS).toArray 254)).frozen? ⟨tb, 0, none⟩ = false := (h.top.alloc _).fz 0
  clear h hmk hcast c1
  go_enter Tryz.func127, Tryz.ntmps127
  go_wp2
  clear c c2 fz fz2 hmk2
  go_loopw [18] (fun i0 wr => ∃ (i nb : Nat) (S2 : Slots Th), i0 = .int .i64 i ∧ i ≤ S.length ∧ Hid (GrI S w wr tb sb nb i S2 n room)) (fun i0 _ => S.length - (intOf i0).toNat)
  case atStart => exact ⟨0, w.heap.size, _, rfl, by omega, HI.out⟩
  case round =>
    obtain ⟨i, nb, S2, rfl, hi, hr⟩ := hrel
    by_cases hlt : i < S.length
    · have hii : (i : Int) < S.length := by omega
      have G := Lib.hid hr.out
      have hst := ents_step S i hlt
      have hoc : ∀ k u, k < 5 → (enS (tAt S i))[k]? = some u → wr.cell? ⟨sb, i * 5 + k, none⟩ = some u := fun k u hk hu => by
        refine G.out.old.cell _ ?_
        rw [flat_get enS 5 enS_len _ _ _ hk, List.getElem?_eq_getElem hlt]
        unfold tAt at hu
        rw [List.getD_eq_getElem?_getD, List.getElem?_eq_getElem hlt] at hu
        simpa using hu
      clear hr HI
      cases ht : tAt S i with
      | none =>
        rw [ht] at hoc hst
        have o0 := hoc 0 _ (by omega) rfl
        have o1 := hoc 1 _ (by omega) rfl
        have o2 := hoc 2 _ (by omega) rfl
        have o3 := hoc 3 _ (by omega) rfl
        have o4 := hoc 4 _ (by omega) rfl
        simp only [Nat.add_zero] at o0
        have HE : Hid ((entsF S2).Perm (entsF (S.take (i + 1)))) := by show List.Perm _ _; rw [hst]; simpa using G.out.ents
        have hk1 := (Kp.refl none' wr).alloc (.cells (enS none).toArray 254)
        have HG : Hid (GrI S w (wr.alloc (.cells (enS none).toArray 254)) tb sb nb (i + 1) S2 n room) := by
          have := G.out.next hk1
          exact { this with ents := HE.out }
        clear hoc hst ht hk1
        go_wp2_with fail
        go_roundw
        case rel => exact ⟨i + 1, nb, S2, by go_num, by omega, HG.out⟩
        case measure => simp [intOf]; omega
      | some ex =>
        obtain ⟨k, x⟩ := ex
        rw [ht] at hoc hst
        have o0 := hoc 0 _ (by omega) rfl
        have o1 := hoc 1 _ (by omega) rfl
        have o2 := hoc 2 _ (by omega) rfl
        have o3 := hoc 3 _ (by omega) rfl
        have o4 := hoc 4 _ (by omega) rfl
        simp only [Nat.add_zero] at o0
        have hkid : k < 4294967296 := ok.ids (k, x) ((ents_mem S _).2 ⟨i, hlt, ht⟩)
        have hent : (entsF S2).length < S.length + 1 := by
          have h1 := G.out.ents.length_eq
          have h2 := ents_len (S.take i)
          rw [List.length_take] at h2
          omega
        have hL := G.out.len
        have hfree : ∃ j, j < S2.length ∧ tAt S2 j = none := unused S2 (by omega)
        have hhm : ∀ id, homeN S2.length id < S2.length := fun id => homeN_lt _ _ (by omega)
        obtain ⟨d, f⟩ := FAt.there (hm := homeN S2.length) hhm k hfree
        have hinv : FInv (homeN S2.length) S2 := by rw [hL]; exact G.out.inv
        have hnone : tAt S2 (ad S2.length (homeN S2.length k) d) = none := by
          rcases f.fin with h1 | ⟨y, h1⟩
          · exact h1
          · exfalso
            have hm : (k, y) ∈ entsF (S.take i) := G.out.ents.mem_iff.1 ((ents_mem S2 _).2 ⟨_, ad_lt (hhm k) f.lt, h1⟩)
            obtain ⟨j, hj, ej⟩ := (ents_mem _ _).1 hm
            rw [List.length_take] at hj
            have ej' : tAt S j = some (k, y) := by
              unfold tAt at ej ⊢
              rw [List.getD_eq_getElem?_getD, List.getElem?_take, if_pos (by omega)] at ej
              rw [List.getD_eq_getElem?_getD]; exact ej
            have := ok.inv.one j i k y x (by omega) hlt ej' ht
            omega
        have hput := hinv.put f hnone x
        have hperm := ents_put S2 _ (ad_lt (hhm k) f.lt) hnone (k, x)
        have hql := ad_lt (hhm k) f.lt
        have GF := Lib.hid (fun W h => fFindAt S2 k d (by rw [hL]; exact hp2) (by omega) hkid hfree f W tb nb n room h)
        have hset := flat_set enS 5 enS_len S2 (ad S2.length (homeN S2.length k) d) (some (k, x)) hql
        have HE : Hid ((entsF (S2.set (ad S2.length (homeN S2.length k) d) (some (k, x)))).Perm (entsF (S.take (i + 1)))) := by
          show List.Perm _ _
          rw [hst]
          exact hperm.trans ((List.Perm.cons _ G.out.ents).trans (List.perm_append_singleton _ _).symm)
        have hfin := hput
        rw [hL] at hfin
        have HFIN := Lib.hid hfin
        clear hoc hst hent f hinv hnone hput hperm hfin hfree hhm ht
        have hql2 : ad S2.length (homeN S2.length k) d < 2 * S.length := by omega
        rw [hL] at hset hql2 GF HE
        obtain ⟨q, hq⟩ : ∃ q, ad (2 * S.length) (homeN (2 * S.length) k) d = q := ⟨_, rfl⟩
        rw [hq] at hset hql2 GF HE HFIN
        clear hql hq
        have hqi : (q : Int) < 2 * (S.length : Int) := by omega
        have hk1 := (Kp.refl none' wr).alloc (.cells (enS (some (k, x))).toArray 254)
        have hbx := Blk.new wr (enS (some (k, x))) 254
        have HG := Lib.hid (G.out.next hk1)
        have HBX := Lib.hid hbx
        have HSET := Lib.hid hset
        clear hk1 hbx hset
        go_wp2_with fail
        change Code.wp _ _ _ _ (wr.alloc (.cells (enS (some (k, x))).toArray 254))
        obtain ⟨pb, hpb⟩ : ∃ p, wr.heap.size = p := ⟨_, rfl⟩
        rw [hpb] at HBX ⊢
        generalize wr.alloc (.cells (enS (some (k, x))).toArray 254) = w1 at *
        clear hpb o0 o1 o2 o3 o4 G
        have x0 := HBX.out.cell 0 rfl
        have x1 := HBX.out.cell 1 rfl
        have x2 := HBX.out.cell 2 rfl
        have x3 := HBX.out.cell 3 rfl
        have x4 := HBX.out.cell 4 rfl
        have t0 := HG.out.mem.top.cell 0 rfl
        rw [HG.out.len] at t0
        refine wp_region_kept2 [] [0, 1, 2, 3, 4, 5, 6, 7, 8, 9] 10 (by kernel_rfl) (by kernel_rfl) (fun c a d u w h => by cases d <;> exact h) ?_
        simp only [pick, List.getElem?_cons_succ, List.getElem?_cons_zero, List.drop_succ_cons, List.drop_zero]
        show wpKL _ _ _ _ _ _
        repeat (first
          | (refine wpKL_op (by exact rfl) (by as_aux_lemma => intro W hK; have e0 := hK.cell x0 id; have e1 := hK.cell x1 id; have e2 := hK.cell x2 id; have e4 := hK.cell x3 id; have e5 := hK.cell x4 id; have e3 := hK.cell t0 id; go_simp; exact rfl) ?_; simp only [Act.put, List.setIfInBounds_toArray, List.set_cons_succ, List.set_cons_zero])
          | (refine wpKL_off (by exact rfl) ?_; simp only [Act.put, List.setIfInBounds_toArray, List.set_cons_succ, List.set_cons_zero])
          | (refine wpKL_call (by exact rfl) (by as_aux_lemma => intro W; go_simp; exact ⟨rfl, rfl⟩) (by intro W hK; with_reducible first | exact GF.out W (HG.out.mem.old hK)) ?_; simp only [Act.put, List.setIfInBounds_toArray, List.set_cons_succ, List.set_cons_zero]))
        show ∀ W, _ → wpList _ _ _ _ _ _
        intro W2 hK2
        have HG2 := Lib.hid (HG.out.next hK2)
        clear hK2 x0 x1 x2 x3 x4 t0 HG HBX GF
        have hnb : nb ≠ tb := fun e => by have := HG2.out.mem; exact (blk_ne this.cel this.top (by decide)) e
        have hnbs : nb ≠ sb := fun e => by
          have h1 := HG2.out.mem.cel; have h2 := HG2.out.old
          rw [e] at h1
          have h3 := (h1.inj h2).1
          have h4 := congrArg List.length h3
          rw [flat_len enS 5 enS_len, flat_len enS 5 enS_len, hL] at h4
          omega
        have hone : ∀ v ∈ enS (some (k, x)), v.oneCell' = true := by
          intro v hv
          simp only [enS, List.mem_cons, List.not_mem_nil, or_false] at hv
          rcases hv with rfl | rfl | rfl | rfl | rfl <;> rfl
        have hin : q * 5 + (enS (some (k, x))).length ≤ (S2.flatMap enS).length := by rw [flat_len enS 5 enS_len, enS_len, hL]; omega
        refine wp_set_mid rfl 254 (.tmp 33) (.tmp 32) rfl HG2.out.mem.cel (q * 5) (enS (some (k, x))) rfl rfl (by kernel_rfl) hin hone ?_
        intro W3 hB3 hO3 hK3
        rw [← HSET.out] at hB3
        have HF : Hid (GrI S w W3 tb sb nb (i + 1) (S2.set q (some (k, x))) n room) := by
          have h2 := hO3 _ _ _ HG2.out.mem.top hnb.symm
          have h3 := hO3 _ _ _ HG2.out.old hnbs.symm
          have hn := HG2.out.new
          have h4 := hK3 _ _ HG2.out.kp (.inr hn)
          exact ⟨⟨by rw [List.length_set]; exact h2, hB3⟩, h3, HFIN.out, by rw [List.length_set]; exact hL, HE.out, h4, hn⟩
        clear HG2 hB3 hO3 hK3
        simp only [Act.put]
        go_wp2_with fail
        go_roundw
        case rel => exact ⟨i + 1, nb, S2.set q (some (k, x)), by go_num, by omega, HF.out⟩
        case measure => simp [intOf]; omega
    · have hie : i = S.length := by omega
      subst hie
      go_wp2_with fail
      go_end0
      exact ⟨rfl, nb, S2, hr.out⟩

theorem TOk.put {S S1 : Slots Th} {n room id d : Nat} {x : Th} (ok : TOk S n room) (hp : Pw S1.length) (hi : FInv (homeN S1.length) S1) (he : (entsF S1).Perm (entsF S)) (hid : id < 4294967296) (f : FAt (homeN S1.length) S1 id d) (hn : tAt S1 (ad S1.length (homeN S1.length id) d) = none)
    (hl : 4 * (n + 1) ≤ 3 * S1.length) (hr : n < room) (h1 : 8 ≤ S1.length) (h2 : S1.length ≤ 8192) :
    TOk (S1.set (ad S1.length (homeN S1.length id) d) (some (id, x))) (n + 1) room ∧ (entsF (S1.set (ad S1.length (homeN S1.length id) d) (some (id, x)))).Perm ((id, x) :: entsF S) := by
  have hq := ad_lt (hi.home id) f.lt
  have hperm := (ents_put S1 _ hq hn (id, x)).trans (List.Perm.cons _ he)
  refine ⟨⟨by rw [List.length_set]; exact hp, by rw [List.length_set]; exact hi.put f hn x, by rw [hperm.length_eq, List.length_cons, ok.cnt], by rw [List.length_set]; exact hl, hr, ok.r1, ok.r2, fun e h => ?_, by rw [List.length_set]; exact h1, by rw [List.length_set]; exact h2⟩, hperm⟩
  rcases List.mem_cons.1 (hperm.mem_iff.1 h) with rfl | h
  · exact hid
  · exact ok.ids e h
set_option maxRecDepth 100000 in
set_option maxHeartbeats 8000000 in
theorem fPutNew (w : World) (tb sb : Nat) (S : Slots Th) (n room : Nat) (h : TMem w tb sb S n room) (ok : TOk S n room) (id : Nat) (hid : id < 4294967296) (d : Nat) (f : FAt (homeN S.length) S id d) (hnone : tAt S (ad S.length (homeN S.length id) d) = none) (x : Th) (hroom : n < room) :
    Calls Tryz.prog 85 #[.pointer (some ⟨tb, 0, none⟩), .int .u32 id, en x] w fun e w' => e = .returned (.int .i64 0) ∧ ∃ sb' S', TMem w' tb sb' S' (n + 1) room ∧ TOk S' (n + 1) room ∧ (entsF S').Perm ((id, x) :: entsF S) ∧ Kp (fun b => b = tb ∨ b = sb) w w' ∧ (sb' = sb ∨ w.heap.size ≤ sb') := by
  have c0 := h.top.cell 0 rfl
  have hN := ok.pw.pos
  have hpl := ad_lt (homeN_lt S.length id hN) f.lt
  have HM := Lib.hid h
  have GM := Lib.hid (fun W (k : Kp none' w W) => calls_same (fMade W tb sb S n room (h.old k) hN))
  have htl := h.top.lt
  have GF := Lib.hid (fun W (k : Kp none' w W) => fFindAt S id d ok.pw ok.b2 hid ok.free f W tb sb n room (h.old k))
  have hce := fun k u h1 h2 => h.cell (ad S.length (homeN S.length id) d) k (u := u) h1 h2 hpl
  have hnoid := f.none_there ok.inv hnone
  have hfree := ok.free
  have cn := h.top.cell 1 rfl
  have cr := h.top.cell 2 rfl
  have hr2 := ok.r2
  have hql : ((ad S.length (homeN S.length id) d : Nat) : Int) < S.length := by omega
  have hfi : ¬ (room : Int) ≤ n := by omega
  rw [hnone] at hce
  have c1 := hce 1 (.bool false) (by omega) rfl
  have HFA := Lib.hid f
  have HNO := Lib.hid hnone
  clear hce h hnone f
  obtain ⟨q, hq⟩ : ∃ q, ad S.length (homeN S.length id) d = q := ⟨_, rfl⟩
  have HQ := Lib.hid hq
  rw [hq] at hpl hql c1 GF
  clear hq
  go_enter Tryz.func85, Tryz.ntmps85
  go_wp2_with fail
  refine (GM.out _ ((Kp.refl none' w).alloc _)).mono ?_
  rintro e w1 ⟨rfl, k0⟩
  have HXB := Lib.hid ((Blk.new w [.int .i64 x.p, .int .u64 x.b, .int .u64 x.m] 192).kp k0 (fun x => x))
  have k1 := ((Kp.refl none' w).alloc (.cells #[.int .i64 x.p, .int .u64 x.b, .int .u64 x.m] 192)).trans k0
  clear k0
  have d0 := k1.cell c0 (fun x => x)
  have d1 := k1.cell c1 (fun x => x)
  have dn := k1.cell cn (fun x => x)
  have dr := k1.cell cr (fun x => x)
  have GF1 := Lib.hid (fun W (k : Kp none' w1 W) => GF.out W (k1.trans k))
  have HK1 := Lib.hid k1
  clear k1 c0 c1 cn cr
  go_wp2_with fail
  refine wp_region_kept2 [] [0, 1, 2, 3, 4, 5, 6, 7, 8, 9] 10 (by kernel_rfl) (by kernel_rfl) (fun c a d u w h => by cases d <;> exact h) ?_
  simp only [pick, List.getElem?_cons_succ, List.getElem?_cons_zero, List.drop_succ_cons, List.drop_zero]
  show wpKL _ _ _ _ _ _
  repeat (first
    | (refine wpKL_op (by exact rfl) (by as_aux_lemma => intro W hK; have e0 := hK.cell d0 (fun x => x); have e1 := hK.cell d1 (fun x => x); go_simp; exact rfl) ?_; simp only [Act.put, List.setIfInBounds_toArray, List.set_cons_succ, List.set_cons_zero])
    | (refine wpKL_off (by exact rfl) ?_; simp only [Act.put, List.setIfInBounds_toArray, List.set_cons_succ, List.set_cons_zero])
    | (refine wpKL_call (by exact rfl) (by as_aux_lemma => intro W; go_simp; exact ⟨rfl, rfl⟩) (by intro W hK; with_reducible first | exact GF1.out W hK) ?_; simp only [Act.put, List.setIfInBounds_toArray, List.set_cons_succ, List.set_cons_zero]))
  show ∀ W, _ → wpList _ _ _ _ _ _
  intro W2 hK2
  have hK2' := Lib.hid hK2
  have HK2 := Lib.hid (HK1.out.trans hK2)
  have f0 := hK2.cell d0 (fun x => x)
  have fn := hK2.cell dn (fun x => x)
  have fr := hK2.cell dr (fun x => x)
  clear hK2 d0 d1 dn dr
  go_wp2_with fail
  refine wp_region_kept2 [] [0, 1, 2, 3, 4, 5, 6, 7, 8] 9 (by kernel_rfl) (by kernel_rfl) (fun c a d u w h => by cases d <;> exact h) ?_
  simp only [pick, List.getElem?_cons_succ, List.getElem?_cons_zero, List.drop_succ_cons, List.drop_zero]
  show wpKL _ _ _ _ _ _
  repeat (first
    | (refine wpKL_op (by exact rfl) (by as_aux_lemma => intro W hK; have e0 := hK.cell fn (fun x => x); have e1 := hK.cell fr (fun x => x); go_simp; exact rfl) ?_; simp only [Act.put, List.setIfInBounds_toArray, List.set_cons_succ, List.set_cons_zero])
    | (refine wpKL_off (by exact rfl) ?_; simp only [Act.put, List.setIfInBounds_toArray, List.set_cons_succ, List.set_cons_zero]))
  show ∀ W, _ → wpList _ _ _ _ _ _
  intro W3 hK3
  have hK3' := Lib.hid hK3
  have HK3 := Lib.hid (HK2.out.trans hK3)
  have g0 := hK3.cell f0 (fun x => x)
  have gn := hK3.cell fn (fun x => x)
  clear hK3 f0 fn fr
  go_wp2_with fail
  have hb8 := ok.b2
  refine wp_region_kept2 [] [0, 1, 2, 3, 4, 5, 6, 7, 8, 9, 10, 11] 12 (by kernel_rfl) (by kernel_rfl) (fun c a d u w h => by cases d <;> exact h) ?_
  simp only [pick, List.getElem?_cons_succ, List.getElem?_cons_zero, List.drop_succ_cons, List.drop_zero]
  show wpKL _ _ _ _ _ _
  repeat (first
    | (refine wpKL_op (by exact rfl) (by as_aux_lemma => intro W hK; have e0 := hK.cell g0 (fun x => x); have e1 := hK.cell gn (fun x => x); go_simp; exact rfl) ?_; simp only [Act.put, List.setIfInBounds_toArray, List.set_cons_succ, List.set_cons_zero])
    | (refine wpKL_off (by exact rfl) ?_; simp only [Act.put, List.setIfInBounds_toArray, List.set_cons_succ, List.set_cons_zero]))
  show ∀ W, _ → wpList _ _ _ _ _ _
  intro W4 hK4
  have HK4 := Lib.hid (HK3.out.trans hK4)
  have HM4 := Lib.hid (HM.out.old HK4.out)
  have HXB4 := Lib.hid (HXB.out.kp (((hK2'.out.trans hK3'.out).trans hK4)) (fun x => x))
  clear hK4 g0 gn GF GF1 GM HK1 HK2 HK3 HXB
  by_cases hgr : 3 * S.length < 4 * (n + 1)
  · have hgi : 3 * (S.length : Int) < 4 * ((n : Int) + 1) := by omega
    have GG := Lib.hid (fGrow W4 tb sb S n room HM4.out ok (by omega))
    have hsz := HK4.out.size
    clear hpl hql HFA HQ HNO
    go_wp2_with fail
    refine GG.out.mono ?_
    rintro e W1 ⟨rfl, sb1, S1, G⟩
    have hN4 := (Pw.twice ok.pw (by omega)).2
    have HM1 := Lib.hid G.mem
    have hp1 : Pw S1.length := by rw [G.len]; exact (Pw.twice ok.pw (by omega)).1
    have hb1 : S1.length ≤ 8192 := by rw [G.len]; omega
    have hi1 : FInv (homeN S1.length) S1 := by rw [G.len]; exact G.inv
    have he1 : (entsF S1).Perm (entsF S) := by have := G.ents; rwa [List.take_length] at this
    have h81 : 8 ≤ S1.length := by rw [G.len]; have := ok.b1; omega
    have hl1 : 4 * (n + 1) ≤ 3 * S1.length := by rw [G.len]; have := ok.load; have := ok.b1; omega
    have hu1 : ∃ i, i < S1.length ∧ tAt S1 i = none := unused S1 (by have := he1.length_eq; have := ok.cnt; omega)
    obtain ⟨d1, f1⟩ := FAt.there (hm := homeN S1.length) (fun id => homeN_lt _ _ (by omega)) id hu1
    have hn1 : tAt S1 (ad S1.length (homeN S1.length id) d1) = none := by
      rcases f1.fin with h1 | ⟨y, h1⟩
      · exact h1
      · obtain ⟨i, hi, hiy⟩ := (ents_mem S _).1 (he1.mem_iff.1 ((ents_mem S1 _).2 ⟨_, ad_lt (hi1.home id) f1.lt, h1⟩))
        exact absurd hiy (hnoid i y hi)
    have hnew := G.new
    have HXW : Hid (Blk W1 w.heap.size [.int .i64 x.p, .int .u64 x.b, .int .u64 x.m] 192) := HXB4.out.kp G.kp (fun e => by omega)
    have HKW : Hid (Kp (fun b => b = tb ∨ b = sb) w W1) := (HK4.out.mono (fun _ _ x => x.elim)).then G.kp (fun _ _ x => .inl x)
    have hsb1 : (sb1 = tb ∨ sb1 = sb) ∨ w.heap.size ≤ sb1 := .inr (by omega)
    have hsb2 : sb1 = sb ∨ w.heap.size ≤ sb1 := .inr (by omega)
    clear hnoid hfree HK4 HM4 GG G
    go_wp2_with fail
    as_aux_lemma =>
      have hlen1 := HM1.out.top.cell 0 rfl
      have hcn := HM1.out.top.cell 1 rfl
      have hx0 := HXW.out.cell 0 rfl
      have hx1 := HXW.out.cell 1 rfl
      have hx2 := HXW.out.cell 2 rfl
      have GF2 := Lib.hid (fun W (k : Kp none' W1 W) => fFindAt S1 id d1 hp1 hb1 hid hu1 f1 W tb sb1 n room (HM1.out.old k))
      have hq1 := ad_lt (homeN_lt S1.length id hp1.pos) f1.lt
      have hset := flat_set enS 5 enS_len S1 (ad S1.length (homeN S1.length id) d1) (some (id, x)) hq1
      have HFI := Lib.hid (ok.put (x := x) hp1 hi1 he1 hid f1 hn1 hl1 hroom h81 hb1)
      have hfl := flat_len enS 5 enS_len S1
      generalize ad S1.length (homeN S1.length id) d1 = q1 at *
      have hq1i : (q1 : Int) < S1.length := by omega
      have hne1 : sb1 ≠ tb := fun e => blk_ne HM1.out.cel HM1.out.top (by decide) e
      have hne2 : tb ≠ sb1 := hne1.symm
      clear f1 hi1 he1 hn1 hu1
      go_wp2_with fail
      refine wp_region_kept2 [] [0, 1, 2, 3, 4, 5, 6, 7, 8, 9, 10] 11 (by kernel_rfl) (by kernel_rfl) (fun c a d u w h => by cases d <;> exact h) ?_
      simp only [pick, List.getElem?_cons_succ, List.getElem?_cons_zero, List.drop_succ_cons, List.drop_zero]
      show wpKL _ _ _ _ _ _
      repeat (first
        | (refine wpKL_op (by exact rfl) (by as_aux_lemma => intro W hK; have e0 := hK.cell hlen1 (fun x => x); have e1 := hK.cell hx0 (fun x => x); have e2 := hK.cell hx1 (fun x => x); have e3 := hK.cell hx2 (fun x => x); go_simp; exact rfl) ?_; simp only [Act.put, List.setIfInBounds_toArray, List.set_cons_succ, List.set_cons_zero])
        | (refine wpKL_off (by exact rfl) ?_; simp only [Act.put, List.setIfInBounds_toArray, List.set_cons_succ, List.set_cons_zero])
        | (refine wpKL_call (by exact rfl) (by as_aux_lemma => intro W; go_simp; exact ⟨rfl, rfl⟩) (by intro W hK; with_reducible first | exact GF2.out W hK) ?_; simp only [Act.put, List.setIfInBounds_toArray, List.set_cons_succ, List.set_cons_zero]))
      show ∀ W, _ → wpList _ _ _ _ _ _
      intro W2 hK2
      have HM2 := Lib.hid (HM1.out.old hK2)
      have HK2 := Lib.hid (HKW.out.then hK2 (fun _ _ x => x.elim))
      have hone : ∀ v ∈ enS (some (id, x)), v.oneCell' = true := by
        intro v hv
        simp only [enS, List.mem_cons, List.not_mem_nil, or_false] at hv
        rcases hv with rfl | rfl | rfl | rfl | rfl <;> rfl
      have hin : q1 * 5 + (enS (some (id, x))).length ≤ (S1.flatMap enS).length := by rw [hfl, enS_len]; omega
      have hlen2 : (S1.set q1 (some (id, x))).length = S1.length := List.length_set ..
      clear hlen1 hcn hset hK2 hx0 hx1 hx2
      refine wp_set_mid rfl 254 (.tmp 57) (.tmp 56) rfl HM2.out.cel (q1 * 5) (enS (some (id, x))) rfl rfl (by kernel_rfl) hin hone ?_
      intro W3 hB3 hO3 hK3
      rw [← flat_set enS 5 enS_len S1 q1 _ hq1] at hB3
      have hT3 := hO3 _ _ _ HM2.out.top hne2
      have HK3 := Lib.hid (hK3 _ _ HK2.out hsb1)
      have zt := hT3.fz 1
      have tn := hT3.cell 1 rfl
      have HF : Hid (TMem (W3.setCell ⟨tb, 1, none⟩ (.int .i64 ((n : Int) + 1))) tb sb1 (S1.set q1 (some (id, x))) (n + 1) room) := by
        have h2 := hT3.set 1 (.int .i64 ((n : Int) + 1))
        exact ⟨by rw [hlen2]; exact h2, hB3.setNe (a := ⟨tb, 1, none⟩) hne1 _⟩
      have HKF : Hid (Kp (fun b => b = tb ∨ b = sb) w (W3.setCell ⟨tb, 1, none⟩ (.int .i64 ((n : Int) + 1)))) := HK3.out.set (p := ⟨tb, 1, none⟩) (.inl (.inl rfl)) _
      clear hB3 hO3 hK3 hT3 hne1 hne2 hin hone hlen2 hfl
      simp only [Act.put]
      as_aux_lemma =>
        go_wp2_with fail
        go_ret
        exact ⟨rfl, sb1, _, HF.out, HFI.out.1, HFI.out.2, HKF.out, hsb2⟩
  · obtain ⟨W1, hW⟩ : ∃ W1 : World, W1 = W4 := ⟨_, rfl⟩
    subst hW
    have hgi : ¬ 3 * (S.length : Int) < 4 * ((n : Int) + 1) := by omega
    have HKW : Hid (Kp (fun b => b = tb ∨ b = sb) w W1) := HK4.out.mono (fun _ _ x => x.elim)
    have HXW := HXB4
    obtain ⟨S1, hS1⟩ : ∃ S1 : Slots Th, S1 = S := ⟨_, rfl⟩
    obtain ⟨sb1, hsb⟩ : ∃ sb1, sb1 = sb := ⟨_, rfl⟩
    obtain ⟨d1, hd1⟩ : ∃ d1, d1 = d := ⟨_, rfl⟩
    have HM1 : Hid (TMem W1 tb sb1 S1 n room) := by rw [hS1, hsb]; exact HM4.out
    have hp1 : Pw S1.length := by rw [hS1]; exact ok.pw
    have hb1 : S1.length ≤ 8192 := by rw [hS1]; exact ok.b2
    have hi1 : FInv (homeN S1.length) S1 := by rw [hS1]; exact ok.inv
    have he1 : (entsF S1).Perm (entsF S) := by rw [hS1]
    have hu1 : ∃ i, i < S1.length ∧ tAt S1 i = none := by rw [hS1]; exact hfree
    have f1 : FAt (homeN S1.length) S1 id d1 := by rw [hS1, hd1]; exact HFA.out
    have hn1 : tAt S1 (ad S1.length (homeN S1.length id) d1) = none := by rw [hS1, hd1]; exact HNO.out
    have hl1 : 4 * (n + 1) ≤ 3 * S1.length := by rw [hS1]; omega
    have h81 : 8 ≤ S1.length := by rw [hS1]; exact ok.b1
    have hsb1 : (sb1 = tb ∨ sb1 = sb) ∨ w.heap.size ≤ sb1 := .inl (.inr hsb)
    have hsb2 : sb1 = sb ∨ w.heap.size ≤ sb1 := .inl hsb
    clear hsb hd1 hpl hql hfree hnoid HFA HNO HQ
    clear hS1
    go_wp2_with fail
    as_aux_lemma =>
      have hlen1 := HM1.out.top.cell 0 rfl
      have hcn := HM1.out.top.cell 1 rfl
      have hx0 := HXW.out.cell 0 rfl
      have hx1 := HXW.out.cell 1 rfl
      have hx2 := HXW.out.cell 2 rfl
      have GF2 := Lib.hid (fun W (k : Kp none' W1 W) => fFindAt S1 id d1 hp1 hb1 hid hu1 f1 W tb sb1 n room (HM1.out.old k))
      have hq1 := ad_lt (homeN_lt S1.length id hp1.pos) f1.lt
      have hset := flat_set enS 5 enS_len S1 (ad S1.length (homeN S1.length id) d1) (some (id, x)) hq1
      have HFI := Lib.hid (ok.put (x := x) hp1 hi1 he1 hid f1 hn1 hl1 hroom h81 hb1)
      have hfl := flat_len enS 5 enS_len S1
      generalize ad S1.length (homeN S1.length id) d1 = q1 at *
      have hq1i : (q1 : Int) < S1.length := by omega
      have hne1 : sb1 ≠ tb := fun e => blk_ne HM1.out.cel HM1.out.top (by decide) e
      have hne2 : tb ≠ sb1 := hne1.symm
      clear f1 hi1 he1 hn1 hu1
      go_wp2_with fail
      refine wp_region_kept2 [] [0, 1, 2, 3, 4, 5, 6, 7, 8, 9, 10] 11 (by kernel_rfl) (by kernel_rfl) (fun c a d u w h => by cases d <;> exact h) ?_
      simp only [pick, List.getElem?_cons_succ, List.getElem?_cons_zero, List.drop_succ_cons, List.drop_zero]
      show wpKL _ _ _ _ _ _
      repeat (first
        | (refine wpKL_op (by exact rfl) (by as_aux_lemma => intro W hK; have e0 := hK.cell hlen1 (fun x => x); have e1 := hK.cell hx0 (fun x => x); have e2 := hK.cell hx1 (fun x => x); have e3 := hK.cell hx2 (fun x => x); go_simp; exact rfl) ?_; simp only [Act.put, List.setIfInBounds_toArray, List.set_cons_succ, List.set_cons_zero])
        | (refine wpKL_off (by exact rfl) ?_; simp only [Act.put, List.setIfInBounds_toArray, List.set_cons_succ, List.set_cons_zero])
        | (refine wpKL_call (by exact rfl) (by as_aux_lemma => intro W; go_simp; exact ⟨rfl, rfl⟩) (by intro W hK; with_reducible first | exact GF2.out W hK) ?_; simp only [Act.put, List.setIfInBounds_toArray, List.set_cons_succ, List.set_cons_zero]))
      show ∀ W, _ → wpList _ _ _ _ _ _
      intro W2 hK2
      have HM2 := Lib.hid (HM1.out.old hK2)
      have HK2 := Lib.hid (HKW.out.then hK2 (fun _ _ x => x.elim))
      have hone : ∀ v ∈ enS (some (id, x)), v.oneCell' = true := by
        intro v hv
        simp only [enS, List.mem_cons, List.not_mem_nil, or_false] at hv
        rcases hv with rfl | rfl | rfl | rfl | rfl <;> rfl
      have hin : q1 * 5 + (enS (some (id, x))).length ≤ (S1.flatMap enS).length := by rw [hfl, enS_len]; omega
      have hlen2 : (S1.set q1 (some (id, x))).length = S1.length := List.length_set ..
      clear hlen1 hcn hset hK2 hx0 hx1 hx2
      refine wp_set_mid rfl 254 (.tmp 57) (.tmp 56) rfl HM2.out.cel (q1 * 5) (enS (some (id, x))) rfl rfl (by kernel_rfl) hin hone ?_
      intro W3 hB3 hO3 hK3
      rw [← flat_set enS 5 enS_len S1 q1 _ hq1] at hB3
      have hT3 := hO3 _ _ _ HM2.out.top hne2
      have HK3 := Lib.hid (hK3 _ _ HK2.out hsb1)
      have zt := hT3.fz 1
      have tn := hT3.cell 1 rfl
      have HF : Hid (TMem (W3.setCell ⟨tb, 1, none⟩ (.int .i64 ((n : Int) + 1))) tb sb1 (S1.set q1 (some (id, x))) (n + 1) room) := by
        have h2 := hT3.set 1 (.int .i64 ((n : Int) + 1))
        exact ⟨by rw [hlen2]; exact h2, hB3.setNe (a := ⟨tb, 1, none⟩) hne1 _⟩
      have HKF : Hid (Kp (fun b => b = tb ∨ b = sb) w (W3.setCell ⟨tb, 1, none⟩ (.int .i64 ((n : Int) + 1)))) := HK3.out.set (p := ⟨tb, 1, none⟩) (.inl (.inl rfl)) _
      clear hB3 hO3 hK3 hT3 hne1 hne2 hin hone hlen2 hfl
      simp only [Act.put]
      as_aux_lemma =>
        go_wp2_with fail
        go_ret
        exact ⟨rfl, sb1, _, HF.out, HFI.out.1, HFI.out.2, HKF.out, hsb2⟩
end Go.Proofs.YtlaakhfgidjofaaGreatDoor.flowOwn
