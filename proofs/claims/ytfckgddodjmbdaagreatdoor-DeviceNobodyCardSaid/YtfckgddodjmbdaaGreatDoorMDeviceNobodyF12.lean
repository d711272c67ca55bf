/- What the functions of package flow compute, at things of kind own: Get, Set. -/
import Derived.Test.YtfckgddodjmbdaaGreatDoorMDeviceNobodyF11
import Derived.Test.YtfckgddodjmbdaaGreatDoorMDeviceNobodyF2
import Derived.Test.YtfckgddodjmbdaaGreatDoorMDeviceNobodyF1
import Derived.Deep.MidRow
import Derived.Test.YtfckgddodjmbdaaGreatDoorMDeviceNobodyF4
namespace Go.Proofs.YtfckgddodjmbdaaGreatDoor.flowOwn
set_option linter.unusedVariables false
set_option linter.unusedSimpArgs false
open Go.RowKit Go.Proofs.YtfckgddodjmbdaaGreatDoor
theorem TOk.free {S : Slots Th} {n room : Nat} (h : TOk S n room) : ∃ i, i < S.length ∧ tAt S i = none := unused S (by have := h.cnt; have := h.load; have := h.b1; omega)
theorem fFindAt (S : Slots Th) (id d : Nat) (hp : Pw S.length) (hb : S.length ≤ 8192) (hid : id < 4294967296) (hu : ∃ i, i < S.length ∧ tAt S i = none) (f : FAt (homeN S.length) S id d) (w : World) (tb sb : Nat) (n room : Nat) (h : TMem w tb sb S n room) :
    Calls Tryz.prog 129 #[.pointer (some ⟨tb, 0, none⟩), .int .u32 id] w fun e w' => e = .returned (.int .i64 (ad S.length (homeN S.length id) d : Nat)) ∧ Kp none' w w' :=
  (fFind w tb sb S n room h hp hb id hid hu).mono fun e w' ⟨⟨d', f', he⟩, hw⟩ => by
    subst hw
    rw [f.unique f']
    exact ⟨he, Kp.refl _ _⟩
theorem infoOwn : (Tryz.prog.info? 232).map (·.size) = some 3 := by kernel_rfl
set_option maxRecDepth 100000 in
set_option maxHeartbeats 4000000 in
theorem fGetNone (w : World) (tb sb : Nat) (S : Slots Th) (n room : Nat) (h : TMem w tb sb S n room) (ok : TOk S n room) (id : Nat) (hid : id < 4294967296) (d : Nat) (f : FAt (homeN S.length) S id d) (ht : tAt S (ad S.length (homeN S.length id) d) = none) :
    Calls Tryz.prog 105 #[.pointer (some ⟨tb, 0, none⟩), .int .u32 id] w fun e w' => e = .returned (.tuple #[en zx, .bool false]) ∧ Kp none' w w' := by
  have c := h.top.cell 0 rfl
  have hN := ok.pw.pos
  have hpl := ad_lt (homeN_lt S.length id hN) f.lt
  have GM := Lib.hid (fun W (k : Kp none' w W) => calls_same (fMade W tb sb S n room (h.old k) hN))
  have GF := Lib.hid (fun W (k : Kp none' w W) => fFindAt S id d ok.pw ok.b2 hid ok.free f W tb sb n room (h.old k))
  have hce := fun k u h1 h2 => h.cell (ad S.length (homeN S.length id) d) k (u := u) h1 h2 hpl
  obtain ⟨q, hq⟩ : ∃ q, ad S.length (homeN S.length id) d = q := ⟨_, rfl⟩
  rw [hq] at hpl GF hce ht
  have hql : (q : Int) < S.length := by omega
  have HMM := Lib.hid h
  have HQ := Lib.hid hq
  clear h f hq
  rw [ht] at hce
  have c1 := hce 1 (.bool false) (by omega) rfl
  clear hce ht
  go_enter Tryz.func105, Tryz.ntmps105
  go_wp2_with fail
  have HB4 := Lib.hid (((Blk.new w [.int .i64 0, .int .u64 0, .int .u64 0] 232).alloc (.cells #[.int .i64 0, .int .u64 0, .int .u64 0] 232)))
  have HB6 : Hid (Blk ((w.alloc (.cells #[.int .i64 0, .int .u64 0, .int .u64 0] 232)).alloc (.cells #[.int .i64 0, .int .u64 0, .int .u64 0] 232)) (w.heap.size + 1) [.int .i64 0, .int .u64 0, .int .u64 0] 232) := by
    have := Blk.new (w.alloc (.cells #[.int .i64 0, .int .u64 0, .int .u64 0] 232)) [.int .i64 0, .int .u64 0, .int .u64 0] 232
    rw [World.size_alloc] at this
    exact this
  have HK1 := Lib.hid (((Kp.refl none' w).alloc (.cells #[.int .i64 0, .int .u64 0, .int .u64 0] 232)).alloc (.cells #[.int .i64 0, .int .u64 0, .int .u64 0] 232))
  change Code.wp _ _ _ _ ((w.alloc (.cells #[.int .i64 0, .int .u64 0, .int .u64 0] 232)).alloc (.cells #[.int .i64 0, .int .u64 0, .int .u64 0] 232))
  generalize (w.alloc (.cells #[.int .i64 0, .int .u64 0, .int .u64 0] 232)).alloc (.cells #[.int .i64 0, .int .u64 0, .int .u64 0] 232) = W1 at *
  have d0 := HK1.out.cell c (fun x => x)
  have d1 := HK1.out.cell c1 (fun x => x)
  have GM1 := Lib.hid (fun W (k : Kp none' W1 W) => GM.out W (HK1.out.trans k))
  have GF1 := Lib.hid (fun W (k : Kp none' W1 W) => GF.out W (HK1.out.trans k))
  refine wp_region_kept2 [] [0, 1, 2, 3, 4, 5, 6, 7, 8, 9, 10, 11, 12, 13, 14] 15 (by kernel_rfl) (by kernel_rfl) (fun c a d u w h => by cases d <;> exact h) ?_
  simp only [pick, List.getElem?_cons_succ, List.getElem?_cons_zero, List.drop_succ_cons, List.drop_zero]
  show wpKL _ _ _ _ _ _
  repeat (first
    | (refine wpKL_op (by exact rfl) (by as_aux_lemma => intro W hK; have e0 := hK.cell d0 (fun x => x); have e1 := hK.cell d1 (fun x => x); go_simp; exact rfl) ?_; simp only [Act.put, List.setIfInBounds_toArray, List.set_cons_succ, List.set_cons_zero])
    | (refine wpKL_off (by exact rfl) ?_; simp only [Act.put, List.setIfInBounds_toArray, List.set_cons_succ, List.set_cons_zero])
    | (refine wpKL_call (by exact rfl) (by as_aux_lemma => intro W; go_simp; exact ⟨rfl, rfl⟩) (by intro W hK; with_reducible first | exact GM1.out W hK | exact GF1.out W hK) ?_; simp only [Act.put, List.setIfInBounds_toArray, List.set_cons_succ, List.set_cons_zero]))
  show ∀ W, _ → wpList _ _ _ _ _ _
  intro W2 hK2
  have HK2 := Lib.hid (HK1.out.trans hK2)
  have HC4 := Lib.hid (HB4.out.kp hK2 (fun x => x))
  have HC6 := Lib.hid (HB6.out.kp hK2 (fun x => x))
  have d2 := hK2.cell d0 (fun x => x)
  have GF2 := Lib.hid (fun W (k : Kp none' W2 W) => GF1.out W (hK2.trans k))
  clear hK2 d0 d1 HB4 HB6
  have x0 := HC6.out.cell 0 rfl
  have x1 := HC6.out.cell 1 rfl
  have x2 := HC6.out.cell 2 rfl
  have y0 := HC4.out.cell 0 rfl
  have y1 := HC4.out.cell 1 rfl
  have y2 := HC4.out.cell 2 rfl
  have yf := fun j => HC4.out.fz j
  go_wp2_with fail
  exact ret_row2 (by exact rfl) (((HC4.out.set 0 (.int .i64 0)).set 1 (.int .u64 0)).set 2 (.int .u64 0)) _ Tryz.underlying232 rfl infoOwn (by exact rfl) ⟨rfl, ((HK2.out.set (p := ⟨w.heap.size, 0, none⟩) (.inr (Nat.le_refl _)) _).set (p := ⟨w.heap.size, 1, none⟩) (.inr (Nat.le_refl _)) _).set (p := ⟨w.heap.size, 2, none⟩) (.inr (Nat.le_refl _)) _⟩
set_option maxRecDepth 100000 in
set_option maxHeartbeats 4000000 in
theorem fGetSome (w : World) (tb sb : Nat) (S : Slots Th) (n room : Nat) (h : TMem w tb sb S n room) (ok : TOk S n room) (id : Nat) (hid : id < 4294967296) (d : Nat) (f : FAt (homeN S.length) S id d) (x : Th) (ht : tAt S (ad S.length (homeN S.length id) d) = some (id, x)) :
    Calls Tryz.prog 105 #[.pointer (some ⟨tb, 0, none⟩), .int .u32 id] w fun e w' => e = .returned (.tuple #[en x, .bool true]) ∧ Kp none' w w' := by
  have c := h.top.cell 0 rfl
  have hN := ok.pw.pos
  have hpl := ad_lt (homeN_lt S.length id hN) f.lt
  have GM := Lib.hid (fun W (k : Kp none' w W) => calls_same (fMade W tb sb S n room (h.old k) hN))
  have GF := Lib.hid (fun W (k : Kp none' w W) => fFindAt S id d ok.pw ok.b2 hid ok.free f W tb sb n room (h.old k))
  have hce := fun k u h1 h2 => h.cell (ad S.length (homeN S.length id) d) k (u := u) h1 h2 hpl
  obtain ⟨q, hq⟩ : ∃ q, ad S.length (homeN S.length id) d = q := ⟨_, rfl⟩
  rw [hq] at hpl GF hce ht
  have hql : (q : Int) < S.length := by omega
  have HMM := Lib.hid h
  have HQ := Lib.hid hq
  clear h f hq
  rw [ht] at hce
  have c1 := hce 1 (.bool true) (by omega) rfl
  have c2 := hce 2 (.int .i64 x.p) (by omega) rfl
  have c3 : w.cell? ⟨sb, q * 5 + 2 + 1, none⟩ = some (.int .u64 x.b) := hce 3 (.int .u64 x.b) (by omega) rfl
  have c4 : w.cell? ⟨sb, q * 5 + 2 + 1 + 1, none⟩ = some (.int .u64 x.m) := hce 4 (.int .u64 x.m) (by omega) rfl
  clear hce ht
  go_enter Tryz.func105, Tryz.ntmps105
  go_wp2_with fail
  have HB4 := Lib.hid (((Blk.new w [.int .i64 0, .int .u64 0, .int .u64 0] 232).alloc (.cells #[.int .i64 0, .int .u64 0, .int .u64 0] 232)))
  have HB6 : Hid (Blk ((w.alloc (.cells #[.int .i64 0, .int .u64 0, .int .u64 0] 232)).alloc (.cells #[.int .i64 0, .int .u64 0, .int .u64 0] 232)) (w.heap.size + 1) [.int .i64 0, .int .u64 0, .int .u64 0] 232) := by
    have := Blk.new (w.alloc (.cells #[.int .i64 0, .int .u64 0, .int .u64 0] 232)) [.int .i64 0, .int .u64 0, .int .u64 0] 232
    rw [World.size_alloc] at this
    exact this
  have HK1 := Lib.hid (((Kp.refl none' w).alloc (.cells #[.int .i64 0, .int .u64 0, .int .u64 0] 232)).alloc (.cells #[.int .i64 0, .int .u64 0, .int .u64 0] 232))
  change Code.wp _ _ _ _ ((w.alloc (.cells #[.int .i64 0, .int .u64 0, .int .u64 0] 232)).alloc (.cells #[.int .i64 0, .int .u64 0, .int .u64 0] 232))
  generalize (w.alloc (.cells #[.int .i64 0, .int .u64 0, .int .u64 0] 232)).alloc (.cells #[.int .i64 0, .int .u64 0, .int .u64 0] 232) = W1 at *
  have d0 := HK1.out.cell c (fun x => x)
  have d1 := HK1.out.cell c1 (fun x => x)
  have GM1 := Lib.hid (fun W (k : Kp none' W1 W) => GM.out W (HK1.out.trans k))
  have GF1 := Lib.hid (fun W (k : Kp none' W1 W) => GF.out W (HK1.out.trans k))
  refine wp_region_kept2 [] [0, 1, 2, 3, 4, 5, 6, 7, 8, 9, 10, 11, 12, 13, 14] 15 (by kernel_rfl) (by kernel_rfl) (fun c a d u w h => by cases d <;> exact h) ?_
  simp only [pick, List.getElem?_cons_succ, List.getElem?_cons_zero, List.drop_succ_cons, List.drop_zero]
  show wpKL _ _ _ _ _ _
  repeat (first
    | (refine wpKL_op (by exact rfl) (by as_aux_lemma => intro W hK; have e0 := hK.cell d0 (fun x => x); have e1 := hK.cell d1 (fun x => x); go_simp; exact rfl) ?_; simp only [Act.put, List.setIfInBounds_toArray, List.set_cons_succ, List.set_cons_zero])
    | (refine wpKL_off (by exact rfl) ?_; simp only [Act.put, List.setIfInBounds_toArray, List.set_cons_succ, List.set_cons_zero])
    | (refine wpKL_call (by exact rfl) (by as_aux_lemma => intro W; go_simp; exact ⟨rfl, rfl⟩) (by intro W hK; with_reducible first | exact GM1.out W hK | exact GF1.out W hK) ?_; simp only [Act.put, List.setIfInBounds_toArray, List.set_cons_succ, List.set_cons_zero]))
  show ∀ W, _ → wpList _ _ _ _ _ _
  intro W2 hK2
  have HK2 := Lib.hid (HK1.out.trans hK2)
  have HC4 := Lib.hid (HB4.out.kp hK2 (fun x => x))
  have HC6 := Lib.hid (HB6.out.kp hK2 (fun x => x))
  have d2 := hK2.cell d0 (fun x => x)
  have GF2 := Lib.hid (fun W (k : Kp none' W2 W) => GF1.out W (hK2.trans k))
  clear hK2 d0 d1 HB4 HB6
  have d3 := HK2.out.cell c2 (fun x => x)
  have d4 := HK2.out.cell c3 (fun x => x)
  have d5 := HK2.out.cell c4 (fun x => x)
  clear c c1 c2 c3 c4
  go_wp2_with fail
  refine wp_region_kept2 [] [0, 1, 2, 3, 4, 5, 6, 7, 8, 9] 10 (by kernel_rfl) (by kernel_rfl) (fun c a d u w h => by cases d <;> exact h) ?_
  simp only [pick, List.getElem?_cons_succ, List.getElem?_cons_zero, List.drop_succ_cons, List.drop_zero]
  show wpKL _ _ _ _ _ _
  repeat (first
    | (refine wpKL_op (by exact rfl) (by as_aux_lemma => intro W hK; have e0 := hK.cell d2 (fun x => x); have e2 := hK.cell d3 (fun x => x); have e3 := hK.cell d4 (fun x => x); have e4 := hK.cell d5 (fun x => x); go_simp; exact rfl) ?_; simp only [Act.put, List.setIfInBounds_toArray, List.set_cons_succ, List.set_cons_zero])
    | (refine wpKL_off (by exact rfl) ?_; simp only [Act.put, List.setIfInBounds_toArray, List.set_cons_succ, List.set_cons_zero])
    | (refine wpKL_call (by exact rfl) (by as_aux_lemma => intro W; go_simp; exact ⟨rfl, rfl⟩) (by intro W hK; with_reducible first | exact GF2.out W hK) ?_; simp only [Act.put, List.setIfInBounds_toArray, List.set_cons_succ, List.set_cons_zero]))
  show ∀ W, _ → wpList _ _ _ _ _ _
  intro W3 hK3
  have HK3 := Lib.hid (HK2.out.trans hK3)
  have HC4' := Lib.hid (HC4.out.kp hK3 (fun x => x))
  clear hK3 d2 d3 d4 d5
  have y0 := HC4'.out.cell 0 rfl
  have y1 := HC4'.out.cell 1 rfl
  have y2 := HC4'.out.cell 2 rfl
  have yf := fun j => HC4'.out.fz j
  go_wp2_with fail
  exact ret_row2 (by exact rfl) (((HC4'.out.set 0 (.int .i64 x.p)).set 1 (.int .u64 x.b)).set 2 (.int .u64 x.m)) _ Tryz.underlying232 rfl infoOwn (by exact rfl) ⟨rfl, ((HK3.out.set (p := ⟨w.heap.size, 0, none⟩) (.inr (Nat.le_refl _)) _).set (p := ⟨w.heap.size, 1, none⟩) (.inr (Nat.le_refl _)) _).set (p := ⟨w.heap.size, 2, none⟩) (.inr (Nat.le_refl _)) _⟩

theorem tSl : SlT Tryz.prog 276 275 (.agg #[.int .u32 0, .bool false, .int .i64 0, .int .u64 0, .int .u64 0]) 5 32 := ⟨Tryz.underlying276, by kernel_rfl, rfl, by decide⟩
theorem Pw.twice {N : Nat} (h : Pw N) (hb : N ≤ 5462) : Pw (2 * N) ∧ N ≤ 4096 := by
  obtain ⟨k, hk, rfl⟩ := h
  have h12 : k ≤ 12 := by
    refine Classical.byContradiction fun hc => ?_
    have : (2 : Nat) ^ 13 ≤ 2 ^ k := Nat.pow_le_pow_right (by decide) (by omega)
    omega
  have : (2 : Nat) ^ k ≤ 2 ^ 12 := Nat.pow_le_pow_right (by decide) h12
  exact ⟨⟨k + 1, by omega, by rw [Nat.pow_succ, Nat.mul_comm]⟩, by omega⟩
structure GrI (S : Slots Th) (w wr : World) (tb sb nb i : Nat) (S2 : Slots Th) (n room : Nat) : Prop where
  mem : TMem wr tb nb S2 n room
  old : Blk wr sb (S.flatMap enS) 275
  inv : FInv (homeN (2 * S.length)) S2
  len : S2.length = 2 * S.length
  ents : (entsF S2).Perm (entsF (S.take i))
  kp : Kp (fun b => b = tb) w wr
  new : w.heap.size ≤ nb
theorem GrI.next {S : Slots Th} {w wr w' : World} {tb sb nb i : Nat} {S2 : Slots Th} {n room : Nat} (h : GrI S w wr tb sb nb i S2 n room) (k : Kp none' wr w') : GrI S w w' tb sb nb i S2 n room :=
  ⟨h.mem.old k, h.old.kp k id, h.inv, h.len, h.ents, h.kp.then k (fun _ _ x => x.elim), h.new⟩
set_option maxRecDepth 100000 in
set_option maxHeartbeats 4000000 in
theorem fGrow (w : World) (tb sb : Nat) (S : Slots Th) (n room : Nat) (h : TMem w tb sb S n room) (ok : TOk S n room) (hb : S.length ≤ 5462) :
    Calls Tryz.prog 134 #[.pointer (some ⟨tb, 0, none⟩)] w fun e w' => e = .returned (.tuple #[]) ∧ ∃ nb S2, GrI S w w' tb sb nb S.length S2 n room := by
  have c := h.top.cell 0 rfl
  have fz := h.top.fz 0
  obtain ⟨hp2, hb2⟩ := Pw.twice ok.pw hb
  have hN := ok.pw.pos
  have hmk := run_make_flat tSl enS enS_len none rfl (2 * S.length) (by omega) (by omega) w
  have hne : sb ≠ tb := fun e => by have := (blk_ne h.cel h.top (by decide)); exact this e
  have HI : Hid (GrI S w ((w.alloc (.cells ((List.replicate (2 * S.length) (none : Option (Nat × Th))).flatMap enS).toArray 275)).setCell ⟨tb, 0, none⟩ (.slice (some ⟨w.heap.size, 0, none⟩) (2 * S.length) (2 * S.length))) tb sb w.heap.size 0 (List.replicate (2 * S.length) none) n room) := by
    have hlt := h.top.lt
    refine ⟨⟨?_, ?_⟩, ?_, FInv.nil _ (fun id => homeN_lt _ _ (by omega)), by rw [List.length_replicate], by rw [ents_nil, List.take_zero]; exact List.Perm.refl _, ?_, Nat.le_refl _⟩
    · have := (h.top.alloc (.cells ((List.replicate (2 * S.length) (none : Option (Nat × Th))).flatMap enS).toArray 275)).set 0 (.slice (some ⟨w.heap.size, 0, none⟩) (2 * S.length) (2 * S.length))
      rw [List.length_replicate]; exact this
    · exact (Blk.new w _ _).setNe (a := ⟨tb, 0, none⟩) (by show w.heap.size ≠ tb; omega) _
    · exact (h.cel.alloc _).setNe (a := ⟨tb, 0, none⟩) hne _
    · exact ((Kp.refl (fun b => b = tb) w).alloc _).set (p := ⟨tb, 0, none⟩) (.inl rfl) _
  have hcast : ((2 * S.length : Nat) : Int) = 2 * (S.length : Int) := by omega
  rw [hcast] at hmk
  have hmk2 : (Instr.makeSlice 276 (.int .i64 (2 * (S.length : Int))) (.int .i64 (2 * (S.length : Int)))).run Tryz.prog w = .ok (.slice (some ⟨w.heap.size, 0, none⟩) (2 * S.length) (2 * S.length)) (w.alloc (.cells ((List.replicate (2 * S.length) (none : Option (Nat × Th))).flatMap enS).toArray 275)) := hmk
  have c1 := (Kp.refl none' w).alloc (.cells ((List.replicate (2 * S.length) (none : Option (Nat × Th))).flatMap enS).toArray 275)
  have c2 := c1.cell c id
  have fz2 : (w.alloc (.cells ((List.replicate (2 * S.length) (none : Option (Nat × Th))).flatMap enS).toArray 275)).frozen? ⟨tb, 0, none⟩ = false := (h.top.alloc _).fz 0
  clear h hmk hcast c1
  go_enter Tryz.func134, Tryz.ntmps134
  go_wp2
  clear c c2 fz fz2 hmk2
  go_loopw [18] (fun i0 wr => ∃ (i nb : Nat) (S2 : Slots Th), i0 = .int .i64 i ∧ i ≤ S.length ∧ Hid (GrI S w wr tb sb nb i S2 n room)) (fun i0 _ => S.length - (intOf i0).toNat)
  case atStart => exact ⟨0, w.heap.size, _, rfl, by omega, HI.out⟩
  case round =>
    obtain ⟨i, nb, S2, rfl, hi, hr⟩ := hrel
    by_cases hlt : i < S.length
    · have hii : (i : Int) < S.length := by omega
      have G := Lib.hid hr.out
      have hst := ents_step S i hlt
      have hoc : ∀ k u, k < 5 → (enS (tAt S i))[k]? = some u → wr.cell? ⟨sb, i * 5 + k, none⟩ = some u := fun k u hk hu => by
        refine G.out.old.cell _ ?_
        rw [flat_get enS 5 enS_len _ _ _ hk, List.getElem?_eq_getElem hlt]
        unfold tAt at hu
        rw [List.getD_eq_getElem?_getD, List.getElem?_eq_getElem hlt] at hu
        simpa using hu
      clear hr HI
      cases ht : tAt S i with
      | none =>
        rw [ht] at hoc hst
        have o0 := hoc 0 _ (by omega) rfl
        have o1 := hoc 1 _ (by omega) rfl
        have o2 := hoc 2 _ (by omega) rfl
        have o3 := hoc 3 _ (by omega) rfl
        have o4 := hoc 4 _ (by omega) rfl
        simp only [Nat.add_zero] at o0
        have HE : Hid ((entsF S2).Perm (entsF (S.take (i + 1)))) := by show List.Perm _ _; rw [hst]; simpa using G.out.ents
        have hk1 := (Kp.refl none' wr).alloc (.cells (enS none).toArray 275)
        have HG : Hid (GrI S w (wr.alloc (.cells (enS none).toArray 275)) tb sb nb (i + 1) S2 n room) := by
          have := G.out.next hk1
          exact { this with ents := HE.out }
        clear hoc hst ht hk1
        go_wp2_with fail
        go_roundw
        case rel => exact ⟨i + 1, nb, S2, by go_num, by omega, HG.out⟩
        case measure => simp [intOf]; omega
      | some ex =>
        obtain ⟨k, x⟩ := ex
        rw [ht] at hoc hst
        have o0 := hoc 0 _ (by omega) rfl
        have o1 := hoc 1 _ (by omega) rfl
        have o2 := hoc 2 _ (by omega) rfl
        have o3 := hoc 3 _ (by omega) rfl
        have o4 := hoc 4 _ (by omega) rfl
        simp only [Nat.add_zero] at o0
        have hkid : k < 4294967296 := ok.ids (k, x) ((ents_mem S _).2 ⟨i, hlt, ht⟩)
        have hent : (entsF S2).length < S.length + 1 := by
          have h1 := G.out.ents.length_eq
          have h2 := ents_len (S.take i)
          rw [List.length_take] at h2
          omega
        have hL := G.out.len
        have hfree : ∃ j, j < S2.length ∧ tAt S2 j = none := unused S2 (by omega)
        have hhm : ∀ id, homeN S2.length id < S2.length := fun id => homeN_lt _ _ (by omega)
        obtain ⟨d, f⟩ := FAt.there (hm := homeN S2.length) hhm k hfree
        have hinv : FInv (homeN S2.length) S2 := by rw [hL]; exact G.out.inv
        have hnone : tAt S2 (ad S2.length (homeN S2.length k) d) = none := by
          rcases f.fin with h1 | ⟨y, h1⟩
          · exact h1
          · exfalso
            have hm : (k, y) ∈ entsF (S.take i) := G.out.ents.mem_iff.1 ((ents_mem S2 _).2 ⟨_, ad_lt (hhm k) f.lt, h1⟩)
            obtain ⟨j, hj, ej⟩ := (ents_mem _ _).1 hm
            rw [List.length_take] at hj
            have ej' : tAt S j = some (k, y) := by
              unfold tAt at ej ⊢
              rw [List.getD_eq_getElem?_getD, List.getElem?_take, if_pos (by omega)] at ej
              rw [List.getD_eq_getElem?_getD]; exact ej
            have := ok.inv.one j i k y x (by omega) hlt ej' ht
            omega
        have hput := hinv.put f hnone x
        have hperm := ents_put S2 _ (ad_lt (hhm k) f.lt) hnone (k, x)
        have hql := ad_lt (hhm k) f.lt
        have GF := Lib.hid (fun W h => fFindAt S2 k d (by rw [hL]; exact hp2) (by omega) hkid hfree f W tb nb n room h)
        have hset := flat_set enS 5 enS_len S2 (ad S2.length (homeN S2.length k) d) (some (k, x)) hql
        have HE : Hid ((entsF (S2.set (ad S2.length (homeN S2.length k) d) (some (k, x)))).Perm (entsF (S.take (i + 1)))) := by
          show List.Perm _ _
          rw [hst]
          exact hperm.trans ((List.Perm.cons _ G.out.ents).trans (List.perm_append_singleton _ _).symm)
        have hfin := hput
        rw [hL] at hfin
        have HFIN := Lib.hid hfin
        clear hoc hst hent f hinv hnone hput hperm hfin hfree hhm ht
        have hql2 : ad S2.length (homeN S2.length k) d < 2 * S.length := by omega
        rw [hL] at hset hql2 GF HE
        obtain ⟨q, hq⟩ : ∃ q, ad (2 * S.length) (homeN (2 * S.length) k) d = q := ⟨_, rfl⟩
        rw [hq] at hset hql2 GF HE HFIN
        clear hql hq
        have hqi : (q : Int) < 2 * (S.length : Int) := by omega
        have hk1 := (Kp.refl none' wr).alloc (.cells (enS (some (k, x))).toArray 275)
        have hbx := Blk.new wr (enS (some (k, x))) 275
        have HG := Lib.hid (G.out.next hk1)
        have HBX := Lib.hid hbx
        have HSET := Lib.hid hset
        clear hk1 hbx hset
        go_wp2_with fail
        change Code.wp _ _ _ _ (wr.alloc (.cells (enS (some (k, x))).toArray 275))
        obtain ⟨pb, hpb⟩ : ∃ p, wr.heap.size = p := ⟨_, rfl⟩
        rw [hpb] at HBX ⊢
        generalize wr.alloc (.cells (enS (some (k, x))).toArray 275) = w1 at *
        clear hpb o0 o1 o2 o3 o4 G
        have x0 := HBX.out.cell 0 rfl
        have x1 := HBX.out.cell 1 rfl
        have x2 := HBX.out.cell 2 rfl
        have x3 := HBX.out.cell 3 rfl
        have x4 := HBX.out.cell 4 rfl
        have t0 := HG.out.mem.top.cell 0 rfl
        rw [HG.out.len] at t0
        refine wp_region_kept2 [] [0, 1, 2, 3, 4, 5, 6, 7, 8, 9] 10 (by kernel_rfl) (by kernel_rfl) (fun c a d u w h => by cases d <;> exact h) ?_
        simp only [pick, List.getElem?_cons_succ, List.getElem?_cons_zero, List.drop_succ_cons, List.drop_zero]
        show wpKL _ _ _ _ _ _
        repeat (first
          | (refine wpKL_op (by exact rfl) (by as_aux_lemma => intro W hK; have e0 := hK.cell x0 id; have e1 := hK.cell x1 id; have e2 := hK.cell x2 id; have e4 := hK.cell x3 id; have e5 := hK.cell x4 id; have e3 := hK.cell t0 id; go_simp; exact rfl) ?_; simp only [Act.put, List.setIfInBounds_toArray, List.set_cons_succ, List.set_cons_zero])
          | (refine wpKL_off (by exact rfl) ?_; simp only [Act.put, List.setIfInBounds_toArray, List.set_cons_succ, List.set_cons_zero])
          | (refine wpKL_call (by exact rfl) (by as_aux_lemma => intro W; go_simp; exact ⟨rfl, rfl⟩) (by intro W hK; with_reducible first | exact GF.out W (HG.out.mem.old hK)) ?_; simp only [Act.put, List.setIfInBounds_toArray, List.set_cons_succ, List.set_cons_zero]))
        show ∀ W, _ → wpList _ _ _ _ _ _
        intro W2 hK2
        have HG2 := Lib.hid (HG.out.next hK2)
        clear hK2 x0 x1 x2 x3 x4 t0 HG HBX GF
        have hnb : nb ≠ tb := fun e => by have := HG2.out.mem; exact (blk_ne this.cel this.top (by decide)) e
        have hnbs : nb ≠ sb := fun e => by
          have h1 := HG2.out.mem.cel; have h2 := HG2.out.old
          rw [e] at h1
          have h3 := (h1.inj h2).1
          have h4 := congrArg List.length h3
          rw [flat_len enS 5 enS_len, flat_len enS 5 enS_len, hL] at h4
          omega
        have hone : ∀ v ∈ enS (some (k, x)), v.oneCell' = true := by
          intro v hv
          simp only [enS, List.mem_cons, List.not_mem_nil, or_false] at hv
          rcases hv with rfl | rfl | rfl | rfl | rfl <;> rfl
        have hin : q * 5 + (enS (some (k, x))).length ≤ (S2.flatMap enS).length := by rw [flat_len enS 5 enS_len, enS_len, hL]; omega
        refine wp_set_mid rfl 275 (.tmp 33) (.tmp 32) rfl HG2.out.mem.cel (q * 5) (enS (some (k, x))) rfl rfl (by kernel_rfl) hin hone ?_
        intro W3 hB3 hO3 hK3
        rw [← HSET.out] at hB3
        have HF : Hid (GrI S w W3 tb sb nb (i + 1) (S2.set q (some (k, x))) n room) := by
          have h2 := hO3 _ _ _ HG2.out.mem.top hnb.symm
          have h3 := hO3 _ _ _ HG2.out.old hnbs.symm
          have hn := HG2.out.new
          have h4 := hK3 _ _ HG2.out.kp (.inr hn)
          exact ⟨⟨by rw [List.length_set]; exact h2, hB3⟩, h3, HFIN.out, by rw [List.length_set]; exact hL, HE.out, h4, hn⟩
        clear HG2 hB3 hO3 hK3
        simp only [Act.put]
        go_wp2_with fail
        go_roundw
        case rel => exact ⟨i + 1, nb, S2.set q (some (k, x)), by go_num, by omega, HF.out⟩
        case measure => simp [intOf]; omega
    · have hie : i = S.length := by omega
      subst hie
      go_wp2_with fail
      go_end0
      exact ⟨rfl, nb, S2, hr.out⟩
end Go.Proofs.YtfckgddodjmbdaaGreatDoor.flowOwn
