/- Layer 15: a step. -/
import Derived.Test.YthnlggecjdifnaaFlTl
namespace Go.Proofs.Ythnlggecjdifnaa
set_option linter.unusedVariables false
set_option linter.unusedSimpArgs false
open Go.RowKit flowInt

theorem flowInt.Tb.setNe {w : World} {B0 tb room lb : Nat} {E : List (Nat × Int)} (h : Tb w B0 tb room E) {cs : List Value} {t : TypeId} (hb : Blk w lb cs t) (t1 : t ≠ 63) (t2 : t ≠ 43) (u : Value) : Tb (w.setCell ⟨lb, 0, none⟩ u) B0 tb room E :=
  h.apart (S := fun b => b = lb) ((Kp.refl (fun b => b = lb) w).set (p := ⟨lb, 0, none⟩) (.inl rfl) u) (fun b e => by subst e; exact ⟨_, _, hb, t1, t2⟩)
theorem rr_ts {w w' : World} {B0 : Nat} {v : Value} {l : List (Nat × Int)} (h : Rr w B0 v l) (T : Ts B0 w w') : Rr w' B0 v l := by
  refine ⟨h.1, ?_⟩
  rcases h.2 with h | ⟨g, cap, cur, hv, hg, hh, r⟩
  · exact .inl h
  · exact .inr ⟨g, cap, cur, hv, hg, T.oth _ _ _ _ hh (by decide) (by decide), r⟩
theorem blk_ts {w w' : World} {B0 b : Nat} {cs : List Value} {t : TypeId} (h : Blk w b cs t) (t1 : t ≠ 63) (t2 : t ≠ 43) (T : Ts B0 w w') : Blk w' b cs t := ⟨T.oth _ _ _ _ h.is t1 t2⟩
structure SI (w : World) (B0 tb room lb : Nat) (v : Value) (l E : List (Nat × Int)) : Prop where
  tab : Tb w B0 tb room E
  box : Blk w lb [v] 28
  row : Rr w B0 v l
  rel : Rel l E
  lb0 : B0 ≤ lb
  b0 : B0 ≤ w.heap.size
theorem SI.old {w w' : World} {B0 tb room lb : Nat} {v : Value} {l E : List (Nat × Int)} (h : SI w B0 tb room lb v l E) (k : Kp none' w w') : SI w' B0 tb room lb v l E :=
  ⟨h.tab.kp k (fun _ _ x => x), h.box.kp k (fun x => x), own_kp h.row k (fun _ _ x => x), h.rel, h.lb0, Nat.le_trans h.b0 k.size⟩
theorem SI.len {w : World} {B0 tb room lb : Nat} {v : Value} {l E : List (Nat × Int)} (h : SI w B0 tb room lb v l E) : l.length ≤ 4096 := by have := h.rel.perm.length_eq; have := h.tab.len; omega
/-- A new list stored: what lies then, the table as it was. -/
structure SM (w : World) (B0 tb room lb : Nat) (v : Value) (l E : List (Nat × Int)) : Prop where
  tab : Tb w B0 tb room E
  box : Blk w lb [v] 28
  row : Rr w B0 v l
  lb0 : B0 ≤ lb
  b0 : B0 ≤ w.heap.size
theorem SI.store {w w1 : World} {B0 tb room lb : Nat} {v v' : Value} {l l' E : List (Nat × Int)} (h : SI w B0 tb room lb v l E) (k : Kp none' w w1) (hr : Rr w1 B0 v' l') : SM (w1.setCell ⟨lb, 0, none⟩ v') B0 tb room lb v' l' E := by
  have h1 := h.old k
  refine ⟨h1.tab.setNe h1.box (by decide) (by decide) _, h1.box.set 0 _, ?_, h1.lb0, by have := h1.b0; simpa using this⟩
  exact own_setNe hr (fun b hb e => own_ne_blk hr h1.box (by decide) (by rw [hb]; exact congrArg some e)) _
theorem SM.ts {w w' : World} {B0 tb room lb : Nat} {v : Value} {l E E' : List (Nat × Int)} (h : SM w B0 tb room lb v l E) (T : Ts B0 w w') (t : Tb w' B0 tb room E') (r : Rel l E') : SI w' B0 tb room lb v l E' :=
  ⟨t, blk_ts h.box (by decide) (by decide) T, rr_ts h.row T, r, h.lb0, Nat.le_trans h.b0 T.kp.size⟩
theorem SM.old {w w' : World} {B0 tb room lb : Nat} {v : Value} {l E : List (Nat × Int)} (h : SM w B0 tb room lb v l E) (k : Kp none' w w') (r : Rel l E) : SI w' B0 tb room lb v l E :=
  ⟨h.tab.kp k (fun _ _ x => x), h.box.kp k (fun x => x), own_kp h.row k (fun _ _ x => x), r, h.lb0, Nat.le_trans h.b0 k.size⟩
theorem putBoth {l E : List (Nat × Int)} (R : Rel l E) (B0 tb room id : Nat) (hid : id < 4294967296) (x : Int) (hl : l.length ≤ 4096) : ∃ (c : Nat) (l' : List (Nat × Int)),
    (∀ W v, Rr W B0 v l → B0 ≤ W.heap.size → Calls Try.prog 14 #[v, .int .i64 room, .int .u32 id, .int .i64 x] W fun e w' => ∃ v', e = .returned (.tuple #[v', .int .i64 c]) ∧ Rr w' B0 v' l' ∧ Kp none' W w') ∧
    (∀ W, Tb W B0 tb room E → B0 ≤ W.heap.size → Calls Try.prog 15 #[.pointer (some ⟨tb, 0, none⟩), .int .u32 id, .int .i64 x] W fun e w' => e = .returned (.int .i64 c) ∧ ∃ E', Tb w' B0 tb room E' ∧ Ts B0 W w' ∧ Rel l' E') := by
  by_cases hin : id ∈ l.map (·.1)
  · obtain ⟨y, hy, hyE⟩ := R.isin hin
    refine ⟨8, l, fun W v h _ => ?_, fun W T hb => ?_⟩
    · refine (rPutThere W B0 v l h room id x (by omega) hin).mono ?_
      rintro e w' ⟨rfl, rfl⟩
      exact ⟨v, rfl, h, Kp.refl _ _⟩
    · refine (bPutThere T id hid x y hyE).mono ?_
      rintro e w' ⟨rfl, hk⟩
      exact ⟨rfl, E, T.kp hk (fun _ _ x => x), Ts.old hk, R⟩
  · by_cases hr : room ≤ l.length
    · refine ⟨20, l, fun W v h _ => ?_, fun W T hb => ?_⟩
      · refine (rPutFull W B0 v l h room id x (by omega) hin hr).mono ?_
        rintro e w' ⟨rfl, rfl⟩
        exact ⟨v, rfl, h, Kp.refl _ _⟩
      · refine (bPutFull T id hid x (R.notin hin) (by rw [← R.perm.length_eq]; exact hr)).mono ?_
        rintro e w' ⟨rfl, hk⟩
        exact ⟨rfl, E, T.kp hk (fun _ _ x => x), Ts.old hk, R⟩
    · refine ⟨0, insF id x l, fun W v h hb => ?_, fun W T hb => ?_⟩
      · refine (rPutNew W B0 v l h room id x (by omega) hin (by omega)).mono ?_
        rintro e w' ⟨v', rfl, hr', hk⟩
        exact ⟨v', rfl, own_base hr' hb, hk⟩
      · refine (bPutNew T hb id hid x (R.notin hin) (by rw [← R.perm.length_eq]; omega)).mono ?_
        rintro e w' ⟨rfl, ht, hk⟩
        exact ⟨rfl, _, ht, hk, R.ins hin x⟩
theorem setBoth {l E : List (Nat × Int)} (R : Rel l E) (B0 tb room id : Nat) (hid : id < 4294967296) (x : Int) (hl : l.length ≤ 4096) : ∃ (c : Bool) (l' : List (Nat × Int)),
    (∀ W v, Rr W B0 v l → B0 ≤ W.heap.size → Calls Try.prog 16 #[v, .int .u32 id, .int .i64 x] W fun e w' => ∃ v', e = .returned (.tuple #[v', .bool c]) ∧ Rr w' B0 v' l' ∧ Kp none' W w') ∧
    (∀ W, Tb W B0 tb room E → B0 ≤ W.heap.size → Calls Try.prog 17 #[.pointer (some ⟨tb, 0, none⟩), .int .u32 id, .int .i64 x] W fun e w' => e = .returned (.bool c) ∧ ∃ E', Tb w' B0 tb room E' ∧ Ts B0 W w' ∧ Rel l' E') := by
  by_cases hin : id ∈ l.map (·.1)
  · obtain ⟨y, hy, hyE⟩ := R.isin hin
    refine ⟨true, setF id x l, fun W v h hb => ?_, fun W T hb => ?_⟩
    · refine (rSet W B0 v l h id x (by omega) R.nod hin).mono ?_
      rintro e w' ⟨v', rfl, hr', hk⟩
      exact ⟨v', rfl, own_base hr' hb, hk⟩
    · refine (bSet T id hid x y hyE).mono ?_
      rintro e w' ⟨rfl, ht, hk⟩
      exact ⟨rfl, _, ht, hk, R.set id x⟩
  · refine ⟨false, l, fun W v h _ => ?_, fun W T hb => ?_⟩
    · refine (rSetNone W B0 v l h id x (by omega) hin).mono ?_
      rintro e w' ⟨rfl, rfl⟩
      exact ⟨v, rfl, h, Kp.refl _ _⟩
    · refine (bSetNone T id hid x (R.notin hin)).mono ?_
      rintro e w' ⟨rfl, hk⟩
      exact ⟨rfl, E, T.kp hk (fun _ _ x => x), Ts.old hk, R⟩
theorem dropBoth {l E : List (Nat × Int)} (R : Rel l E) (B0 tb room id : Nat) (hid : id < 4294967296) (hl : l.length ≤ 4096) : ∃ (y : Int) (c : Bool) (l' : List (Nat × Int)),
    (∀ W v, Rr W B0 v l → B0 ≤ W.heap.size → Calls Try.prog 18 #[v, .int .u32 id] W fun e w' => ∃ v', e = .returned (.tuple #[v', .int .i64 y, .bool c]) ∧ Rr w' B0 v' l' ∧ Kp none' W w') ∧
    (∀ W, Tb W B0 tb room E → B0 ≤ W.heap.size → Calls Try.prog 19 #[.pointer (some ⟨tb, 0, none⟩), .int .u32 id] W fun e w' => e = .returned (.tuple #[.int .i64 y, .bool c]) ∧ ∃ E', Tb w' B0 tb room E' ∧ Ts B0 W w' ∧ Rel l' E') := by
  by_cases hin : id ∈ l.map (·.1)
  · obtain ⟨y, hy, hyE⟩ := R.isin hin
    refine ⟨y, true, delF id l, fun W v h hb => ?_, fun W T hb => ?_⟩
    · refine (rDrop W B0 v l h id y (by omega) R.nod hy).mono ?_
      rintro e w' ⟨v', rfl, hr', hk⟩
      exact ⟨v', rfl, own_base hr' hb, hk⟩
    · refine (bDrop T id hid y hyE).mono ?_
      rintro e w' ⟨rfl, ht, hk⟩
      exact ⟨rfl, _, ht, hk, R.del id⟩
  · refine ⟨0, false, l, fun W v h _ => ?_, fun W T hb => ?_⟩
    · refine (rDropNone W B0 v l h id (by omega) hin).mono ?_
      rintro e w' ⟨rfl, rfl⟩
      exact ⟨v, rfl, h, Kp.refl _ _⟩
    · refine (bDropNone T id hid (R.notin hin)).mono ?_
      rintro e w' ⟨rfl, hk⟩
      exact ⟨rfl, E, T.kp hk (fun _ _ x => x), Ts.old hk, R⟩
set_option maxRecDepth 100000 in
set_option maxHeartbeats 8000000 in
theorem stepW (w : World) (B0 tb room lb : Nat) (v : Value) (l E : List (Nat × Int)) (S : SI w B0 tb room lb v l E) (k id : Nat) (x : Int) (hk : k < 256) (hid : id < 4294967296) :
    Calls Try.prog 6 #[.pointer (some ⟨tb, 0, none⟩), .pointer (some ⟨lb, 0, none⟩), .int .i64 room, .agg #[.int .u8 k, .int .u32 id, .int .i64 x]] w fun e w' => e = .returned (.bool true) ∧ (∃ v' l' E', SI w' B0 tb room lb v' l' E') ∧ Kp (fun b => B0 ≤ b) w w' ∧ (∀ b cs t, Blk w b cs t → t ≠ 63 → t ≠ 43 → b ≠ lb → Blk w' b cs t) := by
  obtain ⟨vo, vcap, rfl⟩ := own_shape S.row
  have hkb := (Kp.refl none' w).alloc (.cells #[.int .u8 k, .int .u32 id, .int .i64 x] 31)
  have hbx := Blk.new w [.int .u8 k, .int .u32 id, .int .i64 x] 31
  have hs1 := S.old hkb
  have x0 := hbx.cell 0 rfl
  have x1 := hbx.cell 1 rfl
  have x2 := hbx.cell 2 rfl
  have b0 := hs1.box.cell 0 rfl
  have HX := Lib.hid hbx
  have HS1 := Lib.hid hs1
  have HKB := Lib.hid (hkb.mono (T := fun b => B0 ≤ b) fun _ _ x => x.elim)
  have hk0 : (0 : Int) ≤ (k : Int) := by omega
  clear S hkb hbx hs1
  obtain ⟨mm, hmm⟩ : ∃ m : Nat, k % 8 = m := ⟨_, rfl⟩
  have hm8 : mm = 0 ∨ mm = 1 ∨ mm = 2 ∨ mm = 3 ∨ mm = 4 ∨ mm = 5 ∨ mm = 6 ∨ mm = 7 := by omega
  have hk8 : (k : Int) % 8 = mm := by omega
  have hk9 : (k : Int).tmod 8 = mm := by rw [Int.tmod_eq_emod_of_nonneg (by omega)]; omega
  clear hmm
  rcases hm8 with rfl | rfl | rfl | rfl | rfl | rfl | rfl | rfl
  · obtain ⟨c, l', h1, h2⟩ := putBoth HS1.out.rel B0 tb room id hid x HS1.out.len
    have HP := Lib.hid h1; have HT := Lib.hid h2
    clear h1 h2
    go_enter Try.func6, Try.ntmps6
    go_wp2_with fail
    go_region_held3 (fun w' => w'.cell? ⟨lb, 0, none⟩ = some (.slice vo l.length vcap) ∧ w'.cell? ⟨w.heap.size, 1, none⟩ = some (.int .u32 id) ∧ w'.cell? ⟨w.heap.size, 2, none⟩ = some (.int .i64 x)) (go_keep)
      ((go_at_call 14; refine (HP.out _ _ (own_kp (S := none') HS1.out.row (Kp.refl _ _).drew (fun _ _ x => x)) HS1.out.b0).mono ?_; rintro e w3 ⟨v', rfl, hr3, hk3⟩
        have e0 := hk3.cell b0 (fun x => x); have e1 := hk3.cell x1 (fun x => x); have e2 := hk3.cell x2 (fun x => x)
        obtain ⟨ao, cap, rfl⟩ := own_shape hr3
        have HK3 := Lib.hid ((Kp.refl none' _).drew.trans hk3); have HR3 := Lib.hid hr3; clear hk3 hr3))
    have S4 := Lib.hid (HS1.out.store HK3.out HR3.out)
    have HA := Lib.hid (HX.out.kp HK3.out (fun x => x))
    have HBX := Lib.hid (HS1.out.box.kp HK3.out (fun x => x))
    have f0 := HBX.out.fz 0
    have g0 := HBX.out.cell 0 rfl
    have hlb := HS1.out.lb0
    have z1 := (HA.out.setNe (a := ⟨lb, 0, none⟩) (fun e => blk_ne HA.out HBX.out (by decide) e) (.slice ao l'.length cap)).cell 1 rfl
    have z2 := (HA.out.setNe (a := ⟨lb, 0, none⟩) (fun e => blk_ne HA.out HBX.out (by decide) e) (.slice ao l'.length cap)).cell 2 rfl
    have HK4 := Lib.hid ((HKB.out.trans (HK3.out.mono (T := fun b => B0 ≤ b) fun _ _ x => x.elim)).set (p := ⟨lb, 0, none⟩) (.inl hlb) (.slice ao l'.length cap))
    have HB4 := Lib.hid (fun b cs t (h : Blk w b cs t) (hb : b ≠ lb) => ((h.alloc (.cells #[.int .u8 k, .int .u32 id, .int .i64 x] 31)).kp HK3.out (fun x => x)).setNe (a := ⟨lb, 0, none⟩) hb (.slice ao l'.length cap))
    clear b0 x1 x2
    go_wp2_with (go_at_call 15; refine (HT.out _ S4.out.tab S4.out.b0).mono ?_; rintro e w5 ⟨rfl, E', ht, hts, hrel⟩; have HS5 := Lib.hid (S4.out.ts hts ht hrel); have HK5 := Lib.hid (HK4.out.trans hts.kp); have HB5 := Lib.hid (fun b cs t h t1 t2 h3 => blk_ts (HB4.out b cs t h h3) t1 t2 hts); clear ht hts hrel)
    go_ret
    exact ⟨by first | rfl | simp, ⟨_, _, _, HS5.out⟩, HK5.out, HB5.out⟩
  · obtain ⟨c, l', h1, h2⟩ := putBoth HS1.out.rel B0 tb room id hid x HS1.out.len
    have HP := Lib.hid h1; have HT := Lib.hid h2
    clear h1 h2
    go_enter Try.func6, Try.ntmps6
    go_wp2_with fail
    go_region_held3 (fun w' => w'.cell? ⟨lb, 0, none⟩ = some (.slice vo l.length vcap) ∧ w'.cell? ⟨w.heap.size, 1, none⟩ = some (.int .u32 id) ∧ w'.cell? ⟨w.heap.size, 2, none⟩ = some (.int .i64 x)) (go_keep)
      ((go_at_call 14; refine (HP.out _ _ (own_kp (S := none') HS1.out.row (Kp.refl _ _).drew (fun _ _ x => x)) HS1.out.b0).mono ?_; rintro e w3 ⟨v', rfl, hr3, hk3⟩
        have e0 := hk3.cell b0 (fun x => x); have e1 := hk3.cell x1 (fun x => x); have e2 := hk3.cell x2 (fun x => x)
        obtain ⟨ao, cap, rfl⟩ := own_shape hr3
        have HK3 := Lib.hid ((Kp.refl none' _).drew.trans hk3); have HR3 := Lib.hid hr3; clear hk3 hr3))
    have S4 := Lib.hid (HS1.out.store HK3.out HR3.out)
    have HA := Lib.hid (HX.out.kp HK3.out (fun x => x))
    have HBX := Lib.hid (HS1.out.box.kp HK3.out (fun x => x))
    have f0 := HBX.out.fz 0
    have g0 := HBX.out.cell 0 rfl
    have hlb := HS1.out.lb0
    have z1 := (HA.out.setNe (a := ⟨lb, 0, none⟩) (fun e => blk_ne HA.out HBX.out (by decide) e) (.slice ao l'.length cap)).cell 1 rfl
    have z2 := (HA.out.setNe (a := ⟨lb, 0, none⟩) (fun e => blk_ne HA.out HBX.out (by decide) e) (.slice ao l'.length cap)).cell 2 rfl
    have HK4 := Lib.hid ((HKB.out.trans (HK3.out.mono (T := fun b => B0 ≤ b) fun _ _ x => x.elim)).set (p := ⟨lb, 0, none⟩) (.inl hlb) (.slice ao l'.length cap))
    have HB4 := Lib.hid (fun b cs t (h : Blk w b cs t) (hb : b ≠ lb) => ((h.alloc (.cells #[.int .u8 k, .int .u32 id, .int .i64 x] 31)).kp HK3.out (fun x => x)).setNe (a := ⟨lb, 0, none⟩) hb (.slice ao l'.length cap))
    clear b0 x1 x2
    go_wp2_with (go_at_call 15; refine (HT.out _ S4.out.tab S4.out.b0).mono ?_; rintro e w5 ⟨rfl, E', ht, hts, hrel⟩; have HS5 := Lib.hid (S4.out.ts hts ht hrel); have HK5 := Lib.hid (HK4.out.trans hts.kp); have HB5 := Lib.hid (fun b cs t h t1 t2 h3 => blk_ts (HB4.out b cs t h h3) t1 t2 hts); clear ht hts hrel)
    go_ret
    exact ⟨by first | rfl | simp, ⟨_, _, _, HS5.out⟩, HK5.out, HB5.out⟩
  · obtain ⟨c, l', h1, h2⟩ := putBoth HS1.out.rel B0 tb room id hid x HS1.out.len
    have HP := Lib.hid h1; have HT := Lib.hid h2
    clear h1 h2
    go_enter Try.func6, Try.ntmps6
    go_wp2_with fail
    go_region_held3 (fun w' => w'.cell? ⟨lb, 0, none⟩ = some (.slice vo l.length vcap) ∧ w'.cell? ⟨w.heap.size, 1, none⟩ = some (.int .u32 id) ∧ w'.cell? ⟨w.heap.size, 2, none⟩ = some (.int .i64 x)) (go_keep)
      ((go_at_call 14; refine (HP.out _ _ (own_kp (S := none') HS1.out.row (Kp.refl _ _).drew (fun _ _ x => x)) HS1.out.b0).mono ?_; rintro e w3 ⟨v', rfl, hr3, hk3⟩
        have e0 := hk3.cell b0 (fun x => x); have e1 := hk3.cell x1 (fun x => x); have e2 := hk3.cell x2 (fun x => x)
        obtain ⟨ao, cap, rfl⟩ := own_shape hr3
        have HK3 := Lib.hid ((Kp.refl none' _).drew.trans hk3); have HR3 := Lib.hid hr3; clear hk3 hr3))
    have S4 := Lib.hid (HS1.out.store HK3.out HR3.out)
    have HA := Lib.hid (HX.out.kp HK3.out (fun x => x))
    have HBX := Lib.hid (HS1.out.box.kp HK3.out (fun x => x))
    have f0 := HBX.out.fz 0
    have g0 := HBX.out.cell 0 rfl
    have hlb := HS1.out.lb0
    have z1 := (HA.out.setNe (a := ⟨lb, 0, none⟩) (fun e => blk_ne HA.out HBX.out (by decide) e) (.slice ao l'.length cap)).cell 1 rfl
    have z2 := (HA.out.setNe (a := ⟨lb, 0, none⟩) (fun e => blk_ne HA.out HBX.out (by decide) e) (.slice ao l'.length cap)).cell 2 rfl
    have HK4 := Lib.hid ((HKB.out.trans (HK3.out.mono (T := fun b => B0 ≤ b) fun _ _ x => x.elim)).set (p := ⟨lb, 0, none⟩) (.inl hlb) (.slice ao l'.length cap))
    have HB4 := Lib.hid (fun b cs t (h : Blk w b cs t) (hb : b ≠ lb) => ((h.alloc (.cells #[.int .u8 k, .int .u32 id, .int .i64 x] 31)).kp HK3.out (fun x => x)).setNe (a := ⟨lb, 0, none⟩) hb (.slice ao l'.length cap))
    clear b0 x1 x2
    go_wp2_with (go_at_call 15; refine (HT.out _ S4.out.tab S4.out.b0).mono ?_; rintro e w5 ⟨rfl, E', ht, hts, hrel⟩; have HS5 := Lib.hid (S4.out.ts hts ht hrel); have HK5 := Lib.hid (HK4.out.trans hts.kp); have HB5 := Lib.hid (fun b cs t h t1 t2 h3 => blk_ts (HB4.out b cs t h h3) t1 t2 hts); clear ht hts hrel)
    go_ret
    exact ⟨by first | rfl | simp, ⟨_, _, _, HS5.out⟩, HK5.out, HB5.out⟩
  · obtain ⟨c, l', h1, h2⟩ := putBoth HS1.out.rel B0 tb room id hid x HS1.out.len
    have HP := Lib.hid h1; have HT := Lib.hid h2
    clear h1 h2
    go_enter Try.func6, Try.ntmps6
    go_wp2_with fail
    go_region_held3 (fun w' => w'.cell? ⟨lb, 0, none⟩ = some (.slice vo l.length vcap) ∧ w'.cell? ⟨w.heap.size, 1, none⟩ = some (.int .u32 id) ∧ w'.cell? ⟨w.heap.size, 2, none⟩ = some (.int .i64 x)) (go_keep)
      ((go_at_call 14; refine (HP.out _ _ (own_kp (S := none') HS1.out.row (Kp.refl _ _).drew (fun _ _ x => x)) HS1.out.b0).mono ?_; rintro e w3 ⟨v', rfl, hr3, hk3⟩
        have e0 := hk3.cell b0 (fun x => x); have e1 := hk3.cell x1 (fun x => x); have e2 := hk3.cell x2 (fun x => x)
        obtain ⟨ao, cap, rfl⟩ := own_shape hr3
        have HK3 := Lib.hid ((Kp.refl none' _).drew.trans hk3); have HR3 := Lib.hid hr3; clear hk3 hr3))
    have S4 := Lib.hid (HS1.out.store HK3.out HR3.out)
    have HA := Lib.hid (HX.out.kp HK3.out (fun x => x))
    have HBX := Lib.hid (HS1.out.box.kp HK3.out (fun x => x))
    have f0 := HBX.out.fz 0
    have g0 := HBX.out.cell 0 rfl
    have hlb := HS1.out.lb0
    have z1 := (HA.out.setNe (a := ⟨lb, 0, none⟩) (fun e => blk_ne HA.out HBX.out (by decide) e) (.slice ao l'.length cap)).cell 1 rfl
    have z2 := (HA.out.setNe (a := ⟨lb, 0, none⟩) (fun e => blk_ne HA.out HBX.out (by decide) e) (.slice ao l'.length cap)).cell 2 rfl
    have HK4 := Lib.hid ((HKB.out.trans (HK3.out.mono (T := fun b => B0 ≤ b) fun _ _ x => x.elim)).set (p := ⟨lb, 0, none⟩) (.inl hlb) (.slice ao l'.length cap))
    have HB4 := Lib.hid (fun b cs t (h : Blk w b cs t) (hb : b ≠ lb) => ((h.alloc (.cells #[.int .u8 k, .int .u32 id, .int .i64 x] 31)).kp HK3.out (fun x => x)).setNe (a := ⟨lb, 0, none⟩) hb (.slice ao l'.length cap))
    clear b0 x1 x2
    go_wp2_with (go_at_call 15; refine (HT.out _ S4.out.tab S4.out.b0).mono ?_; rintro e w5 ⟨rfl, E', ht, hts, hrel⟩; have HS5 := Lib.hid (S4.out.ts hts ht hrel); have HK5 := Lib.hid (HK4.out.trans hts.kp); have HB5 := Lib.hid (fun b cs t h t1 t2 h3 => blk_ts (HB4.out b cs t h h3) t1 t2 hts); clear ht hts hrel)
    go_ret
    exact ⟨by first | rfl | simp, ⟨_, _, _, HS5.out⟩, HK5.out, HB5.out⟩
  · obtain ⟨c, l', h1, h2⟩ := setBoth HS1.out.rel B0 tb room id hid x HS1.out.len
    have HP := Lib.hid h1; have HT := Lib.hid h2
    clear h1 h2
    go_enter Try.func6, Try.ntmps6
    go_wp2_with fail
    go_region_held3 (fun w' => w'.cell? ⟨lb, 0, none⟩ = some (.slice vo l.length vcap) ∧ w'.cell? ⟨w.heap.size, 1, none⟩ = some (.int .u32 id) ∧ w'.cell? ⟨w.heap.size, 2, none⟩ = some (.int .i64 x)) (go_keep)
      ((go_at_call 16; refine (HP.out _ _ (own_kp (S := none') HS1.out.row (Kp.refl _ _).drew (fun _ _ x => x)) HS1.out.b0).mono ?_; rintro e w3 ⟨v', rfl, hr3, hk3⟩
        have e0 := hk3.cell b0 (fun x => x); have e1 := hk3.cell x1 (fun x => x); have e2 := hk3.cell x2 (fun x => x)
        obtain ⟨ao, cap, rfl⟩ := own_shape hr3
        have HK3 := Lib.hid ((Kp.refl none' _).drew.trans hk3); have HR3 := Lib.hid hr3; clear hk3 hr3))
    have S4 := Lib.hid (HS1.out.store HK3.out HR3.out)
    have HA := Lib.hid (HX.out.kp HK3.out (fun x => x))
    have HBX := Lib.hid (HS1.out.box.kp HK3.out (fun x => x))
    have f0 := HBX.out.fz 0
    have g0 := HBX.out.cell 0 rfl
    have hlb := HS1.out.lb0
    have z1 := (HA.out.setNe (a := ⟨lb, 0, none⟩) (fun e => blk_ne HA.out HBX.out (by decide) e) (.slice ao l'.length cap)).cell 1 rfl
    have z2 := (HA.out.setNe (a := ⟨lb, 0, none⟩) (fun e => blk_ne HA.out HBX.out (by decide) e) (.slice ao l'.length cap)).cell 2 rfl
    have HK4 := Lib.hid ((HKB.out.trans (HK3.out.mono (T := fun b => B0 ≤ b) fun _ _ x => x.elim)).set (p := ⟨lb, 0, none⟩) (.inl hlb) (.slice ao l'.length cap))
    have HB4 := Lib.hid (fun b cs t (h : Blk w b cs t) (hb : b ≠ lb) => ((h.alloc (.cells #[.int .u8 k, .int .u32 id, .int .i64 x] 31)).kp HK3.out (fun x => x)).setNe (a := ⟨lb, 0, none⟩) hb (.slice ao l'.length cap))
    clear b0 x1 x2
    go_wp2_with (go_at_call 17; refine (HT.out _ S4.out.tab S4.out.b0).mono ?_; rintro e w5 ⟨rfl, E', ht, hts, hrel⟩; have HS5 := Lib.hid (S4.out.ts hts ht hrel); have HK5 := Lib.hid (HK4.out.trans hts.kp); have HB5 := Lib.hid (fun b cs t h t1 t2 h3 => blk_ts (HB4.out b cs t h h3) t1 t2 hts); clear ht hts hrel)
    go_ret
    exact ⟨by first | rfl | simp, ⟨_, _, _, HS5.out⟩, HK5.out, HB5.out⟩
  · obtain ⟨y, c, l', h1, h2⟩ := dropBoth HS1.out.rel B0 tb room id hid HS1.out.len
    have HP := Lib.hid h1; have HT := Lib.hid h2
    clear h1 h2
    go_enter Try.func6, Try.ntmps6
    go_wp2_with fail
    go_region_held3 (fun w' => w'.cell? ⟨lb, 0, none⟩ = some (.slice vo l.length vcap) ∧ w'.cell? ⟨w.heap.size, 1, none⟩ = some (.int .u32 id)) (go_keep)
      ((go_at_call 18; refine (HP.out _ _ (own_kp (S := none') HS1.out.row (Kp.refl _ _).drew (fun _ _ x => x)) HS1.out.b0).mono ?_; rintro e w3 ⟨v', rfl, hr3, hk3⟩
        have e0 := hk3.cell b0 (fun x => x); have e1 := hk3.cell x1 (fun x => x)
        obtain ⟨ao, cap, rfl⟩ := own_shape hr3
        have HK3 := Lib.hid ((Kp.refl none' _).drew.trans hk3); have HR3 := Lib.hid hr3; clear hk3 hr3))
    have S4 := Lib.hid (HS1.out.store HK3.out HR3.out)
    have HA := Lib.hid (HX.out.kp HK3.out (fun x => x))
    have HBX := Lib.hid (HS1.out.box.kp HK3.out (fun x => x))
    have f0 := HBX.out.fz 0
    have g0 := HBX.out.cell 0 rfl
    have hlb := HS1.out.lb0
    have z1 := (HA.out.setNe (a := ⟨lb, 0, none⟩) (fun e => blk_ne HA.out HBX.out (by decide) e) (.slice ao l'.length cap)).cell 1 rfl
    have z2 := (HA.out.setNe (a := ⟨lb, 0, none⟩) (fun e => blk_ne HA.out HBX.out (by decide) e) (.slice ao l'.length cap)).cell 2 rfl
    have HK4 := Lib.hid ((HKB.out.trans (HK3.out.mono (T := fun b => B0 ≤ b) fun _ _ x => x.elim)).set (p := ⟨lb, 0, none⟩) (.inl hlb) (.slice ao l'.length cap))
    have HB4 := Lib.hid (fun b cs t (h : Blk w b cs t) (hb : b ≠ lb) => ((h.alloc (.cells #[.int .u8 k, .int .u32 id, .int .i64 x] 31)).kp HK3.out (fun x => x)).setNe (a := ⟨lb, 0, none⟩) hb (.slice ao l'.length cap))
    clear b0 x1 x2
    go_wp2_with (go_at_call 19; refine (HT.out _ S4.out.tab S4.out.b0).mono ?_; rintro e w5 ⟨rfl, E', ht, hts, hrel⟩; have HS5 := Lib.hid (S4.out.ts hts ht hrel); have HK5 := Lib.hid (HK4.out.trans hts.kp); have HB5 := Lib.hid (fun b cs t h t1 t2 h3 => blk_ts (HB4.out b cs t h h3) t1 t2 hts); clear ht hts hrel)
    go_ret
    exact ⟨by first | rfl | simp, ⟨_, _, _, HS5.out⟩, HK5.out, HB5.out⟩
  · obtain ⟨y, c, l', h1, h2⟩ := dropBoth HS1.out.rel B0 tb room id hid HS1.out.len
    have HP := Lib.hid h1; have HT := Lib.hid h2
    clear h1 h2
    go_enter Try.func6, Try.ntmps6
    go_wp2_with fail
    go_region_held3 (fun w' => w'.cell? ⟨lb, 0, none⟩ = some (.slice vo l.length vcap) ∧ w'.cell? ⟨w.heap.size, 1, none⟩ = some (.int .u32 id)) (go_keep)
      ((go_at_call 18; refine (HP.out _ _ (own_kp (S := none') HS1.out.row (Kp.refl _ _).drew (fun _ _ x => x)) HS1.out.b0).mono ?_; rintro e w3 ⟨v', rfl, hr3, hk3⟩
        have e0 := hk3.cell b0 (fun x => x); have e1 := hk3.cell x1 (fun x => x)
        obtain ⟨ao, cap, rfl⟩ := own_shape hr3
        have HK3 := Lib.hid ((Kp.refl none' _).drew.trans hk3); have HR3 := Lib.hid hr3; clear hk3 hr3))
    have S4 := Lib.hid (HS1.out.store HK3.out HR3.out)
    have HA := Lib.hid (HX.out.kp HK3.out (fun x => x))
    have HBX := Lib.hid (HS1.out.box.kp HK3.out (fun x => x))
    have f0 := HBX.out.fz 0
    have g0 := HBX.out.cell 0 rfl
    have hlb := HS1.out.lb0
    have z1 := (HA.out.setNe (a := ⟨lb, 0, none⟩) (fun e => blk_ne HA.out HBX.out (by decide) e) (.slice ao l'.length cap)).cell 1 rfl
    have z2 := (HA.out.setNe (a := ⟨lb, 0, none⟩) (fun e => blk_ne HA.out HBX.out (by decide) e) (.slice ao l'.length cap)).cell 2 rfl
    have HK4 := Lib.hid ((HKB.out.trans (HK3.out.mono (T := fun b => B0 ≤ b) fun _ _ x => x.elim)).set (p := ⟨lb, 0, none⟩) (.inl hlb) (.slice ao l'.length cap))
    have HB4 := Lib.hid (fun b cs t (h : Blk w b cs t) (hb : b ≠ lb) => ((h.alloc (.cells #[.int .u8 k, .int .u32 id, .int .i64 x] 31)).kp HK3.out (fun x => x)).setNe (a := ⟨lb, 0, none⟩) hb (.slice ao l'.length cap))
    clear b0 x1 x2
    go_wp2_with (go_at_call 19; refine (HT.out _ S4.out.tab S4.out.b0).mono ?_; rintro e w5 ⟨rfl, E', ht, hts, hrel⟩; have HS5 := Lib.hid (S4.out.ts hts ht hrel); have HK5 := Lib.hid (HK4.out.trans hts.kp); have HB5 := Lib.hid (fun b cs t h t1 t2 h3 => blk_ts (HB4.out b cs t h h3) t1 t2 hts); clear ht hts hrel)
    go_ret
    exact ⟨by first | rfl | simp, ⟨_, _, _, HS5.out⟩, HK5.out, HB5.out⟩
  · go_enter Try.func6, Try.ntmps6
    go_wp2
    go_ret
    exact ⟨by first | rfl | simp, ⟨_, _, _, HS1.out⟩, HKB.out, fun b cs t h _ _ _ => h.alloc _⟩
end Go.Proofs.Ythnlggecjdifnaa
