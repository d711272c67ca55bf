/- Queues with bounds (layer 12): in memory; first, Peek. -/
import Derived.Test.YtfckgddodjmbdaaGreatDoorMDeviceNobodyF4
import Derived.Test.YtfckgddodjmbdaaGreatDoorMDeviceNobodyF6
import Derived.Test.YtfckgddodjmbdaaGreatDoorMDeviceNobodyF7
namespace Go.Proofs.YtfckgddodjmbdaaGreatDoor
set_option linter.unusedVariables false
set_option linter.unusedSimpArgs false
open Go Go.RowKit Go.Shelf
def pR (p : Nat) : Value := .pointer (some ⟨p, 0, none⟩)
structure QuM (w : World) (qb room : Nat) (bs : List Nat) (Qs : List (List It)) (v1 v2 : Value) (ps : List Nat) (Fs : Nat → Nat → Prop) : Prop where
  top : Blk w qb [v1, v2, .int .i64 room, .int .i64 (totQ Qs)] 292
  prow : w.ownsRow 0 310 1 v1 ps.length (ps.map pR)
  brow : w.ownsRow 0 22 1 v2 bs.length (bs.map eN8)
  plen : ps.length = Qs.length
  blen : bs.length = Qs.length
  few : 1 ≤ Qs.length ∧ Qs.length ≤ 32
  tot : totQ Qs ≤ room ∧ room ≤ 4096
  up : Upw bs
  bok : ∀ b ∈ bs, b < 18446744073709551616
  rings : ∀ i p Q, ps[i]? = some p → Qs[i]? = some Q → Rg w (Fs i) p room Q
  apart : ∀ i j b, i < ps.length → j < ps.length → i ≠ j → Fs i b → ¬ Fs j b
def QuF (qb : Nat) (v1 v2 : Value) (ps : List Nat) (Fs : Nat → Nat → Prop) : Nat → Prop := fun b => b = qb ∨ v1.ownBlock = some b ∨ v2.ownBlock = some b ∨ ∃ i, i < ps.length ∧ Fs i b
def Qu (w : World) (F : Nat → Prop) (qb room : Nat) (bs : List Nat) (Qs : List (List It)) : Prop := ∃ (v1 v2 : Value) (ps : List Nat) (Fs : Nat → Nat → Prop), F = QuF qb v1 v2 ps Fs ∧ QuM w qb room bs Qs v1 v2 ps Fs
theorem QuM.kp {T : Nat → Prop} {w w' : World} {qb room : Nat} {bs : List Nat} {Qs : List (List It)} {v1 v2 : Value} {ps : List Nat} {Fs : Nat → Nat → Prop} (h : QuM w qb room bs Qs v1 v2 ps Fs) (k : Kp T w w') (hT : ∀ b, QuF qb v1 v2 ps Fs b → ¬ T b) : QuM w' qb room bs Qs v1 v2 ps Fs :=
  { h with top := h.top.kp k (hT _ (.inl rfl)), prow := own_kp h.prow k (fun b hb => hT b (.inr (.inl hb))), brow := own_kp h.brow k (fun b hb => hT b (.inr (.inr (.inl hb)))), rings := fun i p Q hp hQ => (h.rings i p Q hp hQ).kp k (fun b hb => hT b (.inr (.inr (.inr ⟨i, (List.getElem?_eq_some_iff.1 hp).1, hb⟩)))) }
theorem QuM.old {w w' : World} {qb room : Nat} {bs : List Nat} {Qs : List (List It)} {v1 v2 : Value} {ps : List Nat} {Fs : Nat → Nat → Prop} (h : QuM w qb room bs Qs v1 v2 ps Fs) (k : Kp none' w w') : QuM w' qb room bs Qs v1 v2 ps Fs := h.kp k (fun _ _ x => x)
theorem Qu.kp {T : Nat → Prop} {w w' : World} {F : Nat → Prop} {qb room : Nat} {bs : List Nat} {Qs : List (List It)} (h : Qu w F qb room bs Qs) (k : Kp T w w') (hT : ∀ b, F b → ¬ T b) : Qu w' F qb room bs Qs := by
  obtain ⟨v1, v2, ps, Fs, rfl, hm⟩ := h
  exact ⟨v1, v2, ps, Fs, rfl, hm.kp k hT⟩
theorem Qu.old {w w' : World} {F : Nat → Prop} {qb room : Nat} {bs : List Nat} {Qs : List (List It)} (h : Qu w F qb room bs Qs) (k : Kp none' w w') : Qu w' F qb room bs Qs := h.kp k (fun _ _ x => x)
theorem Qu.lt {w : World} {F : Nat → Prop} {qb room : Nat} {bs : List Nat} {Qs : List (List It)} (h : Qu w F qb room bs Qs) {b : Nat} (hb : F b) : b < w.heap.size := by
  obtain ⟨v1, v2, ps, Fs, rfl, hm⟩ := h
  rcases hb with rfl | hb | hb | ⟨i, hi, hb⟩
  · exact hm.top.lt
  · exact (own_block hm.prow hb).2
  · exact (own_block hm.brow hb).2
  · exact (hm.rings i _ _ (List.getElem?_eq_getElem hi) (List.getElem?_eq_getElem (by rw [← hm.plen]; exact hi))).lt hb
theorem rgLenR {w : World} {F : Nat → Prop} {rb room : Nat} {Q : List It} (h : Rg w F rb room Q) : Calls Tryz.prog 233 #[.pointer (some ⟨rb, 0, none⟩)] w fun e w' => e = .returned (.int .i64 Q.length) ∧ w = w' := by
  obtain ⟨v, S, fr, n, rfl, hm, ok, hroom⟩ := h
  rw [ok.len]; exact rgLen hm
def fstP (ps : List Nat) (Qs : List (List It)) : Option Addr := match fstQ Qs with | some i => some ⟨ps.getD i 0, 0, none⟩ | none => none
set_option maxRecDepth 100000 in
set_option maxHeartbeats 2000000 in
theorem qFirst {w : World} {qb room : Nat} {bs : List Nat} {Qs : List (List It)} {v1 v2 : Value} {ps : List Nat} {Fs : Nat → Nat → Prop} (h : QuM w qb room bs Qs v1 v2 ps Fs) :
    Calls Tryz.prog 229 #[.pointer (some ⟨qb, 0, none⟩)] w fun e w' => e = .returned (.pointer (fstP ps Qs)) ∧ w = w' := by
  have c0 := h.top.cell 0 rfl
  obtain ⟨g, cap, rfl, _⟩ := own_shape1 h.prow (by rw [h.plen]; have := h.few; omega)
  have hpl : ps.length ≤ 32 := by rw [h.plen]; exact h.few.2
  have HM := Lib.hid h
  obtain ⟨R, hR⟩ : ∃ R, fstP ps Qs = R := ⟨_, rfl⟩
  rw [hR]
  have HR := Lib.hid hR
  clear h hR
  go_enter Tryz.func229, Tryz.ntmps229
  go_wp2_with fail
  go_loop [12] (fun i0 => ∃ i : Nat, i0 = .int .i64 i ∧ i ≤ ps.length ∧ Hid (∀ j, j < i → Qs[j]? = some [])) (fun i0 => ps.length - (intOf i0).toNat)
  case atStart => exact ⟨0, rfl, Nat.zero_le _, fun j hj => by omega⟩
  case round =>
    obtain ⟨i, rfl, hi, hr⟩ := hrel
    by_cases hlt : i < ps.length
    · have hii : (i : Int) < ps.length := by omega
      have hQl : i < Qs.length := by rw [← HM.out.plen]; exact hlt
      have cp : w.cell? ⟨g, i, none⟩ = some (.pointer (some ⟨ps[i], 0, none⟩)) := own_cell HM.out.prow i (by rw [List.getElem?_map, List.getElem?_eq_getElem hlt]; rfl)
      have HL := Lib.hid (rgLenR (HM.out.rings i _ _ (List.getElem?_eq_getElem hlt) (List.getElem?_eq_getElem hQl)))
      obtain ⟨Q, hQ⟩ : ∃ Q, Qs[i] = Q := ⟨_, rfl⟩
      have hQ? : Qs[i]? = some Q := by rw [List.getElem?_eq_getElem hQl, hQ]
      have hpd : ps.getD i 0 = ps[i] := by rw [List.getD_eq_getElem?_getD, List.getElem?_eq_getElem hlt]; rfl
      rw [hQ] at HL
      obtain ⟨p, hp⟩ : ∃ p, ps[i] = p := ⟨_, rfl⟩
      rw [hp] at cp HL hpd
      clear hQ hp hQl
      cases Q with
      | nil =>
        have HN : Hid (∀ j, j < i + 1 → Qs[j]? = some []) := Lib.hid (fun j hj => by
          by_cases e : j = i
          · subst e; exact hQ?
          · exact hr.out j (by omega))
        simp only [List.length_nil] at HL
        clear hQ? hpd
        go_wp2_with fail
        refine HL.out.mono ?_
        rintro e w1 ⟨rfl, rfl⟩
        go_wp2_with fail
        go_round
        case rel => exact ⟨i + 1, by go_num, by omega, HN.out⟩
        case measure => simp [intOf]; omega
      | cons q Q =>
        have HF : Hid (R = some ⟨p, 0, none⟩) := Lib.hid (by
          rw [← HR.out]; unfold fstP; rw [fstQ_at hQ? hr.out]; simp only; rw [hpd])
        obtain ⟨m, hm⟩ : ∃ m, (q :: Q).length = m := ⟨_, rfl⟩
        have hm0 : (0 : Int) < m := by have : m = Q.length + 1 := by rw [← hm]; rfl
                                       omega
        rw [hm] at HL
        clear hQ? hpd hm
        go_wp2_with fail
        refine HL.out.mono ?_
        rintro e w1 ⟨rfl, rfl⟩
        go_wp2_with fail
        go_ret
        exact ⟨by rw [HF.out]; rfl, rfl⟩
    · have hie : i = ps.length := by omega
      have HF : Hid (R = none) := Lib.hid (by
        rw [← HR.out]; unfold fstP
        cases e : fstQ Qs with
        | none => rfl
        | some k =>
          obtain ⟨q, Q, h3, h4⟩ := fstQ_some e
          have hk : k < Qs.length := (List.getElem?_eq_some_iff.1 h3).1
          rw [hr.out k (by rw [hie, HM.out.plen]; exact hk)] at h3; cases h3)
      subst hie
      go_wp2_with fail
      go_ret
      exact ⟨by rw [HF.out]; rfl, rfl⟩

def peekQ (Qs : List (List It)) : It × Bool := match fstQ Qs with | some i => hdI (Qs.getD i []) | none => (zIt, false)
theorem qHeadP {w : World} {qb room : Nat} {bs : List Nat} {Qs : List (List It)} {v1 v2 : Value} {ps : List Nat} {Fs : Nat → Nat → Prop} (h : QuM w qb room bs Qs v1 v2 ps Fs) (W : World) (k : Kp none' w W) :
    Calls Tryz.prog 230 #[.pointer (fstP ps Qs)] W fun e w' => e = .returned (.tuple #[.agg (enI (peekQ Qs).1).toArray, .bool (peekQ Qs).2]) ∧ Kp none' W w' := by
  unfold fstP peekQ
  cases e : fstQ Qs with
  | none => exact rgHeadNil W
  | some i =>
    obtain ⟨q, Q, h3, h4⟩ := fstQ_some e
    have hi : i < Qs.length := (List.getElem?_eq_some_iff.1 h3).1
    have hp : ps[i]? = some (ps.getD i 0) := by
      have hl : i < ps.length := by rw [h.plen]; exact hi
      rw [List.getD_eq_getElem?_getD, List.getElem?_eq_getElem hl]; rfl
    have hQ : Qs.getD i [] = q :: Q := by rw [List.getD_eq_getElem?_getD, h3]; rfl
    simp only
    rw [hQ]
    exact rgHead ((h.rings i _ _ hp h3).old k)
set_option maxRecDepth 100000 in
set_option maxHeartbeats 2000000 in
theorem qPeek {w : World} {qb room : Nat} {bs : List Nat} {Qs : List (List It)} {v1 v2 : Value} {ps : List Nat} {Fs : Nat → Nat → Prop} (h : QuM w qb room bs Qs v1 v2 ps Fs) :
    Calls Tryz.prog 226 #[.pointer (some ⟨qb, 0, none⟩)] w fun e w' => e = .returned (.tuple #[.int .u64 (peekQ Qs).1.rank, .agg (enP (peekQ Qs).1.x).toArray, .bool (peekQ Qs).2]) ∧ Kp none' w w' := by
  have HH := Lib.hid (fun W (k : Kp none' w W) => qHeadP h W k)
  have HF := Lib.hid (fun W (k : Kp none' w W) => qFirst (h.old k))
  generalize fstP ps Qs = R at *
  obtain ⟨⟨⟨r, ⟨fl, id, ln⟩⟩, is⟩, hx⟩ : ∃ x, peekQ Qs = x := ⟨_, rfl⟩
  rw [hx] at HH ⊢
  clear hx h
  show Calls _ _ _ _ fun e w' => e = .returned (.tuple #[.int .u64 (r : Int), .agg #[.int .u32 (fl : Int), .int .u32 (id : Int), .int .u64 (ln : Int)], .bool is]) ∧ Kp none' w w'
  have HB := Lib.hid (Blk.new w [.int .u32 0, .int .u32 0, .int .u64 0] 65)
  have HK := Lib.hid ((Kp.refl none' w).alloc (.cells #[.int .u32 0, .int .u32 0, .int .u64 0] 65))
  go_enter Tryz.func226, Tryz.ntmps226
  go_wp2_with fail
  refine (HF.out _ HK.out).mono ?_
  rintro e w1 ⟨rfl, rfl⟩
  go_wp2_with fail
  refine (HH.out _ HK.out).mono ?_
  rintro e w2 ⟨rfl, hk2⟩
  have HB2 := Lib.hid (HB.out.kp hk2 (fun x => x))
  have HK2 := Lib.hid (HK.out.trans hk2)
  clear hk2
  have hwl : w.heap.size < w2.heap.size := HB2.out.lt
  have b0 := HB2.out.cell 0 rfl
  have b1 := HB2.out.cell 1 rfl
  have b2 := HB2.out.cell 2 rfl
  have bf := fun j => HB2.out.fz j
  simp only [enI]
  go_wp2_with fail
  go_region
  all_goals
    go_wp2_with fail
    exact ret_mid (by exact rfl) (((((HB2.out.set 0 (.int .u32 (fl : Int))).set 1 (.int .u32 (id : Int))).set 2 (.int .u64 (ln : Int))).alloc _).drew) _ Tryz.underlying65 rfl infoPk (by exact rfl) ⟨rfl, ((((HK2.out.set (p := ⟨w.heap.size, 0, none⟩) (.inr (Nat.le_refl _)) _).set (p := ⟨w.heap.size, 1, none⟩) (.inr (Nat.le_refl _)) _).set (p := ⟨w.heap.size, 2, none⟩) (.inr (Nat.le_refl _)) _).alloc _).drew⟩
theorem Rg.ty {w : World} {F : Nat → Prop} {rb room : Nat} {Q : List It} (h : Rg w F rb room Q) {b : Nat} (hb : F b) : ∃ cs t, w.heap[b]? = some (.cells cs t (0, 0)) ∧ (t = 327 ∨ t = 314) := by
  obtain ⟨v, S, fr, n, rfl, hm, ok, h4⟩ := h
  rcases hb with rfl | hb
  · exact ⟨_, _, hm.top.is, .inl rfl⟩
  · obtain ⟨cur, hc⟩ := own_type hm.row hb
    exact ⟨_, _, hc, .inr rfl⟩
theorem Rg.ne {w : World} {F : Nat → Prop} {rb room : Nat} {Q : List It} (h : Rg w F rb room Q) {b : Nat} {cs : List Value} {t : TypeId} (hb : Blk w b cs t) (h1 : t ≠ 327) (h2 : t ≠ 314) : ¬ F b := fun hf => by
  obtain ⟨cs', t', h3, h4⟩ := h.ty hf
  have := hb.is.symm.trans h3
  simp only [Option.some.injEq, Obj.cells.injEq] at this
  rcases h4 with h4 | h4
  · exact h1 (this.2.1.trans h4)
  · exact h2 (this.2.1.trans h4)
theorem Rg.neO {w : World} {F : Nat → Prop} {rb room : Nat} {Q : List It} (h : Rg w F rb room Q) {base size n : Nat} {e : TypeId} {v : Value} {xs : List Value} (ho : w.ownsRow base e size v n xs) (h1 : e ≠ 327) (h2 : e ≠ 314) : ∀ b, v.ownBlock = some b → ¬ F b := fun b hb hf => by
  obtain ⟨cs', t', h3, h4⟩ := h.ty hf
  obtain ⟨cur, h5⟩ := own_type ho hb
  have := h5.symm.trans h3
  simp only [Option.some.injEq, Obj.cells.injEq] at this
  rcases h4 with h4 | h4
  · exact h1 (this.2.1.trans h4)
  · exact h2 (this.2.1.trans h4)
set_option maxRecDepth 100000 in
set_option maxHeartbeats 2000000 in
theorem qPopR {w : World} {qb room p m : Nat} {v1 v2 : Value} {G : Nat → Prop} (q : It) (Q : List It) (hb : Blk w qb [v1, v2, .int .i64 room, .int .i64 m] 292) (hr : Rg w G p room (q :: Q)) (hG : ¬ G qb) (hm : 1 ≤ m ∧ m ≤ 4096)
    (HF : ∀ W, Kp none' w W → Calls Tryz.prog 229 #[.pointer (some ⟨qb, 0, none⟩)] W fun e w' => e = .returned (.pointer (some ⟨p, 0, none⟩)) ∧ W = w') :
    Calls Tryz.prog 227 #[.pointer (some ⟨qb, 0, none⟩)] w fun e w' => e = .returned (.tuple #[.int .u64 q.rank, .agg (enP q.x).toArray, .bool true]) ∧ Blk w' qb [v1, v2, .int .i64 room, .int .i64 ((m : Int) - 1)] 292 ∧ Rg w' G p room Q ∧ Kp (fun b => b = qb ∨ G b) w w' := by
  have HF := Lib.hid HF
  have HT := Lib.hid (fun W (k : Kp none' w W) => rgTake (hr.old k))
  have HLG := Lib.hid (fun b (hb : G b) => hr.lt hb)
  have HQ := Lib.hid hb
  have HG := Lib.hid hG
  obtain ⟨r, ⟨fl, id, ln⟩⟩ := q
  clear hb hr hG
  show Calls _ _ _ _ fun e w' => e = .returned (.tuple #[.int .u64 (r : Int), .agg #[.int .u32 (fl : Int), .int .u32 (id : Int), .int .u64 (ln : Int)], .bool true]) ∧ _
  have HB := Lib.hid (Blk.new w [.int .u32 0, .int .u32 0, .int .u64 0] 65)
  have HK := Lib.hid ((Kp.refl none' w).alloc (.cells #[.int .u32 0, .int .u32 0, .int .u64 0] 65))
  go_enter Tryz.func227, Tryz.ntmps227
  go_wp2_with fail
  refine (HF.out _ HK.out).mono ?_
  rintro e w1 ⟨rfl, rfl⟩
  go_wp2_with fail
  refine (HT.out _ HK.out).mono ?_
  rintro e w2 ⟨rfl, hr2, hk2⟩
  have HB2 := Lib.hid (HB.out.kp hk2 (fun x => by have := HLG.out _ x; omega))
  have HQ2 := Lib.hid ((HQ.out.kp HK.out (fun x => x)).kp hk2 HG.out)
  have HK2 : Hid (Kp G w w2) := Lib.hid ((HK.out.mono (fun _ _ x => x.elim)).trans hk2)
  have HR2 := Lib.hid hr2
  clear hk2 hr2
  have hwl : w.heap.size < w2.heap.size := HB2.out.lt
  have q3 := HQ2.out.cell 3 rfl
  have qf := HQ2.out.fz 3
  have hql : qb < w2.heap.size := HQ2.out.lt
  simp only [enI]
  go_wp2_with fail
  have hqw : qb ≠ w.heap.size := by have := HQ.out.lt; omega
  have hkq : Kp (fun b => b = qb) w2 (w2.setCell ⟨qb, 3, none⟩ (.int .i64 ((m : Int) - 1))) := (Kp.refl (fun b => b = qb) w2).set (p := ⟨qb, 3, none⟩) (.inl rfl) _
  have HQ3 := Lib.hid (HQ2.out.set 3 (.int .i64 ((m : Int) - 1)))
  have HB3 := Lib.hid (HB2.out.kp hkq (fun e => hqw e.symm))
  have HR3 := Lib.hid (HR2.out.kp hkq (fun b hb e => HG.out (by rw [← e]; exact hb)))
  have HK3 : Hid (Kp (fun b => b = qb ∨ G b) w (w2.setCell ⟨qb, 3, none⟩ (.int .i64 ((m : Int) - 1)))) := Lib.hid ((HK2.out.mono (fun b _ hb => .inr hb)).trans (hkq.mono (fun b _ hb => .inl hb)))
  have hsz : (w2.setCell ⟨qb, 3, none⟩ (.int .i64 ((m : Int) - 1))).heap.size = w2.heap.size := by simp [World.setCell]
  clear hkq q3 qf HR2 HB2 HQ2 HK2
  obtain ⟨W3, hW3⟩ : ∃ W3, w2.setCell ⟨qb, 3, none⟩ (.int .i64 ((m : Int) - 1)) = W3 := ⟨_, rfl⟩
  rw [hW3] at hsz HQ3 HB3 HR3 HK3 ⊢
  rw [← hsz] at hwl hql ⊢
  clear hW3 hsz
  have b0 := HB3.out.cell 0 rfl
  have b1 := HB3.out.cell 1 rfl
  have b2 := HB3.out.cell 2 rfl
  have bf := fun j => HB3.out.fz j
  go_region
  all_goals
    go_wp2_with fail
    have hks : Kp (fun b => b = w.heap.size) W3 (((((W3.setCell ⟨w.heap.size, 0, none⟩ (.int .u32 (fl : Int))).setCell ⟨w.heap.size, 1, none⟩ (.int .u32 (id : Int))).setCell ⟨w.heap.size, 2, none⟩ (.int .u64 (ln : Int))).alloc (.cells #[.int .u64 (r : Int), .int .u32 (fl : Int), .int .u32 (id : Int), .int .u64 (ln : Int)] 314)).drew) := (((((Kp.refl (fun b => b = w.heap.size) W3).set (p := ⟨w.heap.size, 0, none⟩) (.inl rfl) _).set (p := ⟨w.heap.size, 1, none⟩) (.inl rfl) _).set (p := ⟨w.heap.size, 2, none⟩) (.inl rfl) _).alloc _).drew
    refine ret_mid (by exact rfl) (((((HB3.out.set 0 (.int .u32 (fl : Int))).set 1 (.int .u32 (id : Int))).set 2 (.int .u64 (ln : Int))).alloc _).drew) _ Tryz.underlying65 rfl infoPk (by exact rfl) ⟨rfl, HQ3.out.kp hks hqw, HR3.out.kp hks (fun b hb e => by have := HLG.out b hb; omega), HK3.out.then hks (fun b hb e => by omega)⟩
theorem tot_pop {Qs : List (List It)} {i : Nat} {q : It} {Q : List It} (h : Qs[i]? = some (q :: Q)) : totQ (Qs.set i Q) + 1 = totQ Qs := by
  induction Qs generalizing i with
  | nil => simp at h
  | cons a r ih =>
    cases i with
    | zero =>
      simp only [List.getElem?_cons_zero, Option.some.injEq] at h
      subst h
      simp [totQ]; omega
    | succ i =>
      have := ih (i := i) (by simpa using h)
      simp only [totQ, List.set_cons_succ, List.map_cons, List.sum_cons] at *
      omega
theorem qPop {w : World} {F : Nat → Prop} {qb room : Nat} {bs : List Nat} {Qs : List (List It)} {i : Nat} {q : It} {Q : List It} (h : Qu w F qb room bs Qs) (hf : fstQ Qs = some i) (hQ : Qs[i]? = some (q :: Q)) :
    Calls Tryz.prog 227 #[.pointer (some ⟨qb, 0, none⟩)] w fun e w' => e = .returned (.tuple #[.int .u64 q.rank, .agg (enP q.x).toArray, .bool true]) ∧ Qu w' F qb room bs (Qs.set i Q) ∧ Kp F w w' := by
  obtain ⟨v1, v2, ps, Fs, rfl, hm⟩ := h
  have hi : i < Qs.length := (List.getElem?_eq_some_iff.1 hQ).1
  have hil : i < ps.length := by rw [hm.plen]; exact hi
  have hp := List.getElem?_eq_getElem hil
  have hr := hm.rings i _ _ hp hQ
  have ht := tot_pop hQ
  have hpd : ps.getD i 0 = ps[i] := by rw [List.getD_eq_getElem?_getD, hp]; rfl
  have hG := hr.ne hm.top (by decide) (by decide)
  have h1 := hr.neO hm.prow (by decide) (by decide)
  have h2 := hr.neO hm.brow (by decide) (by decide)
  have n1 := own_ne_blk hm.prow hm.top (by decide)
  have n2 := own_ne_blk hm.brow hm.top (by decide)
  refine (qPopR q Q hm.top hr hG (by have := hm.tot; omega) (fun W k => by
    have := qFirst (hm.old k)
    unfold fstP at this
    rw [hf] at this
    simp only at this
    rw [hpd] at this
    exact this)).mono ?_
  rintro e w' ⟨he, hT, hr', hk⟩
  have hnot : ∀ b, (∃ j, j < ps.length ∧ j ≠ i ∧ Fs j b) → ¬ (b = qb ∨ Fs i b) := fun b ⟨j, hj, hji, hz⟩ hc => by
    rcases hc with rfl | hc
    · have hjl : j < Qs.length := by rw [← hm.plen]; exact hj
      exact (hm.rings j _ _ (List.getElem?_eq_getElem hj) (List.getElem?_eq_getElem hjl)).ne hm.top (by decide) (by decide) hz
    · exact hm.apart j i b hj hil hji hz hc
  refine ⟨he, ⟨v1, v2, ps, Fs, rfl, { hm with top := ?_, prow := own_kp hm.prow hk (fun b hz hc => ?_), brow := own_kp hm.brow hk (fun b hz hc => ?_), plen := by rw [List.length_set]; exact hm.plen, blen := by rw [List.length_set]; exact hm.blen, few := by rw [List.length_set]; exact hm.few, tot := ⟨by have := hm.tot; omega, hm.tot.2⟩, rings := fun j p' Q' hp' hQ' => ?_ }⟩, hk.mono (fun b _ hc => ?_)⟩
  · have e2 : ((totQ (Qs.set i Q) : Nat) : Int) = (totQ Qs : Int) - 1 := by omega
    rw [e2]; exact hT
  · rcases hc with rfl | hc
    · exact n1 hz
    · exact h1 b hz hc
  · rcases hc with rfl | hc
    · exact n2 hz
    · exact h2 b hz hc
  · by_cases e2 : j = i
    · subst e2
      rw [List.getElem?_set_self hi] at hQ'
      injection hQ' with hQ'
      subst hQ'
      rw [hp] at hp'
      injection hp' with hp'
      subst hp'
      exact hr'
    · rw [List.getElem?_set_ne (fun e3 => e2 e3.symm)] at hQ'
      exact (hm.rings j p' Q' hp' hQ').kp hk (fun b hb => hnot b ⟨j, (List.getElem?_eq_some_iff.1 hp').1, e2, hb⟩)
  · rcases hc with rfl | hc
    · exact .inl rfl
    · exact .inr (.inr (.inr ⟨i, hil, hc⟩))

structure Em (w wr : World) (v : Value) (ps : List Nat) (room k : Nat) : Prop where
  row : wr.ownsRow w.heap.size 310 1 v k (ps.map pR)
  len : ps.length = k
  rings : ∀ (i p : Nat), ps[i]? = some p → Blk wr p [.slice none 0 0, .int .i64 0, .int .i64 0, .int .i64 room] 327 ∧ w.heap.size ≤ p
  inj : ∀ (i j p : Nat), ps[i]? = some p → ps[j]? = some p → i = j
  kp : Kp none' w wr
theorem Em.step {w wr w1 W w8 : World} {v v8 : Value} {ps : List Nat} {room k rb : Nat} (h : Em w wr v ps room k) (hk1 : Kp none' wr w1) (hb : Blk w1 rb [.slice none 0 0, .int .i64 0, .int .i64 0, .int .i64 room] 327) (hr : wr.heap.size ≤ rb)
    (hkW : Kp none' w1 W) (ho : w8.ownsRow w.heap.size 310 1 v8 (k + 1) (ps.map pR ++ [pR rb])) (hg : W.grownBy w8 v.ownBlock) : Em w w8 v8 (ps ++ [rb]) room (k + 1) := by
  have hO : W.ownsRow w.heap.size 310 1 v k (ps.map pR) := own_kp (own_kp h.row hk1 (fun _ _ x => x)) hkW (fun _ _ x => x)
  have hB : ∀ p, Blk W p [.slice none 0 0, .int .i64 0, .int .i64 0, .int .i64 room] 327 → Blk w8 p [.slice none 0 0, .int .i64 0, .int .i64 0, .int .i64 room] 327 := fun p hp => hp.grown hg (fun e => own_ne_blk hO hp (by decide) e.symm)
  have hlt : ∀ (i p : Nat), ps[i]? = some p → p < wr.heap.size := fun i p hp => (h.rings i p hp).1.lt
  have hcase : ∀ (i p : Nat), (ps ++ [rb])[i]? = some p → ps[i]? = some p ∨ (i = ps.length ∧ p = rb) := fun i p hp => by
    by_cases hi : i < ps.length
    · rw [List.getElem?_append_left hi] at hp; exact .inl hp
    · rw [List.getElem?_append_right (by omega)] at hp
      obtain ⟨h1, h2⟩ := List.getElem?_eq_some_iff.1 hp
      simp only [List.length_cons, List.length_nil] at h1
      have h0 : i - ps.length = 0 := by omega
      simp only [h0, List.getElem_cons_zero] at h2
      exact .inr ⟨by omega, h2.symm⟩
  refine ⟨by rw [List.map_append]; exact ho, by rw [List.length_append, h.len]; rfl, fun i p hp => ?_, fun i j p hi hj => ?_, ((h.kp.trans hk1).trans hkW).grown hg (fun b hb => .inr (own_block hO hb).1)⟩
  · rcases hcase i p hp with h1 | ⟨_, rfl⟩
    · exact ⟨hB p (((h.rings i p h1).1.kp hk1 (fun x => x)).kp hkW (fun x => x)), (h.rings i p h1).2⟩
    · exact ⟨hB _ (hb.kp hkW (fun x => x)), by have := h.kp.size; omega⟩
  · rcases hcase i p hi with h1 | ⟨h1, h2⟩ <;> rcases hcase j p hj with h3 | ⟨h3, h4⟩
    · exact h.inj i j p h1 h3
    · have := hlt i p h1; omega
    · have := hlt j p h3; omega
    · omega

theorem calls_post {P : Program} {f : Nat} {a : Array Value} {w : World} {Q : Ending → World → Prop} (h : ∀ PP : Ending → World → Prop, Hid (∀ e w', Q e w' → PP e w') → Calls P f a w PP) : Calls P f a w Q := h Q (Lib.hid fun _ _ h => h)

theorem pk_load {w : World} {b fl id ln : Nat} (h : Blk w b [.int .u32 fl, .int .u32 id, .int .u64 ln] 65) :
    ∀ W, Kp none' w W → (Instr.loadAt 65 (.pointer (some ⟨b, 0, none⟩))).run Tryz.prog W = .ok (.agg #[.int .u32 fl, .int .u32 id, .int .u64 ln]) W := fun W hK =>
  run_loadAt_mid W b 0 65 [.int .u32 fl, .int .u32 id, .int .u64 ln] _ (fun j v hv => by rw [Nat.zero_add]; exact hK.cell (h.cell j hv) (fun x => x)) Tryz.underlying65 rfl infoPk
def PutOk (w : World) (g2 p room : Nat) (G : Nat → Prop) (Q : List It) (r fl id ln : Nat) : Prop :=
  ∀ W, Kp (fun b => b = g2) w W → Calls Tryz.prog 232 #[.pointer (some ⟨p, 0, none⟩), .agg #[.int .u64 r, .int .u32 fl, .int .u32 id, .int .u64 ln]] W fun e w' => e = .returned (.bool true) ∧ ∃ F', Rg w' F' p room (Q ++ [⟨r, ⟨fl, id, ln⟩⟩]) ∧ Kp G W w' ∧ Nw W G F'
def PushPost (w : World) (qb g1 c1 g2 c2 n room m p k : Nat) (G : Nat → Prop) (Q : List It) (bs' : List Nat) (r fl id ln : Nat) (e : Ending) (w' : World) : Prop :=
  e = .returned (.tuple #[.int .i64 k, .bool true]) ∧ Blk w' qb [.slice (some ⟨g1, 0, none⟩) n c1, .slice (some ⟨g2, 0, none⟩) n c2, .int .i64 room, .int .i64 ((m : Int) + 1)] 292 ∧ w'.ownsRow 0 22 1 (.slice (some ⟨g2, 0, none⟩) n c2) n (bs'.map eN8) ∧
    (∃ F', Rg w' F' p room (Q ++ [⟨r, ⟨fl, id, ln⟩⟩]) ∧ Nw w G F') ∧ Kp (fun b => b = qb ∨ b = g2 ∨ G b) w w'
theorem pushPost {w W4 W5 W6 : World} {qb g1 c1 g2 c2 n room m p k : Nat} {G F' : Nat → Prop} {Q : List It} {bs' : List Nat} {r fl id ln : Nat} (hg2 : g2 ≠ qb ∧ ¬ G g2) (hG : ¬ G qb)
    (hb : Blk W4 qb [.slice (some ⟨g1, 0, none⟩) n c1, .slice (some ⟨g2, 0, none⟩) n c2, .int .i64 room, .int .i64 m] 292) (ho : W4.ownsRow 0 22 1 (.slice (some ⟨g2, 0, none⟩) n c2) n (bs'.map eN8)) (hk4 : Kp (fun b => b = g2) w W4)
    (hk5 : Kp none' W4 W5) (hr : Rg W6 F' p room (Q ++ [⟨r, ⟨fl, id, ln⟩⟩])) (hk6 : Kp G W5 W6) (hn : Nw W5 G F') (hF : ¬ F' qb) :
    PushPost w qb g1 c1 g2 c2 n room m p k G Q bs' r fl id ln (.returned (.tuple #[.int .i64 k, .bool true])) (W6.setCell ⟨qb, 3, none⟩ (.int .i64 ((m : Int) + 1))) := by
  have hs : Kp (fun b => b = qb) W6 (W6.setCell ⟨qb, 3, none⟩ (.int .i64 ((m : Int) + 1))) := (Kp.refl (fun b => b = qb) W6).set (p := ⟨qb, 3, none⟩) (.inl rfl) _
  have h5 : w.heap.size ≤ W5.heap.size := by have := hk4.size; have := hk5.size; omega
  refine ⟨rfl, (((hb.kp hk5 (fun x => x)).kp hk6 hG).set 3 _), own_kp (own_kp (own_kp ho hk5 (fun _ _ x => x)) hk6 (fun b hb x => ?_)) hs (fun b hb x => ?_), ⟨F', hr.kp hs (fun b hb e => hF (e ▸ hb)), fun b hb => ?_⟩, ?_⟩
  · have : g2 = b := Option.some.inj hb
    exact hg2.2 (this ▸ x)
  · have : g2 = b := Option.some.inj hb
    exact hg2.1 (this.trans x)
  · rcases hn b hb with h | h
    · exact .inl h
    · exact .inr (by omega)
  · exact (((hk4.mono (fun b _ e => .inr (.inl e))).trans (hk5.mono (fun _ _ x => x.elim))).trans (hk6.mono (fun b _ e => .inr (.inr e)))).trans (hs.mono (fun b _ e => .inl e))
end Go.Proofs.YtfckgddodjmbdaaGreatDoor
