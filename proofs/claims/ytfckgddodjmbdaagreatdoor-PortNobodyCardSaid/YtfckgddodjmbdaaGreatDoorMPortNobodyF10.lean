/- Queues with bounds (layer 12): Peek, Pop. -/
import Derived.Test.YtfckgddodjmbdaaGreatDoorMPortNobodyF9
import Derived.Test.YtfckgddodjmbdaaGreatDoorMPortNobodyF5
import Derived.Test.YtfckgddodjmbdaaGreatDoorMPortNobodyF7
namespace Go.Proofs.YtfckgddodjmbdaaGreatDoor
set_option linter.unusedVariables false
set_option linter.unusedSimpArgs false
open Go Go.RowKit Go.Shelf

def peekQ (Qs : List (List It)) : It × Bool := match fstQ Qs with | some i => hdI (Qs.getD i []) | none => (zIt, false)
theorem qHeadP {w : World} {qb room : Nat} {bs : List Nat} {Qs : List (List It)} {v1 v2 : Value} {ps : List Nat} {Fs : Nat → Nat → Prop} (h : QuM w qb room bs Qs v1 v2 ps Fs) (W : World) (k : Kp none' w W) :
    Calls Tryz.prog 230 #[.pointer (fstP ps Qs)] W fun e w' => e = .returned (.tuple #[.agg (enI (peekQ Qs).1).toArray, .bool (peekQ Qs).2]) ∧ Kp none' W w' := by
  unfold fstP peekQ
  cases e : fstQ Qs with
  | none => exact rgHeadNil W
  | some i =>
    obtain ⟨q, Q, h3, h4⟩ := fstQ_some e
    have hi : i < Qs.length := (List.getElem?_eq_some_iff.1 h3).1
    have hp : ps[i]? = some (ps.getD i 0) := by
      have hl : i < ps.length := by rw [h.plen]; exact hi
      rw [List.getD_eq_getElem?_getD, List.getElem?_eq_getElem hl]; rfl
    have hQ : Qs.getD i [] = q :: Q := by rw [List.getD_eq_getElem?_getD, h3]; rfl
    simp only
    rw [hQ]
    exact rgHead ((h.rings i _ _ hp h3).old k)
set_option maxRecDepth 100000 in
set_option maxHeartbeats 2000000 in
theorem qPeek {w : World} {qb room : Nat} {bs : List Nat} {Qs : List (List It)} {v1 v2 : Value} {ps : List Nat} {Fs : Nat → Nat → Prop} (h : QuM w qb room bs Qs v1 v2 ps Fs) :
    Calls Tryz.prog 226 #[.pointer (some ⟨qb, 0, none⟩)] w fun e w' => e = .returned (.tuple #[.int .u64 (peekQ Qs).1.rank, .agg (enP (peekQ Qs).1.x).toArray, .bool (peekQ Qs).2]) ∧ Kp none' w w' := by
  have HH := Lib.hid (fun W (k : Kp none' w W) => qHeadP h W k)
  have HF := Lib.hid (fun W (k : Kp none' w W) => qFirst (h.old k))
  generalize fstP ps Qs = R at *
  obtain ⟨⟨⟨r, ⟨fl, id, ln⟩⟩, is⟩, hx⟩ : ∃ x, peekQ Qs = x := ⟨_, rfl⟩
  rw [hx] at HH ⊢
  clear hx h
  show Calls _ _ _ _ fun e w' => e = .returned (.tuple #[.int .u64 (r : Int), .agg #[.int .u32 (fl : Int), .int .u32 (id : Int), .int .u64 (ln : Int)], .bool is]) ∧ Kp none' w w'
  have HB := Lib.hid (Blk.new w [.int .u32 0, .int .u32 0, .int .u64 0] 65)
  have HK := Lib.hid ((Kp.refl none' w).alloc (.cells #[.int .u32 0, .int .u32 0, .int .u64 0] 65))
  go_enter Tryz.func226, Tryz.ntmps226
  go_wp2_with fail
  refine (HF.out _ HK.out).mono ?_
  rintro e w1 ⟨rfl, rfl⟩
  go_wp2_with fail
  refine (HH.out _ HK.out).mono ?_
  rintro e w2 ⟨rfl, hk2⟩
  have HB2 := Lib.hid (HB.out.kp hk2 (fun x => x))
  have HK2 := Lib.hid (HK.out.trans hk2)
  clear hk2
  have hwl : w.heap.size < w2.heap.size := HB2.out.lt
  have b0 := HB2.out.cell 0 rfl
  have b1 := HB2.out.cell 1 rfl
  have b2 := HB2.out.cell 2 rfl
  have bf := fun j => HB2.out.fz j
  simp only [enI]
  go_wp2_with fail
  go_region
  all_goals
    go_wp2_with fail
    exact ret_mid (by exact rfl) (((((HB2.out.set 0 (.int .u32 (fl : Int))).set 1 (.int .u32 (id : Int))).set 2 (.int .u64 (ln : Int))).alloc _).drew) _ Tryz.underlying65 rfl infoPk (by exact rfl) ⟨rfl, ((((HK2.out.set (p := ⟨w.heap.size, 0, none⟩) (.inr (Nat.le_refl _)) _).set (p := ⟨w.heap.size, 1, none⟩) (.inr (Nat.le_refl _)) _).set (p := ⟨w.heap.size, 2, none⟩) (.inr (Nat.le_refl _)) _).alloc _).drew⟩
/-- What kinds of blocks a ring has. -/
theorem Rg.ty {w : World} {F : Nat → Prop} {rb room : Nat} {Q : List It} (h : Rg w F rb room Q) {b : Nat} (hb : F b) : ∃ cs t, w.heap[b]? = some (.cells cs t (0, 0)) ∧ (t = 327 ∨ t = 314) := by
  obtain ⟨v, S, fr, n, rfl, hm, ok, h4⟩ := h
  rcases hb with rfl | hb
  · exact ⟨_, _, hm.top.is, .inl rfl⟩
  · obtain ⟨cur, hc⟩ := own_type hm.row hb
    exact ⟨_, _, hc, .inr rfl⟩
theorem Rg.ne {w : World} {F : Nat → Prop} {rb room : Nat} {Q : List It} (h : Rg w F rb room Q) {b : Nat} {cs : List Value} {t : TypeId} (hb : Blk w b cs t) (h1 : t ≠ 327) (h2 : t ≠ 314) : ¬ F b := fun hf => by
  obtain ⟨cs', t', h3, h4⟩ := h.ty hf
  have := hb.is.symm.trans h3
  simp only [Option.some.injEq, Obj.cells.injEq] at this
  rcases h4 with h4 | h4
  · exact h1 (this.2.1.trans h4)
  · exact h2 (this.2.1.trans h4)
theorem Rg.neO {w : World} {F : Nat → Prop} {rb room : Nat} {Q : List It} (h : Rg w F rb room Q) {base size n : Nat} {e : TypeId} {v : Value} {xs : List Value} (ho : w.ownsRow base e size v n xs) (h1 : e ≠ 327) (h2 : e ≠ 314) : ∀ b, v.ownBlock = some b → ¬ F b := fun b hb hf => by
  obtain ⟨cs', t', h3, h4⟩ := h.ty hf
  obtain ⟨cur, h5⟩ := own_type ho hb
  have := h5.symm.trans h3
  simp only [Option.some.injEq, Obj.cells.injEq] at this
  rcases h4 with h4 | h4
  · exact h1 (this.2.1.trans h4)
  · exact h2 (this.2.1.trans h4)
set_option maxRecDepth 100000 in
set_option maxHeartbeats 2000000 in
theorem qPopR {w : World} {qb room p m : Nat} {v1 v2 : Value} {G : Nat → Prop} (q : It) (Q : List It) (hb : Blk w qb [v1, v2, .int .i64 room, .int .i64 m] 292) (hr : Rg w G p room (q :: Q)) (hG : ¬ G qb) (hm : 1 ≤ m ∧ m ≤ 4096)
    (HF : ∀ W, Kp none' w W → Calls Tryz.prog 229 #[.pointer (some ⟨qb, 0, none⟩)] W fun e w' => e = .returned (.pointer (some ⟨p, 0, none⟩)) ∧ W = w') :
    Calls Tryz.prog 227 #[.pointer (some ⟨qb, 0, none⟩)] w fun e w' => e = .returned (.tuple #[.int .u64 q.rank, .agg (enP q.x).toArray, .bool true]) ∧ Blk w' qb [v1, v2, .int .i64 room, .int .i64 ((m : Int) - 1)] 292 ∧ Rg w' G p room Q ∧ Kp (fun b => b = qb ∨ G b) w w' := by
  have HF := Lib.hid HF
  have HT := Lib.hid (fun W (k : Kp none' w W) => rgTake (hr.old k))
  have HLG := Lib.hid (fun b (hb : G b) => hr.lt hb)
  have HQ := Lib.hid hb
  have HG := Lib.hid hG
  obtain ⟨r, ⟨fl, id, ln⟩⟩ := q
  clear hb hr hG
  show Calls _ _ _ _ fun e w' => e = .returned (.tuple #[.int .u64 (r : Int), .agg #[.int .u32 (fl : Int), .int .u32 (id : Int), .int .u64 (ln : Int)], .bool true]) ∧ _
  have HB := Lib.hid (Blk.new w [.int .u32 0, .int .u32 0, .int .u64 0] 65)
  have HK := Lib.hid ((Kp.refl none' w).alloc (.cells #[.int .u32 0, .int .u32 0, .int .u64 0] 65))
  go_enter Tryz.func227, Tryz.ntmps227
  go_wp2_with fail
  refine (HF.out _ HK.out).mono ?_
  rintro e w1 ⟨rfl, rfl⟩
  go_wp2_with fail
  refine (HT.out _ HK.out).mono ?_
  rintro e w2 ⟨rfl, hr2, hk2⟩
  have HB2 := Lib.hid (HB.out.kp hk2 (fun x => by have := HLG.out _ x; omega))
  have HQ2 := Lib.hid ((HQ.out.kp HK.out (fun x => x)).kp hk2 HG.out)
  have HK2 : Hid (Kp G w w2) := Lib.hid ((HK.out.mono (fun _ _ x => x.elim)).trans hk2)
  have HR2 := Lib.hid hr2
  clear hk2 hr2
  have hwl : w.heap.size < w2.heap.size := HB2.out.lt
  have q3 := HQ2.out.cell 3 rfl
  have qf := HQ2.out.fz 3
  have hql : qb < w2.heap.size := HQ2.out.lt
  simp only [enI]
  go_wp2_with fail
  have hqw : qb ≠ w.heap.size := by have := HQ.out.lt; omega
  have hkq : Kp (fun b => b = qb) w2 (w2.setCell ⟨qb, 3, none⟩ (.int .i64 ((m : Int) - 1))) := (Kp.refl (fun b => b = qb) w2).set (p := ⟨qb, 3, none⟩) (.inl rfl) _
  have HQ3 := Lib.hid (HQ2.out.set 3 (.int .i64 ((m : Int) - 1)))
  have HB3 := Lib.hid (HB2.out.kp hkq (fun e => hqw e.symm))
  have HR3 := Lib.hid (HR2.out.kp hkq (fun b hb e => HG.out (by rw [← e]; exact hb)))
  have HK3 : Hid (Kp (fun b => b = qb ∨ G b) w (w2.setCell ⟨qb, 3, none⟩ (.int .i64 ((m : Int) - 1)))) := Lib.hid ((HK2.out.mono (fun b _ hb => .inr hb)).trans (hkq.mono (fun b _ hb => .inl hb)))
  have hsz : (w2.setCell ⟨qb, 3, none⟩ (.int .i64 ((m : Int) - 1))).heap.size = w2.heap.size := by simp [World.setCell]
  clear hkq q3 qf HR2 HB2 HQ2 HK2
  obtain ⟨W3, hW3⟩ : ∃ W3, w2.setCell ⟨qb, 3, none⟩ (.int .i64 ((m : Int) - 1)) = W3 := ⟨_, rfl⟩
  rw [hW3] at hsz HQ3 HB3 HR3 HK3 ⊢
  rw [← hsz] at hwl hql ⊢
  clear hW3 hsz
  have b0 := HB3.out.cell 0 rfl
  have b1 := HB3.out.cell 1 rfl
  have b2 := HB3.out.cell 2 rfl
  have bf := fun j => HB3.out.fz j
  go_region
  all_goals
    go_wp2_with fail
    have hks : Kp (fun b => b = w.heap.size) W3 (((((W3.setCell ⟨w.heap.size, 0, none⟩ (.int .u32 (fl : Int))).setCell ⟨w.heap.size, 1, none⟩ (.int .u32 (id : Int))).setCell ⟨w.heap.size, 2, none⟩ (.int .u64 (ln : Int))).alloc (.cells #[.int .u64 (r : Int), .int .u32 (fl : Int), .int .u32 (id : Int), .int .u64 (ln : Int)] 314)).drew) := (((((Kp.refl (fun b => b = w.heap.size) W3).set (p := ⟨w.heap.size, 0, none⟩) (.inl rfl) _).set (p := ⟨w.heap.size, 1, none⟩) (.inl rfl) _).set (p := ⟨w.heap.size, 2, none⟩) (.inl rfl) _).alloc _).drew
    refine ret_mid (by exact rfl) (((((HB3.out.set 0 (.int .u32 (fl : Int))).set 1 (.int .u32 (id : Int))).set 2 (.int .u64 (ln : Int))).alloc _).drew) _ Tryz.underlying65 rfl infoPk (by exact rfl) ⟨rfl, HQ3.out.kp hks hqw, HR3.out.kp hks (fun b hb e => by have := HLG.out b hb; omega), HK3.out.then hks (fun b hb e => by omega)⟩
theorem tot_pop {Qs : List (List It)} {i : Nat} {q : It} {Q : List It} (h : Qs[i]? = some (q :: Q)) : totQ (Qs.set i Q) + 1 = totQ Qs := by
  induction Qs generalizing i with
  | nil => simp at h
  | cons a r ih =>
    cases i with
    | zero =>
      simp only [List.getElem?_cons_zero, Option.some.injEq] at h
      subst h
      simp [totQ]; omega
    | succ i =>
      have := ih (i := i) (by simpa using h)
      simp only [totQ, List.set_cons_succ, List.map_cons, List.sum_cons] at *
      omega
theorem qPop {w : World} {F : Nat → Prop} {qb room : Nat} {bs : List Nat} {Qs : List (List It)} {i : Nat} {q : It} {Q : List It} (h : Qu w F qb room bs Qs) (hf : fstQ Qs = some i) (hQ : Qs[i]? = some (q :: Q)) :
    Calls Tryz.prog 227 #[.pointer (some ⟨qb, 0, none⟩)] w fun e w' => e = .returned (.tuple #[.int .u64 q.rank, .agg (enP q.x).toArray, .bool true]) ∧ Qu w' F qb room bs (Qs.set i Q) ∧ Kp F w w' := by
  obtain ⟨v1, v2, ps, Fs, rfl, hm⟩ := h
  have hi : i < Qs.length := (List.getElem?_eq_some_iff.1 hQ).1
  have hil : i < ps.length := by rw [hm.plen]; exact hi
  have hp := List.getElem?_eq_getElem hil
  have hr := hm.rings i _ _ hp hQ
  have ht := tot_pop hQ
  have hpd : ps.getD i 0 = ps[i] := by rw [List.getD_eq_getElem?_getD, hp]; rfl
  have hG := hr.ne hm.top (by decide) (by decide)
  have h1 := hr.neO hm.prow (by decide) (by decide)
  have h2 := hr.neO hm.brow (by decide) (by decide)
  have n1 := own_ne_blk hm.prow hm.top (by decide)
  have n2 := own_ne_blk hm.brow hm.top (by decide)
  refine (qPopR q Q hm.top hr hG (by have := hm.tot; omega) (fun W k => by
    have := qFirst (hm.old k)
    unfold fstP at this
    rw [hf] at this
    simp only at this
    rw [hpd] at this
    exact this)).mono ?_
  rintro e w' ⟨he, hT, hr', hk⟩
  have hnot : ∀ b, (∃ j, j < ps.length ∧ j ≠ i ∧ Fs j b) → ¬ (b = qb ∨ Fs i b) := fun b ⟨j, hj, hji, hz⟩ hc => by
    rcases hc with rfl | hc
    · have hjl : j < Qs.length := by rw [← hm.plen]; exact hj
      exact (hm.rings j _ _ (List.getElem?_eq_getElem hj) (List.getElem?_eq_getElem hjl)).ne hm.top (by decide) (by decide) hz
    · exact hm.apart j i b hj hil hji hz hc
  refine ⟨he, ⟨v1, v2, ps, Fs, rfl, { hm with top := ?_, prow := own_kp hm.prow hk (fun b hz hc => ?_), brow := own_kp hm.brow hk (fun b hz hc => ?_), plen := by rw [List.length_set]; exact hm.plen, blen := by rw [List.length_set]; exact hm.blen, few := by rw [List.length_set]; exact hm.few, tot := ⟨by have := hm.tot; omega, hm.tot.2⟩, rings := fun j p' Q' hp' hQ' => ?_ }⟩, hk.mono (fun b _ hc => ?_)⟩
  · have e2 : ((totQ (Qs.set i Q) : Nat) : Int) = (totQ Qs : Int) - 1 := by omega
    rw [e2]; exact hT
  · rcases hc with rfl | hc
    · exact n1 hz
    · exact h1 b hz hc
  · rcases hc with rfl | hc
    · exact n2 hz
    · exact h2 b hz hc
  · by_cases e2 : j = i
    · subst e2
      rw [List.getElem?_set_self hi] at hQ'
      injection hQ' with hQ'
      subst hQ'
      rw [hp] at hp'
      injection hp' with hp'
      subst hp'
      exact hr'
    · rw [List.getElem?_set_ne (fun e3 => e2 e3.symm)] at hQ'
      exact (hm.rings j p' Q' hp' hQ').kp hk (fun b hb => hnot b ⟨j, (List.getElem?_eq_some_iff.1 hp').1, e2, hb⟩)
  · rcases hc with rfl | hc
    · exact .inl rfl
    · exact .inr (.inr (.inr ⟨i, hil, hc⟩))
end Go.Proofs.YtfckgddodjmbdaaGreatDoor

namespace Go.Proofs.YtfckgddodjmbdaaGreatDoor
set_option linter.unusedVariables false
set_option linter.unusedSimpArgs false
open Go Go.RowKit Go.Shelf

/-- Empty rings that are being made. -/
structure Em (w wr : World) (v : Value) (ps : List Nat) (room k : Nat) : Prop where
  row : wr.ownsRow w.heap.size 310 1 v k (ps.map pR)
  len : ps.length = k
  rings : ∀ (i p : Nat), ps[i]? = some p → Blk wr p [.slice none 0 0, .int .i64 0, .int .i64 0, .int .i64 room] 327 ∧ w.heap.size ≤ p
  inj : ∀ (i j p : Nat), ps[i]? = some p → ps[j]? = some p → i = j
  kp : Kp none' w wr
theorem Em.step {w wr w1 W w8 : World} {v v8 : Value} {ps : List Nat} {room k rb : Nat} (h : Em w wr v ps room k) (hk1 : Kp none' wr w1) (hb : Blk w1 rb [.slice none 0 0, .int .i64 0, .int .i64 0, .int .i64 room] 327) (hr : wr.heap.size ≤ rb)
    (hkW : Kp none' w1 W) (ho : w8.ownsRow w.heap.size 310 1 v8 (k + 1) (ps.map pR ++ [pR rb])) (hg : W.grownBy w8 v.ownBlock) : Em w w8 v8 (ps ++ [rb]) room (k + 1) := by
  have hO : W.ownsRow w.heap.size 310 1 v k (ps.map pR) := own_kp (own_kp h.row hk1 (fun _ _ x => x)) hkW (fun _ _ x => x)
  have hB : ∀ p, Blk W p [.slice none 0 0, .int .i64 0, .int .i64 0, .int .i64 room] 327 → Blk w8 p [.slice none 0 0, .int .i64 0, .int .i64 0, .int .i64 room] 327 := fun p hp => hp.grown hg (fun e => own_ne_blk hO hp (by decide) e.symm)
  have hlt : ∀ (i p : Nat), ps[i]? = some p → p < wr.heap.size := fun i p hp => (h.rings i p hp).1.lt
  have hcase : ∀ (i p : Nat), (ps ++ [rb])[i]? = some p → ps[i]? = some p ∨ (i = ps.length ∧ p = rb) := fun i p hp => by
    by_cases hi : i < ps.length
    · rw [List.getElem?_append_left hi] at hp; exact .inl hp
    · rw [List.getElem?_append_right (by omega)] at hp
      obtain ⟨h1, h2⟩ := List.getElem?_eq_some_iff.1 hp
      simp only [List.length_cons, List.length_nil] at h1
      have h0 : i - ps.length = 0 := by omega
      simp only [h0, List.getElem_cons_zero] at h2
      exact .inr ⟨by omega, h2.symm⟩
  refine ⟨by rw [List.map_append]; exact ho, by rw [List.length_append, h.len]; rfl, fun i p hp => ?_, fun i j p hi hj => ?_, ((h.kp.trans hk1).trans hkW).grown hg (fun b hb => .inr (own_block hO hb).1)⟩
  · rcases hcase i p hp with h1 | ⟨_, rfl⟩
    · exact ⟨hB p (((h.rings i p h1).1.kp hk1 (fun x => x)).kp hkW (fun x => x)), (h.rings i p h1).2⟩
    · exact ⟨hB _ (hb.kp hkW (fun x => x)), by have := h.kp.size; omega⟩
  · rcases hcase i p hi with h1 | ⟨h1, h2⟩ <;> rcases hcase j p hj with h3 | ⟨h3, h4⟩
    · exact h.inj i j p h1 h3
    · have := hlt i p h1; omega
    · have := hlt j p h3; omega
    · omega
end Go.Proofs.YtfckgddodjmbdaaGreatDoor

namespace Go.Proofs.YtfckgddodjmbdaaGreatDoor
set_option linter.unusedVariables false
set_option linter.unusedSimpArgs false
open Go Go.RowKit Go.Shelf

/-- A post is kept out of the walk's sight. -/
theorem calls_post {P : Program} {f : Nat} {a : Array Value} {w : World} {Q : Ending → World → Prop} (h : ∀ PP : Ending → World → Prop, Hid (∀ e w', Q e w' → PP e w') → Calls P f a w PP) : Calls P f a w Q := h Q (Lib.hid fun _ _ h => h)
end Go.Proofs.YtfckgddodjmbdaaGreatDoor

namespace Go.Proofs.YtfckgddodjmbdaaGreatDoor
set_option linter.unusedVariables false
set_option linter.unusedSimpArgs false
open Go Go.RowKit Go.Shelf

theorem pk_load {w : World} {b fl id ln : Nat} (h : Blk w b [.int .u32 fl, .int .u32 id, .int .u64 ln] 65) :
    ∀ W, Kp none' w W → (Instr.loadAt 65 (.pointer (some ⟨b, 0, none⟩))).run Tryz.prog W = .ok (.agg #[.int .u32 fl, .int .u32 id, .int .u64 ln]) W := fun W hK =>
  run_loadAt_mid W b 0 65 [.int .u32 fl, .int .u32 id, .int .u64 ln] _ (fun j v hv => by rw [Nat.zero_add]; exact hK.cell (h.cell j hv) (fun x => x)) Tryz.underlying65 rfl infoPk
/-- What Push of a ring is known to do, in worlds behind w that differ at block g2. -/
def PutOk (w : World) (g2 p room : Nat) (G : Nat → Prop) (Q : List It) (r fl id ln : Nat) : Prop :=
  ∀ W, Kp (fun b => b = g2) w W → Calls Tryz.prog 232 #[.pointer (some ⟨p, 0, none⟩), .agg #[.int .u64 r, .int .u32 fl, .int .u32 id, .int .u64 ln]] W fun e w' => e = .returned (.bool true) ∧ ∃ F', Rg w' F' p room (Q ++ [⟨r, ⟨fl, id, ln⟩⟩]) ∧ Kp G W w' ∧ Nw W G F'
/-- What stands behind a Push. -/
def PushPost (w : World) (qb g1 c1 g2 c2 n room m p k : Nat) (G : Nat → Prop) (Q : List It) (bs' : List Nat) (r fl id ln : Nat) (e : Ending) (w' : World) : Prop :=
  e = .returned (.tuple #[.int .i64 k, .bool true]) ∧ Blk w' qb [.slice (some ⟨g1, 0, none⟩) n c1, .slice (some ⟨g2, 0, none⟩) n c2, .int .i64 room, .int .i64 ((m : Int) + 1)] 292 ∧ w'.ownsRow 0 22 1 (.slice (some ⟨g2, 0, none⟩) n c2) n (bs'.map eN8) ∧
    (∃ F', Rg w' F' p room (Q ++ [⟨r, ⟨fl, id, ln⟩⟩]) ∧ Nw w G F') ∧ Kp (fun b => b = qb ∨ b = g2 ∨ G b) w w'
/-- The same, behind the ring's Put and ahead of the count. -/
theorem pushPost {w W4 W5 W6 : World} {qb g1 c1 g2 c2 n room m p k : Nat} {G F' : Nat → Prop} {Q : List It} {bs' : List Nat} {r fl id ln : Nat} (hg2 : g2 ≠ qb ∧ ¬ G g2) (hG : ¬ G qb)
    (hb : Blk W4 qb [.slice (some ⟨g1, 0, none⟩) n c1, .slice (some ⟨g2, 0, none⟩) n c2, .int .i64 room, .int .i64 m] 292) (ho : W4.ownsRow 0 22 1 (.slice (some ⟨g2, 0, none⟩) n c2) n (bs'.map eN8)) (hk4 : Kp (fun b => b = g2) w W4)
    (hk5 : Kp none' W4 W5) (hr : Rg W6 F' p room (Q ++ [⟨r, ⟨fl, id, ln⟩⟩])) (hk6 : Kp G W5 W6) (hn : Nw W5 G F') (hF : ¬ F' qb) :
    PushPost w qb g1 c1 g2 c2 n room m p k G Q bs' r fl id ln (.returned (.tuple #[.int .i64 k, .bool true])) (W6.setCell ⟨qb, 3, none⟩ (.int .i64 ((m : Int) + 1))) := by
  have hs : Kp (fun b => b = qb) W6 (W6.setCell ⟨qb, 3, none⟩ (.int .i64 ((m : Int) + 1))) := (Kp.refl (fun b => b = qb) W6).set (p := ⟨qb, 3, none⟩) (.inl rfl) _
  have h5 : w.heap.size ≤ W5.heap.size := by have := hk4.size; have := hk5.size; omega
  refine ⟨rfl, (((hb.kp hk5 (fun x => x)).kp hk6 hG).set 3 _), own_kp (own_kp (own_kp ho hk5 (fun _ _ x => x)) hk6 (fun b hb x => ?_)) hs (fun b hb x => ?_), ⟨F', hr.kp hs (fun b hb e => hF (e ▸ hb)), fun b hb => ?_⟩, ?_⟩
  · have : g2 = b := Option.some.inj hb
    exact hg2.2 (this ▸ x)
  · have : g2 = b := Option.some.inj hb
    exact hg2.1 (this.trans x)
  · rcases hn b hb with h | h
    · exact .inl h
    · exact .inr (by omega)
  · exact (((hk4.mono (fun b _ e => .inr (.inl e))).trans (hk5.mono (fun _ _ x => x.elim))).trans (hk6.mono (fun b _ e => .inr (.inr e)))).trans (hs.mono (fun b _ e => .inl e))
end Go.Proofs.YtfckgddodjmbdaaGreatDoor

namespace Go.Proofs.YtfckgddodjmbdaaGreatDoor
set_option linter.unusedVariables false
set_option linter.unusedSimpArgs false
open Go Go.RowKit Go.Shelf

set_option maxRecDepth 100000 in
set_option maxHeartbeats 2000000 in
theorem qPushB {w : World} {qb g1 c1 g2 c2 n room m p A : Nat} {G : Nat → Prop} {Q : List It} {bs : List Nat} (r fl id ln : Nat)
    (hb : Blk w qb [.slice (some ⟨g1, 0, none⟩) n c1, .slice (some ⟨g2, 0, none⟩) n c2, .int .i64 room, .int .i64 m] 292) (ho : w.ownsRow 0 22 1 (.slice (some ⟨g2, 0, none⟩) n c2) n (bs.map eN8))
    (hxp : w.cell? ⟨g1, A, none⟩ = some (.pointer (some ⟨p, 0, none⟩))) (hg2 : g2 ≠ qb ∧ ¬ G g2) (hg1 : g1 ≠ g2) (hG : ¬ G qb) (hm : m < room) (hroom : room ≤ 4096) (hn : 1 ≤ n ∧ n ≤ 32) (hl : bs.length = n) (hA : atB bs r (n - 1) = A)
    (hput : PutOk w g2 p room G Q r fl id ln) (hB : ¬ (A = 0 ∧ r < bs.getD 0 0)) :
    Calls Tryz.prog 228 #[.pointer (some ⟨qb, 0, none⟩), .int .u64 r, .agg #[.int .u32 fl, .int .u32 id, .int .u64 ln]] w fun e w' => PushPost w qb g1 c1 g2 c2 n room m p A G Q (bs.set A r) r fl id ln e w' := by
  refine calls_post ?_
  intro PP HP
  have HPUT : Hid (∀ W, Kp (fun b => b = g2) w W → Calls Tryz.prog 232 #[.pointer (some ⟨p, 0, none⟩), .agg #[.int .u64 r, .int .u32 fl, .int .u32 id, .int .u64 ln]] W fun e w' => e = .returned (.bool true) ∧ ∃ F', Rg w' F' p room (Q ++ [⟨r, ⟨fl, id, ln⟩⟩]) ∧ Kp G W w' ∧ Nw W G F') := Lib.hid hput
  have HNE := Lib.hid hg2
  have HN1 := Lib.hid hg1
  have HG := Lib.hid hG
  have HBN := Lib.hid hB
  have HL := Lib.hid hl
  have HGL := Lib.hid ((own_block ho rfl).2)
  have HA := Lib.hid hA
  have hAl : A ≤ n - 1 := by rw [← hA]; exact atB_le _ _ _
  have hmr : (m : Int) < room := by omega
  have HX := Lib.hid (Blk.new w [.int .u32 fl, .int .u32 id, .int .u64 ln] 65)
  have HK0 := Lib.hid ((Kp.refl none' w).alloc (.cells #[.int .u32 fl, .int .u32 id, .int .u64 ln] 65))
  have HB0 := Lib.hid (hb.kp HK0.out (fun x => x))
  have HO0 := Lib.hid (own_kp ho HK0.out (fun _ _ x => x))
  have XP0 := Lib.hid (HK0.out.cell hxp (fun x => x))
  have y2 := HB0.out.cell 2 rfl
  have y3 := HB0.out.cell 3 rfl
  clear hput hg2 hg1 hG hB hl hA hb ho hxp
  go_enter Tryz.func228, Tryz.ntmps228
  go_wp2_with fail
  have hdm : decide ((room : Int) ≤ m) = false := by rw [decide_eq_false_iff_not]; omega
  have hdm2 : decide (room ≤ m) = false := by rw [decide_eq_false_iff_not]; omega
  refine wp_region_kept2 [] [0, 1, 2, 3, 4, 5, 6, 7, 8, 9, 10, 11] 12 (by kernel_rfl) (by kernel_rfl) (fun c a d u w h => by cases d <;> exact h) ?_
  simp only [pick, List.getElem?_cons_succ, List.getElem?_cons_zero, List.drop_succ_cons, List.drop_zero]
  show wpKL _ _ _ _ _ _
  repeat (first
    | (refine wpKL_op (by exact rfl) (by as_aux_lemma => intro W hK; have e0 := hK.cell y3 (fun x => x); have e1 := hK.cell y2 (fun x => x); have e9 := hdm; have e8 := hdm2; go_simp; exact rfl) ?_; simp only [Act.put, List.setIfInBounds_toArray, List.set_cons_succ, List.set_cons_zero])
    | (refine wpKL_off (by exact rfl) ?_; simp only [Act.put, List.setIfInBounds_toArray, List.set_cons_succ, List.set_cons_zero]))
  show ∀ W, _ → wpList _ _ _ _ _ _
  intro W1 hK1
  have HK1 := Lib.hid (HK0.out.trans hK1)
  have HB1 := Lib.hid (HB0.out.kp hK1 (fun x => x))
  have HO1 := Lib.hid (own_kp HO0.out hK1 (fun _ _ x => x))
  have HX1 := Lib.hid (HX.out.kp hK1 (fun x => x))
  have XP1 := Lib.hid (hK1.cell XP0.out (fun x => x))
  have y1 := HB1.out.cell 1 rfl
  clear hK1 y2 y3 HB0 HO0 HX XP0 HK0
  have hw9 : IntKind.i64.wrap ((n : Int) - 1) = ((n - 1 : Nat) : Int) := by rw [IntKind.wrap_i64]; omega
  go_wp2_with fail
  clear y1
  go_loopw [8] (fun i0 wr => ∃ k : Nat, i0 = .int .i64 k ∧ k ≤ n - 1 ∧ Hid (atB bs r k = A) ∧ Hid (Kp none' W1 wr)) (fun i0 _ => (intOf i0).toNat)
  case atStart => exact ⟨n - 1, rfl, Nat.le_refl _, HA.out, Kp.refl _ _⟩
  case round =>
    obtain ⟨k, rfl, hk, HAt, HKr⟩ := hrel
    have hki : (k : Int) < n := by omega
    have HBr := Lib.hid (HB1.out.kp HKr.out (fun x => x))
    have HOr := Lib.hid (own_kp HO1.out HKr.out (fun _ _ x => x))
    have HXr := Lib.hid (HX1.out.kp HKr.out (fun x => x))
    have XPr := Lib.hid (HKr.out.cell XP1.out (fun x => x))
    have r1 := HBr.out.cell 1 rfl
    have rk : wr.cell? ⟨g2, k, none⟩ = some (.int .u64 (bs.getD k 0)) := own_cell HOr.out k (by
      rw [List.getElem?_map, List.getD_eq_getElem?_getD, List.getElem?_eq_getElem (by rw [HL.out]; omega)]; rfl)
    have r0 : wr.cell? ⟨g2, 0, none⟩ = some (.int .u64 (bs.getD 0 0)) := own_cell HOr.out 0 (by
      rw [List.getElem?_map, List.getD_eq_getElem?_getD, List.getElem?_eq_getElem (by rw [HL.out]; omega)]; rfl)
    by_cases h0 : k = 0
    · subst h0
      have hAe : A = 0 := by rw [← HAt.out]; rfl
      subst hAe
      obtain ⟨b0, hb0⟩ : ∃ b0, bs.getD 0 0 = b0 := ⟨_, rfl⟩
      have hlt : ¬ r < b0 := fun h => HBN.out ⟨rfl, by rw [hb0]; exact h⟩
      rw [hb0] at r0 rk
      clear hb0 hAl
      have hd1 : decide ((r : Int) < b0) = false := by rw [decide_eq_false_iff_not]; omega
      have hd2 : decide (r < b0) = false := by rw [decide_eq_false_iff_not]; omega
      have hkA : (0 : Int) < n := by omega
      have hkB : 0 < n := by omega
      have hkC : (0 : Int) < n := by omega
      have hkD : 0 < n := by omega
      have hgl : g2 < w.heap.size := HGL.out
      have hkq : Kp (fun b => b = g2) wr (wr.setCell ⟨g2, 0, none⟩ (.int .u64 r)) := (Kp.refl (fun b => b = g2) wr).set (p := ⟨g2, 0, none⟩) (.inl rfl) _
      have HB4 := Lib.hid (HBr.out.kp hkq (fun e => HNE.out.1 e.symm))
      have HX4 := Lib.hid (HXr.out.kp hkq (fun e => by omega))
      have XP4 := Lib.hid (hkq.cell XPr.out (fun e => HN1.out e))
      have HO4 : Hid ((wr.setCell ⟨g2, 0, none⟩ (.int .u64 r)).ownsRow 0 22 1 (.slice (some ⟨g2, 0, none⟩) n c2) n ((bs.set 0 r).map eN8)) := Lib.hid (by rw [List.map_set]; exact own_set HOr.out 0 _)
      have HK4 : Hid (Kp (fun b => b = g2) w (wr.setCell ⟨g2, 0, none⟩ (.int .u64 r))) := Lib.hid (((HK1.out.trans HKr.out).mono (fun _ _ x => x.elim)).trans hkq)
      have z := own_fz HOr.out 0
      clear hkq
      go_wp2_with fail
      generalize wr.setCell ⟨g2, _, none⟩ (.int .u64 (r : Int)) = W4 at *
      have xp := XP4.out
      have q0 := HB4.out.cell 0 rfl
      have HLD := Lib.hid (pk_load HX4.out)
      go_wp2_with fail
      refine wp_region_kept2 [] [0, 1, 2, 3, 4, 5, 6, 7, 8, 9] 10 (by kernel_rfl) (by kernel_rfl) (fun c a d u w h => by cases d <;> exact h) ?_
      simp only [pick, List.getElem?_cons_succ, List.getElem?_cons_zero, List.drop_succ_cons, List.drop_zero]
      show wpKL _ _ _ _ _ _
      repeat (first
        | (refine wpKL_op (by exact rfl) (load_at rfl rfl HLD.out) ?_; simp only [Act.put, List.setIfInBounds_toArray, List.set_cons_succ, List.set_cons_zero])
        | (refine wpKL_op (by exact rfl) (by as_aux_lemma => intro W hK; have e0 := hK.cell q0 (fun x => x); have e1 := hK.cell xp (fun x => x); have e2 := hkA; have e3 := hkB; have e4 := hkC; have e5 := hkD; go_simp; exact rfl) ?_; simp only [Act.put, List.setIfInBounds_toArray, List.set_cons_succ, List.set_cons_zero])
        | (refine wpKL_off (by exact rfl) ?_; simp only [Act.put, List.setIfInBounds_toArray, List.set_cons_succ, List.set_cons_zero]))
      show ∀ W, _ → wpList _ _ _ _ _ _
      intro W5 hK5
      have HK5 := Lib.hid hK5
      go_wp2_with fail
      refine (HPUT.out W5 (HK4.out.then hK5 (fun b hb x => x.elim))).mono ?_
      rintro e W6 ⟨rfl, F', hr6, hk6, hn6⟩
      have HR6 := Lib.hid hr6
      have HK6 := Lib.hid hk6
      have HN6 := Lib.hid hn6
      have HB6 := Lib.hid ((HB4.out.kp hK5 (fun x => x)).kp hk6 HG.out)
      have q3 := HB6.out.cell 3 rfl
      have qf := HB6.out.fz 3
      clear hK5 hr6 hk6 hn6 q0 xp
      go_wp2_with fail
      have hqs : qb < W5.heap.size := (HB4.out.kp HK5.out (fun x => x)).lt
      exact HP.out _ _ (pushPost HNE.out HG.out HB4.out HO4.out HK4.out HK5.out HR6.out HK6.out HN6.out (fun h => by
        rcases HN6.out _ h with h | h
        · exact HG.out h
        · omega))
    · obtain ⟨j, rfl⟩ : ∃ j, k = j + 1 := ⟨k - 1, by omega⟩
      obtain ⟨bk, hbk⟩ : ∃ bk, bs.getD (j + 1) 0 = bk := ⟨_, rfl⟩
      rw [hbk] at rk
      have hd0 : decide ((0 : Int) < ((j + 1 : Nat) : Int)) = true := by rw [decide_eq_true_eq]; omega
      have hd9 : ((((j + 1 : Nat) : Int)) == 0) = false := by rw [beq_eq_false_iff_ne]; omega
      by_cases hle : bk ≤ r
      · have hAe : A = j + 1 := by rw [← HAt.out]; unfold atB; rw [if_pos (by rw [hbk]; exact hle)]
        subst hAe
        clear h0 hAl hbk
        have hd1 : decide ((r : Int) < bk) = false := by rw [decide_eq_false_iff_not]; omega
        have hd2 : decide (r < bk) = false := by rw [decide_eq_false_iff_not]; omega
        have hkA : (j : Int) + 1 < n := by omega
        have hkB : j + 1 < n := by omega
        have hkC : (0 : Int) ≤ (j : Int) + 1 := by omega
        have hkD : ((j + 1 : Nat) : Int) < n := by omega
        have hgl : g2 < w.heap.size := HGL.out
        have hkq : Kp (fun b => b = g2) wr (wr.setCell ⟨g2, j + 1, none⟩ (.int .u64 r)) := (Kp.refl (fun b => b = g2) wr).set (p := ⟨g2, j + 1, none⟩) (.inl rfl) _
        have HB4 := Lib.hid (HBr.out.kp hkq (fun e => HNE.out.1 e.symm))
        have HX4 := Lib.hid (HXr.out.kp hkq (fun e => by omega))
        have XP4 := Lib.hid (hkq.cell XPr.out (fun e => HN1.out e))
        have HO4 : Hid ((wr.setCell ⟨g2, j + 1, none⟩ (.int .u64 r)).ownsRow 0 22 1 (.slice (some ⟨g2, 0, none⟩) n c2) n ((bs.set (j + 1) r).map eN8)) := Lib.hid (by rw [List.map_set]; exact own_set HOr.out (j + 1) _)
        have HK4 : Hid (Kp (fun b => b = g2) w (wr.setCell ⟨g2, j + 1, none⟩ (.int .u64 r))) := Lib.hid (((HK1.out.trans HKr.out).mono (fun _ _ x => x.elim)).trans hkq)
        have z := own_fz HOr.out (j + 1)
        clear hkq
        go_wp2_with fail
        generalize wr.setCell ⟨g2, _, none⟩ (.int .u64 (r : Int)) = W4 at *
        have xp := XP4.out
        have q0 := HB4.out.cell 0 rfl
        have HLD := Lib.hid (pk_load HX4.out)
        go_wp2_with fail
        refine wp_region_kept2 [] [0, 1, 2, 3, 4, 5, 6, 7, 8, 9] 10 (by kernel_rfl) (by kernel_rfl) (fun c a d u w h => by cases d <;> exact h) ?_
        simp only [pick, List.getElem?_cons_succ, List.getElem?_cons_zero, List.drop_succ_cons, List.drop_zero]
        show wpKL _ _ _ _ _ _
        repeat (first
          | (refine wpKL_op (by exact rfl) (load_at rfl rfl HLD.out) ?_; simp only [Act.put, List.setIfInBounds_toArray, List.set_cons_succ, List.set_cons_zero])
          | (refine wpKL_op (by exact rfl) (by as_aux_lemma => intro W hK; have e0 := hK.cell q0 (fun x => x); have e1 := hK.cell xp (fun x => x); have e2 := hkA; have e3 := hkB; have e4 := hkC; have e5 := hkD; go_simp; exact rfl) ?_; simp only [Act.put, List.setIfInBounds_toArray, List.set_cons_succ, List.set_cons_zero])
          | (refine wpKL_off (by exact rfl) ?_; simp only [Act.put, List.setIfInBounds_toArray, List.set_cons_succ, List.set_cons_zero]))
        show ∀ W, _ → wpList _ _ _ _ _ _
        intro W5 hK5
        have HK5 := Lib.hid hK5
        go_wp2_with fail
        refine (HPUT.out W5 (HK4.out.then hK5 (fun b hb x => x.elim))).mono ?_
        rintro e W6 ⟨rfl, F', hr6, hk6, hn6⟩
        have HR6 := Lib.hid hr6
        have HK6 := Lib.hid hk6
        have HN6 := Lib.hid hn6
        have HB6 := Lib.hid ((HB4.out.kp hK5 (fun x => x)).kp hk6 HG.out)
        have q3 := HB6.out.cell 3 rfl
        have qf := HB6.out.fz 3
        clear hK5 hr6 hk6 hn6 q0 xp
        go_wp2_with fail
        have hqs : qb < W5.heap.size := (HB4.out.kp HK5.out (fun x => x)).lt
        exact HP.out _ _ (pushPost HNE.out HG.out HB4.out HO4.out HK4.out HK5.out HR6.out HK6.out HN6.out (fun h => by
          rcases HN6.out _ h with h | h
          · exact HG.out h
          · omega))
      · have HAn : Hid (atB bs r j = A) := Lib.hid (by rw [← HAt.out]; conv => rhs; unfold atB
                                                       rw [if_neg (by rw [hbk]; exact hle)])
        clear h0 hbk
        have hd1 : decide ((r : Int) < bk) = true := by rw [decide_eq_true_eq]; omega
        have hd2 : decide (r < bk) = true := by rw [decide_eq_true_eq]; omega
        have hw8 : IntKind.i64.wrap (((j + 1 : Nat) : Int) - 1) = (j : Int) := by rw [IntKind.wrap_i64]; omega
        go_wp2_with fail
        go_roundw
        case rel => exact ⟨j, rfl, by omega, HAn.out, HKr.out⟩
        case measure => simp [intOf]
end Go.Proofs.YtfckgddodjmbdaaGreatDoor
