/- Walks of layer 27: flows found, replies told apart. -/
import Derived.Test.YthjapdjglifopaaFairP
import Derived.Test.YthjapdjglifopaaTrOfW
namespace Go.Proofs.Ythjapdjglifopaa
set_option linter.unusedVariables false
set_option linter.unusedSimpArgs false
open Go.RowKit Go.Shelf

set_option maxHeartbeats 1000000 in
theorem fFind (fl : List FlR) (hn : fl.length ≤ 100000) (id : Nat) (v : Value) (w : World) (h : Sl w v fl.length 5 (fl.flatMap enFl)) : Calls Try.prog 33 #[v, .int .u32 id] w fun e w' => e = .returned (.int .i64 (findF fl id)) ∧ Kp none' w w' := by
  obtain ⟨ao, cap, rfl⟩ : ∃ ao cap, v = .slice ao fl.length cap := by obtain ⟨ao, cap, rfl, _⟩ := h.is; exact ⟨_, _, rfl⟩
  have HS := Lib.hid h
  clear h
  go_enter Try.func33, Try.ntmps33
  go_wp2
  go_loopw [9] (fun i0 wr => ∃ j : Nat, i0 = .int .i64 j ∧ j ≤ fl.length ∧ Hid ((∀ i (hi : i < j) (hi2 : i < fl.length), (fl[i]'hi2).id ≠ id) ∧ Kp none' w wr)) (fun i0 _ => fl.length - (intOf i0).toNat)
  case atStart => exact ⟨0, rfl, by omega, fun i hi => by omega, Kp.refl _ _⟩
  case round =>
    obtain ⟨j, rfl, hj, hr⟩ := hrel
    by_cases hlt : j < fl.length
    · obtain ⟨g, off, cap', e1, hc⟩ := (HS.out.old hr.out.2).at enFl_len (by decide) j hlt
      injection e1 with e1 _ e3
      subst e1 e3
      have hids : ∀ i (hi : i < j), (fl[i]'(by omega)).id ≠ id := fun i hi => hr.out.1 i hi (by omega)
      have hfa := fun e => findF_at fl id j hlt hids e
      have hst : fl[j].id ≠ id → ∀ i (hi : i < j + 1) (hi2 : i < fl.length), (fl[i]'hi2).id ≠ id := fun e i hi hi2 => by
        by_cases e2 : i = j
        · subst e2; exact e
        · exact hr.out.1 i (by omega) hi2
      obtain ⟨f, hf⟩ : ∃ f, fl[j] = f := ⟨_, rfl⟩
      rw [hf] at hc hfa hst
      have c0 := hc 0 _ rfl
      have c1 := hc 1 _ rfl
      have c2 := hc 2 _ rfl
      have c3 := hc 3 _ rfl
      have c4 := hc 4 _ rfl
      simp only [Nat.add_zero] at c0
      have HK := Lib.hid (hr.out.2.alloc (.cells #[.int .u32 f.id, .int .u64 f.cost, .int .u64 f.budget, .int .u64 f.size, .int .u64 f.cap] 72))
      by_cases he : f.id = id
      · have HF := Lib.hid (hfa he)
        have hb : ((f.id : Int) == (id : Int)) = true := by rw [beq_iff_eq]; omega
        clear hc hf hfa hst hids he
        go_wp2
        go_ret
        exact ⟨by rw [HF.out]; rfl, HK.out⟩
      · have HF := Lib.hid (hst he)
        have hb : ((f.id : Int) == (id : Int)) = false := by rw [beq_eq_false_iff_ne]; omega
        clear hc hf hfa hst hids he
        go_wp2
        go_roundw
        case rel => exact ⟨j + 1, by go_num, by omega, HF.out, HK.out⟩
        case measure => simp [intOf]; omega
    · have HF := Lib.hid (findF_none fl id (fun i hi => hr.out.1 i (by omega) hi))
      go_wp2
      go_ret
      exact ⟨by rw [HF.out]; rfl, hr.out.2⟩
set_option maxHeartbeats 1000000 in
theorem rFind (fl : List FlR) (hn : fl.length ≤ 100000) (id : Nat) (v : Value) (w : World) (h : Sl w v fl.length 5 (fl.flatMap enFl)) : Calls Try.prog 57 #[v, .int .u32 id] w fun e w' => e = .returned (.int .i64 (findF fl id)) ∧ w = w' := by
  obtain ⟨ao, cap, rfl⟩ : ∃ ao cap, v = .slice ao fl.length cap := by obtain ⟨ao, cap, rfl, _⟩ := h.is; exact ⟨_, _, rfl⟩
  have HS := Lib.hid h
  clear h
  go_enter Try.func57, Try.ntmps57
  go_wp2
  go_loop [5] (fun i0 => ∃ j : Nat, i0 = .int .i64 j ∧ j ≤ fl.length ∧ Hid (∀ i (hi : i < j) (hi2 : i < fl.length), (fl[i]'hi2).id ≠ id)) (fun i0 => fl.length - (intOf i0).toNat)
  case atStart => exact ⟨0, rfl, by omega, fun i hi => by omega⟩
  case round =>
    obtain ⟨j, rfl, hj, hr⟩ := hrel
    by_cases hlt : j < fl.length
    · obtain ⟨g, off, cap', e1, hc⟩ := HS.out.at enFl_len (by decide) j hlt
      injection e1 with e1 _ e3
      subst e1 e3
      have hids : ∀ i (hi : i < j), (fl[i]'(by omega)).id ≠ id := fun i hi => hr.out i hi (by omega)
      have hfa := fun e => findF_at fl id j hlt hids e
      have hst : fl[j].id ≠ id → ∀ i (hi : i < j + 1) (hi2 : i < fl.length), (fl[i]'hi2).id ≠ id := fun e i hi hi2 => by
        by_cases e2 : i = j
        · subst e2; exact e
        · exact hr.out i (by omega) hi2
      obtain ⟨f, hf⟩ : ∃ f, fl[j] = f := ⟨_, rfl⟩
      rw [hf] at hc hfa hst
      have c0 := hc 0 _ rfl
      simp only [Nat.add_zero] at c0
      by_cases he : f.id = id
      · have HF := Lib.hid (hfa he)
        have hb : ((f.id : Int) == (id : Int)) = true := by rw [beq_iff_eq]; omega
        clear hc hf hfa hst hids he
        go_wp2
        go_ret
        exact ⟨by rw [HF.out]; rfl, rfl⟩
      · have HF := Lib.hid (hst he)
        have hb : ((f.id : Int) == (id : Int)) = false := by rw [beq_eq_false_iff_ne]; omega
        clear hc hf hfa hst hids he
        go_wp2
        go_round
        case rel => exact ⟨j + 1, by go_num, by omega, HF.out⟩
        case measure => simp [intOf]; omega
    · have HF := Lib.hid (findF_none fl id (fun i hi => hr.out i (by omega) hi))
      go_wp2
      go_ret
      exact ⟨by rw [HF.out]; rfl, rfl⟩

/-- A reply handed over: its first cells in the callee's box. -/
theorem box_q (q : RpR) (hq : q.ok) (w : World) : (w.alloc (.cells (enQ q).toArray 77)).cell? ⟨w.heap.size, 0, none⟩ = some (.int .i64 q.kind) ∧ (w.alloc (.cells (enQ q).toArray 77)).cell? ⟨w.heap.size, 1, none⟩ = some (.int .i64 q.code) ∧
    (w.alloc (.cells (enQ q).toArray 77)).cell? ⟨w.heap.size, 2, none⟩ = some (.int .u32 q.flow) :=
  ⟨(Blk.new w (enQ q) _).cell 0 hq.k, (Blk.new w (enQ q) _).cell 1 hq.c, (Blk.new w (enQ q) _).cell 2 hq.f⟩
set_option maxHeartbeats 1000000 in
theorem fLets (q : RpR) (hq : q.ok) (w : World) : Calls Try.prog 34 #[.agg (enQ q).toArray] w fun e w' => e = .returned (.bool (letsB q)) ∧ Kp none' w w' := by
  obtain ⟨c0, c1, c2⟩ := box_q q hq w
  have HL : Hid (letsB q = (decide (q.kind = 1) && decide (q.code = 0))) := rfl
  generalize enQ q = cs at *
  generalize q.kind = k at *
  generalize q.code = c at *
  by_cases hk : k = 1
  · subst hk
    go_enter Try.func34, Try.ntmps34
    go_wp2
    go_ret
    exact ⟨ret_bool (by rw [HL.out]; simp; rfl), (Kp.refl _ _).alloc _⟩
  · have hkb : (k == 1) = false := by simpa using hk
    have HN := Lib.hid hk
    clear hk
    go_enter Try.func34, Try.ntmps34
    go_wp2
    go_ret
    exact ⟨ret_bool (by rw [HL.out, decide_eq_false HN.out]; simp), (Kp.refl _ _).alloc _⟩
set_option maxHeartbeats 1000000 in
theorem fGoes (q : RpR) (hq : q.ok) (w : World) : Calls Try.prog 35 #[.agg (enQ q).toArray] w fun e w' => e = .returned (.bool (goesB q)) ∧ Kp none' w w' := by
  obtain ⟨c0, c1, c2⟩ := box_q q hq w
  have HL : Hid (goesB q = (decide (q.kind = 2) && decide (q.code = 0))) := rfl
  generalize enQ q = cs at *
  generalize q.kind = k at *
  generalize q.code = c at *
  by_cases hk : k = 2
  · subst hk
    go_enter Try.func35, Try.ntmps35
    go_wp2
    go_ret
    exact ⟨ret_bool (by rw [HL.out]; simp; rfl), (Kp.refl _ _).alloc _⟩
  · have hkb : (k == 2) = false := by simpa using hk
    have HN := Lib.hid hk
    clear hk
    go_enter Try.func35, Try.ntmps35
    go_wp2
    go_ret
    exact ⟨ret_bool (by rw [HL.out, decide_eq_false HN.out]; simp), (Kp.refl _ _).alloc _⟩

set_option maxHeartbeats 1000000 in
theorem rOfQ (fl : List FlR) (hn : fl.length ≤ 100000) (q : RpR) (hq : q.ok) (f kk : Int) (v : Value) (w : World) (h : Sl w v fl.length 5 (fl.flatMap enFl)) : Calls Try.prog 37 #[v, .agg (enQ q).toArray, .int .i64 f, .int .i64 kk] w fun e w' => e = .returned (.bool (ofB fl q f kk)) ∧ Kp none' w w' := by
  obtain ⟨c0, c1, c2⟩ := box_q q hq w
  have HL : Hid (ofB fl q f kk = (decide (q.kind = kk) && decide (q.code = 0) && decide (findF fl q.flow = f))) := rfl
  have HF := Lib.hid (rFind fl hn q.flow v _ (h.old ((Kp.refl none' w).alloc (.cells (enQ q).toArray 77))))
  clear h
  generalize findF fl q.flow = ff at *
  generalize enQ q = cs at *
  generalize q.kind = k at *
  generalize q.code = c at *
  by_cases hk : k = kk
  · subst hk
    by_cases hc : c = 0
    · subst hc
      go_enter Try.func37, Try.ntmps37
      go_wp2_with fail
      refine (HF.out).mono ?_
      rintro e w1 ⟨rfl, rfl⟩
      go_wp2
      go_ret
      exact ⟨ret_bool (by rw [HL.out]; simp; rfl), (Kp.refl _ _).alloc _⟩
    · have hcb : (c == 0) = false := by simpa using hc
      have HN := Lib.hid hc
      clear hc
      go_enter Try.func37, Try.ntmps37
      go_wp2
      go_ret
      exact ⟨ret_bool (by rw [HL.out, decide_eq_false HN.out]; simp), (Kp.refl _ _).alloc _⟩
  · have hkb : (k == kk) = false := by simpa using hk
    have HN := Lib.hid hk
    clear hk
    go_enter Try.func37, Try.ntmps37
    go_wp2
    go_ret
    exact ⟨ret_bool (by rw [HL.out, decide_eq_false HN.out]; simp), (Kp.refl _ _).alloc _⟩
end Go.Proofs.Ythjapdjglifopaa
