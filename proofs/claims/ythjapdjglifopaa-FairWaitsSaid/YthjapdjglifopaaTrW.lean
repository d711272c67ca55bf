/- Walks of layer 39: records put. -/
import Derived.Test.YthjapdjglifopaaWireY
namespace Go.Proofs.Ythjapdjglifopaa
set_option linter.unusedVariables false
set_option linter.unusedSimpArgs false
open Go.RowKit Go.Shelf

def enR (r : Rec) : List Value := [.int .u64 r.t, .int .i64 r.kind, .int .u32 r.flow, .int .u32 r.id, .int .u64 r.len, .int .i64 r.code]
theorem enR_len (r : Rec) : (enR r).length = 6 := rfl
/-- A record as Go's types let it be. -/
structure Rec.goes (r : Rec) : Prop extends r.fit where
  kind : -9223372036854775808 ≤ r.kind ∧ r.kind ≤ 9223372036854775807
  code : -9223372036854775808 ≤ r.code ∧ r.code ≤ 9223372036854775807

set_option maxHeartbeats 2000000 in
theorem tRight (t f i n : Nat) (k c : Int) (w : World) : Calls Try.prog 19 #[.agg #[.int .u64 t, .int .i64 k, .int .u32 f, .int .u32 i, .int .u64 n, .int .i64 c]] w fun e w' => e = .returned (.bool (rightB ⟨t, k, f, i, n, c⟩)) ∧ Kp none' w w' := by
  have hR : Hid (rightB ⟨t, k, f, i, n, c⟩ = (decide (0 ≤ k) && decide (k ≤ 5) && decide (0 ≤ c) && decide (c < 32))) := by
    show _ = _
    unfold rightB
    rw [Bool.eq_iff_iff]; simp; omega
  by_cases h1 : 0 ≤ k
  · by_cases h2 : k ≤ 5
    · by_cases h3 : 0 ≤ c
      · go_enter Try.func19, Try.ntmps19
        go_wp2
        go_ret
        exact ⟨ret_bool (by rw [hR.out]; simp [h1, h2, h3]), (Kp.refl _ _).alloc _⟩
      · have e3 : decide (0 ≤ c) = false := by simpa using h3
        go_enter Try.func19, Try.ntmps19
        go_wp2
        go_ret
        exact ⟨ret_bool (by rw [hR.out, e3]; simp), (Kp.refl _ _).alloc _⟩
    · have e2 : decide (k ≤ 5) = false := by simpa using h2
      go_enter Try.func19, Try.ntmps19
      go_wp2
      go_ret
      exact ⟨ret_bool (by rw [hR.out, e2]; simp), (Kp.refl _ _).alloc _⟩
  · have e1 : decide (0 ≤ k) = false := by simpa using h1
    go_enter Try.func19, Try.ntmps19
    go_wp2
    go_ret
    exact ⟨ret_bool (by rw [hR.out, e1]; simp), (Kp.refl _ _).alloc _⟩

theorem sl_blk {w : World} {b : Nat} {cs : List Value} {t : TypeId} (h : Blk w b cs t) (n sz cap : Nat) (hl : cs.length = n * sz) (hn : n ≤ 9223372036854775807) : Sl w (.slice (some ⟨b, 0, none⟩) n cap) n sz cs :=
  ⟨hl, hn, _, _, rfl, fun i u hu => ⟨b, 0, rfl, by rw [Nat.zero_add]; exact h.cell i hu⟩⟩
/-- The fields of a record. -/
def fieldsR (r : Rec) : List (Nat × Nat) := [(4, r.t), (1, r.kind.toNat), (3, r.flow), (3, r.id), (4, r.len), (1, r.code.toNat)]
theorem fieldsR_cat (r : Rec) : catF (fieldsR r) = body r := by simp [catF, fieldsR, body, widN]
theorem fieldsR_ok (r : Rec) (h : r.fit) (hr : rightB r = true) : ∀ f ∈ fieldsR r, okF f := by
  obtain ⟨h1, h2, h3, h4⟩ := right_iff.1 hr
  intro f hf
  simp only [fieldsR, List.mem_cons, List.not_mem_nil, or_false] at hf
  have e4 : (256 : Nat) ^ widN 4 = 18446744073709551616 := by decide
  have e3 : (256 : Nat) ^ widN 3 = 4294967296 := by decide
  have e1 : (256 : Nat) ^ widN 1 = 256 := by decide
  rcases hf with rfl | rfl | rfl | rfl | rfl | rfl
  · exact ⟨by simp, by simp, by show r.t < _; rw [e4]; exact h.t⟩
  · exact ⟨by simp, by simp, by show r.kind.toNat < _; rw [e1]; omega⟩
  · exact ⟨by simp, by simp, by show r.flow < _; rw [e3]; exact h.flow⟩
  · exact ⟨by simp, by simp, by show r.id < _; rw [e3]; exact h.id⟩
  · exact ⟨by simp, by simp, by show r.len < _; rw [e4]; exact h.len⟩
  · exact ⟨by simp, by simp, by show r.code.toNat < _; rw [e1]; omega⟩
def allR (l : List Rec) : Bool := l.all rightB
/-- What Put says. -/
def putE (l : List Rec) : List UInt8 × Int := if allR l = true then (flatR l, 0) else ([], 6)
theorem putE_no {l : List Rec} {j : Nat} (h : j < l.length) (hr : rightB l[j] = false) : putE l = ([], 6) := by
  unfold putE; rw [if_neg]
  unfold allR; rw [List.all_eq_true]
  intro h2
  rw [h2 _ (List.getElem_mem h)] at hr; cases hr
theorem putE_yes {l : List Rec} (h : ∀ r ∈ l, rightB r = true) : putE l = (flatR l, 0) := by
  unfold putE; rw [if_pos]
  unfold allR; rw [List.all_eq_true]; exact h
theorem seal_tx (l : List UInt8) (h : l.length ≤ 900000) (w : World) : Calls Try.prog 51 #[.string (tx l)] w fun e w' => e = .returned (.string (tx (sealL l))) ∧ Kp none' w w' := by
  have := sSeal (tx l) (by rw [tx_size]; exact h) w
  rwa [bl_tx] at this
theorem ret_strE {a : List UInt8} {e : Int} {p : List UInt8 × Int} (h : p = (a, e)) : Ending.returned (.tuple #[.string (tx a), .int .i64 e]) = .returned (.tuple #[.string (tx p.1), .int .i64 p.2]) := by rw [h]

set_option maxHeartbeats 4000000 in
theorem tPut (l : List Rec) (hok : ∀ r ∈ l, r.goes) (hn : l.length ≤ 1000) (v : Value) (w : World) (h : Sl w v l.length 6 (l.flatMap enR)) :
    Calls Try.prog 21 #[v] w fun e w' => e = .returned (.tuple #[.string (tx (putE l).1), .int .i64 (putE l).2]) ∧ Kp none' w w' := by
  obtain ⟨ao, cap, rfl⟩ : ∃ ao cap, v = .slice ao l.length cap := by obtain ⟨ao, cap, rfl, _⟩ := h.is; exact ⟨_, _, rfl⟩
  have HS := Lib.hid h
  have HD := Lib.hid (Bd.new w w.heap.size (Nat.le_refl _))
  have HK := Lib.hid ((Kp.refl none' w).alloc (.cells #[.pointer none, .slice none 0 0] 106))
  clear h
  go_enter Try.func21, Try.ntmps21
  go_wp2_with fail
  go_loopw [11] (fun i wr => ∃ j : Nat, i = .int .i64 j ∧ j ≤ l.length ∧ Hid ((∀ r ∈ l.take j, rightB r = true) ∧ Bd w.heap.size w.heap.size (flatR (l.take j)) wr ∧ Kp none' w wr)) (fun i _ => l.length - (intOf i).toNat)
  case atStart => exact ⟨0, rfl, by omega, by simp, HD.out, HK.out⟩
  case round =>
    obtain ⟨j, rfl, hj, hr⟩ := hrel
    obtain ⟨r0, r1, r2⟩ := hr.out
    have hcl := flatR_len (l.take j)
    have hcl2 : (flatR (l.take j)).length ≤ 30000 := by rw [List.length_take] at hcl; omega
    have hsz := r2.size
    have R0 := Lib.hid r0; have R1 := Lib.hid r1; have R2 := Lib.hid r2
    clear hcl r0 r1 r2 hr
    by_cases hlt : j < l.length
    · obtain ⟨g, off, cap', e1, hc⟩ := (HS.out.old R2.out).at enR_len (by decide) j hlt
      injection e1 with e1 _ e3
      subst e1 e3
      have hgo := hok l[j] (List.getElem_mem hlt)
      obtain ⟨r, hr⟩ : ∃ r, l[j] = r := ⟨_, rfl⟩
      rw [hr] at hc hgo
      have HT : Hid (flatR (l.take (j + 1)) = flatR (l.take j) ++ bytesR r) := by
        show _ = _
        rw [List.take_succ_eq_append_getElem hlt, flatR_snoc, hr]
      have HN : Hid (rightB r = false → putE l = ([], 6)) := fun h => putE_no hlt (by rw [hr]; exact h)
      have HY : Hid (rightB r = true → ∀ x ∈ l.take (j + 1), rightB x = true) := fun h x hx => by
        rw [List.take_succ_eq_append_getElem hlt, List.mem_append] at hx
        rcases hx with hx | hx
        · exact R0.out x hx
        · simp at hx; rw [hx, hr]; exact h
      clear hr
      obtain ⟨t, k, f, i, n, c⟩ := r
      obtain ⟨⟨ht, hf, hi, hnn⟩, hk, hcc⟩ := hgo
      simp only at ht hf hi hnn hk hcc
      have c0 := hc 0 _ rfl
      have c1 := hc 1 _ rfl
      have c2 := hc 2 _ rfl
      have c3 := hc 3 _ rfl
      have c4 := hc 4 _ rfl
      have c5 := hc 5 _ rfl
      simp only [Nat.add_zero] at c0 c1 c2 c3 c4 c5
      have hR := fun W => tRight t f i n k c W
      have hk1 := (Kp.refl none' wr).alloc (.cells #[.int .u64 t, .int .i64 k, .int .u32 f, .int .u32 i, .int .u64 n, .int .i64 c] 53)
      have HB := Lib.hid (Blk.new wr [.int .u64 t, .int .i64 k, .int .u32 f, .int .u32 i, .int .u64 n, .int .i64 c] 53)
      have HD1 := Lib.hid (R1.out.old hk1); have HK1 := Lib.hid (R2.out.trans hk1)
      clear hc hk1
      cases hrr : rightB ⟨t, k, f, i, n, c⟩ with
      | false =>
        rw [hrr] at hR
        have HR := Lib.hid hR
        have HE := Lib.hid (HN.out hrr)
        clear hR hrr
        go_wp2_with fail
        refine (HR.out _).mono ?_
        rintro e w1 ⟨rfl, k1⟩
        have HK2 := Lib.hid (HK1.out.trans k1)
        clear k1
        go_wp2_with fail
        go_ret2
        exact ⟨ret_strE HE.out, HK2.out⟩
      | true =>
        rw [hrr] at hR
        have HR := Lib.hid hR
        obtain ⟨q1, q2, q3, q4⟩ := right_iff.1 hrr
        simp only at q1 q2 q3 q4
        have hfit : Rec.fit ⟨t, k, f, i, n, c⟩ := ⟨ht, hf, hi, hnn⟩
        have HW := Lib.hid (fun v W => wPutL (fieldsR ⟨t, k, f, i, n, c⟩) (fieldsR_ok _ hfit hrr) (by simp [fieldsR]) v W)
        rw [fieldsR_cat] at HW
        have hbl := body_len ⟨t, k, f, i, n, c⟩
        have HL := Lib.hid (fun W => seal_tx (body ⟨t, k, f, i, n, c⟩) (by omega) W)
        have HYY := Lib.hid (HY.out hrr)
        obtain ⟨kn, rfl⟩ : ∃ kn : Nat, k = kn := ⟨k.toNat, by omega⟩
        obtain ⟨cn, rfl⟩ : ∃ cn : Nat, c = cn := ⟨c.toNat, by omega⟩
        clear hR hrr hbl
        go_wp2_with fail
        refine (HR.out _).mono ?_
        rintro e w1 ⟨rfl, k1⟩
        have HB2 := Lib.hid (HB.out.kp k1 id)
        have HD2 := Lib.hid (HD1.out.old k1); have HK2 := Lib.hid (HK1.out.trans k1)
        have d0 := HB2.out.cell 0 rfl
        have d1 := HB2.out.cell 1 rfl
        have d2 := HB2.out.cell 2 rfl
        have d3 := HB2.out.cell 3 rfl
        have d4 := HB2.out.cell 4 rfl
        have d5 := HB2.out.cell 5 rfl
        clear k1
        go_wp2_with fail
        refine (HW.out _ _ (sl_blk (Blk.new w1 ((fieldsR ⟨t, kn, f, i, n, cn⟩).flatMap enF) 109) 6 3 6 (by simp [fieldsR, enF]) (by omega))).mono ?_
        rintro e w2 ⟨rfl, k2⟩
        have k3 := (Kp.refl none' w1).alloc (.cells ((fieldsR ⟨t, kn, f, i, n, cn⟩).flatMap enF).toArray 109)
        have HD3 := Lib.hid ((HD2.out.old k3).old k2); have HK3 := Lib.hid ((HK2.out.trans k3).trans k2)
        clear k2 k3
        go_wp2_with fail
        refine (HL.out _).mono ?_
        rintro e w3 ⟨rfl, k4⟩
        have HD4 := Lib.hid (HD3.out.old k4); have HK4 := Lib.hid (HK3.out.trans k4)
        clear k4
        go_wp2_with fail
        refine (bString HD4.out _ (by rw [tx_size]; have := bytes_len ⟨t, kn, f, i, n, cn⟩; rw [bytesR] at this; omega)).mono ?_
        rintro e w4 ⟨rfl, b5, k5⟩
        have HK5 : Hid (Kp none' w w4) := KB.none HK4.out k5 (Nat.le_refl _) (Nat.le_refl _)
        rw [bl_tx] at b5
        have HD5 : Hid (Bd w.heap.size w.heap.size (flatR (l.take (j + 1))) w4) := by show Bd _ _ _ _; rw [HT.out]; exact b5
        clear k5 b5
        go_wp2_with fail
        go_roundw
        case rel => exact ⟨j + 1, by go_num, by omega, HYY.out, HD5.out, HK5.out⟩
        case measure => simp [intOf]; omega
    · have HD3 : Hid (Bd w.heap.size w.heap.size (flatR l) wr ∧ putE l = (flatR l, 0)) := by
        have h1 := R1.out
        have h2 := R0.out
        rw [List.take_of_length_le (by omega)] at h1 h2
        exact ⟨h1, putE_yes h2⟩
      go_wp2_with fail
      refine (bAsk HD3.out.1 hsz).mono ?_
      rintro e w1 ⟨rfl, k1⟩
      have HK1 : Hid (Kp none' w w1) := R2.out.then k1 (fun i hi e => by omega)
      clear k1
      go_wp2_with fail
      go_ret2
      exact ⟨ret_strE HD3.out.2, HK1.out⟩
end Go.Proofs.Ythjapdjglifopaa
