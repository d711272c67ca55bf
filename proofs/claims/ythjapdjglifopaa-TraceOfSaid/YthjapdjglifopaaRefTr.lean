/- Walks of layer 39, the document's: records put. -/
import Derived.Test.YthjapdjglifopaaTrX
import Derived.Test.YthjapdjglifopaaWireR
namespace Go.Proofs.Ythjapdjglifopaa
set_option linter.unusedVariables false
set_option linter.unusedSimpArgs false
open Go.RowKit Go.Shelf

set_option maxHeartbeats 2000000 in
theorem rtRight (t f i n : Nat) (k c : Int) (w : World) : Calls Try.prog 20 #[.agg #[.int .u64 t, .int .i64 k, .int .u32 f, .int .u32 i, .int .u64 n, .int .i64 c]] w fun e w' => e = .returned (.bool (rightB ⟨t, k, f, i, n, c⟩)) ∧ Kp none' w w' := by
  have hR : Hid (rightB ⟨t, k, f, i, n, c⟩ = (decide (0 ≤ k) && decide (k ≤ 5) && decide (0 ≤ c) && decide (c ≤ 31))) := by
    show _ = _
    unfold rightB
    rw [Bool.eq_iff_iff]; simp; omega
  by_cases h1 : 0 ≤ k
  · by_cases h2 : k ≤ 5
    · by_cases h3 : 0 ≤ c
      · go_enter Try.func20, Try.ntmps20
        go_wp2
        go_ret
        exact ⟨ret_bool (by rw [hR.out]; simp [h1, h2, h3]), (Kp.refl _ _).alloc _⟩
      · have e3 : decide (0 ≤ c) = false := by simpa using h3
        go_enter Try.func20, Try.ntmps20
        go_wp2
        go_ret
        exact ⟨ret_bool (by rw [hR.out, e3]; simp), (Kp.refl _ _).alloc _⟩
    · have e2 : decide (k ≤ 5) = false := by simpa using h2
      go_enter Try.func20, Try.ntmps20
      go_wp2
      go_ret
      exact ⟨ret_bool (by rw [hR.out, e2]; simp), (Kp.refl _ _).alloc _⟩
  · have e1 : decide (0 ≤ k) = false := by simpa using h1
    go_enter Try.func20, Try.ntmps20
    go_wp2
    go_ret
    exact ⟨ret_bool (by rw [hR.out, e1]; simp), (Kp.refl _ _).alloc _⟩
theorem rseal_tx (l : List UInt8) (h : l.length ≤ 900000) (w : World) : Calls Try.prog 69 #[.string (tx l)] w fun e w' => e = .returned (.string (tx (sealL l))) ∧ Kp none' w w' := by
  have := rSeal (tx l) (by rw [tx_size]; exact h) w
  rwa [bl_tx] at this

set_option maxHeartbeats 2000000 in
theorem rtOne (r : Rec) (hf : r.fit) (hrr : rightB r = true) (w : World) : Calls Try.prog 53 #[.agg #[.int .u64 r.t, .int .i64 r.kind, .int .u32 r.flow, .int .u32 r.id, .int .u64 r.len, .int .i64 r.code]] w fun e w' => e = .returned (.string (tx (bytesR r))) ∧ Kp none' w w' := by
  obtain ⟨q1, q2, q3, q4⟩ := right_iff.1 hrr
  have HW := Lib.hid (fun v W => rPutL (fieldsR r) (fieldsR_ok _ hf hrr) (by simp [fieldsR]) v W)
  rw [fieldsR_cat] at HW
  have hbl := body_len r
  have HL := Lib.hid (fun W => rseal_tx (body r) (by omega) W)
  obtain ⟨t, k, f, i, n, c⟩ := r
  obtain ⟨ht, hff, hi, hnn⟩ := hf
  simp only at q1 q2 q3 q4 ht hff hi hnn
  obtain ⟨kn, rfl⟩ : ∃ kn : Nat, k = kn := ⟨k.toNat, by omega⟩
  obtain ⟨cn, rfl⟩ : ∃ cn : Nat, c = cn := ⟨c.toNat, by omega⟩
  have hk := (Kp.refl none' w).alloc (.cells #[.int .u64 t, .int .i64 kn, .int .u32 f, .int .u32 i, .int .u64 n, .int .i64 cn] 53)
  have HK := Lib.hid hk
  clear hrr hbl hk
  go_enter Try.func53, Try.ntmps53
  go_wp2_with fail
  refine (HW.out _ _ (sl_blk (b := w.heap.size + 1) (by have := Blk.new (w.alloc (.cells #[.int .u64 t, .int .i64 kn, .int .u32 f, .int .u32 i, .int .u64 n, .int .i64 cn] 53)) ((fieldsR ⟨t, kn, f, i, n, cn⟩).flatMap enF) 109; rw [World.size_alloc] at this; exact this) 6 3 6 (by simp [fieldsR, enF]) (by omega))).mono ?_
  rintro e w2 ⟨rfl, k2⟩
  have HK2 := Lib.hid ((HK.out.alloc _).trans k2)
  clear k2
  go_wp2_with fail
  refine (HL.out _).mono ?_
  rintro e w3 ⟨rfl, k3⟩
  have HK3 := Lib.hid (HK2.out.trans k3)
  clear k3
  go_wp2_with fail
  go_ret
  exact ⟨rfl, HK3.out⟩

/-- What the document's Put says. -/
def putR (l : List Rec) : List UInt8 × Bool := if allR l = true then (flatR l, true) else ([], false)
theorem putR_no {l : List Rec} {j : Nat} (h : j < l.length) (hr : rightB l[j] = false) : putR l = ([], false) := by
  unfold putR; rw [if_neg]
  unfold allR; rw [List.all_eq_true]
  intro h2
  rw [h2 _ (List.getElem_mem h)] at hr; cases hr
theorem putR_yes {l : List Rec} (h : ∀ r ∈ l, rightB r = true) : putR l = (flatR l, true) := by
  unfold putR; rw [if_pos]
  unfold allR; rw [List.all_eq_true]; exact h
theorem ret_strB {a : List UInt8} {e : Bool} {p : List UInt8 × Bool} (h : p = (a, e)) : Ending.returned (.tuple #[.string (tx a), .bool e]) = .returned (.tuple #[.string (tx p.1), .bool p.2]) := by rw [h]
set_option maxHeartbeats 4000000 in
theorem rtPut (l : List Rec) (hok : ∀ r ∈ l, r.goes) (hn : l.length ≤ 1000) (v : Value) (w : World) (h : Sl w v l.length 6 (l.flatMap enR)) :
    Calls Try.prog 22 #[v] w fun e w' => e = .returned (.tuple #[.string (tx (putR l).1), .bool (putR l).2]) ∧ Kp none' w w' := by
  obtain ⟨ao, cap, rfl⟩ : ∃ ao cap, v = .slice ao l.length cap := by obtain ⟨ao, cap, rfl, _⟩ := h.is; exact ⟨_, _, rfl⟩
  have HS := Lib.hid h
  clear h
  go_enter Try.func22, Try.ntmps22
  go_wp2
  go_loopw [4, 5] (fun s0 i0 wr => ∃ (j : Nat) (s : ByteArray), i0 = .int .i64 j ∧ j ≤ l.length ∧ s0 = .string s ∧ s.size ≤ 30 * j ∧ Hid ((∀ r ∈ l.take j, rightB r = true) ∧ s = tx (flatR (l.take j)) ∧ Kp none' w wr)) (fun _ i0 _ => l.length - (intOf i0).toNat)
  case atStart => exact ⟨0, _, rfl, by omega, rfl, by decide, by simp, rfl, Kp.refl _ _⟩
  case round =>
    obtain ⟨j, s, rfl, hj, rfl, hs, hr⟩ := hrel
    by_cases hlt : j < l.length
    · obtain ⟨g, off, cap', e1, hc⟩ := (HS.out.old hr.out.2.2).at enR_len (by decide) j hlt
      injection e1 with e1 _ e3
      subst e1 e3
      have hgo := hok l[j] (List.getElem_mem hlt)
      obtain ⟨r, hrj⟩ : ∃ r, l[j] = r := ⟨_, rfl⟩
      rw [hrj] at hc hgo
      have c0 := hc 0 _ rfl
      have c1 := hc 1 _ rfl
      have c2 := hc 2 _ rfl
      have c3 := hc 3 _ rfl
      have c4 := hc 4 _ rfl
      have c5 := hc 5 _ rfl
      simp only [Nat.add_zero] at c0 c1 c2 c3 c4 c5
      have hR := fun W => rtRight r.t r.flow r.id r.len r.kind r.code W
      cases hrr : rightB r with
      | false =>
        have hE := putR_no hlt (by rw [hrj]; exact hrr)
        have e0 : rightB ⟨r.t, r.kind, r.flow, r.id, r.len, r.code⟩ = false := hrr
        rw [e0] at hR
        have HR := Lib.hid hR
        have HE := Lib.hid hE
        clear hR hE e0 hrr hrj hgo hc
        go_wp2_with fail
        refine (HR.out _).mono ?_
        rintro e w1 ⟨rfl, k1⟩
        have HK := Lib.hid (hr.out.2.2.trans k1)
        clear k1
        go_wp2_with fail
        go_ret2
        exact ⟨ret_strB HE.out, HK.out⟩
      | true =>
        have HO := Lib.hid (fun W => rtOne r hgo.1 hrr W)
        have hsz : (tx (bytesR r)).size = 30 := by rw [tx_size, bytes_len]
        have hct := cat_run (P := Try.prog) s (tx (bytesR r)) (by rw [hsz]; omega)
        have HT : Hid ((∀ x ∈ l.take (j + 1), rightB x = true) ∧ s ++ tx (bytesR r) = tx (flatR (l.take (j + 1))) ∧ (s ++ tx (bytesR r)).size ≤ 30 * (j + 1)) := by
          refine ⟨fun x hx => ?_, ?_, ?_⟩
          · rw [List.take_succ_eq_append_getElem hlt, List.mem_append] at hx
            rcases hx with hx | hx
            · exact hr.out.1 x hx
            · simp at hx; rw [hx, hrj]; exact hrr
          · rw [hr.out.2.1]
            apply str_ext
            rw [List.take_succ_eq_append_getElem hlt, flatR_snoc, hrj, bl_app, bl_tx, bl_tx, bl_tx]
          · rw [ByteArray.size_append, hsz]; omega
        have e0 : rightB ⟨r.t, r.kind, r.flow, r.id, r.len, r.code⟩ = true := hrr
        rw [e0] at hR
        have HR := Lib.hid hR
        clear hR e0 hrr hrj hgo hc hsz
        go_wp2_with fail
        refine (HR.out _).mono ?_
        rintro e w1 ⟨rfl, k1⟩
        have HK := Lib.hid (hr.out.2.2.trans k1)
        have d0 := k1.cell c0 id; have d1 := k1.cell c1 id; have d2 := k1.cell c2 id; have d3 := k1.cell c3 id; have d4 := k1.cell c4 id; have d5 := k1.cell c5 id
        clear k1
        go_wp2_with fail
        refine (HO.out _).mono ?_
        rintro e w2 ⟨rfl, k2⟩
        have HK2 := Lib.hid (HK.out.trans k2)
        clear k2
        go_wp2_with fail
        go_roundw
        case rel => exact ⟨j + 1, _, by go_num, by omega, rfl, HT.out.2.2, HT.out.1, HT.out.2.1, HK2.out⟩
        case measure => simp [intOf]; omega
    · have HT : Hid (s = tx (flatR l) ∧ putR l = (flatR l, true) ∧ Kp none' w wr) := by
        have h1 := hr.out.1
        have h2 := hr.out.2.1
        rw [List.take_of_length_le (by omega)] at h1 h2
        exact ⟨h2, putR_yes h1, hr.out.2.2⟩
      go_wp2_with fail
      go_ret2
      exact ⟨by rw [HT.out.2.1, ← HT.out.1]; rfl, HT.out.2.2⟩

set_option maxHeartbeats 1000000 in
theorem rtSame (l : List Rec) (u v : Value) (w : World) (hu : Sl w u l.length 6 (l.flatMap enR)) (hv : Sl w v l.length 6 (l.flatMap enR)) (hl : l.length ≤ 100000) :
    Calls Try.prog 25 #[u, v] w fun e w' => e = .returned (.bool true) ∧ ∃ d, w' = w.drewN d := by
  obtain ⟨ao, cap, rfl⟩ : ∃ ao cap, u = .slice ao l.length cap := by obtain ⟨ao, cap, rfl, _⟩ := hu.is; exact ⟨_, _, rfl⟩
  obtain ⟨bo, bcap, rfl⟩ : ∃ ao cap, v = .slice ao l.length cap := by obtain ⟨ao, cap, rfl, _⟩ := hv.is; exact ⟨_, _, rfl⟩
  have HU := Lib.hid hu; have HV := Lib.hid hv
  clear hu hv
  go_enter Try.func25, Try.ntmps25
  go_wp2
  go_loopw [5] (fun i wr => ∃ j d : Nat, i = .int .i64 j ∧ j ≤ l.length ∧ Hid (wr = w.drewN d)) (fun i _ => l.length - (intOf i).toNat)
  case atStart => exact ⟨0, 0, rfl, by omega, rfl⟩
  case round =>
    obtain ⟨j, d, rfl, hj, hw⟩ := hrel
    by_cases hlt : j < l.length
    · have hk : Kp none' w wr := by rw [hw.out]; exact (Kp.refl _ _).drewN d
      obtain ⟨g, off, cap', e1, hc⟩ := (HU.out.old hk).at enR_len (by decide) j hlt
      injection e1 with e1 _ e3
      subst e1 e3
      obtain ⟨g', off', cap'', e1, hc'⟩ := (HV.out.old hk).at enR_len (by decide) j hlt
      injection e1 with e1 _ e3
      subst e1 e3
      obtain ⟨r, hrj⟩ : ∃ r, l[j] = r := ⟨_, rfl⟩
      rw [hrj] at hc hc'
      have c0 := hc 0 _ rfl
      have c1 := hc 1 _ rfl
      have c2 := hc 2 _ rfl
      have c3 := hc 3 _ rfl
      have c4 := hc 4 _ rfl
      have c5 := hc 5 _ rfl
      have d0 := hc' 0 _ rfl
      have d1 := hc' 1 _ rfl
      have d2 := hc' 2 _ rfl
      have d3 := hc' 3 _ rfl
      have d4 := hc' 4 _ rfl
      have d5 := hc' 5 _ rfl
      simp only [Nat.add_zero] at c0 c1 c2 c3 c4 c5 d0 d1 d2 d3 d4 d5
      clear hc hc' hrj hk
      go_wp2
      go_quiet (fail)
      go_wp2
      exact ⟨⟨j + 1, d + nq, by go_num, by omega, by show _ = _; rw [hw.out, World.drewN_drewN]⟩, by simp [intOf]; omega⟩
    · go_wp2
      go_ret
      exact ⟨rfl, d, hw.out⟩
end Go.Proofs.Ythjapdjglifopaa
