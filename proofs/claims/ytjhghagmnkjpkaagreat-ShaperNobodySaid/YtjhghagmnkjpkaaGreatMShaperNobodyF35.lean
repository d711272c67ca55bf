/- The law ShaperNobody (layer 26). Printed by wip/shv.py. -/
import Derived.Test.YtjhghagmnkjpkaaGreatMShaperNobodyF34
namespace Go.Proofs.YtjhghagmnkjpkaaGreat
set_option linter.unusedVariables false
set_option linter.unusedSimpArgs false
open Go Go.RowKit Go.Shelf

theorem wpList_valW {P : Program} {ops : Array Oper} {Q : Exit → Act → World → Prop} {a : Act} {w : World} {rest : List Oper} {o : Oper} {v : Value} {w2 : World} (hw : Region.wanted o (yielded ops a.tmps) = true) (h1 : (execOp a.eval o).run P w = .ok (.value v) w2) (h : wpList P ops Q rest (a.put o.dst v) w2) : wpList P ops Q (o :: rest) a w := by
  unfold wpList
  rw [if_pos hw]
  refine .inl ?_
  unfold Oper.wp
  rw [h1]; exact h
theorem flat_at {rs : List (List Value)} (h : ∀ r ∈ rs, r.length = 42) : ∀ (k : Nat) (r : List Value) (j : Nat) (v : Value), rs[k]? = some r → r[j]? = some v → rs.flatten[k * 42 + j]? = some v := by
  induction rs with
  | nil => intro k r j v hk; simp at hk
  | cons a rs ih =>
    intro k r j v hk hj
    have ha := h a List.mem_cons_self
    cases k with
    | zero =>
      simp only [List.getElem?_cons_zero, Option.some.injEq] at hk
      subst hk
      have : j < a.length := (List.getElem?_eq_some_iff.1 hj).1
      rw [List.flatten_cons, Nat.zero_mul, Nat.zero_add, List.getElem?_append_left this]; exact hj
    | succ k =>
      rw [List.flatten_cons, List.getElem?_append_right (by rw [ha]; omega), ha, show (k + 1) * 42 + j - 42 = k * 42 + j by omega]
      exact ih (fun r hr => h r (List.mem_cons_of_mem _ hr)) k r j v (by simpa using hk) hj
theorem knownK_5 (k : Int) : knownK k = 0 ∨ knownK k = 1 ∨ knownK k = 2 ∨ knownK k = 3 ∨ knownK k = 4 ∨ knownK k = 5 := by unfold knownK; split <;> omega
set_option maxRecDepth 100000 in
set_option maxHeartbeats 8000000 in
theorem nobodyLaw (l : List OpR) (u : Value) (w : World) (h : Sl w u l.length 5 (l.flatMap enO)) : Calls Tryz.prog 3 #[u] w fun e w' => e = .returned (.bool true) ∧ Kp none' w w' := by
  obtain ⟨ao, acap, rfl⟩ : ∃ ao cap, u = .slice ao l.length cap := by obtain ⟨ao, cap, rfl, _⟩ := h.is; exact ⟨_, _, rfl⟩
  have HL := Lib.hid (fun W => lives26 W)
  refine calls_post ?_
  intro PP HP
  by_cases hlen : 150 < l.length
  · have hli : (150 : Int) < l.length := by omega
    clear h
    go_enter Tryz.func3, Tryz.ntmps3
    go_wp2_with fail
    refine (HL.out _).mono ?_
    rintro e w1 ⟨rfl, hk⟩
    go_wp2_with fail
    exact HP.out _ _ ⟨rfl, hk⟩
  · have HX := Lib.hid h
    have HR := Lib.hid (fun W (h : Sl W (.slice ao l.length acap) l.length 5 (l.flatMap enO)) => runNil l (by omega) (.slice ao l.length acap) W h)
    have HSN := Lib.hid (fun W => stateNil W)
    have HSZ : Hid (∀ W, Calls Tryz.prog 6 #[.agg zState.toArray, .agg #[.int .u64 0, .int .u64 0, .int .u64 0, .int .u64 0, .int .u64 0, .int .u64 0, .int .u64 0, .int .u64 0, .int .u64 0, .int .u64 0, .int .u64 0, .int .u64 0, .int .u64 0, .int .u64 0, .int .u64 0, .int .u64 0, .int .u64 0, .int .u64 0, .int .u64 0, .int .u64 0, .int .u64 0, .int .u64 0, .int .u64 0, .int .u64 0, .int .u64 0, .int .u64 0, .int .u64 0, .int .u64 0, .int .u64 0, .int .u64 0, .int .u64 0, .int .u64 0, .int .u64 0, .int .u64 0, .int .u64 0, .slice none 0 0, .slice none 0 0, .slice none 0 0]] W fun e w' => e = .returned (.bool true) ∧ Kp none' W w') := Lib.hid (fun W => sameZ W)
    obtain ⟨N, hN⟩ : ∃ N, l.length = N := ⟨_, rfl⟩
    have HN := Lib.hid hN
    rw [hN] at hlen HR HX ⊢
    have hli : ¬ (150 : Int) < N := by omega
    clear h hN
    go_enter Tryz.func3, Tryz.ntmps3
    go_wp2_with fail
    refine (HR.out w HX.out).mono ?_
    rintro e w1 ⟨v, rfl, hown, hk1⟩
    have HK1 := Lib.hid hk1
    have HOWN := Lib.hid hown
    obtain ⟨ro, rcap, rfl⟩ := own_shape hown
    clear hk1 hown HR
    go_wp2_with fail
    go_loopw [17] (fun i0 wr => ∃ k : Nat, i0 = .int .i64 k ∧ k ≤ N ∧ Hid (Kp none' w1 wr)) (fun i0 _ => N - (intOf i0).toNat)
    case atStart => exact ⟨0, rfl, Nat.zero_le _, Kp.refl _ _⟩
    case round =>
      obtain ⟨k, rfl, hk, hr⟩ := hrel
      by_cases hlt : k < N
      · have hki : (k : Int) < N := by omega
        have hjx : k < l.length := by rw [HN.out]; exact hlt
        obtain ⟨gx, ox, cx, e1, hcx⟩ := (HX.out.old (HK1.out.trans hr.out)).at enO_len (by decide) k hjx
        injection e1 with e1 _ e3
        subst e1 e3
        obtain ⟨o, ho⟩ : ∃ o, l[k] = o := ⟨_, rfl⟩
        rw [ho] at hcx
        obtain ⟨kd, ofl, oid, oln, otk⟩ := o
        have o0 : wr.cell? ⟨gx, ox + k * 5, none⟩ = some (.int .i64 kd) := hcx 0 _ rfl
        obtain ⟨g, cap1, e2, hg1, hg2, hcell⟩ := own_at HOWN.out (by omega)
        injection e2 with e2 _ e4
        subst e2 e4
        obtain ⟨K, hK⟩ : ∃ K, knownK kd = K := ⟨_, rfl⟩
        have hK5 := knownK_5 kd
        rw [hK] at hK5
        have HXC : Hid (∀ (j : Nat) (v : Value), [.int .i64 K, .int .i64 10, .int .u32 0, .int .u32 0, .int .u64 0, .int .u64 0, .int .u64 0, .int .u64 0, .int .i64 0, .int .u64 0, .int .u64 0, .int .u64 0, .int .u64 0, .int .u64 0, .int .u64 0, .int .u64 0, .int .u64 0, .int .u64 0, .int .u64 0, .int .u64 0, .int .u64 0, .int .u64 0, .int .u64 0, .int .u64 0, .int .u64 0, .int .u64 0, .int .u64 0, .int .u64 0, .int .u64 0, .int .u64 0, .int .u64 0, .int .u64 0, .int .u64 0, .int .u64 0, .int .u64 0, .int .u64 0, .int .u64 0, .int .u64 0, .int .u64 0, .int .u64 0, .int .u64 0, .int .u64 0][j]? = some v → wr.cell? ⟨g, k * 42 + j, none⟩ = some v) := Lib.hid (fun j v hv => hr.out.cell (hcell (k * 42 + j) v (flat_at (fun r hr => by obtain ⟨o, _, rfl⟩ := List.mem_map.1 hr; rfl) k _ j v (by rw [List.getElem?_map, List.getElem?_eq_getElem hjx, ho]; rfl) (by show (rpC (knownK kd) 10 0 0 0 0 zSt)[j]? = some v; rw [hK]; exact hv))) (fun x => x))
        have hgl : g < wr.heap.size := by have := hr.out.size; omega
        have hgx : gx < wr.heap.size := World.block_lt_of_cell? _ _ o0
        clear hcx ho hcell hg1 hg2
        by_cases hlo : kd < 0
        · have hK0 : K = 0 := by rw [← hK]; unfold knownK; rw [if_pos (.inl hlo)]
          have hkd := hK; have hk5a := hK0; have hk5b := hlo
          have hnew6 := Blk.new wr [.int .i64 0, .int .i64 0, .int .u32 0, .int .u32 0, .int .u64 0, .int .u64 0, .int .u64 0, .int .u64 0, .int .i64 0, .int .u64 0, .int .u64 0, .int .u64 0, .int .u64 0, .int .u64 0, .int .u64 0, .int .u64 0, .int .u64 0, .int .u64 0, .int .u64 0, .int .u64 0, .int .u64 0, .int .u64 0, .int .u64 0, .int .u64 0, .int .u64 0, .int .u64 0, .int .u64 0, .int .u64 0, .int .u64 0, .int .u64 0, .int .u64 0, .int .u64 0, .int .u64 0, .int .u64 0, .int .u64 0, .int .u64 0, .int .u64 0, .int .u64 0, .int .u64 0, .int .u64 0, .int .u64 0, .int .u64 0] 36
          have HNEW6 := Lib.hid hnew6
          clear hnew6
          have HLD : Hid ((Instr.loadAt 36 (.pointer (some ⟨g, k * 42, none⟩))).run Tryz.prog wr = .ok (.agg #[.int .i64 K, .int .i64 10, .int .u32 0, .int .u32 0, .int .u64 0, .int .u64 0, .int .u64 0, .int .u64 0, .int .i64 0, .int .u64 0, .int .u64 0, .int .u64 0, .int .u64 0, .int .u64 0, .int .u64 0, .int .u64 0, .int .u64 0, .int .u64 0, .int .u64 0, .int .u64 0, .int .u64 0, .int .u64 0, .int .u64 0, .int .u64 0, .int .u64 0, .int .u64 0, .int .u64 0, .int .u64 0, .int .u64 0, .int .u64 0, .int .u64 0, .int .u64 0, .int .u64 0, .int .u64 0, .int .u64 0, .int .u64 0, .int .u64 0, .int .u64 0, .int .u64 0, .int .u64 0, .int .u64 0, .int .u64 0]) wr) := Lib.hid (run_loadAt_mid wr g (k * 42) 36 [.int .i64 K, .int .i64 10, .int .u32 0, .int .u32 0, .int .u64 0, .int .u64 0, .int .u64 0, .int .u64 0, .int .i64 0, .int .u64 0, .int .u64 0, .int .u64 0, .int .u64 0, .int .u64 0, .int .u64 0, .int .u64 0, .int .u64 0, .int .u64 0, .int .u64 0, .int .u64 0, .int .u64 0, .int .u64 0, .int .u64 0, .int .u64 0, .int .u64 0, .int .u64 0, .int .u64 0, .int .u64 0, .int .u64 0, .int .u64 0, .int .u64 0, .int .u64 0, .int .u64 0, .int .u64 0, .int .u64 0, .int .u64 0, .int .u64 0, .int .u64 0, .int .u64 0, .int .u64 0, .int .u64 0, .int .u64 0] _ (fun j v hv => HXC.out j v hv) Tryz.underlying36 rfl infoRp)
          go_upto_region 7 with fail
          refine wp_region_lit ?_
          refine wpList_val (v := .int .i64 k) (by exact rfl) (by go_simp) ?_; simp only [Act.put, List.setIfInBounds_toArray, List.set_cons_succ, List.set_cons_zero]
          refine wpList_val (v := .pointer (some ⟨g, k * 42, none⟩)) (by exact rfl) (by go_simp) ?_; simp only [Act.put, List.setIfInBounds_toArray, List.set_cons_succ, List.set_cons_zero]
          refine wpList_val (v := .agg #[.int .i64 K, .int .i64 10, .int .u32 0, .int .u32 0, .int .u64 0, .int .u64 0, .int .u64 0, .int .u64 0, .int .i64 0, .int .u64 0, .int .u64 0, .int .u64 0, .int .u64 0, .int .u64 0, .int .u64 0, .int .u64 0, .int .u64 0, .int .u64 0, .int .u64 0, .int .u64 0, .int .u64 0, .int .u64 0, .int .u64 0, .int .u64 0, .int .u64 0, .int .u64 0, .int .u64 0, .int .u64 0, .int .u64 0, .int .u64 0, .int .u64 0, .int .u64 0, .int .u64 0, .int .u64 0, .int .u64 0, .int .u64 0, .int .u64 0, .int .u64 0, .int .u64 0, .int .u64 0, .int .u64 0, .int .u64 0]) (by exact rfl) (load_here (ad := .pointer (some ⟨g, k * 42, none⟩)) rfl rfl HLD.out) ?_; simp only [Act.put, List.setIfInBounds_toArray, List.set_cons_succ, List.set_cons_zero]
          refine wpList_valW (v := .pointer (some ⟨wr.heap.size, 0, none⟩)) (w2 := wr.alloc (.cells #[.int .i64 0, .int .i64 0, .int .u32 0, .int .u32 0, .int .u64 0, .int .u64 0, .int .u64 0, .int .u64 0, .int .i64 0, .int .u64 0, .int .u64 0, .int .u64 0, .int .u64 0, .int .u64 0, .int .u64 0, .int .u64 0, .int .u64 0, .int .u64 0, .int .u64 0, .int .u64 0, .int .u64 0, .int .u64 0, .int .u64 0, .int .u64 0, .int .u64 0, .int .u64 0, .int .u64 0, .int .u64 0, .int .u64 0, .int .u64 0, .int .u64 0, .int .u64 0, .int .u64 0, .int .u64 0, .int .u64 0, .int .u64 0, .int .u64 0, .int .u64 0, .int .u64 0, .int .u64 0, .int .u64 0, .int .u64 0] 36)) (by exact rfl) (by kernel_rfl) ?_; simp only [Act.put, List.setIfInBounds_toArray, List.set_cons_succ, List.set_cons_zero]
          refine wpList_val (v := .int .i64 k) (by exact rfl) (by go_simp) ?_; simp only [Act.put, List.setIfInBounds_toArray, List.set_cons_succ, List.set_cons_zero]
          refine wp_store_blk rfl 36 (.tmp 6) (.tmp 21) rfl HNEW6.out [.int .i64 K, .int .i64 10, .int .u32 0, .int .u32 0, .int .u64 0, .int .u64 0, .int .u64 0, .int .u64 0, .int .i64 0, .int .u64 0, .int .u64 0, .int .u64 0, .int .u64 0, .int .u64 0, .int .u64 0, .int .u64 0, .int .u64 0, .int .u64 0, .int .u64 0, .int .u64 0, .int .u64 0, .int .u64 0, .int .u64 0, .int .u64 0, .int .u64 0, .int .u64 0, .int .u64 0, .int .u64 0, .int .u64 0, .int .u64 0, .int .u64 0, .int .u64 0, .int .u64 0, .int .u64 0, .int .u64 0, .int .u64 0, .int .u64 0, .int .u64 0, .int .u64 0, .int .u64 0, .int .u64 0, .int .u64 0] rfl rfl rfl infoRp rfl ?_
          intro W1 hb1 hk1
          have k1 : Kp none' wr W1 := ((Kp.refl none' wr).alloc (.cells #[.int .i64 0, .int .i64 0, .int .u32 0, .int .u32 0, .int .u64 0, .int .u64 0, .int .u64 0, .int .u64 0, .int .i64 0, .int .u64 0, .int .u64 0, .int .u64 0, .int .u64 0, .int .u64 0, .int .u64 0, .int .u64 0, .int .u64 0, .int .u64 0, .int .u64 0, .int .u64 0, .int .u64 0, .int .u64 0, .int .u64 0, .int .u64 0, .int .u64 0, .int .u64 0, .int .u64 0, .int .u64 0, .int .u64 0, .int .u64 0, .int .u64 0, .int .u64 0, .int .u64 0, .int .u64 0, .int .u64 0, .int .u64 0, .int .u64 0, .int .u64 0, .int .u64 0, .int .u64 0, .int .u64 0, .int .u64 0] 36)).then hk1 (fun z hz e => by omega)
          have HX1 := Lib.hid hb1
          have K1 := Lib.hid k1
          have o0 := k1.cell o0 (fun x => x)
          have HNEW7 := Lib.hid (Blk.new W1 [.int .i64 0, .int .i64 0, .int .u32 0, .int .u32 0, .int .u64 0, .int .u64 0, .int .u64 0, .int .u64 0, .int .i64 0, .int .u64 0, .int .u64 0, .int .u64 0, .int .u64 0, .int .u64 0, .int .u64 0, .int .u64 0, .int .u64 0, .int .u64 0, .int .u64 0, .int .u64 0, .int .u64 0, .int .u64 0, .int .u64 0, .int .u64 0, .int .u64 0, .int .u64 0, .int .u64 0, .int .u64 0, .int .u64 0, .int .u64 0, .int .u64 0, .int .u64 0, .int .u64 0, .int .u64 0, .int .u64 0, .int .u64 0, .int .u64 0, .int .u64 0, .int .u64 0, .int .u64 0, .int .u64 0, .int .u64 0] 36)
          have hx1l := hb1.lt
          have hgx1 : gx < W1.heap.size := World.block_lt_of_cell? _ _ o0
          clear hb1 hk1 k1 HNEW6 HLD
          go_upto_region 11 with (first
            | (refine wp_store_blk rfl 36 (.tmp 7) (.tmp 27) rfl HNEW7.out [.int .i64 kd, .int .i64 10, .int .u32 0, .int .u32 0, .int .u64 0, .int .u64 0, .int .u64 0, .int .u64 0, .int .i64 0, .int .u64 0, .int .u64 0, .int .u64 0, .int .u64 0, .int .u64 0, .int .u64 0, .int .u64 0, .int .u64 0, .int .u64 0, .int .u64 0, .int .u64 0, .int .u64 0, .int .u64 0, .int .u64 0, .int .u64 0, .int .u64 0, .int .u64 0, .int .u64 0, .int .u64 0, .int .u64 0, .int .u64 0, .int .u64 0, .int .u64 0, .int .u64 0, .int .u64 0, .int .u64 0, .int .u64 0, .int .u64 0, .int .u64 0, .int .u64 0, .int .u64 0, .int .u64 0, .int .u64 0] rfl rfl rfl infoRp rfl ?_
               intro W2 hb2 hk2
               have k2 : Kp none' W1 W2 := ((Kp.refl none' W1).alloc (.cells #[.int .i64 0, .int .i64 0, .int .u32 0, .int .u32 0, .int .u64 0, .int .u64 0, .int .u64 0, .int .u64 0, .int .i64 0, .int .u64 0, .int .u64 0, .int .u64 0, .int .u64 0, .int .u64 0, .int .u64 0, .int .u64 0, .int .u64 0, .int .u64 0, .int .u64 0, .int .u64 0, .int .u64 0, .int .u64 0, .int .u64 0, .int .u64 0, .int .u64 0, .int .u64 0, .int .u64 0, .int .u64 0, .int .u64 0, .int .u64 0, .int .u64 0, .int .u64 0, .int .u64 0, .int .u64 0, .int .u64 0, .int .u64 0, .int .u64 0, .int .u64 0, .int .u64 0, .int .u64 0, .int .u64 0, .int .u64 0] 36)).then hk2 (fun z hz e => by omega)
               have HX2 := Lib.hid (HX1.out.kp k2 (fun x => x))
               have HW2 := Lib.hid hb2
               have K2 := Lib.hid (K1.out.trans k2)
               have o0 := k2.cell o0 (fun x => x)
               have q0 := hb2.cell 0 rfl
               have qz := hb2.fz 0
               have hq7 : gx ≠ W1.heap.size := by omega
               clear hb2 hk2 k2 HNEW7 HX1 K1))
          have hx3 := HX2.out.kp ((Kp.refl (fun z => z = W1.heap.size) W2).set (p := ⟨W1.heap.size, 0, none⟩) (.inl rfl) (.int .i64 0)) (fun e => by omega)
          have hw3 := HW2.out.set 0 (.int .i64 0)
          have k3 : Kp none' wr (W2.setCell ⟨W1.heap.size, 0, none⟩ (.int .i64 0)) := K2.out.set (.inr (by show wr.heap.size ≤ W1.heap.size; omega)) _
          obtain ⟨W3, hW3⟩ : ∃ W3, W2.setCell ⟨W1.heap.size, 0, none⟩ (.int .i64 0) = W3 := ⟨_, rfl⟩
          rw [hW3] at hx3 hw3 k3 ⊢
          have HX3 : Hid (Blk W3 wr.heap.size [.int .i64 K, .int .i64 10, .int .u32 0, .int .u32 0, .int .u64 0, .int .u64 0, .int .u64 0, .int .u64 0, .int .i64 0, .int .u64 0, .int .u64 0, .int .u64 0, .int .u64 0, .int .u64 0, .int .u64 0, .int .u64 0, .int .u64 0, .int .u64 0, .int .u64 0, .int .u64 0, .int .u64 0, .int .u64 0, .int .u64 0, .int .u64 0, .int .u64 0, .int .u64 0, .int .u64 0, .int .u64 0, .int .u64 0, .int .u64 0, .int .u64 0, .int .u64 0, .int .u64 0, .int .u64 0, .int .u64 0, .int .u64 0, .int .u64 0, .int .u64 0, .int .u64 0, .int .u64 0, .int .u64 0, .int .u64 0] 36) := Lib.hid hx3
          have HW3 : Hid (Blk W3 W1.heap.size [.int .i64 K, .int .i64 10, .int .u32 0, .int .u32 0, .int .u64 0, .int .u64 0, .int .u64 0, .int .u64 0, .int .i64 0, .int .u64 0, .int .u64 0, .int .u64 0, .int .u64 0, .int .u64 0, .int .u64 0, .int .u64 0, .int .u64 0, .int .u64 0, .int .u64 0, .int .u64 0, .int .u64 0, .int .u64 0, .int .u64 0, .int .u64 0, .int .u64 0, .int .u64 0, .int .u64 0, .int .u64 0, .int .u64 0, .int .u64 0, .int .u64 0, .int .u64 0, .int .u64 0, .int .u64 0, .int .u64 0, .int .u64 0, .int .u64 0, .int .u64 0, .int .u64 0, .int .u64 0, .int .u64 0, .int .u64 0] 36) := Lib.hid (by rw [hK0] at *; exact hw3)
          have K3 := Lib.hid k3
          clear hx3 hw3 k3 hW3
          clear o0 q0 qz hq7 HXC
          refine wp_region_lit ?_
          refine wpList_val (by exact rfl) (load_here (ad := .pointer (some ⟨wr.heap.size, 0, none⟩)) rfl rfl (blk_load HX3.out _ Tryz.underlying36 rfl infoRp)) ?_; simp only [Act.put, List.setIfInBounds_toArray, List.set_cons_succ, List.set_cons_zero]
          refine wpList_val (by exact rfl) (load_here (ad := .pointer (some ⟨W1.heap.size, 0, none⟩)) rfl rfl (blk_load HW3.out _ Tryz.underlying36 rfl infoRp)) ?_; simp only [Act.put, List.setIfInBounds_toArray, List.set_cons_succ, List.set_cons_zero]
          refine wpList_val (v := .bool false) (by exact rfl) (by clear HX3 HW3 K3 HX2 HW2 K2 hkd hk5a hk5b; rcases hK5 with rfl | rfl | rfl | rfl | rfl | rfl <;> kernel_rfl) ?_; simp only [Act.put, List.setIfInBounds_toArray, List.set_cons_succ, List.set_cons_zero]
          go_wp2_with fail
          go_roundw
          case rel => exact ⟨k + 1, by go_num, by omega, Lib.hid (hr.out.trans K3.out)⟩
          case measure => simp [intOf]; omega
        · by_cases hhi : 5 < kd
          · have hK0 : K = 0 := by rw [← hK]; unfold knownK; rw [if_pos (.inr hhi)]
            have hkd := hK; have hk5a := hK0; have hk5b := hlo
            have hnew6 := Blk.new wr [.int .i64 0, .int .i64 0, .int .u32 0, .int .u32 0, .int .u64 0, .int .u64 0, .int .u64 0, .int .u64 0, .int .i64 0, .int .u64 0, .int .u64 0, .int .u64 0, .int .u64 0, .int .u64 0, .int .u64 0, .int .u64 0, .int .u64 0, .int .u64 0, .int .u64 0, .int .u64 0, .int .u64 0, .int .u64 0, .int .u64 0, .int .u64 0, .int .u64 0, .int .u64 0, .int .u64 0, .int .u64 0, .int .u64 0, .int .u64 0, .int .u64 0, .int .u64 0, .int .u64 0, .int .u64 0, .int .u64 0, .int .u64 0, .int .u64 0, .int .u64 0, .int .u64 0, .int .u64 0, .int .u64 0, .int .u64 0] 36
            have HNEW6 := Lib.hid hnew6
            clear hnew6
            have HLD : Hid ((Instr.loadAt 36 (.pointer (some ⟨g, k * 42, none⟩))).run Tryz.prog wr = .ok (.agg #[.int .i64 K, .int .i64 10, .int .u32 0, .int .u32 0, .int .u64 0, .int .u64 0, .int .u64 0, .int .u64 0, .int .i64 0, .int .u64 0, .int .u64 0, .int .u64 0, .int .u64 0, .int .u64 0, .int .u64 0, .int .u64 0, .int .u64 0, .int .u64 0, .int .u64 0, .int .u64 0, .int .u64 0, .int .u64 0, .int .u64 0, .int .u64 0, .int .u64 0, .int .u64 0, .int .u64 0, .int .u64 0, .int .u64 0, .int .u64 0, .int .u64 0, .int .u64 0, .int .u64 0, .int .u64 0, .int .u64 0, .int .u64 0, .int .u64 0, .int .u64 0, .int .u64 0, .int .u64 0, .int .u64 0, .int .u64 0]) wr) := Lib.hid (run_loadAt_mid wr g (k * 42) 36 [.int .i64 K, .int .i64 10, .int .u32 0, .int .u32 0, .int .u64 0, .int .u64 0, .int .u64 0, .int .u64 0, .int .i64 0, .int .u64 0, .int .u64 0, .int .u64 0, .int .u64 0, .int .u64 0, .int .u64 0, .int .u64 0, .int .u64 0, .int .u64 0, .int .u64 0, .int .u64 0, .int .u64 0, .int .u64 0, .int .u64 0, .int .u64 0, .int .u64 0, .int .u64 0, .int .u64 0, .int .u64 0, .int .u64 0, .int .u64 0, .int .u64 0, .int .u64 0, .int .u64 0, .int .u64 0, .int .u64 0, .int .u64 0, .int .u64 0, .int .u64 0, .int .u64 0, .int .u64 0, .int .u64 0, .int .u64 0] _ (fun j v hv => HXC.out j v hv) Tryz.underlying36 rfl infoRp)
            go_upto_region 7 with fail
            refine wp_region_lit ?_
            refine wpList_val (v := .int .i64 k) (by exact rfl) (by go_simp) ?_; simp only [Act.put, List.setIfInBounds_toArray, List.set_cons_succ, List.set_cons_zero]
            refine wpList_val (v := .pointer (some ⟨g, k * 42, none⟩)) (by exact rfl) (by go_simp) ?_; simp only [Act.put, List.setIfInBounds_toArray, List.set_cons_succ, List.set_cons_zero]
            refine wpList_val (v := .agg #[.int .i64 K, .int .i64 10, .int .u32 0, .int .u32 0, .int .u64 0, .int .u64 0, .int .u64 0, .int .u64 0, .int .i64 0, .int .u64 0, .int .u64 0, .int .u64 0, .int .u64 0, .int .u64 0, .int .u64 0, .int .u64 0, .int .u64 0, .int .u64 0, .int .u64 0, .int .u64 0, .int .u64 0, .int .u64 0, .int .u64 0, .int .u64 0, .int .u64 0, .int .u64 0, .int .u64 0, .int .u64 0, .int .u64 0, .int .u64 0, .int .u64 0, .int .u64 0, .int .u64 0, .int .u64 0, .int .u64 0, .int .u64 0, .int .u64 0, .int .u64 0, .int .u64 0, .int .u64 0, .int .u64 0, .int .u64 0]) (by exact rfl) (load_here (ad := .pointer (some ⟨g, k * 42, none⟩)) rfl rfl HLD.out) ?_; simp only [Act.put, List.setIfInBounds_toArray, List.set_cons_succ, List.set_cons_zero]
            refine wpList_valW (v := .pointer (some ⟨wr.heap.size, 0, none⟩)) (w2 := wr.alloc (.cells #[.int .i64 0, .int .i64 0, .int .u32 0, .int .u32 0, .int .u64 0, .int .u64 0, .int .u64 0, .int .u64 0, .int .i64 0, .int .u64 0, .int .u64 0, .int .u64 0, .int .u64 0, .int .u64 0, .int .u64 0, .int .u64 0, .int .u64 0, .int .u64 0, .int .u64 0, .int .u64 0, .int .u64 0, .int .u64 0, .int .u64 0, .int .u64 0, .int .u64 0, .int .u64 0, .int .u64 0, .int .u64 0, .int .u64 0, .int .u64 0, .int .u64 0, .int .u64 0, .int .u64 0, .int .u64 0, .int .u64 0, .int .u64 0, .int .u64 0, .int .u64 0, .int .u64 0, .int .u64 0, .int .u64 0, .int .u64 0] 36)) (by exact rfl) (by kernel_rfl) ?_; simp only [Act.put, List.setIfInBounds_toArray, List.set_cons_succ, List.set_cons_zero]
            refine wpList_val (v := .int .i64 k) (by exact rfl) (by go_simp) ?_; simp only [Act.put, List.setIfInBounds_toArray, List.set_cons_succ, List.set_cons_zero]
            refine wp_store_blk rfl 36 (.tmp 6) (.tmp 21) rfl HNEW6.out [.int .i64 K, .int .i64 10, .int .u32 0, .int .u32 0, .int .u64 0, .int .u64 0, .int .u64 0, .int .u64 0, .int .i64 0, .int .u64 0, .int .u64 0, .int .u64 0, .int .u64 0, .int .u64 0, .int .u64 0, .int .u64 0, .int .u64 0, .int .u64 0, .int .u64 0, .int .u64 0, .int .u64 0, .int .u64 0, .int .u64 0, .int .u64 0, .int .u64 0, .int .u64 0, .int .u64 0, .int .u64 0, .int .u64 0, .int .u64 0, .int .u64 0, .int .u64 0, .int .u64 0, .int .u64 0, .int .u64 0, .int .u64 0, .int .u64 0, .int .u64 0, .int .u64 0, .int .u64 0, .int .u64 0, .int .u64 0] rfl rfl rfl infoRp rfl ?_
            intro W1 hb1 hk1
            have k1 : Kp none' wr W1 := ((Kp.refl none' wr).alloc (.cells #[.int .i64 0, .int .i64 0, .int .u32 0, .int .u32 0, .int .u64 0, .int .u64 0, .int .u64 0, .int .u64 0, .int .i64 0, .int .u64 0, .int .u64 0, .int .u64 0, .int .u64 0, .int .u64 0, .int .u64 0, .int .u64 0, .int .u64 0, .int .u64 0, .int .u64 0, .int .u64 0, .int .u64 0, .int .u64 0, .int .u64 0, .int .u64 0, .int .u64 0, .int .u64 0, .int .u64 0, .int .u64 0, .int .u64 0, .int .u64 0, .int .u64 0, .int .u64 0, .int .u64 0, .int .u64 0, .int .u64 0, .int .u64 0, .int .u64 0, .int .u64 0, .int .u64 0, .int .u64 0, .int .u64 0, .int .u64 0] 36)).then hk1 (fun z hz e => by omega)
            have HX1 := Lib.hid hb1
            have K1 := Lib.hid k1
            have o0 := k1.cell o0 (fun x => x)
            have HNEW7 := Lib.hid (Blk.new W1 [.int .i64 0, .int .i64 0, .int .u32 0, .int .u32 0, .int .u64 0, .int .u64 0, .int .u64 0, .int .u64 0, .int .i64 0, .int .u64 0, .int .u64 0, .int .u64 0, .int .u64 0, .int .u64 0, .int .u64 0, .int .u64 0, .int .u64 0, .int .u64 0, .int .u64 0, .int .u64 0, .int .u64 0, .int .u64 0, .int .u64 0, .int .u64 0, .int .u64 0, .int .u64 0, .int .u64 0, .int .u64 0, .int .u64 0, .int .u64 0, .int .u64 0, .int .u64 0, .int .u64 0, .int .u64 0, .int .u64 0, .int .u64 0, .int .u64 0, .int .u64 0, .int .u64 0, .int .u64 0, .int .u64 0, .int .u64 0] 36)
            have hx1l := hb1.lt
            have hgx1 : gx < W1.heap.size := World.block_lt_of_cell? _ _ o0
            clear hb1 hk1 k1 HNEW6 HLD
            go_upto_region 11 with (first
              | (refine wp_store_blk rfl 36 (.tmp 7) (.tmp 27) rfl HNEW7.out [.int .i64 kd, .int .i64 10, .int .u32 0, .int .u32 0, .int .u64 0, .int .u64 0, .int .u64 0, .int .u64 0, .int .i64 0, .int .u64 0, .int .u64 0, .int .u64 0, .int .u64 0, .int .u64 0, .int .u64 0, .int .u64 0, .int .u64 0, .int .u64 0, .int .u64 0, .int .u64 0, .int .u64 0, .int .u64 0, .int .u64 0, .int .u64 0, .int .u64 0, .int .u64 0, .int .u64 0, .int .u64 0, .int .u64 0, .int .u64 0, .int .u64 0, .int .u64 0, .int .u64 0, .int .u64 0, .int .u64 0, .int .u64 0, .int .u64 0, .int .u64 0, .int .u64 0, .int .u64 0, .int .u64 0, .int .u64 0] rfl rfl rfl infoRp rfl ?_
                 intro W2 hb2 hk2
                 have k2 : Kp none' W1 W2 := ((Kp.refl none' W1).alloc (.cells #[.int .i64 0, .int .i64 0, .int .u32 0, .int .u32 0, .int .u64 0, .int .u64 0, .int .u64 0, .int .u64 0, .int .i64 0, .int .u64 0, .int .u64 0, .int .u64 0, .int .u64 0, .int .u64 0, .int .u64 0, .int .u64 0, .int .u64 0, .int .u64 0, .int .u64 0, .int .u64 0, .int .u64 0, .int .u64 0, .int .u64 0, .int .u64 0, .int .u64 0, .int .u64 0, .int .u64 0, .int .u64 0, .int .u64 0, .int .u64 0, .int .u64 0, .int .u64 0, .int .u64 0, .int .u64 0, .int .u64 0, .int .u64 0, .int .u64 0, .int .u64 0, .int .u64 0, .int .u64 0, .int .u64 0, .int .u64 0] 36)).then hk2 (fun z hz e => by omega)
                 have HX2 := Lib.hid (HX1.out.kp k2 (fun x => x))
                 have HW2 := Lib.hid hb2
                 have K2 := Lib.hid (K1.out.trans k2)
                 have o0 := k2.cell o0 (fun x => x)
                 have q0 := hb2.cell 0 rfl
                 have qz := hb2.fz 0
                 have hq7 : gx ≠ W1.heap.size := by omega
                 clear hb2 hk2 k2 HNEW7 HX1 K1))
            have hx3 := HX2.out.kp ((Kp.refl (fun z => z = W1.heap.size) W2).set (p := ⟨W1.heap.size, 0, none⟩) (.inl rfl) (.int .i64 0)) (fun e => by omega)
            have hw3 := HW2.out.set 0 (.int .i64 0)
            have k3 : Kp none' wr (W2.setCell ⟨W1.heap.size, 0, none⟩ (.int .i64 0)) := K2.out.set (.inr (by show wr.heap.size ≤ W1.heap.size; omega)) _
            obtain ⟨W3, hW3⟩ : ∃ W3, W2.setCell ⟨W1.heap.size, 0, none⟩ (.int .i64 0) = W3 := ⟨_, rfl⟩
            rw [hW3] at hx3 hw3 k3 ⊢
            have HX3 : Hid (Blk W3 wr.heap.size [.int .i64 K, .int .i64 10, .int .u32 0, .int .u32 0, .int .u64 0, .int .u64 0, .int .u64 0, .int .u64 0, .int .i64 0, .int .u64 0, .int .u64 0, .int .u64 0, .int .u64 0, .int .u64 0, .int .u64 0, .int .u64 0, .int .u64 0, .int .u64 0, .int .u64 0, .int .u64 0, .int .u64 0, .int .u64 0, .int .u64 0, .int .u64 0, .int .u64 0, .int .u64 0, .int .u64 0, .int .u64 0, .int .u64 0, .int .u64 0, .int .u64 0, .int .u64 0, .int .u64 0, .int .u64 0, .int .u64 0, .int .u64 0, .int .u64 0, .int .u64 0, .int .u64 0, .int .u64 0, .int .u64 0, .int .u64 0] 36) := Lib.hid hx3
            have HW3 : Hid (Blk W3 W1.heap.size [.int .i64 K, .int .i64 10, .int .u32 0, .int .u32 0, .int .u64 0, .int .u64 0, .int .u64 0, .int .u64 0, .int .i64 0, .int .u64 0, .int .u64 0, .int .u64 0, .int .u64 0, .int .u64 0, .int .u64 0, .int .u64 0, .int .u64 0, .int .u64 0, .int .u64 0, .int .u64 0, .int .u64 0, .int .u64 0, .int .u64 0, .int .u64 0, .int .u64 0, .int .u64 0, .int .u64 0, .int .u64 0, .int .u64 0, .int .u64 0, .int .u64 0, .int .u64 0, .int .u64 0, .int .u64 0, .int .u64 0, .int .u64 0, .int .u64 0, .int .u64 0, .int .u64 0, .int .u64 0, .int .u64 0, .int .u64 0] 36) := Lib.hid (by rw [hK0] at *; exact hw3)
            have K3 := Lib.hid k3
            clear hx3 hw3 k3 hW3
            clear o0 q0 qz hq7 HXC
            refine wp_region_lit ?_
            refine wpList_val (by exact rfl) (load_here (ad := .pointer (some ⟨wr.heap.size, 0, none⟩)) rfl rfl (blk_load HX3.out _ Tryz.underlying36 rfl infoRp)) ?_; simp only [Act.put, List.setIfInBounds_toArray, List.set_cons_succ, List.set_cons_zero]
            refine wpList_val (by exact rfl) (load_here (ad := .pointer (some ⟨W1.heap.size, 0, none⟩)) rfl rfl (blk_load HW3.out _ Tryz.underlying36 rfl infoRp)) ?_; simp only [Act.put, List.setIfInBounds_toArray, List.set_cons_succ, List.set_cons_zero]
            refine wpList_val (v := .bool false) (by exact rfl) (by clear HX3 HW3 K3 HX2 HW2 K2 hkd hk5a hk5b; rcases hK5 with rfl | rfl | rfl | rfl | rfl | rfl <;> kernel_rfl) ?_; simp only [Act.put, List.setIfInBounds_toArray, List.set_cons_succ, List.set_cons_zero]
            go_wp2_with fail
            go_roundw
            case rel => exact ⟨k + 1, by go_num, by omega, Lib.hid (hr.out.trans K3.out)⟩
            case measure => simp [intOf]; omega
          · have hK0 : K = kd := by rw [← hK]; unfold knownK; rw [if_neg (by omega)]
            have hkd := hK; have hk5a := hK0; have hk5b := hlo
            have hnew6 := Blk.new wr [.int .i64 0, .int .i64 0, .int .u32 0, .int .u32 0, .int .u64 0, .int .u64 0, .int .u64 0, .int .u64 0, .int .i64 0, .int .u64 0, .int .u64 0, .int .u64 0, .int .u64 0, .int .u64 0, .int .u64 0, .int .u64 0, .int .u64 0, .int .u64 0, .int .u64 0, .int .u64 0, .int .u64 0, .int .u64 0, .int .u64 0, .int .u64 0, .int .u64 0, .int .u64 0, .int .u64 0, .int .u64 0, .int .u64 0, .int .u64 0, .int .u64 0, .int .u64 0, .int .u64 0, .int .u64 0, .int .u64 0, .int .u64 0, .int .u64 0, .int .u64 0, .int .u64 0, .int .u64 0, .int .u64 0, .int .u64 0] 36
            have HNEW6 := Lib.hid hnew6
            clear hnew6
            have HLD : Hid ((Instr.loadAt 36 (.pointer (some ⟨g, k * 42, none⟩))).run Tryz.prog wr = .ok (.agg #[.int .i64 K, .int .i64 10, .int .u32 0, .int .u32 0, .int .u64 0, .int .u64 0, .int .u64 0, .int .u64 0, .int .i64 0, .int .u64 0, .int .u64 0, .int .u64 0, .int .u64 0, .int .u64 0, .int .u64 0, .int .u64 0, .int .u64 0, .int .u64 0, .int .u64 0, .int .u64 0, .int .u64 0, .int .u64 0, .int .u64 0, .int .u64 0, .int .u64 0, .int .u64 0, .int .u64 0, .int .u64 0, .int .u64 0, .int .u64 0, .int .u64 0, .int .u64 0, .int .u64 0, .int .u64 0, .int .u64 0, .int .u64 0, .int .u64 0, .int .u64 0, .int .u64 0, .int .u64 0, .int .u64 0, .int .u64 0]) wr) := Lib.hid (run_loadAt_mid wr g (k * 42) 36 [.int .i64 K, .int .i64 10, .int .u32 0, .int .u32 0, .int .u64 0, .int .u64 0, .int .u64 0, .int .u64 0, .int .i64 0, .int .u64 0, .int .u64 0, .int .u64 0, .int .u64 0, .int .u64 0, .int .u64 0, .int .u64 0, .int .u64 0, .int .u64 0, .int .u64 0, .int .u64 0, .int .u64 0, .int .u64 0, .int .u64 0, .int .u64 0, .int .u64 0, .int .u64 0, .int .u64 0, .int .u64 0, .int .u64 0, .int .u64 0, .int .u64 0, .int .u64 0, .int .u64 0, .int .u64 0, .int .u64 0, .int .u64 0, .int .u64 0, .int .u64 0, .int .u64 0, .int .u64 0, .int .u64 0, .int .u64 0] _ (fun j v hv => HXC.out j v hv) Tryz.underlying36 rfl infoRp)
            go_upto_region 7 with fail
            refine wp_region_lit ?_
            refine wpList_val (v := .int .i64 k) (by exact rfl) (by go_simp) ?_; simp only [Act.put, List.setIfInBounds_toArray, List.set_cons_succ, List.set_cons_zero]
            refine wpList_val (v := .pointer (some ⟨g, k * 42, none⟩)) (by exact rfl) (by go_simp) ?_; simp only [Act.put, List.setIfInBounds_toArray, List.set_cons_succ, List.set_cons_zero]
            refine wpList_val (v := .agg #[.int .i64 K, .int .i64 10, .int .u32 0, .int .u32 0, .int .u64 0, .int .u64 0, .int .u64 0, .int .u64 0, .int .i64 0, .int .u64 0, .int .u64 0, .int .u64 0, .int .u64 0, .int .u64 0, .int .u64 0, .int .u64 0, .int .u64 0, .int .u64 0, .int .u64 0, .int .u64 0, .int .u64 0, .int .u64 0, .int .u64 0, .int .u64 0, .int .u64 0, .int .u64 0, .int .u64 0, .int .u64 0, .int .u64 0, .int .u64 0, .int .u64 0, .int .u64 0, .int .u64 0, .int .u64 0, .int .u64 0, .int .u64 0, .int .u64 0, .int .u64 0, .int .u64 0, .int .u64 0, .int .u64 0, .int .u64 0]) (by exact rfl) (load_here (ad := .pointer (some ⟨g, k * 42, none⟩)) rfl rfl HLD.out) ?_; simp only [Act.put, List.setIfInBounds_toArray, List.set_cons_succ, List.set_cons_zero]
            refine wpList_valW (v := .pointer (some ⟨wr.heap.size, 0, none⟩)) (w2 := wr.alloc (.cells #[.int .i64 0, .int .i64 0, .int .u32 0, .int .u32 0, .int .u64 0, .int .u64 0, .int .u64 0, .int .u64 0, .int .i64 0, .int .u64 0, .int .u64 0, .int .u64 0, .int .u64 0, .int .u64 0, .int .u64 0, .int .u64 0, .int .u64 0, .int .u64 0, .int .u64 0, .int .u64 0, .int .u64 0, .int .u64 0, .int .u64 0, .int .u64 0, .int .u64 0, .int .u64 0, .int .u64 0, .int .u64 0, .int .u64 0, .int .u64 0, .int .u64 0, .int .u64 0, .int .u64 0, .int .u64 0, .int .u64 0, .int .u64 0, .int .u64 0, .int .u64 0, .int .u64 0, .int .u64 0, .int .u64 0, .int .u64 0] 36)) (by exact rfl) (by kernel_rfl) ?_; simp only [Act.put, List.setIfInBounds_toArray, List.set_cons_succ, List.set_cons_zero]
            refine wpList_val (v := .int .i64 k) (by exact rfl) (by go_simp) ?_; simp only [Act.put, List.setIfInBounds_toArray, List.set_cons_succ, List.set_cons_zero]
            refine wp_store_blk rfl 36 (.tmp 6) (.tmp 21) rfl HNEW6.out [.int .i64 K, .int .i64 10, .int .u32 0, .int .u32 0, .int .u64 0, .int .u64 0, .int .u64 0, .int .u64 0, .int .i64 0, .int .u64 0, .int .u64 0, .int .u64 0, .int .u64 0, .int .u64 0, .int .u64 0, .int .u64 0, .int .u64 0, .int .u64 0, .int .u64 0, .int .u64 0, .int .u64 0, .int .u64 0, .int .u64 0, .int .u64 0, .int .u64 0, .int .u64 0, .int .u64 0, .int .u64 0, .int .u64 0, .int .u64 0, .int .u64 0, .int .u64 0, .int .u64 0, .int .u64 0, .int .u64 0, .int .u64 0, .int .u64 0, .int .u64 0, .int .u64 0, .int .u64 0, .int .u64 0, .int .u64 0] rfl rfl rfl infoRp rfl ?_
            intro W1 hb1 hk1
            have k1 : Kp none' wr W1 := ((Kp.refl none' wr).alloc (.cells #[.int .i64 0, .int .i64 0, .int .u32 0, .int .u32 0, .int .u64 0, .int .u64 0, .int .u64 0, .int .u64 0, .int .i64 0, .int .u64 0, .int .u64 0, .int .u64 0, .int .u64 0, .int .u64 0, .int .u64 0, .int .u64 0, .int .u64 0, .int .u64 0, .int .u64 0, .int .u64 0, .int .u64 0, .int .u64 0, .int .u64 0, .int .u64 0, .int .u64 0, .int .u64 0, .int .u64 0, .int .u64 0, .int .u64 0, .int .u64 0, .int .u64 0, .int .u64 0, .int .u64 0, .int .u64 0, .int .u64 0, .int .u64 0, .int .u64 0, .int .u64 0, .int .u64 0, .int .u64 0, .int .u64 0, .int .u64 0] 36)).then hk1 (fun z hz e => by omega)
            have HX1 := Lib.hid hb1
            have K1 := Lib.hid k1
            have o0 := k1.cell o0 (fun x => x)
            have HNEW7 := Lib.hid (Blk.new W1 [.int .i64 0, .int .i64 0, .int .u32 0, .int .u32 0, .int .u64 0, .int .u64 0, .int .u64 0, .int .u64 0, .int .i64 0, .int .u64 0, .int .u64 0, .int .u64 0, .int .u64 0, .int .u64 0, .int .u64 0, .int .u64 0, .int .u64 0, .int .u64 0, .int .u64 0, .int .u64 0, .int .u64 0, .int .u64 0, .int .u64 0, .int .u64 0, .int .u64 0, .int .u64 0, .int .u64 0, .int .u64 0, .int .u64 0, .int .u64 0, .int .u64 0, .int .u64 0, .int .u64 0, .int .u64 0, .int .u64 0, .int .u64 0, .int .u64 0, .int .u64 0, .int .u64 0, .int .u64 0, .int .u64 0, .int .u64 0] 36)
            have hx1l := hb1.lt
            have hgx1 : gx < W1.heap.size := World.block_lt_of_cell? _ _ o0
            clear hb1 hk1 k1 HNEW6 HLD
            go_upto_region 11 with (first
              | (refine wp_store_blk rfl 36 (.tmp 7) (.tmp 27) rfl HNEW7.out [.int .i64 kd, .int .i64 10, .int .u32 0, .int .u32 0, .int .u64 0, .int .u64 0, .int .u64 0, .int .u64 0, .int .i64 0, .int .u64 0, .int .u64 0, .int .u64 0, .int .u64 0, .int .u64 0, .int .u64 0, .int .u64 0, .int .u64 0, .int .u64 0, .int .u64 0, .int .u64 0, .int .u64 0, .int .u64 0, .int .u64 0, .int .u64 0, .int .u64 0, .int .u64 0, .int .u64 0, .int .u64 0, .int .u64 0, .int .u64 0, .int .u64 0, .int .u64 0, .int .u64 0, .int .u64 0, .int .u64 0, .int .u64 0, .int .u64 0, .int .u64 0, .int .u64 0, .int .u64 0, .int .u64 0, .int .u64 0] rfl rfl rfl infoRp rfl ?_
                 intro W2 hb2 hk2
                 have k2 : Kp none' W1 W2 := ((Kp.refl none' W1).alloc (.cells #[.int .i64 0, .int .i64 0, .int .u32 0, .int .u32 0, .int .u64 0, .int .u64 0, .int .u64 0, .int .u64 0, .int .i64 0, .int .u64 0, .int .u64 0, .int .u64 0, .int .u64 0, .int .u64 0, .int .u64 0, .int .u64 0, .int .u64 0, .int .u64 0, .int .u64 0, .int .u64 0, .int .u64 0, .int .u64 0, .int .u64 0, .int .u64 0, .int .u64 0, .int .u64 0, .int .u64 0, .int .u64 0, .int .u64 0, .int .u64 0, .int .u64 0, .int .u64 0, .int .u64 0, .int .u64 0, .int .u64 0, .int .u64 0, .int .u64 0, .int .u64 0, .int .u64 0, .int .u64 0, .int .u64 0, .int .u64 0] 36)).then hk2 (fun z hz e => by omega)
                 have HX2 := Lib.hid (HX1.out.kp k2 (fun x => x))
                 have HW2 := Lib.hid hb2
                 have K2 := Lib.hid (K1.out.trans k2)
                 have o0 := k2.cell o0 (fun x => x)
                 have q0 := hb2.cell 0 rfl
                 have qz := hb2.fz 0
                 have hq7 : gx ≠ W1.heap.size := by omega
                 clear hb2 hk2 k2 HNEW7 HX1 K1))
            obtain ⟨W3, hW3⟩ : ∃ W3, W2 = W3 := ⟨_, rfl⟩
            have hx3 := HX2.out
            have hw3 := HW2.out
            have k3 := K2.out
            rw [hW3] at hx3 hw3 k3 ⊢
            have HX3 : Hid (Blk W3 wr.heap.size [.int .i64 K, .int .i64 10, .int .u32 0, .int .u32 0, .int .u64 0, .int .u64 0, .int .u64 0, .int .u64 0, .int .i64 0, .int .u64 0, .int .u64 0, .int .u64 0, .int .u64 0, .int .u64 0, .int .u64 0, .int .u64 0, .int .u64 0, .int .u64 0, .int .u64 0, .int .u64 0, .int .u64 0, .int .u64 0, .int .u64 0, .int .u64 0, .int .u64 0, .int .u64 0, .int .u64 0, .int .u64 0, .int .u64 0, .int .u64 0, .int .u64 0, .int .u64 0, .int .u64 0, .int .u64 0, .int .u64 0, .int .u64 0, .int .u64 0, .int .u64 0, .int .u64 0, .int .u64 0, .int .u64 0, .int .u64 0] 36) := Lib.hid hx3
            have HW3 : Hid (Blk W3 W1.heap.size [.int .i64 K, .int .i64 10, .int .u32 0, .int .u32 0, .int .u64 0, .int .u64 0, .int .u64 0, .int .u64 0, .int .i64 0, .int .u64 0, .int .u64 0, .int .u64 0, .int .u64 0, .int .u64 0, .int .u64 0, .int .u64 0, .int .u64 0, .int .u64 0, .int .u64 0, .int .u64 0, .int .u64 0, .int .u64 0, .int .u64 0, .int .u64 0, .int .u64 0, .int .u64 0, .int .u64 0, .int .u64 0, .int .u64 0, .int .u64 0, .int .u64 0, .int .u64 0, .int .u64 0, .int .u64 0, .int .u64 0, .int .u64 0, .int .u64 0, .int .u64 0, .int .u64 0, .int .u64 0, .int .u64 0, .int .u64 0] 36) := Lib.hid (by rw [hK0]; exact hw3)
            have K3 := Lib.hid k3
            clear hx3 hw3 k3 hW3
            clear o0 q0 qz hq7 HXC
            refine wp_region_lit ?_
            refine wpList_val (by exact rfl) (load_here (ad := .pointer (some ⟨wr.heap.size, 0, none⟩)) rfl rfl (blk_load HX3.out _ Tryz.underlying36 rfl infoRp)) ?_; simp only [Act.put, List.setIfInBounds_toArray, List.set_cons_succ, List.set_cons_zero]
            refine wpList_val (by exact rfl) (load_here (ad := .pointer (some ⟨W1.heap.size, 0, none⟩)) rfl rfl (blk_load HW3.out _ Tryz.underlying36 rfl infoRp)) ?_; simp only [Act.put, List.setIfInBounds_toArray, List.set_cons_succ, List.set_cons_zero]
            refine wpList_val (v := .bool false) (by exact rfl) (by clear HX3 HW3 K3 HX2 HW2 K2 hkd hk5a hk5b; rcases hK5 with rfl | rfl | rfl | rfl | rfl | rfl <;> kernel_rfl) ?_; simp only [Act.put, List.setIfInBounds_toArray, List.set_cons_succ, List.set_cons_zero]
            go_wp2_with fail
            go_roundw
            case rel => exact ⟨k + 1, by go_num, by omega, Lib.hid (hr.out.trans K3.out)⟩
            case measure => simp [intOf]; omega
      · obtain rfl : k = N := by omega
        have HK2 := Lib.hid (HK1.out.trans hr.out)
        go_wp2_with fail
        refine (HSN.out _).mono ?_
        rintro e w2 ⟨rfl, k2⟩
        have HK3 := Lib.hid (HK2.out.trans k2)
        clear k2
        go_wp2_with fail
        refine (HSZ.out _).mono ?_
        rintro e w3 ⟨rfl, k3⟩
        have HK4 := Lib.hid (HK3.out.trans k3)
        clear k3
        go_wp2_with fail
        refine (HL.out _).mono ?_
        rintro e w4 ⟨rfl, k4⟩
        have HK5 := Lib.hid (HK4.out.trans k4)
        clear k4
        go_wp2_with fail
        exact HP.out _ _ ⟨rfl, HK5.out⟩
end Go.Proofs.YtjhghagmnkjpkaaGreat
