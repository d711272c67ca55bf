/- The examples of layer 27. -/
import Derived.Test.YthjapdjglifopaaFairE
import Derived.Test.YthjapdjglifopaaFairR
import Derived.Test.YthjapdjglifopaaFairZ
namespace Go.Proofs.Ythjapdjglifopaa
set_option linter.unusedVariables false
set_option linter.unusedSimpArgs false
open Go.RowKit Go.Shelf

/-- A reply of a kind, of a packet's flow and length. -/
def repQ (k : Int) (f n : Nat) : RpR := ⟨[.int .i64 k, .int .i64 0, .int .u32 f, .int .u32 0, .int .u64 n, .int .u64 0, .int .u64 0, .int .u64 0, .int .i64 0, .int .u64 0] ++ List.replicate 32 (.int .u64 0), rfl⟩
theorem repQ_ok (k : Int) (f n : Nat) (hk : -9223372036854775808 ≤ k ∧ k ≤ 9223372036854775807) (hf : f < 4294967296) (hn : n < 18446744073709551616) : (repQ k f n).ok := by
  have ek : (repQ k f n).kind = k := rfl
  have ec : (repQ k f n).code = 0 := rfl
  have ef : (repQ k f n).flow = f := by show ((f : Int)).toNat = f; omega
  have ei : (repQ k f n).id = 0 := rfl
  have en : (repQ k f n).len = n := by show ((n : Int)).toNat = n; omega
  refine ⟨by rw [ek]; rfl, by rw [ec]; rfl, by rw [ef]; rfl, by rw [ei]; rfl, by rw [en]; rfl, ?_, by rw [ek]; exact hk, by rw [ec]; decide, by rw [ef]; exact hf, by rw [ei]; decide, by rw [en]; exact hn⟩
  intro v hv
  have hv : v ∈ [Value.int .i64 k, .int .i64 0, .int .u32 f, .int .u32 0, .int .u64 n, .int .u64 0, .int .u64 0, .int .u64 0, .int .i64 0, .int .u64 0] ++ List.replicate 32 (.int .u64 0) := hv
  simp only [List.mem_append, List.mem_cons, List.not_mem_nil, or_false, List.mem_replicate] at hv
  rcases hv with (rfl | rfl | rfl | rfl | rfl | rfl | rfl | rfl | rfl | rfl) | ⟨_, rfl⟩ <;> rfl
theorem infoQn (k : Int) (f n : Nat) : (Try.prog.info? 77).map (·.size) = some (enQ (repQ k f n)).length := infoQ _
set_option maxRecDepth 100000 in
set_option maxHeartbeats 4000000 in
theorem livesIn (f n : Nat) (hf : f < 4294967296) (hn : n < 18446744073709551616) (w : World) : Calls Try.prog 31 #[.agg #[.int .u32 f, .int .u32 0, .int .u64 n]] w fun e w' => e = .returned (.agg (enQ (repQ 1 f n)).toArray) ∧ Kp none' w w' := by
  have ho := (repQ_ok 1 f n (by decide) hf hn).one
  have hk := ((Kp.refl none' w).alloc (.cells #[.int .u32 f, .int .u32 0, .int .u64 n] 45)).alloc (.cells (enQ (repQ 0 0 0)).toArray 77)
  have hb := Blk.new (w.alloc (.cells #[.int .u32 f, .int .u32 0, .int .u64 n] 45)) (enQ (repQ 0 0 0)) 77
  rw [World.size_alloc] at hb
  have HK := Lib.hid hk; have HB := Lib.hid hb
  clear hk hb
  go_enter Try.func31, Try.ntmps31
  go_wp2_with (refine wp_set_row rfl 77 (.tmp 2) (.tmp 4) rfl HB.out (enQ (repQ 1 f n)) rfl rfl (infoQ _) rfl ho ?_
               intro W2 hB2 hO2 hK2
               have HB2 := Lib.hid hB2; have HK2 := Lib.hid (hK2 _ _ HK.out (.inr (by omega)))
               clear hB2 hK2 hO2)
  exact ret_row Try.results31 HB2.out _ Try.underlying77 rfl (infoQ _) rfl ⟨rfl, HK2.out⟩
set_option maxRecDepth 100000 in
set_option maxHeartbeats 4000000 in
theorem livesOut (f n : Nat) (hf : f < 4294967296) (hn : n < 18446744073709551616) (w : World) : Calls Try.prog 32 #[.agg #[.int .u32 f, .int .u32 0, .int .u64 n]] w fun e w' => e = .returned (.agg (enQ (repQ 2 f n)).toArray) ∧ Kp none' w w' := by
  have ho := (repQ_ok 2 f n (by decide) hf hn).one
  have hk := ((Kp.refl none' w).alloc (.cells #[.int .u32 f, .int .u32 0, .int .u64 n] 45)).alloc (.cells (enQ (repQ 0 0 0)).toArray 77)
  have hb := Blk.new (w.alloc (.cells #[.int .u32 f, .int .u32 0, .int .u64 n] 45)) (enQ (repQ 0 0 0)) 77
  rw [World.size_alloc] at hb
  have HK := Lib.hid hk; have HB := Lib.hid hb
  clear hk hb
  go_enter Try.func32, Try.ntmps32
  go_wp2_with (refine wp_set_row rfl 77 (.tmp 2) (.tmp 4) rfl HB.out (enQ (repQ 2 f n)) rfl rfl (infoQ _) rfl ho ?_
               intro W2 hB2 hO2 hK2
               have HB2 := Lib.hid hB2; have HK2 := Lib.hid (hK2 _ _ HK.out (.inr (by omega)))
               clear hB2 hK2 hO2)
  exact ret_row Try.results32 HB2.out _ Try.underlying77 rfl (infoQ _) rfl ⟨rfl, HK2.out⟩

def exF : List FlR := [⟨1, 1, 0, 0, 0⟩, ⟨2, 2, 0, 0, 0⟩]
def exQ : List RpR := [repQ 1 1 10, repQ 1 1 10, repQ 1 2 10, repQ 1 2 10, repQ 2 1 10, repQ 2 2 10]
theorem exF_ok : ∀ x ∈ exF, x.ok := by
  intro x hx
  simp only [exF, List.mem_cons, List.not_mem_nil, or_false] at hx
  rcases hx with rfl | rfl <;> exact ⟨by decide, by decide, by decide, by decide, by decide⟩
theorem exQ_ok : ∀ x ∈ exQ, x.ok := by
  intro x hx
  simp only [exQ, List.mem_cons, List.not_mem_nil, or_false] at hx
  rcases hx with rfl | rfl | rfl | rfl | rfl | rfl <;> exact repQ_ok _ _ _ (by decide) (by decide) (by decide)
theorem exRows : rowsF exF exQ = [⟨2, 1, 10⟩, ⟨2, 1, 10⟩] := by kernel_rfl
theorem exSpans : spans exF exQ 0 1 = [(2, 5)] := by kernel_rfl
theorem exGap : gapF exF exQ 0 1 (spans exF exQ 0 1) = 20 := by kernel_rfl
set_option maxRecDepth 100000 in
set_option maxHeartbeats 4000000 in
theorem fairLives (w : World) : Calls Try.prog 9 #[] w fun e w' => e = .returned (.bool true) ∧ Kp none' w w' := by
  go_enter Try.func9, Try.ntmps9
  go_wp2_with fail
  have hX := (((Blk.new w (exF.flatMap enFl) 72).alloc (.cells #[.int .u32 1, .int .u32 0, .int .u64 10] 45)).alloc (.cells #[.int .u32 2, .int .u32 0, .int .u64 10] 45))
  have hA := (Blk.new (w.alloc (.cells (exF.flatMap enFl).toArray 72)) [.int .u32 1, .int .u32 0, .int .u64 10] 45).alloc (.cells #[.int .u32 2, .int .u32 0, .int .u64 10] 45)
  have hB := Blk.new ((w.alloc (.cells (exF.flatMap enFl).toArray 72)).alloc (.cells #[.int .u32 1, .int .u32 0, .int .u64 10] 45)) [.int .u32 2, .int .u32 0, .int .u64 10] 45
  have hK := (((Kp.refl none' w).alloc (.cells (exF.flatMap enFl).toArray 72)).alloc (.cells #[.int .u32 1, .int .u32 0, .int .u64 10] 45)).alloc (.cells #[.int .u32 2, .int .u32 0, .int .u64 10] 45)
  simp only [World.size_alloc] at hA hB
  have HK := Lib.hid hK; have HX := Lib.hid hX
  have a0 := hA.cell 0 rfl; have a1 := hA.cell 1 rfl; have a2 := hA.cell 2 rfl
  have b0 := hB.cell 0 rfl; have b1 := hB.cell 1 rfl; have b2 := hB.cell 2 rfl
  have HA1 : Hid (∀ W, Calls Try.prog 31 #[.agg #[.int .u32 1, .int .u32 0, .int .u64 10]] W fun e w' => e = .returned (.agg (enQ (repQ 1 1 10)).toArray) ∧ Kp none' W w') := fun W => livesIn 1 10 (by decide) (by decide) W
  have HA2 : Hid (∀ W, Calls Try.prog 31 #[.agg #[.int .u32 2, .int .u32 0, .int .u64 10]] W fun e w' => e = .returned (.agg (enQ (repQ 1 2 10)).toArray) ∧ Kp none' W w') := fun W => livesIn 2 10 (by decide) (by decide) W
  have HB1 : Hid (∀ W, Calls Try.prog 32 #[.agg #[.int .u32 1, .int .u32 0, .int .u64 10]] W fun e w' => e = .returned (.agg (enQ (repQ 2 1 10)).toArray) ∧ Kp none' W w') := fun W => livesOut 1 10 (by decide) (by decide) W
  have HB2 : Hid (∀ W, Calls Try.prog 32 #[.agg #[.int .u32 2, .int .u32 0, .int .u64 10]] W fun e w' => e = .returned (.agg (enQ (repQ 2 2 10)).toArray) ∧ Kp none' W w') := fun W => livesOut 2 10 (by decide) (by decide) W
  have hbs : ∀ W, (Instr.buildSlice 23 6 #[(0, .agg (enQ (repQ 1 1 10)).toArray), (1, .agg (enQ (repQ 1 1 10)).toArray), (2, .agg (enQ (repQ 1 2 10)).toArray), (3, .agg (enQ (repQ 1 2 10)).toArray), (4, .agg (enQ (repQ 2 1 10)).toArray), (5, .agg (enQ (repQ 2 2 10)).toArray)]).run Try.prog W = .ok (.slice (some ⟨W.heap.size, 0, none⟩) 6 6) (W.alloc (.cells (exQ.flatMap enQ).toArray 77)) := fun _ => by kernel_rfl
  have HBS := Lib.hid hbs
  clear hA hB hK hX hbs
  change Code.wp _ _ _ _ (((w.alloc (.cells (exF.flatMap enFl).toArray 72)).alloc (.cells #[.int .u32 1, .int .u32 0, .int .u64 10] 45)).alloc (.cells #[.int .u32 2, .int .u32 0, .int .u64 10] 45))
  generalize ((w.alloc (.cells (exF.flatMap enFl).toArray 72)).alloc (.cells #[.int .u32 1, .int .u32 0, .int .u64 10] 45)).alloc (.cells #[.int .u32 2, .int .u32 0, .int .u64 10] 45) = w1 at *
  refine wp_region_kept2 [] [0, 1, 2, 3, 4, 5, 6, 7, 8, 9, 10, 11, 12, 13, 14, 15, 16, 17] 18 (by kernel_rfl) (by kernel_rfl) (fun c a d u w h => by cases d <;> exact h) ?_
  simp only [pick, List.getElem?_cons_succ, List.getElem?_cons_zero, List.drop_succ_cons, List.drop_zero]
  show wpKL _ _ _ _ _ _
  repeat (first
    | (refine wpKL_op (by exact rfl) (by as_aux_lemma => intro W hK; have e0 := hK.cell a0 id; have e1 := hK.cell a1 id; have e2 := hK.cell a2 id; have f0 := hK.cell b0 id; have f1 := hK.cell b1 id; have f2 := hK.cell b2 id; go_simp; exact rfl) ?_; simp only [Act.put, List.setIfInBounds_toArray, List.set_cons_succ, List.set_cons_zero])
    | (refine wpKL_off (by exact rfl) ?_; simp only [Act.put, List.setIfInBounds_toArray, List.set_cons_succ, List.set_cons_zero])
    | (refine wpKL_call (by exact rfl) (by as_aux_lemma => intro W; go_simp; exact ⟨rfl, rfl⟩) (by intro W hK; with_reducible first | exact HA1.out W | exact HA2.out W | exact HB1.out W | exact HB2.out W) ?_; simp only [Act.put, List.setIfInBounds_toArray, List.set_cons_succ, List.set_cons_zero]))
  show ∀ W, _ → wpList _ _ _ _ _ _
  intro W2 hK2
  have HX2 := Lib.hid (HX.out.kp hK2 id); have HK2 := Lib.hid (HK.out.trans hK2)
  clear a0 a1 a2 b0 b1 b2 hK2 HA1 HA2 HB1 HB2
  refine wp_builtS rfl 23 6 _ rfl (.slice (some ⟨W2.heap.size, 0, none⟩) 6 6) (W2.alloc (.cells (exQ.flatMap enQ).toArray 77)) (by simp only [List.map_toArray, List.map_cons, List.map_nil, Act.eval]; exact HBS.out W2) ?_
  simp only [Act.put, List.setIfInBounds_toArray, List.set_cons_succ, List.set_cons_zero]
  have HQ3 := Lib.hid (Blk.new W2 (exQ.flatMap enQ) 77)
  have HX3 := Lib.hid (HX2.out.alloc (.cells (exQ.flatMap enQ).toArray 77)); have HK3 := Lib.hid (HK2.out.alloc (.cells (exQ.flatMap enQ).toArray 77))
  obtain ⟨pq, hpq⟩ : ∃ p, W2.heap.size = p := ⟨_, rfl⟩
  rw [hpq] at HQ3 ⊢
  generalize W2.alloc (.cells (exQ.flatMap enQ).toArray 77) = w3 at *
  clear hpq HX2 HK2 HBS HX HK
  obtain ⟨px, hpx⟩ : ∃ p, w.heap.size = p := ⟨_, rfl⟩
  rw [hpx] at HX3 ⊢
  clear hpx
  have sx : Hid (∀ W, Kp none' w3 W → Sl W (.slice (some ⟨px, 0, none⟩) 2 2) 2 5 (exF.flatMap enFl)) := fun W k => (own_sl (own_blk HX3.out 5 2 0 rfl (by decide) (Nat.zero_le _))).old k
  have sq : Hid (∀ W, Kp none' w3 W → Sl W (.slice (some ⟨pq, 0, none⟩) 6 6) 6 42 (exQ.flatMap enQ)) := fun W k => (own_sl (own_blk HQ3.out 42 6 0 rfl (by decide) (Nat.zero_le _))).old k
  have GR := Lib.hid (fun W h h' => fRows exF exQ exQ_ok (by decide) (by decide) (.slice (some ⟨px, 0, none⟩) 2 2) (.slice (some ⟨pq, 0, none⟩) 6 6) W h h')
  rw [exRows] at GR
  have GG := Lib.hid (fun W h h' => fGap exF exQ exF_ok exQ_ok (by decide) (by decide) 0 1 (.slice (some ⟨px, 0, none⟩) 2 2) (.slice (some ⟨pq, 0, none⟩) 6 6) W h h')
  rw [exGap] at GG
  have GS := Lib.hid (fun W h h' => fSpans exF exQ exQ_ok (by decide) (by decide) 0 1 (.slice (some ⟨px, 0, none⟩) 2 2) (.slice (some ⟨pq, 0, none⟩) 6 6) W h h')
  rw [exSpans] at GS
  go_wp2_with fail
  refine (GR.out _ (sx.out _ (Kp.refl _ _)) (sq.out _ (Kp.refl _ _))).mono ?_
  rintro e w4 ⟨r, rfl, ho, k4⟩
  obtain ⟨g, cap, hr, _⟩ := own_shape1 ho (by decide)
  subst hr
  have HK4 := Lib.hid k4
  have HO4 := Lib.hid ho
  have hnn : exF.length = 2 := rfl
  rw [hnn] at HO4 ⊢
  clear ho k4 hnn
  go_wp2_with fail
  refine (GG.out _ (sx.out _ HK4.out) (sq.out _ HK4.out)).mono ?_
  rintro e w5 ⟨rfl, k5⟩
  have HK5 := Lib.hid (HK4.out.trans k5)
  have ho5 := own_kp (S := none') HO4.out k5 (fun _ _ h => h)
  have r0 := own_cell ho5 0 rfl
  have r1 := own_cell ho5 1 rfl
  have r2 := own_cell ho5 2 rfl
  clear k5 ho5
  go_wp2_with fail
  refine (GS.out _ (sx.out _ HK5.out) (sq.out _ HK5.out)).mono ?_
  rintro e w6 ⟨r6, rfl, ho6, k6⟩
  obtain ⟨ro6, rc6, rfl⟩ := own_shape ho6
  have HK6 := Lib.hid (HK3.out.trans (HK5.out.trans k6))
  clear ho6 k6 r0 r1 r2
  simp only [List.length_cons, List.length_nil]
  go_wp2_with fail
  go_ret
  exact ⟨rfl, HK6.out⟩
end Go.Proofs.Ythjapdjglifopaa
