/- Empty states are alike (layer 26). Printed by wip/shs.py. -/
import Derived.Test.YtjhghagmnkjpkaaGreatMShaperNobodyF33
import Derived.Test.YtjhghagmnkjpkaaGreatMShaperNobodyF24
import Derived.Test.YtjhghagmnkjpkaaGreatMShaperNobodyF17
namespace Go.Proofs.YtjhghagmnkjpkaaGreat
set_option linter.unusedVariables false
set_option linter.unusedSimpArgs false
open Go Go.RowKit Go.Shelf

section
variable {P : Program} {ops : Array Oper} {Q : Exit → Act → World → Prop} {a : Act} {w : World} {rest : List Oper} {o : Oper}
theorem wpList_val {v : Value} (hw : Region.wanted o (yielded ops a.tmps) = true) (h1 : (execOp a.eval o).run P w = .ok (.value v) w) (h : wpList P ops Q rest (a.put o.dst v) w) : wpList P ops Q (o :: rest) a w := by
  unfold wpList
  rw [if_pos hw]
  refine .inl ?_
  unfold Oper.wp
  rw [h1]; exact h
theorem wpList_no (hw : Region.wanted o (yielded ops a.tmps) = false) (h : wpList P ops Q rest (a.put o.dst undef) w) : wpList P ops Q (o :: rest) a w := by
  unfold wpList
  rw [if_neg (by rw [hw]; simp)]
  exact h
theorem wpList_same {f : FuncId} {args : Array Value} {v : Value} (hw : Region.wanted o (yielded ops a.tmps) = true) (h1 : (execOp a.eval o).run P w = .ok (.enter f args) w) (hc : Calls P f args w fun e w' => e = .returned v ∧ w = w') (h : wpList P ops Q rest (a.put o.dst v) w) : wpList P ops Q (o :: rest) a w := by
  unfold wpList
  rw [if_pos hw]
  refine .inl ?_
  unfold Oper.wp
  rw [h1]
  exact hc.mono fun e w' ⟨h2, h3⟩ => by subst h2 h3; exact h
theorem load_here {ty : TypeId} {x : Operand} {ad : Value} {v : Value} (ho : o.op = .load ty x) (hx : a.eval x = ad) (h : (Instr.loadAt ty ad).run P w = .ok v w) : (execOp a.eval o).run P w = .ok (.value v) w := by
  unfold execOp
  simp only [ho, hx, Sem.run_bind, Sem.run_pure, Result.andThen_ok, h]
end
set_option maxRecDepth 100000 in
set_option maxHeartbeats 8000000 in
theorem sameZ (w : World) : Calls Tryz.prog 6 #[.agg zState.toArray, .agg zState.toArray] w fun e w' => e = .returned (.bool true) ∧ Kp none' w w' := by
  have HN := Lib.hid (fun W => sameNil W)
  obtain ⟨cs, hcs⟩ : ∃ cs, zState = cs := ⟨_, rfl⟩
  rw [hcs]
  have ha := (Blk.new w cs 43).alloc (.cells cs.toArray 43)
  have hb := Blk.new (w.alloc (.cells cs.toArray 43)) cs 43
  have e1 : (w.alloc (.cells cs.toArray 43)).heap.size = w.heap.size + 1 := by simp
  rw [e1] at hb
  have hk := ((Kp.refl none' w).alloc (.cells cs.toArray 43)).alloc (.cells cs.toArray 43)
  refine calls_post ?_
  intro PP HP
  have HCS := Lib.hid hcs
  clear e1 hcs
  go_enter Tryz.func6, Tryz.ntmps6
  go_upto_region 1 with fail
  obtain ⟨W, hW⟩ : ∃ W, ((w.alloc (.cells cs.toArray 43)).alloc (.cells cs.toArray 43)) = W := ⟨_, rfl⟩
  rw [hW] at ha hb hk ⊢
  have HK := Lib.hid hk
  rw [← HCS.out] at ha hb
  have a0 := ha.cell 0 rfl
  have a1 := ha.cell 1 rfl
  have a2 := ha.cell 2 rfl
  have a35 := ha.cell 35 rfl
  have a36 := ha.cell 36 rfl
  have a37 := ha.cell 37 rfl
  have b0 := hb.cell 0 rfl
  have b1 := hb.cell 1 rfl
  have b2 := hb.cell 2 rfl
  have b35 := hb.cell 35 rfl
  have b36 := hb.cell 36 rfl
  have b37 := hb.cell 37 rfl
  have HLA : Hid ((Instr.loadAt 32 (.pointer (some ⟨w.heap.size, 3, none⟩))).run Tryz.prog W = .ok (.agg #[.int .u64 0, .int .u64 0, .int .u64 0, .int .u64 0, .int .u64 0, .int .u64 0, .int .u64 0, .int .u64 0, .int .u64 0, .int .u64 0, .int .u64 0, .int .u64 0, .int .u64 0, .int .u64 0, .int .u64 0, .int .u64 0, .int .u64 0, .int .u64 0, .int .u64 0, .int .u64 0, .int .u64 0, .int .u64 0, .int .u64 0, .int .u64 0, .int .u64 0, .int .u64 0, .int .u64 0, .int .u64 0, .int .u64 0, .int .u64 0, .int .u64 0, .int .u64 0]) W) := Lib.hid (run_loadAt_mid W w.heap.size 3 32 [.int .u64 0, .int .u64 0, .int .u64 0, .int .u64 0, .int .u64 0, .int .u64 0, .int .u64 0, .int .u64 0, .int .u64 0, .int .u64 0, .int .u64 0, .int .u64 0, .int .u64 0, .int .u64 0, .int .u64 0, .int .u64 0, .int .u64 0, .int .u64 0, .int .u64 0, .int .u64 0, .int .u64 0, .int .u64 0, .int .u64 0, .int .u64 0, .int .u64 0, .int .u64 0, .int .u64 0, .int .u64 0, .int .u64 0, .int .u64 0, .int .u64 0, .int .u64 0] _ (fun j v hv => by
    refine ha.cell (3 + j) ?_
    have hj : j < 32 := (List.getElem?_eq_some_iff.1 hv).1
    rw [Nat.add_comm 3 j]
    show ([.int .u64 0, .int .u64 0, .int .u64 0, .int .u64 0, .int .u64 0, .int .u64 0, .int .u64 0, .int .u64 0, .int .u64 0, .int .u64 0, .int .u64 0, .int .u64 0, .int .u64 0, .int .u64 0, .int .u64 0, .int .u64 0, .int .u64 0, .int .u64 0, .int .u64 0, .int .u64 0, .int .u64 0, .int .u64 0, .int .u64 0, .int .u64 0, .int .u64 0, .int .u64 0, .int .u64 0, .int .u64 0, .int .u64 0, .int .u64 0, .int .u64 0, .int .u64 0] ++ [.slice none 0 0, .slice none 0 0, .slice none 0 0] : List Value)[j]? = some v
    rw [List.getElem?_append_left hj]; exact hv) Tryz.underlying32 rfl infoA32)
  have HLB : Hid ((Instr.loadAt 32 (.pointer (some ⟨w.heap.size + 1, 3, none⟩))).run Tryz.prog W = .ok (.agg #[.int .u64 0, .int .u64 0, .int .u64 0, .int .u64 0, .int .u64 0, .int .u64 0, .int .u64 0, .int .u64 0, .int .u64 0, .int .u64 0, .int .u64 0, .int .u64 0, .int .u64 0, .int .u64 0, .int .u64 0, .int .u64 0, .int .u64 0, .int .u64 0, .int .u64 0, .int .u64 0, .int .u64 0, .int .u64 0, .int .u64 0, .int .u64 0, .int .u64 0, .int .u64 0, .int .u64 0, .int .u64 0, .int .u64 0, .int .u64 0, .int .u64 0, .int .u64 0]) W) := Lib.hid (run_loadAt_mid W (w.heap.size + 1) 3 32 [.int .u64 0, .int .u64 0, .int .u64 0, .int .u64 0, .int .u64 0, .int .u64 0, .int .u64 0, .int .u64 0, .int .u64 0, .int .u64 0, .int .u64 0, .int .u64 0, .int .u64 0, .int .u64 0, .int .u64 0, .int .u64 0, .int .u64 0, .int .u64 0, .int .u64 0, .int .u64 0, .int .u64 0, .int .u64 0, .int .u64 0, .int .u64 0, .int .u64 0, .int .u64 0, .int .u64 0, .int .u64 0, .int .u64 0, .int .u64 0, .int .u64 0, .int .u64 0] _ (fun j v hv => by
    refine hb.cell (3 + j) ?_
    have hj : j < 32 := (List.getElem?_eq_some_iff.1 hv).1
    rw [Nat.add_comm 3 j]
    show ([.int .u64 0, .int .u64 0, .int .u64 0, .int .u64 0, .int .u64 0, .int .u64 0, .int .u64 0, .int .u64 0, .int .u64 0, .int .u64 0, .int .u64 0, .int .u64 0, .int .u64 0, .int .u64 0, .int .u64 0, .int .u64 0, .int .u64 0, .int .u64 0, .int .u64 0, .int .u64 0, .int .u64 0, .int .u64 0, .int .u64 0, .int .u64 0, .int .u64 0, .int .u64 0, .int .u64 0, .int .u64 0, .int .u64 0, .int .u64 0, .int .u64 0, .int .u64 0] ++ [.slice none 0 0, .slice none 0 0, .slice none 0 0] : List Value)[j]? = some v
    rw [List.getElem?_append_left hj]; exact hv) Tryz.underlying32 rfl infoA32)
  clear hW ha hb hk
  refine wp_region_lit ?_
  iterate 21 (refine wpList_val (by exact rfl) (by as_aux_lemma => go_simp; exact rfl) ?_; simp only [Act.put, List.setIfInBounds_toArray, List.set_cons_succ, List.set_cons_zero])
  refine wpList_val (by exact rfl) (load_here rfl rfl HLA.out) ?_; simp only [Act.put, List.setIfInBounds_toArray, List.set_cons_succ, List.set_cons_zero]
  refine wpList_val (by exact rfl) (by as_aux_lemma => go_simp; exact rfl) ?_; simp only [Act.put, List.setIfInBounds_toArray, List.set_cons_succ, List.set_cons_zero]
  refine wpList_val (by exact rfl) (load_here rfl rfl HLB.out) ?_; simp only [Act.put, List.setIfInBounds_toArray, List.set_cons_succ, List.set_cons_zero]
  refine wpList_val (v := .bool false) (by exact rfl) (by kernel_rfl) ?_; simp only [Act.put, List.setIfInBounds_toArray, List.set_cons_succ, List.set_cons_zero]
  go_wp2_with fail
  refine (HN.out _).mono ?_
  rintro e w1 ⟨rfl, rfl⟩
  go_wp2_with fail
  refine (HN.out _).mono ?_
  rintro e w1 ⟨rfl, rfl⟩
  go_wp2_with fail
  refine wp_loop_rounds 1 ?_
  rw [rounds_succ]
  go_wp2_with fail
  exact HP.out _ _ ⟨rfl, HK.out⟩
end Go.Proofs.YtjhghagmnkjpkaaGreat

namespace Go.Proofs.YtjhghagmnkjpkaaGreat
set_option linter.unusedVariables false
set_option linter.unusedSimpArgs false
open Go Go.RowKit Go.Shelf

def flows2 : List FlR := [⟨1, 1, 10, 0, 50⟩, ⟨2, 1, 20, 0, 50⟩]
def cSome (b : Int) : CfR := ⟨2, b, 1, 2, 9, 100, 0, 10, 1, 10, flows2⟩
theorem cSome_ok {b : Int} (h : 1 ≤ b ∧ b ≤ 3) : (cSome b).ok :=
  ⟨by show _ ≤ (2 : Int) ∧ (2 : Int) ≤ _; omega, by show _ ≤ b ∧ b ≤ _; omega, by show _ ≤ (1 : Int) ∧ (1 : Int) ≤ _; omega, by show _ ≤ (2 : Int) ∧ (2 : Int) ≤ _; omega, by show _ ≤ (9 : Int) ∧ (9 : Int) ≤ _; omega, by show 100 < M64; decide, by show _ ≤ (0 : Int) ∧ (0 : Int) ≤ _; omega, by show 10 < M64; decide, by show 1 < M64; decide, by show 10 < M64; decide, fun f hf => by
    have : f = ⟨1, 1, 10, 0, 50⟩ ∨ f = ⟨2, 1, 20, 0, 50⟩ := by simpa [cSome, flows2] using hf
    rcases this with rfl | rfl
    · exact ⟨by decide, by decide, by decide, by decide, by decide⟩
    · exact ⟨by decide, by decide, by decide, by decide, by decide⟩⟩
theorem chk1 : chk (cSome 1) = 0 := by decide
theorem chk3 : chk (cSome 3) = 0 := by decide
theorem infoCf : (Tryz.prog.info? 48).map (·.size) = some 11 := by kernel_rfl
set_option maxRecDepth 100000 in
set_option maxHeartbeats 2000000 in
theorem someL (w : World) : Calls Tryz.prog 8 #[] w fun e w' => ∃ b, e = .returned (.agg (enC (cSome 1) (.slice (some ⟨b, 0, none⟩) 2 2)).toArray) ∧ Blk w' b (flows2.flatMap enFl) 77 ∧ w.heap.size ≤ b ∧ Kp none' w w' := by
  refine calls_post ?_
  intro PP HP
  have HZ := Lib.hid (Blk.new w [.int .i64 0, .int .i64 0, .int .i64 0, .int .i64 0, .int .i64 0, .int .u64 0, .int .i64 0, .int .u64 0, .int .u64 0, .int .u64 0, .slice none 0 0] 48)
  have HB := Lib.hid (Blk.new (w.alloc (.cells #[.int .i64 0, .int .i64 0, .int .i64 0, .int .i64 0, .int .i64 0, .int .u64 0, .int .i64 0, .int .u64 0, .int .u64 0, .int .u64 0, .slice none 0 0] 48)) [.int .u32 1, .int .u64 1, .int .u64 10, .int .u64 0, .int .u64 50, .int .u32 2, .int .u64 1, .int .u64 20, .int .u64 0, .int .u64 50] 77)
  have e1 : (w.alloc (.cells #[.int .i64 0, .int .i64 0, .int .i64 0, .int .i64 0, .int .i64 0, .int .u64 0, .int .i64 0, .int .u64 0, .int .u64 0, .int .u64 0, .slice none 0 0] 48)).heap.size = w.heap.size + 1 := by simp
  rw [e1] at HB
  have HK := Lib.hid (((Kp.refl none' w).alloc (.cells #[.int .i64 0, .int .i64 0, .int .i64 0, .int .i64 0, .int .i64 0, .int .u64 0, .int .i64 0, .int .u64 0, .int .u64 0, .int .u64 0, .slice none 0 0] 48)).alloc (.cells #[.int .u32 1, .int .u64 1, .int .u64 10, .int .u64 0, .int .u64 50, .int .u32 2, .int .u64 1, .int .u64 20, .int .u64 0, .int .u64 50] 77))
  have HZ1 := Lib.hid (HZ.out.alloc (.cells #[.int .u32 1, .int .u64 1, .int .u64 10, .int .u64 0, .int .u64 50, .int .u32 2, .int .u64 1, .int .u64 20, .int .u64 0, .int .u64 50] 77))
  clear e1
  go_enter Tryz.func8, Tryz.ntmps8
  go_wp2_with (refine wp_store_blk rfl 48 (.tmp 0) (.tmp 4) rfl HZ1.out (enC (cSome 1) (.slice (some ⟨w.heap.size + 1, 0, none⟩) 2 2)) rfl rfl rfl infoCf rfl ?_
               intro W2 hb2 hk2
               have HB2 := Lib.hid hb2
               have HK2 := Lib.hid hk2
               clear hb2 hk2)
  refine ret_blk (by exact rfl) HB2.out _ Tryz.underlying48 rfl infoCf (by exact rfl) (HP.out _ _ ⟨w.heap.size + 1, rfl, HB.out.kp HK2.out (fun e => by omega), by omega, HK.out.then HK2.out (fun z _ e => by omega)⟩)
def ops4 : List OpR := [⟨1, 1, 1, 1, 0⟩, ⟨1, 2, 2, 1, 0⟩, ⟨1, 1, 3, 1, 0⟩, ⟨2, 0, 0, 0, 0⟩]
theorem ops4_ok : ∀ o ∈ ops4, o.ok := fun o ho => by
  have : o = ⟨1, 1, 1, 1, 0⟩ ∨ o = ⟨1, 2, 2, 1, 0⟩ ∨ o = ⟨1, 1, 3, 1, 0⟩ ∨ o = ⟨2, 0, 0, 0, 0⟩ := by simpa [ops4] using ho
  rcases this with rfl | rfl | rfl | rfl <;> exact ⟨by decide, by decide, by decide, by decide, by decide⟩
theorem run1 : (runS (shNewS (cSome 1) (.hp 0 [])) ops4).1[3]? = some (rpC 2 0 1 1 1 10 zSt) := by kernel_rfl
theorem run3 : (runS (shNewS (cSome 3) (.qu [0, 0] [[], []])) ops4).1[3]? = some (rpC 2 0 1 3 1 10 zSt) := by kernel_rfl
end Go.Proofs.YtjhghagmnkjpkaaGreat

namespace Go.Proofs.YtjhghagmnkjpkaaGreat
set_option linter.unusedVariables false
set_option linter.unusedSimpArgs false
open Go Go.RowKit Go.Shelf

theorem Blk.sl {w : World} {b : Nat} {cs : List Value} {t : TypeId} (h : Blk w b cs t) (n sz : Nat) (hl : cs.length = n * sz) (hn : n ≤ 1000000) : Sl w (.slice (some ⟨b, 0, none⟩) n n) n sz cs :=
  ⟨hl, by omega, _, _, rfl, fun i u hu => ⟨b, 0, rfl, by rw [Nat.zero_add]; exact h.cell i hu⟩⟩
theorem own_at {w : World} {base : Nat} {e : TypeId} {size : Nat} {v : Value} {n : Nat} {xs : List Value} (h : w.ownsRow base e size v n xs) (hn : 0 < n) : ∃ g cap, v = .slice (some ⟨g, 0, none⟩) n cap ∧ base ≤ g ∧ g < w.heap.size ∧ ∀ i u, xs[i]? = some u → w.cell? ⟨g, i, none⟩ = some u := by
  have hs := own_sl h
  rcases h.2 with ⟨rfl, rfl⟩ | ⟨g, cap, cur, rfl, _⟩
  · omega
  · obtain ⟨h1, h2⟩ := own_block h (b := g) rfl
    obtain ⟨ao, cap', e1, hc⟩ := hs.is
    injection e1 with e1 _ e3
    subst e1
    refine ⟨g, cap, rfl, h1, h2, fun i u hu => ?_⟩
    obtain ⟨b, off, e4, hcell⟩ := hc i u hu
    injection e4 with e4
    injection e4 with e5 e6 _
    subst e5 e6
    rw [Nat.zero_add] at hcell
    exact hcell
theorem newH (v : Value) (w : World) (h : Sl w v 2 5 (flows2.flatMap enFl)) :
    Calls Tryz.prog 9 #[.agg (enC (cSome 1) v).toArray] w fun e w' => ∃ f, e = .returned (.tuple #[.pointer (some ⟨f.sb, 0, none⟩), .int .i64 0]) ∧ ShM w' f (shNewS (cSome 1) (.hp 0 [])) ∧ (∀ b, f.all b → w.heap.size ≤ b) ∧ Kp none' w w' :=
  shNew (cSome 1) (cSome_ok (by decide)) chk1 v w h (.hp 0 []) rfl trivial (fun W _ => (madeH (cSome 1) v W rfl (by decide) (by decide)).mono fun e w' ⟨b, F, h1, h2, h3, h4⟩ => ⟨hpV b, F, h1, ⟨b, rfl, h2⟩, h3, h4⟩)
theorem newQ (v : Value) (w : World) (h : Sl w v 2 5 (flows2.flatMap enFl)) :
    Calls Tryz.prog 9 #[.agg (enC (cSome 3) v).toArray] w fun e w' => ∃ f, e = .returned (.tuple #[.pointer (some ⟨f.sb, 0, none⟩), .int .i64 0]) ∧ ShM w' f (shNewS (cSome 3) (.qu [0, 0] [[], []])) ∧ (∀ b, f.all b → w.heap.size ≤ b) ∧ Kp none' w w' :=
  shNew (cSome 3) (cSome_ok (by decide)) chk3 v w h (.qu [0, 0] [[], []]) rfl ⟨rfl, by decide⟩ (fun W _ => (madeQ (cSome 3) v W rfl (by decide) (by decide) (by decide) (by decide)).mono fun e w' ⟨b, F, h1, h2, h3, h4⟩ => ⟨quV b, F, h1, ⟨b, rfl, h2⟩, h3, h4⟩)
theorem at1 : (runS (shNewS (cSome 1) (.hp 0 [])) ops4).1.flatten[129]? = some (.int .u32 1) ∧ (runS (shNewS (cSome 1) (.hp 0 [])) ops4).1.flatten[127]? = some (.int .i64 0) := ⟨by kernel_rfl, by kernel_rfl⟩
theorem at3 : (runS (shNewS (cSome 3) (.qu [0, 0] [[], []])) ops4).1.flatten[129]? = some (.int .u32 3) ∧ (runS (shNewS (cSome 3) (.qu [0, 0] [[], []])) ops4).1.flatten[131]? = some (.int .u64 10) := ⟨by kernel_rfl, by kernel_rfl⟩
set_option maxRecDepth 100000 in
set_option maxHeartbeats 8000000 in
theorem lives26 (w : World) : Calls Tryz.prog 4 #[] w fun e w' => e = .returned (.bool true) ∧ Kp none' w w' := by
  have HS : Hid (∀ W, Calls Tryz.prog 8 #[] W fun e w' => ∃ b, e = .returned (.agg #[.int .i64 2, .int .i64 1, .int .i64 1, .int .i64 2, .int .i64 9, .int .u64 100, .int .i64 0, .int .u64 10, .int .u64 1, .int .u64 10, .slice (some ⟨b, 0, none⟩) 2 2]) ∧ Blk w' b (flows2.flatMap enFl) 77 ∧ W.heap.size ≤ b ∧ Kp none' W w') := Lib.hid (fun W => someL W)
  have HN1 : Hid (∀ (v : Value) (W : World), Sl W v 2 5 (flows2.flatMap enFl) → Calls Tryz.prog 9 #[.agg #[.int .i64 2, .int .i64 1, .int .i64 1, .int .i64 2, .int .i64 9, .int .u64 100, .int .i64 0, .int .u64 10, .int .u64 1, .int .u64 10, v]] W fun e w' => ∃ f : ShF, e = .returned (.tuple #[.pointer (some ⟨f.sb, 0, none⟩), .int .i64 0]) ∧ ShM w' f (shNewS (cSome 1) (.hp 0 [])) ∧ (∀ b, f.all b → W.heap.size ≤ b) ∧ Kp none' W w') := Lib.hid (fun v W h => newH v W h)
  have HN3 : Hid (∀ (v : Value) (W : World), Sl W v 2 5 (flows2.flatMap enFl) → Calls Tryz.prog 9 #[.agg #[.int .i64 2, .int .i64 3, .int .i64 1, .int .i64 2, .int .i64 9, .int .u64 100, .int .i64 0, .int .u64 10, .int .u64 1, .int .u64 10, v]] W fun e w' => ∃ f : ShF, e = .returned (.tuple #[.pointer (some ⟨f.sb, 0, none⟩), .int .i64 0]) ∧ ShM w' f (shNewS (cSome 3) (.qu [0, 0] [[], []])) ∧ (∀ b, f.all b → W.heap.size ≤ b) ∧ Kp none' W w') := Lib.hid (fun v W h => newQ v W h)
  have HA1 := Lib.hid at1
  have HA3 := Lib.hid at3
  have HR1 := Lib.hid (fun (W : World) (f : ShF) (h : ShM W f (shNewS (cSome 1) (.hp 0 []))) u hs hu => shRun h ops4 ops4_ok (by decide) (by decide) u hs hu)
  have HR3 := Lib.hid (fun (W : World) (f : ShF) (h : ShM W f (shNewS (cSome 3) (.qu [0, 0] [[], []]))) u hs hu => shRun h ops4 ops4_ok (by decide) (by decide) u hs hu)
  generalize (runS (shNewS (cSome 1) (.hp 0 [])) ops4) = X1 at HA1 HR1
  generalize (runS (shNewS (cSome 3) (.qu [0, 0] [[], []])) ops4) = X3 at HA3 HR3
  generalize (shNewS (cSome 1) (.hp 0 [])) = S1 at HN1 HR1
  generalize (shNewS (cSome 3) (.qu [0, 0] [[], []])) = S3 at HN3 HR3
  have HO0 := Lib.hid (Blk.new w (ops4.flatMap enO) 38)
  have HK0 := Lib.hid ((Kp.refl none' w).alloc (.cells (ops4.flatMap enO).toArray 38))
  refine calls_post ?_
  intro PP HP
  go_enter Tryz.func4, Tryz.ntmps4
  go_wp2_with fail
  refine (HS.out _).mono ?_
  rintro e w1 ⟨b, rfl, hfl, hb, hk1⟩
  have hs1 := HO0.out.lt
  have HO1 := Lib.hid (HO0.out.kp hk1 (fun x => x))
  have HF1 := Lib.hid hfl
  have HK1 := Lib.hid (HK0.out.trans hk1)
  have hob : w.heap.size < w1.heap.size := HO1.out.lt
  have hbl : b < w1.heap.size := HF1.out.lt
  clear hfl hk1 HO0 HK0 hs1 HS
  go_upto_region 3 with fail
  have hc2 := Blk.new w1 [.int .i64 2, .int .i64 1, .int .i64 1, .int .i64 2, .int .i64 9, .int .u64 100, .int .i64 0, .int .u64 10, .int .u64 1, .int .u64 10, .slice (some ⟨b, 0, none⟩) 2 2] 48
  have k12 : Kp none' w1 (w1.alloc (.cells #[.int .i64 2, .int .i64 1, .int .i64 1, .int .i64 2, .int .i64 9, .int .u64 100, .int .i64 0, .int .u64 10, .int .u64 1, .int .u64 10, .slice (some ⟨b, 0, none⟩) 2 2] 48)) := (Kp.refl none' w1).alloc _
  obtain ⟨cb, hcb⟩ : ∃ cb, w1.heap.size = cb := ⟨_, rfl⟩
  obtain ⟨W2, hW2⟩ : ∃ W2, w1.alloc (.cells #[.int .i64 2, .int .i64 1, .int .i64 1, .int .i64 2, .int .i64 9, .int .u64 100, .int .i64 0, .int .u64 10, .int .u64 1, .int .u64 10, .slice (some ⟨b, 0, none⟩) 2 2] 48) = W2 := ⟨_, rfl⟩
  rw [hW2] at hc2 k12 ⊢
  rw [hcb] at hc2 hob hbl ⊢
  have HC2 := Lib.hid hc2
  have HO2 := Lib.hid (HO1.out.kp k12 (fun x => x))
  have HF2 := Lib.hid (HF1.out.kp k12 (fun x => x))
  have HK2 := Lib.hid (HK1.out.trans k12)
  have y0 := HC2.out.cell 0 rfl
  have y1 := HC2.out.cell 1 rfl
  have y2 := HC2.out.cell 2 rfl
  have y3 := HC2.out.cell 3 rfl
  have y4 := HC2.out.cell 4 rfl
  have y5 := HC2.out.cell 5 rfl
  have y6 := HC2.out.cell 6 rfl
  have y7 := HC2.out.cell 7 rfl
  have y8 := HC2.out.cell 8 rfl
  have y9 := HC2.out.cell 9 rfl
  have y10 := HC2.out.cell 10 rfl
  have hcl := HC2.out.lt
  clear hc2 k12 hW2 hcb HO1 HF1 HK1
  go_wp2_with fail
  refine (HN1.out _ W2 (HF2.out.sl 2 5 rfl (by decide))).mono ?_
  rintro e W3 ⟨f1, rfl, hm1, hall1, hk3⟩
  have HM1 := Lib.hid hm1
  have HL1 := Lib.hid hall1
  have HC3 := Lib.hid (HC2.out.kp hk3 (fun x => x))
  have HO3 := Lib.hid (HO2.out.kp hk3 (fun x => x))
  have HF3 := Lib.hid (HF2.out.kp hk3 (fun x => x))
  have HK3 := Lib.hid (HK2.out.trans hk3)
  have hz3 := hk3.size
  clear hm1 hall1 hk3 y0 y1 y2 y3 y4 y5 y6 y7 y8 y9 y10 HC2 HO2 HF2 HK2 HN1
  go_wp2_with fail
  refine (HR1.out W3 f1 HM1.out _ (HO3.out.sl 4 5 rfl (by decide)) (fun z hz h => by
    have h1 := HL1.out z h
    have : some w.heap.size = some z := hz
    injection this with this
    omega)).mono ?_
  rintro e W4 ⟨v1, rfl, hown1, hto1⟩
  obtain ⟨f1', _, hk4, _, _⟩ := hto1
  obtain ⟨g1, cap1, rfl, hg1, hg1l, hcell1⟩ := own_at hown1 (by decide)
  have hl1 := HL1.out
  have a1 := hcell1 129 _ HA1.out.1
  have a2 := hcell1 127 _ HA1.out.2
  have HC4 := Lib.hid (HC3.out.kp hk4 (fun h => by have := hl1 _ h; omega))
  have HO4 := Lib.hid (HO3.out.kp hk4 (fun h => by have := hl1 _ h; omega))
  have HF4 := Lib.hid (HF3.out.kp hk4 (fun h => by have := hl1 _ h; omega))
  have hw2 : w.heap.size ≤ W2.heap.size := by omega
  have HK4 : Hid (Kp none' w W4) := Lib.hid (HK3.out.then hk4 (fun i hi h => by have := hl1 _ h; omega))
  have y1 := HC4.out.cell 1 rfl
  have yz := HC4.out.fz 1
  have hz4 := hk4.size
  clear hown1 hk4 hl1 hcell1 HM1 HL1 HC3 HO3 HF3 HK3 HR1
  go_upto_region 8 with fail
  have hc5 := HC4.out.set 1 (.int .i64 3)
  have k45 : Kp (fun z => z = cb) W4 (W4.setCell ⟨cb, 1, none⟩ (.int .i64 3)) := (Kp.refl (fun z => z = cb) W4).set (p := ⟨cb, 1, none⟩) (.inl rfl) _
  obtain ⟨W5, hW5⟩ : ∃ W5, W4.setCell ⟨cb, 1, none⟩ (.int .i64 3) = W5 := ⟨_, rfl⟩
  rw [hW5] at hc5 k45 ⊢
  have HC5 : Hid (Blk W5 cb [.int .i64 2, .int .i64 3, .int .i64 1, .int .i64 2, .int .i64 9, .int .u64 100, .int .i64 0, .int .u64 10, .int .u64 1, .int .u64 10, .slice (some ⟨b, 0, none⟩) 2 2] 48) := Lib.hid hc5
  have HO5 := Lib.hid (HO4.out.kp k45 (fun e => by omega))
  have HF5 := Lib.hid (HF4.out.kp k45 (fun e => by omega))
  have HK5 : Hid (Kp none' w W5) := Lib.hid (HK4.out.then k45 (fun i hi e => by omega))
  have a1 := k45.cell a1 (fun e => by simp only at e; omega)
  have a2 := k45.cell a2 (fun e => by simp only at e; omega)
  have y0 := HC5.out.cell 0 rfl
  have y1 := HC5.out.cell 1 rfl
  have y2 := HC5.out.cell 2 rfl
  have y3 := HC5.out.cell 3 rfl
  have y4 := HC5.out.cell 4 rfl
  have y5 := HC5.out.cell 5 rfl
  have y6 := HC5.out.cell 6 rfl
  have y7 := HC5.out.cell 7 rfl
  have y8 := HC5.out.cell 8 rfl
  have y9 := HC5.out.cell 9 rfl
  have y10 := HC5.out.cell 10 rfl
  have hz5 := k45.size
  clear hc5 k45 hW5 HC4 HO4 HF4 HK4 yz
  go_wp2_with fail
  refine (HN3.out _ W5 (HF5.out.sl 2 5 rfl (by decide))).mono ?_
  rintro e W6 ⟨f3, rfl, hm3, hall3, hk6⟩
  have HM3 := Lib.hid hm3
  have HL3 := Lib.hid hall3
  have HO6 := Lib.hid (HO5.out.kp hk6 (fun x => x))
  have HK6 := Lib.hid (HK5.out.trans hk6)
  have a1 := hk6.cell a1 (fun x => x)
  have a2 := hk6.cell a2 (fun x => x)
  have hz6 := hk6.size
  clear hm3 hall3 hk6 y0 y1 y2 y3 y4 y5 y6 y7 y8 y9 y10 HC5 HO5 HF5 HK5 HN3
  go_wp2_with fail
  refine (HR3.out W6 f3 HM3.out _ (HO6.out.sl 4 5 rfl (by decide)) (fun z hz h => by
    have h1 := HL3.out z h
    have : some w.heap.size = some z := hz
    injection this with this
    omega)).mono ?_
  rintro e W7 ⟨v3, rfl, hown3, hto3⟩
  obtain ⟨f3', _, hk7, _, _⟩ := hto3
  obtain ⟨g3, cap3, rfl, hg3, hg3l, hcell3⟩ := own_at hown3 (by decide)
  have hl3 := HL3.out
  have b1 := hcell3 129 _ HA3.out.1
  have b2 := hcell3 131 _ HA3.out.2
  have a1 := hk7.cell a1 (fun h => by have := hl3 _ h; simp only at this; omega)
  have a2 := hk7.cell a2 (fun h => by have := hl3 _ h; simp only at this; omega)
  have HK7 : Hid (Kp none' w W7) := Lib.hid (HK6.out.then hk7 (fun i hi h => by have := hl3 _ h; omega))
  clear hown3 hk7 hl3 hcell3 HM3 HL3 HO6 HK6 HR3
  go_wp2_with fail
  exact HP.out _ _ ⟨rfl, HK7.out⟩
end Go.Proofs.YtjhghagmnkjpkaaGreat
