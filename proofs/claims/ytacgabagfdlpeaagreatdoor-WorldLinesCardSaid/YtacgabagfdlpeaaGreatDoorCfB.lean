/- Walks for layer 24: rank.New, the document's r16.Flows. -/
import Derived.Test.YtacgabagfdlpeaaGreatDoorCfA
namespace Go.Proofs.YtacgabagfdlpeaaGreatDoor
set_option linter.unusedVariables false
set_option linter.unusedSimpArgs false
open Go Go.RowKit Go.Shelf

theorem own_zero (w : World) (e : TypeId) (sz : Nat) : (w.alloc (.cells #[] e)).ownsRow w.heap.size e sz (.slice (some ⟨w.heap.size, 0, none⟩) 0 0) 0 [] :=
  ⟨by simp, .inr ⟨w.heap.size, 0, #[], rfl, Nat.le_refl _, heap_new _ _, Nat.le_refl _, by unfold maxLen; omega, by simp, by simp⟩⟩
theorem heap_newC (w : World) (o : Obj) {n : Nat} (h : n = w.heap.size) : (w.alloc o).heap[n]? = some o := by subst h; exact heap_new w o
theorem one_fl (l : List FlR) : (l.flatMap enFl).all (·.oneCell') = true := by
  rw [List.all_eq_true]
  intro v hv
  obtain ⟨r, _, hv⟩ := List.mem_flatMap.1 hv
  simp only [enFl, List.mem_cons, List.not_mem_nil, or_false] at hv
  rcases hv with rfl | rfl | rfl | rfl | rfl <;> rfl
set_option maxHeartbeats 4000000 in
theorem gClone (l : List FlR) (hl : l.length ≤ 64) (v : Value) (w : World) (h : Sl w v l.length 5 (l.flatMap enFl)) : Calls Tryz.prog 62 #[v] w fun e w' => (∃ ao n cap, e = .returned (.slice ao n cap)) ∧ Kp none' w w' := by
  obtain ⟨ao, cap, rfl⟩ : ∃ ao cap, v = .slice ao l.length cap := by obtain ⟨ao, cap, rfl, _⟩ := h.is; exact ⟨_, _, rfl⟩
  have HS := Lib.hid h
  clear h
  have HOF := Lib.hid (one_fl l)
  cases ao with
  | none =>
    have hnil : ∀ W : World, (binOp BinOp.eql 53 (.slice none l.length cap) (.slice none 0 0)).run Tryz.prog W = .ok (.bool true) W := fun _ => by kernel_rfl
    go_enter Tryz.func62, Tryz.ntmps62
    go_wp2
    go_ret
    exact ⟨⟨_, _, _, rfl⟩, Kp.refl _ _⟩
  | some ad =>
    have hnil : ∀ W : World, (binOp BinOp.eql 53 (.slice (some ad) l.length cap) (.slice none 0 0)).run Tryz.prog W = .ok (.bool false) W := fun _ => by kernel_rfl
    have hs2 := HS.out.old ((Kp.refl none' w).alloc (.cells #[] 72))
    have HS2 := Lib.hid hs2
    clear hs2
    go_enter Tryz.func62, Tryz.ntmps62
    go_wp2_with (first
      | (refine wp_appSl tFlw (.tmp 5) (.tmp 6) rfl rfl w.heap.size (own_zero w 72 5) rfl rfl HS2.out HOF.out (by omega) (by omega) (by simp) ?_; intro v8 w8 hown8 hgrow8
         have hk8 := ((Kp.refl none' w).alloc (.cells #[] 72)).grown hgrow8 (fun b hb => .inr (by cases hb; exact Nat.le_refl _))
         obtain ⟨ao8, cap8, rfl⟩ := own_shape hown8
         have HK8 := Lib.hid hk8
         clear hown8 hgrow8 hk8))
    go_ret
    exact ⟨⟨_, _, _, rfl⟩, HK8.out⟩
/-- What rank.New has made behind k flows. -/
structure NwI (w wr : World) (rb : Nat) (fv v2 : Value) (k : Nat) : Prop where
  blk : Blk wr rb [.int .i64 2, fv, v2, .int .u64 0] 165
  own : wr.ownsRow w.heap.size 24 1 v2 k (List.replicate k (.int .u64 0))
  kp : Kp none' w wr
set_option maxRecDepth 100000 in
set_option maxHeartbeats 4000000 in
theorem gRank (l : List FlR) (v : Value) (w : World) (h : Sl w v l.length 5 (l.flatMap enFl)) : Calls Tryz.prog 35 #[.int .i64 2, v] w fun e w' => (∃ p, e = .returned (.tuple #[p, .int .i64 (flowsE l)])) ∧ Kp none' w w' := by
  obtain ⟨ao, cap, rfl⟩ : ∃ ao cap, v = .slice ao l.length cap := by obtain ⟨ao, cap, rfl, _⟩ := h.is; exact ⟨_, _, rfl⟩
  have HS := Lib.hid h
  have hmx := h.max
  clear h
  by_cases h0 : l.length = 0
  · have HE : Hid (flowsE l = 29) := by show _ = _; unfold flowsE; rw [if_pos (.inl h0)]
    have e1 : ((l.length : Int) == 0) = true := by rw [beq_iff_eq]; omega
    have e2 : (l.length == 0) = true := by rw [beq_iff_eq]; omega
    rw [h0] at HS ⊢
    clear hmx e1 e2
    go_enter Tryz.func35, Tryz.ntmps35
    go_wp2
    go_ret2
    exact ⟨⟨_, by rw [HE.out]; rfl⟩, Kp.refl _ _⟩
  · have e1 : ((l.length : Int) == 0) = false := by rw [beq_eq_false_iff_ne]; omega
    by_cases h64 : 64 < l.length
    · have HE : Hid (flowsE l = 29) := by show _ = _; unfold flowsE; rw [if_pos (.inr h64)]
      have h64i : (64 : Int) < l.length := by omega
      clear h0
      go_enter Tryz.func35, Tryz.ntmps35
      go_wp2
      go_ret2
      exact ⟨⟨_, by rw [HE.out]; rfl⟩, Kp.refl _ _⟩
    · have h64i : ¬ (64 : Int) < l.length := by omega
      have HE0 : Hid (flowsE l = if (idsF l).Nodup then 0 else 30) := by show _ = _; unfold flowsE; rw [if_neg (by omega)]; rfl
      have HT := Lib.hid (gTwice l (by omega) (.slice ao l.length cap) w HS.out)
      have HCL := Lib.hid (fun W hs => gClone l (by omega) (.slice ao l.length cap) W hs)
      have hl64 : l.length ≤ 64 := by omega
      clear h0 h64
      go_enter Tryz.func35, Tryz.ntmps35
      go_wp2_with fail
      refine (HT.out).mono ?_
      rintro e w1 ⟨rfl, k1⟩
      have HK1 := Lib.hid k1
      clear k1 HT
      by_cases hn : (idsF l).Nodup
      · have HE : Hid (flowsE l = 0) := by show _ = _; rw [HE0.out, if_pos hn]
        have hd : (!decide (idsF l).Nodup) = false := by simp [hn]
        rw [hd]
        clear hd HE0 hn
        go_wp2_with fail
        refine (HCL.out _ (HS.out.old HK1.out)).mono ?_
        rintro e w2 ⟨⟨fo, fn, fc, rfl⟩, k2⟩
        have HK2 := Lib.hid (HK1.out.trans k2)
        clear k2 HCL
        go_wp2_with fail
        have hz2 := HK2.out.size
        have hb3 := Blk.new w2 [.int .i64 2, .slice fo fn fc, .slice none 0 0, .int .u64 0] 165
        have hk3 := HK2.out.alloc (.cells #[.int .i64 2, .slice fo fn fc, .slice none 0 0, .int .u64 0] 165)
        have hk3' : Kp none' w (w2.alloc (.cells #[.int .i64 2, .slice fo fn fc, .slice none 0 0, .int .u64 0] 165)) := hk3
        have hb3' : Blk (w2.alloc (.cells #[.int .i64 2, .slice fo fn fc, .slice none 0 0, .int .u64 0] 165)) w2.heap.size [.int .i64 2, .slice fo fn fc, .slice none 0 0, .int .u64 0] 165 := hb3
        clear hk3 hb3
        generalize w2.alloc (.cells #[.int .i64 2, .slice fo fn fc, .slice none 0 0, .int .u64 0] 165) = w3 at *
        obtain ⟨rb, hrb⟩ : ∃ rb, w2.heap.size = rb := ⟨_, rfl⟩
        rw [hrb] at hb3' hz2 ⊢
        have HI0 : Hid (NwI w w3 rb (.slice fo fn fc) (.slice none 0 0) 0) := ⟨hb3', ⟨rfl, .inl ⟨rfl, rfl⟩⟩, hk3'⟩
        clear hb3' hk3' hrb HK2
        go_loopw [36] (fun i0 wr => ∃ (k : Nat) (v2 : Value), i0 = .int .i64 k ∧ k ≤ l.length ∧ Hid (NwI w wr rb (.slice fo fn fc) v2 k)) (fun i0 _ => l.length - (intOf i0).toNat)
        case atStart => exact ⟨0, _, rfl, by omega, HI0.out⟩
        case round =>
          clear HI0
          obtain ⟨k, v2, rfl, hk, hr⟩ := hrel
          by_cases hlt : k < l.length
          · have hki : (k : Int) < l.length := by omega
            obtain ⟨gx, ox, cx, e1, hcx⟩ := (HS.out.old hr.out.kp).at enFl_len (by decide) k hlt
            injection e1 with e1 _ e3
            subst e1 e3
            obtain ⟨f, hf⟩ : ∃ f, l[k] = f := ⟨_, rfl⟩
            rw [hf] at hcx
            have d0 := hcx 0 _ rfl
            have d1 := hcx 1 _ rfl
            have d2 := hcx 2 _ rfl
            have d3 := hcx 3 _ rfl
            have d4 := hcx 4 _ rfl
            simp only [Nat.add_zero] at d0
            have hzr := hr.out.kp.size
            have hba := hr.out.blk.alloc (.cells #[.int .u32 f.id, .int .u64 f.cost, .int .u64 f.budget, .int .u64 f.size, .int .u64 f.cap] 72)
            have c2 := hba.cell 2 rfl
            have hba2 := hba.alloc (.cells #[.int .u64 0] 24)
            have HBA := Lib.hid hba2
            have HOA := Lib.hid (own_kp (S := none') hr.out.own (((Kp.refl none' wr).alloc (.cells #[.int .u32 f.id, .int .u64 f.cost, .int .u64 f.budget, .int .u64 f.size, .int .u64 f.cap] 72)).alloc (.cells #[.int .u64 0] 24)) (fun _ _ x => x))
            have HKA := Lib.hid ((hr.out.kp.alloc (.cells #[.int .u32 f.id, .int .u64 f.cost, .int .u64 f.budget, .int .u64 f.size, .int .u64 f.cap] 72)).alloc (.cells #[.int .u64 0] 24))
            have HNE := Lib.hid (own_ne_blk hr.out.own hr.out.blk (by decide))
            clear hcx hf hba hba2
            go_wp2_with (first
              | (refine wp_app1 tU64 (.tmp 48) (.tmp 50) rfl rfl w.heap.size (v := v2) HOA.out [.int .u64 0] rfl rfl rfl (fr := (0, 0)) (heap_newC _ _ (by simp)) rfl (by omega) (by omega) (by simp; omega) ?_; intro g8 cap8 w8 hown8 hgrow8
                 have hk8 := HKA.out.grown hgrow8 (fun b hb => .inr (own_block HOA.out hb).1)
                 have hb8 := HBA.out.grown hgrow8 (fun e => HNE.out e.symm)
                 have x2 := hb8.cell 2 rfl
                 have z2 := hb8.fz 2
                 have HK8 := Lib.hid hk8; have HB8 := Lib.hid hb8; have HO8 := Lib.hid hown8
                 clear hown8 hgrow8 hk8 hb8))
            have hown9 := own_setNe HO8.out (a := ⟨rb, 2, none⟩) (fun b hb e => own_ne_blk HO8.out HB8.out (by decide) (by rw [hb]; exact congrArg some e)) (.slice (some ⟨g8, 0, none⟩) (k + 1) cap8)
            have hr9 : NwI w (w8.setCell ⟨rb, 2, none⟩ (.slice (some ⟨g8, 0, none⟩) (k + 1) cap8)) rb (.slice fo fn fc) (.slice (some ⟨g8, 0, none⟩) (k + 1) cap8) (k + 1) :=
              ⟨HB8.out.set 2 _, by rw [List.replicate_succ']; exact hown9, HK8.out.set (p := ⟨rb, 2, none⟩) (.inr hz2) _⟩
            have HR9 := Lib.hid hr9
            clear hown9 hr9
            go_roundw
            case rel => exact ⟨k + 1, _, by go_num, by omega, HR9.out⟩
            case measure => simp [intOf]; omega
          · have hke : k = l.length := by omega
            subst hke
            go_wp2
            go_ret2
            exact ⟨⟨_, by rw [HE.out]; rfl⟩, hr.out.kp⟩
      · have HE : Hid (flowsE l = 30) := by show _ = _; rw [HE0.out, if_neg hn]
        have hd : (!decide (idsF l).Nodup) = true := by simp [hn]
        rw [hd]
        clear hd HE0 hn
        go_wp2
        go_ret2
        exact ⟨⟨_, by rw [HE.out]; rfl⟩, HK1.out⟩
end Go.Proofs.YtacgabagfdlpeaaGreatDoor
