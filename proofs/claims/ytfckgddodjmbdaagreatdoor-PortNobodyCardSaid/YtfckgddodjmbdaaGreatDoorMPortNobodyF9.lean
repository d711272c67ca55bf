/- Ranks (layer 16): a flow found; ranks made. -/
import Derived.Test.YtfckgddodjmbdaaGreatDoorMPortNobodyF8
import Derived.Test.YtfckgddodjmbdaaGreatDoorMPortNobodyF4
import Derived.Test.YtfckgddodjmbdaaGreatDoorMPortNobodyF5
import Derived.Test.YtfckgddodjmbdaaGreatDoorMPortNobodyF7
namespace Go.Proofs.YtfckgddodjmbdaaGreatDoor
set_option linter.unusedVariables false
set_option linter.unusedSimpArgs false
open Go Go.RowKit Go.Shelf

set_option maxHeartbeats 1000000 in
theorem kNextC (f : FlR) (id y : Nat) (w : World) (h : w.cell? ⟨y, 0, none⟩ = some (.int .u32 id)) (hy : y < w.heap.size) :
    Calls Tryz.prog 103 #[.agg #[.int .u32 f.id, .int .u64 f.cost, .int .u64 f.budget, .int .u64 f.size, .int .u64 f.cap], .pointer (some ⟨y, 0, none⟩)] w fun e w' => e = .returned (.bool (decide (f.id = id))) ∧ Kp none' w w' := by
  by_cases h1 : f.id = id
  · have h1' : ((f.id : Int) == (id : Int)) = true := by rw [beq_iff_eq]; omega
    rw [decide_eq_true h1]
    clear h1
    go_enter Tryz.func103, Tryz.ntmps103
    go_wp2
    go_ret
    exact ⟨rfl, (Kp.refl none' w).alloc _⟩
  · have h1' : ((f.id : Int) == (id : Int)) = false := by rw [beq_eq_false_iff_ne]; omega
    rw [decide_eq_false h1]
    clear h1
    go_enter Tryz.func103, Tryz.ntmps103
    go_wp2
    go_ret
    exact ⟨rfl, (Kp.refl none' w).alloc _⟩
set_option maxRecDepth 100000 in
set_option maxHeartbeats 4000000 in
theorem kIndex (l : List FlR) (id y : Nat) (v : Value) (w : World) (hS : Sl w v l.length 5 (l.flatMap enFl)) (h : w.cell? ⟨y, 0, none⟩ = some (.int .u32 id)) :
    Calls Tryz.prog 102 #[v, .func (.func 103) #[] #[.pointer (some ⟨y, 0, none⟩)]] w fun e w' => e = .returned (.int .i64 (findF l id)) ∧ Kp none' w w' := by
  obtain ⟨ao, cap, rfl⟩ : ∃ ao cap, v = .slice ao l.length cap := by obtain ⟨ao, cap, rfl, _⟩ := hS.is; exact ⟨_, _, rfl⟩
  have hmax := hS.max
  have HS := Lib.hid hS
  have HC := Lib.hid h
  clear hS h
  go_enter Tryz.func102, Tryz.ntmps102
  go_wp2_with fail
  go_loopw [8] (fun i wr => ∃ j : Nat, i = .int .i64 j ∧ j ≤ l.length ∧ Hid ((∀ q (hq : q < j) (hq2 : q < l.length), (l[q]'hq2).id ≠ id) ∧ Kp none' w wr)) (fun i _ => l.length - (intOf i).toNat)
  case atStart => exact ⟨0, rfl, Nat.zero_le _, fun q hq => by omega, Kp.refl _ _⟩
  case round =>
    obtain ⟨j, rfl, hj, HI⟩ := hrel
    by_cases hlt : j < l.length
    · obtain ⟨g, off, cap', e1, hc⟩ := (HS.out.old HI.out.2).at enFl_len (by decide) j hlt
      injection e1 with e1 _ e3
      subst e1 e3
      have hji : (j : Int) < l.length := by omega
      have hids : ∀ i (hi : i < j), (l[i]'(by omega)).id ≠ id := fun i hi => HI.out.1 i hi (by omega)
      have hfa := fun e => findF_at l id j hlt hids e
      have hst : l[j].id ≠ id → ∀ i (hi : i < j + 1) (hi2 : i < l.length), (l[i]'hi2).id ≠ id := fun e i hi hi2 => by
        by_cases e2 : i = j
        · subst e2; exact e
        · exact HI.out.1 i (by omega) hi2
      obtain ⟨o, ho⟩ : ∃ o, l[j] = o := ⟨_, rfl⟩
      rw [ho] at hc hfa hst
      have c0 : wr.cell? ⟨g, off + j * 5, none⟩ = some (.int .u32 o.id) := hc 0 _ rfl
      have c1 := hc 1 _ rfl
      have c2 := hc 2 _ rfl
      have c3 := hc 3 _ rfl
      have c4 := hc 4 _ rfl
      have hyc := HI.out.2.cell HC.out (fun x => x)
      have HN := Lib.hid (kNextC o id y wr hyc (World.block_lt_of_cell? _ _ hyc))
      clear hc ho hids hyc
      by_cases hcv : o.id = id
      · rw [decide_eq_true hcv] at HN
        have HE := Lib.hid (hfa hcv)
        clear hcv hfa hst
        go_wp2_with (go_at_call 103; refine HN.out.mono ?_; rintro e w1 ⟨rfl, hk1⟩; have HK1 := Lib.hid (HI.out.2.trans hk1); clear hk1)
        go_ret
        exact ⟨by rw [HE.out]; rfl, HK1.out⟩
      · rw [decide_eq_false hcv] at HN
        have HE := Lib.hid (hst hcv)
        clear hcv hfa hst
        go_wp2_with (go_at_call 103; refine HN.out.mono ?_; rintro e w1 ⟨rfl, hk1⟩; have HK1 := Lib.hid (HI.out.2.trans hk1); clear hk1)
        go_roundw
        case rel => exact ⟨j + 1, by go_num, by omega, HE.out, HK1.out⟩
        case measure => simp [intOf]; omega
    · have hjn : j = l.length := by omega
      have HE := Lib.hid (findF_none l id (fun i hi => HI.out.1 i (by omega) hi))
      subst hjn
      go_wp2_with fail
      go_ret
      exact ⟨by rw [HE.out]; rfl, HI.out.2⟩
set_option maxHeartbeats 4000000 in
theorem kClone (l : List FlR) (hl : l.length ≤ 64) (h0 : 0 < l.length) (v : Value) (w : World) (h : Sl w v l.length 5 (l.flatMap enFl)) : Calls Tryz.prog 116 #[v] w fun e w' => ∃ v', e = .returned v' ∧ w'.ownsRow w.heap.size 158 5 v' l.length (l.flatMap enFl) ∧ Kp none' w w' := by
  obtain ⟨ao, cap, rfl⟩ : ∃ ao cap, v = .slice ao l.length cap := by obtain ⟨ao, cap, rfl, _⟩ := h.is; exact ⟨_, _, rfl⟩
  have HS := Lib.hid h
  have HOF := Lib.hid (one_fl l)
  cases ao with
  | none =>
    exfalso
    obtain ⟨ao, cap', e, hc⟩ := h.is
    have hlen := h.len
    obtain ⟨b, off, e2, _⟩ := hc 0 _ (List.getElem?_eq_getElem (show 0 < (l.flatMap enFl).length by omega))
    cases e
    cases e2
  | some ad =>
    clear h
    have hnil : ∀ W : World, (binOp BinOp.eql 74 (.slice (some ad) l.length cap) (.slice none 0 0)).run Tryz.prog W = .ok (.bool false) W := fun _ => by kernel_rfl
    have hs2 := HS.out.old ((Kp.refl none' w).alloc (.cells #[] 158))
    have HS2 := Lib.hid hs2
    clear hs2
    go_enter Tryz.func116, Tryz.ntmps116
    go_wp2_with (first
      | (refine wp_appSl tFlw (.tmp 5) (.tmp 6) rfl rfl w.heap.size (own_zero w 158 5) rfl rfl HS2.out HOF.out (by omega) (by omega) (by simp) ?_; intro v8 w8 hown8 hgrow8
         have hk8 := ((Kp.refl none' w).alloc (.cells #[] 158)).grown hgrow8 (fun b hb => .inr (by cases hb; exact Nat.le_refl _))
         obtain ⟨ao8, cap8, rfl⟩ := own_shape hown8
         have HK8 := Lib.hid hk8
         have HO8 := Lib.hid hown8
         clear hown8 hgrow8 hk8))
    go_ret
    exact ⟨_, rfl, by have := HO8.out; simpa using this, HK8.out⟩
end Go.Proofs.YtfckgddodjmbdaaGreatDoor

namespace Go.Proofs.YtfckgddodjmbdaaGreatDoor
set_option linter.unusedVariables false
set_option linter.unusedSimpArgs false
open Go Go.RowKit Go.Shelf

/-- Ranks: their kind, the flows, their tags, the virtual time. -/
structure Rk where
  kind : Int
  fl : List FlR
  tags : List Nat
  virt : Nat
def tagF (kind : Int) (f : FlR) : Nat := if kind = 3 then f.size else 0
structure Rk.Ok (r : Rk) : Prop where
  kind : 1 ≤ r.kind ∧ r.kind ≤ 3
  len : r.tags.length = r.fl.length
  few : 1 ≤ r.fl.length ∧ r.fl.length ≤ 64
  fok : ∀ f ∈ r.fl, f.ok
  tok : ∀ t ∈ r.tags, t < 18446744073709551616
  vok : r.virt < 18446744073709551616
def eN8 (n : Nat) : Value := .int .u64 n
/-- At rb lie the ranks r; their blocks are F. -/
def RMem (w : World) (F : Nat → Prop) (rb : Nat) (r : Rk) : Prop := ∃ v1 v2, F = (fun b => b = rb ∨ v1.ownBlock = some b ∨ v2.ownBlock = some b) ∧ Blk w rb [.int .i64 r.kind, v1, v2, .int .u64 r.virt] 227 ∧
  w.ownsRow 0 158 5 v1 r.fl.length (r.fl.flatMap enFl) ∧ w.ownsRow 0 22 1 v2 r.tags.length (r.tags.map eN8) ∧ r.Ok
theorem RMem.kp {T : Nat → Prop} {w w' : World} {F : Nat → Prop} {rb : Nat} {r : Rk} (h : RMem w F rb r) (k : Kp T w w') (hT : ∀ b, F b → ¬ T b) : RMem w' F rb r := by
  obtain ⟨v1, v2, rfl, hb, h1, h2, ok⟩ := h
  exact ⟨v1, v2, rfl, hb.kp k (hT _ (.inl rfl)), own_kp h1 k (fun b hb => hT b (.inr (.inl hb))), own_kp h2 k (fun b hb => hT b (.inr (.inr hb))), ok⟩
theorem RMem.old {w w' : World} {F : Nat → Prop} {rb : Nat} {r : Rk} (h : RMem w F rb r) (k : Kp none' w w') : RMem w' F rb r := h.kp k (fun _ _ x => x)
theorem RMem.lt {w : World} {F : Nat → Prop} {rb : Nat} {r : Rk} (h : RMem w F rb r) {b : Nat} (hb : F b) : b < w.heap.size := by
  obtain ⟨v1, v2, rfl, hb', h1, h2, ok⟩ := h
  rcases hb with rfl | hb | hb
  · exact hb'.lt
  · exact (own_block h1 hb).2
  · exact (own_block h2 hb).2
theorem RMem.ok {w : World} {F : Nat → Prop} {rb : Nat} {r : Rk} (h : RMem w F rb r) : r.Ok := by
  obtain ⟨_, _, _, _, _, _, ok⟩ := h; exact ok
/-- What rank.New has made behind k flows. -/
structure NwJ (w wr : World) (rb : Nat) (kind : Int) (l : List FlR) (fv v2 : Value) (k : Nat) : Prop where
  blk : Blk wr rb [.int .i64 kind, fv, v2, .int .u64 0] 227
  fls : wr.ownsRow w.heap.size 158 5 fv l.length (l.flatMap enFl)
  own : wr.ownsRow w.heap.size 22 1 v2 k (((l.take k).map (tagF kind)).map eN8)
  kp : Kp none' w wr
set_option maxRecDepth 100000 in
set_option maxHeartbeats 4000000 in
theorem kNew (kind : Int) (hk : 1 ≤ kind ∧ kind ≤ 3) (l : List FlR) (v : Value) (w : World) (h : Sl w v l.length 5 (l.flatMap enFl)) (hfe : flowsE l = 0) (hfok : ∀ f ∈ l, f.ok) : Calls Tryz.prog 86 #[.int .i64 kind, v] w fun e w' => ∃ F rb, e = .returned (.tuple #[.pointer (some ⟨rb, 0, none⟩), .int .i64 0]) ∧ RMem w' F rb ⟨kind, l, l.map (tagF kind), 0⟩ ∧ (∀ b, F b → w.heap.size ≤ b) ∧ Kp none' w w' := by
  obtain ⟨ao, cap, rfl⟩ : ∃ ao cap, v = .slice ao l.length cap := by obtain ⟨ao, cap, rfl, _⟩ := h.is; exact ⟨_, _, rfl⟩
  have HS := Lib.hid h
  have hlen : 1 ≤ l.length ∧ l.length ≤ 64 ∧ (idsF l).Nodup := by
    unfold flowsE at hfe
    split at hfe
    · omega
    · split at hfe
      · rename_i h1 h2; exact ⟨by omega, by omega, h2⟩
      · omega
  have HFO := Lib.hid hfok
  have hk1 : ¬ kind < 1 := by omega
  have hk3 : ¬ 3 < kind := by omega
  have e1 : ((l.length : Int) == 0) = false := by rw [beq_eq_false_iff_ne]; omega
  have h64i : ¬ (64 : Int) < l.length := by omega
  have HT := Lib.hid (gTwice l hlen.2.1 (.slice ao l.length cap) w h)
  have HCL := Lib.hid (fun W hs => kClone l hlen.2.1 (by omega) (.slice ao l.length cap) W hs)
  have hd : (!decide (idsF l).Nodup) = false := by simp [hlen.2.2]
  rw [hd] at HT
  have hl64 : l.length ≤ 64 := hlen.2.1
  have HL1 := Lib.hid hlen.1
  clear h hfe hfok hlen hd
  have HKK := Lib.hid hk
  clear hk
  go_enter Tryz.func86, Tryz.ntmps86
  go_wp2_with fail
  refine (HT.out).mono ?_
  rintro e w1 ⟨rfl, k1⟩
  have HK1 := Lib.hid k1
  clear k1 HT
  go_wp2_with fail
  refine (HCL.out _ (HS.out.old HK1.out)).mono ?_
  rintro e w2 ⟨fv, rfl, ho2, k2⟩
  obtain ⟨fo, fc, hfv⟩ := own_shape ho2
  subst hfv
  have HK2 := Lib.hid (HK1.out.trans k2)
  have HO2 := Lib.hid (own_base ho2 HK1.out.size)
  clear k2 HCL ho2
  go_wp2_with fail
  have hz2 := HK2.out.size
  have hb3' : Blk (w2.alloc (.cells #[.int .i64 kind, .slice fo l.length fc, .slice none 0 0, .int .u64 0] 227)) w2.heap.size [.int .i64 kind, .slice fo l.length fc, .slice none 0 0, .int .u64 0] 227 := Blk.new w2 [.int .i64 kind, .slice fo l.length fc, .slice none 0 0, .int .u64 0] 227
  have hk3' : Kp none' w (w2.alloc (.cells #[.int .i64 kind, .slice fo l.length fc, .slice none 0 0, .int .u64 0] 227)) := HK2.out.alloc (.cells #[.int .i64 kind, .slice fo l.length fc, .slice none 0 0, .int .u64 0] 227)
  have ho3 := own_kp HO2.out ((Kp.refl none' w2).alloc (.cells #[.int .i64 kind, .slice fo l.length fc, .slice none 0 0, .int .u64 0] 227)) (fun _ _ x => x)
  generalize w2.alloc (.cells #[.int .i64 kind, .slice fo l.length fc, .slice none 0 0, .int .u64 0] 227) = w3 at *
  obtain ⟨rb, hrb⟩ : ∃ rb, w2.heap.size = rb := ⟨_, rfl⟩
  rw [hrb] at hb3' hz2 ⊢
  have HI0 : Hid (NwJ w w3 rb kind l (.slice fo l.length fc) (.slice none 0 0) 0) := ⟨hb3', ho3, ⟨rfl, .inl ⟨rfl, rfl⟩⟩, hk3'⟩
  clear hb3' hk3' ho3 hrb HK2 HO2
  go_loopw [36] (fun i0 wr => ∃ (k : Nat) (v2 : Value), i0 = .int .i64 k ∧ k ≤ l.length ∧ Hid (NwJ w wr rb kind l (.slice fo l.length fc) v2 k)) (fun i0 _ => l.length - (intOf i0).toNat)
  case atStart => exact ⟨0, _, rfl, by omega, HI0.out⟩
  case round =>
    clear HI0
    obtain ⟨k, v2, rfl, hk, hr⟩ := hrel
    by_cases hlt : k < l.length
    · have hki : (k : Int) < l.length := by omega
      obtain ⟨gx, ox, cx, e1, hcx⟩ := (HS.out.old hr.out.kp).at enFl_len (by decide) k hlt
      injection e1 with e1 _ e3
      subst e1 e3
      have HTK : Hid (((l.take (k + 1)).map (tagF kind)).map eN8 = ((l.take k).map (tagF kind)).map eN8 ++ [.int .u64 (tagF kind l[k])]) := by
        show _ = _
        rw [List.take_succ_eq_append_getElem hlt, List.map_append, List.map_append]; rfl
      obtain ⟨f, hf⟩ : ∃ f, l[k] = f := ⟨_, rfl⟩
      rw [hf] at hcx HTK
      have d0 := hcx 0 _ rfl
      have d1 := hcx 1 _ rfl
      have d2 := hcx 2 _ rfl
      have d3 := hcx 3 _ rfl
      have d4 := hcx 4 _ rfl
      simp only [Nat.add_zero] at d0
      have hzr := hr.out.kp.size
      obtain ⟨tg, htg⟩ : ∃ tg, tagF kind f = tg := ⟨_, rfl⟩
      rw [htg] at HTK
      have hba := hr.out.blk.alloc (.cells #[.int .u32 f.id, .int .u64 f.cost, .int .u64 f.budget, .int .u64 f.size, .int .u64 f.cap] 158)
      have c2 := hba.cell 2 rfl
      have hba2 := hba.alloc (.cells #[.int .u64 tg] 22)
      have HBA := Lib.hid hba2
      have hks := ((Kp.refl none' wr).alloc (.cells #[.int .u32 f.id, .int .u64 f.cost, .int .u64 f.budget, .int .u64 f.size, .int .u64 f.cap] 158)).alloc (.cells #[.int .u64 tg] 22)
      have HOA := Lib.hid (own_kp (S := none') hr.out.own hks (fun _ _ x => x))
      have HFA := Lib.hid (own_kp (S := none') hr.out.fls hks (fun _ _ x => x))
      have HKA := Lib.hid (hr.out.kp.trans hks)
      have HNE := Lib.hid (own_ne_blk hr.out.own hr.out.blk (by decide))
      have HNF := Lib.hid (own_ne_own hr.out.fls hr.out.own (by decide))
      clear hcx hf hba hba2 hks
      by_cases h3 : kind = 3
      · have htg3 : f.size = tg := by rw [← htg]; unfold tagF; rw [if_pos h3]
        have h3' : (kind == 3) = true := by rw [beq_iff_eq]; exact h3
        rw [← htg3] at HTK HBA HOA HFA HKA
        clear htg htg3 h3
        go_wp2_with (first
          | (refine wp_app1 tU64 (.tmp 48) (.tmp 50) rfl rfl w.heap.size (v := v2) HOA.out [.int .u64 f.size] rfl rfl rfl (fr := (0, 0)) (heap_newC _ _ (by simp)) rfl (by omega) (by omega) (by simp; omega) ?_; intro g8 cap8 w8 hown8 hgrow8
             have hk8 := HKA.out.grown hgrow8 (fun b hb => .inr (own_block HOA.out hb).1)
             have hb8 := HBA.out.grown hgrow8 (fun e => HNE.out e.symm)
             have hf8 := own_grownF HFA.out hgrow8 (fun b hb e => HNF.out b hb e)
             have x2 := hb8.cell 2 rfl
             have z2 := hb8.fz 2
             have HK8 := Lib.hid hk8; have HB8 := Lib.hid hb8; have HO8 := Lib.hid hown8; have HF8 := Lib.hid hf8
             clear hown8 hgrow8 hk8 hb8 hf8))
        have hown9 := own_setNe HO8.out (a := ⟨rb, 2, none⟩) (fun b hb e => own_ne_blk HO8.out HB8.out (by decide) (by rw [hb]; exact congrArg some e)) (.slice (some ⟨g8, 0, none⟩) (k + 1) cap8)
        have hfls9 := own_setNe HF8.out (a := ⟨rb, 2, none⟩) (fun b hb e => own_ne_blk HF8.out HB8.out (by decide) (by rw [hb]; exact congrArg some e)) (.slice (some ⟨g8, 0, none⟩) (k + 1) cap8)
        have hr9 : NwJ w (w8.setCell ⟨rb, 2, none⟩ (.slice (some ⟨g8, 0, none⟩) (k + 1) cap8)) rb kind l (.slice fo l.length fc) (.slice (some ⟨g8, 0, none⟩) (k + 1) cap8) (k + 1) :=
          ⟨HB8.out.set 2 _, hfls9, by rw [HTK.out]; exact hown9, HK8.out.set (p := ⟨rb, 2, none⟩) (.inr hz2) _⟩
        have HR9 := Lib.hid hr9
        clear hown9 hr9 hfls9
        go_roundw
        case rel => exact ⟨k + 1, _, by go_num, by omega, HR9.out⟩
        case measure => simp [intOf]; omega
      · have htg3 : 0 = tg := by rw [← htg]; unfold tagF; rw [if_neg h3]
        have h3' : (kind == 3) = false := by rw [beq_eq_false_iff_ne]; exact h3
        subst htg3
        clear htg h3
        go_wp2_with (first
          | (refine wp_app1 tU64 (.tmp 48) (.tmp 50) rfl rfl w.heap.size (v := v2) HOA.out [.int .u64 0] rfl rfl rfl (fr := (0, 0)) (heap_newC _ _ (by simp)) rfl (by omega) (by omega) (by simp; omega) ?_; intro g8 cap8 w8 hown8 hgrow8
             have hk8 := HKA.out.grown hgrow8 (fun b hb => .inr (own_block HOA.out hb).1)
             have hb8 := HBA.out.grown hgrow8 (fun e => HNE.out e.symm)
             have hf8 := own_grownF HFA.out hgrow8 (fun b hb e => HNF.out b hb e)
             have x2 := hb8.cell 2 rfl
             have z2 := hb8.fz 2
             have HK8 := Lib.hid hk8; have HB8 := Lib.hid hb8; have HO8 := Lib.hid hown8; have HF8 := Lib.hid hf8
             clear hown8 hgrow8 hk8 hb8 hf8))
        have hown9 := own_setNe HO8.out (a := ⟨rb, 2, none⟩) (fun b hb e => own_ne_blk HO8.out HB8.out (by decide) (by rw [hb]; exact congrArg some e)) (.slice (some ⟨g8, 0, none⟩) (k + 1) cap8)
        have hfls9 := own_setNe HF8.out (a := ⟨rb, 2, none⟩) (fun b hb e => own_ne_blk HF8.out HB8.out (by decide) (by rw [hb]; exact congrArg some e)) (.slice (some ⟨g8, 0, none⟩) (k + 1) cap8)
        have hr9 : NwJ w (w8.setCell ⟨rb, 2, none⟩ (.slice (some ⟨g8, 0, none⟩) (k + 1) cap8)) rb kind l (.slice fo l.length fc) (.slice (some ⟨g8, 0, none⟩) (k + 1) cap8) (k + 1) :=
          ⟨HB8.out.set 2 _, hfls9, by rw [HTK.out]; exact hown9, HK8.out.set (p := ⟨rb, 2, none⟩) (.inr hz2) _⟩
        have HR9 := Lib.hid hr9
        clear hown9 hr9 hfls9
        go_roundw
        case rel => exact ⟨k + 1, _, by go_num, by omega, HR9.out⟩
        case measure => simp [intOf]; omega
    · have hke : k = l.length := by omega
      subst hke
      go_wp2
      go_ret2
      have hfin := hr.out
      refine ⟨_, rb, rfl, ⟨.slice fo l.length fc, v2, rfl, hfin.blk, own_base hfin.fls (Nat.zero_le _), ?_, ⟨HKK.out, by simp, ⟨HL1.out, hl64⟩, HFO.out, fun t ht => ?_, by show 0 < _; omega⟩⟩, fun b hb => ?_, hfin.kp⟩
      · have := own_base hfin.own (Nat.zero_le _)
        rw [List.take_length] at this
        simpa using this
      · obtain ⟨f, hf, rfl⟩ := List.mem_map.1 ht
        have := HFO.out f hf
        unfold tagF; split
        · exact this.size
        · omega
      · rcases hb with rfl | hb | hb
        · exact hz2
        · exact (own_block hfin.fls hb).1
        · exact (own_block hfin.own hb).1
end Go.Proofs.YtfckgddodjmbdaaGreatDoor

namespace Go.Proofs.YtfckgddodjmbdaaGreatDoor
set_option linter.unusedVariables false
set_option linter.unusedSimpArgs false
open Go Go.RowKit Go.Shelf

def pR (p : Nat) : Value := .pointer (some ⟨p, 0, none⟩)
/-- At qb lie queues with bounds bs; the i-th one has Qs[i]. -/
structure QuM (w : World) (qb room : Nat) (bs : List Nat) (Qs : List (List It)) (v1 v2 : Value) (ps : List Nat) (Fs : Nat → Nat → Prop) : Prop where
  top : Blk w qb [v1, v2, .int .i64 room, .int .i64 (totQ Qs)] 292
  prow : w.ownsRow 0 310 1 v1 ps.length (ps.map pR)
  brow : w.ownsRow 0 22 1 v2 bs.length (bs.map eN8)
  plen : ps.length = Qs.length
  blen : bs.length = Qs.length
  few : 1 ≤ Qs.length ∧ Qs.length ≤ 32
  tot : totQ Qs ≤ room ∧ room ≤ 4096
  up : Upw bs
  bok : ∀ b ∈ bs, b < 18446744073709551616
  rings : ∀ i p Q, ps[i]? = some p → Qs[i]? = some Q → Rg w (Fs i) p room Q
  apart : ∀ i j b, i < ps.length → j < ps.length → i ≠ j → Fs i b → ¬ Fs j b
def QuF (qb : Nat) (v1 v2 : Value) (ps : List Nat) (Fs : Nat → Nat → Prop) : Nat → Prop := fun b => b = qb ∨ v1.ownBlock = some b ∨ v2.ownBlock = some b ∨ ∃ i, i < ps.length ∧ Fs i b
def Qu (w : World) (F : Nat → Prop) (qb room : Nat) (bs : List Nat) (Qs : List (List It)) : Prop := ∃ (v1 v2 : Value) (ps : List Nat) (Fs : Nat → Nat → Prop), F = QuF qb v1 v2 ps Fs ∧ QuM w qb room bs Qs v1 v2 ps Fs
theorem QuM.kp {T : Nat → Prop} {w w' : World} {qb room : Nat} {bs : List Nat} {Qs : List (List It)} {v1 v2 : Value} {ps : List Nat} {Fs : Nat → Nat → Prop} (h : QuM w qb room bs Qs v1 v2 ps Fs) (k : Kp T w w') (hT : ∀ b, QuF qb v1 v2 ps Fs b → ¬ T b) : QuM w' qb room bs Qs v1 v2 ps Fs :=
  { h with top := h.top.kp k (hT _ (.inl rfl)), prow := own_kp h.prow k (fun b hb => hT b (.inr (.inl hb))), brow := own_kp h.brow k (fun b hb => hT b (.inr (.inr (.inl hb)))), rings := fun i p Q hp hQ => (h.rings i p Q hp hQ).kp k (fun b hb => hT b (.inr (.inr (.inr ⟨i, (List.getElem?_eq_some_iff.1 hp).1, hb⟩)))) }
theorem QuM.old {w w' : World} {qb room : Nat} {bs : List Nat} {Qs : List (List It)} {v1 v2 : Value} {ps : List Nat} {Fs : Nat → Nat → Prop} (h : QuM w qb room bs Qs v1 v2 ps Fs) (k : Kp none' w w') : QuM w' qb room bs Qs v1 v2 ps Fs := h.kp k (fun _ _ x => x)
theorem Qu.kp {T : Nat → Prop} {w w' : World} {F : Nat → Prop} {qb room : Nat} {bs : List Nat} {Qs : List (List It)} (h : Qu w F qb room bs Qs) (k : Kp T w w') (hT : ∀ b, F b → ¬ T b) : Qu w' F qb room bs Qs := by
  obtain ⟨v1, v2, ps, Fs, rfl, hm⟩ := h
  exact ⟨v1, v2, ps, Fs, rfl, hm.kp k hT⟩
theorem Qu.old {w w' : World} {F : Nat → Prop} {qb room : Nat} {bs : List Nat} {Qs : List (List It)} (h : Qu w F qb room bs Qs) (k : Kp none' w w') : Qu w' F qb room bs Qs := h.kp k (fun _ _ x => x)
theorem Qu.lt {w : World} {F : Nat → Prop} {qb room : Nat} {bs : List Nat} {Qs : List (List It)} (h : Qu w F qb room bs Qs) {b : Nat} (hb : F b) : b < w.heap.size := by
  obtain ⟨v1, v2, ps, Fs, rfl, hm⟩ := h
  rcases hb with rfl | hb | hb | ⟨i, hi, hb⟩
  · exact hm.top.lt
  · exact (own_block hm.prow hb).2
  · exact (own_block hm.brow hb).2
  · exact (hm.rings i _ _ (List.getElem?_eq_getElem hi) (List.getElem?_eq_getElem (by rw [← hm.plen]; exact hi))).lt hb
theorem rgLenR {w : World} {F : Nat → Prop} {rb room : Nat} {Q : List It} (h : Rg w F rb room Q) : Calls Tryz.prog 233 #[.pointer (some ⟨rb, 0, none⟩)] w fun e w' => e = .returned (.int .i64 Q.length) ∧ w = w' := by
  obtain ⟨v, S, fr, n, rfl, hm, ok, hroom⟩ := h
  rw [ok.len]; exact rgLen hm
def fstP (ps : List Nat) (Qs : List (List It)) : Option Addr := match fstQ Qs with | some i => some ⟨ps.getD i 0, 0, none⟩ | none => none
set_option maxRecDepth 100000 in
set_option maxHeartbeats 2000000 in
theorem qFirst {w : World} {qb room : Nat} {bs : List Nat} {Qs : List (List It)} {v1 v2 : Value} {ps : List Nat} {Fs : Nat → Nat → Prop} (h : QuM w qb room bs Qs v1 v2 ps Fs) :
    Calls Tryz.prog 229 #[.pointer (some ⟨qb, 0, none⟩)] w fun e w' => e = .returned (.pointer (fstP ps Qs)) ∧ w = w' := by
  have c0 := h.top.cell 0 rfl
  obtain ⟨g, cap, rfl, _⟩ := own_shape1 h.prow (by rw [h.plen]; have := h.few; omega)
  have hpl : ps.length ≤ 32 := by rw [h.plen]; exact h.few.2
  have HM := Lib.hid h
  obtain ⟨R, hR⟩ : ∃ R, fstP ps Qs = R := ⟨_, rfl⟩
  rw [hR]
  have HR := Lib.hid hR
  clear h hR
  go_enter Tryz.func229, Tryz.ntmps229
  go_wp2_with fail
  go_loop [12] (fun i0 => ∃ i : Nat, i0 = .int .i64 i ∧ i ≤ ps.length ∧ Hid (∀ j, j < i → Qs[j]? = some [])) (fun i0 => ps.length - (intOf i0).toNat)
  case atStart => exact ⟨0, rfl, Nat.zero_le _, fun j hj => by omega⟩
  case round =>
    obtain ⟨i, rfl, hi, hr⟩ := hrel
    by_cases hlt : i < ps.length
    · have hii : (i : Int) < ps.length := by omega
      have hQl : i < Qs.length := by rw [← HM.out.plen]; exact hlt
      have cp : w.cell? ⟨g, i, none⟩ = some (.pointer (some ⟨ps[i], 0, none⟩)) := own_cell HM.out.prow i (by rw [List.getElem?_map, List.getElem?_eq_getElem hlt]; rfl)
      have HL := Lib.hid (rgLenR (HM.out.rings i _ _ (List.getElem?_eq_getElem hlt) (List.getElem?_eq_getElem hQl)))
      obtain ⟨Q, hQ⟩ : ∃ Q, Qs[i] = Q := ⟨_, rfl⟩
      have hQ? : Qs[i]? = some Q := by rw [List.getElem?_eq_getElem hQl, hQ]
      have hpd : ps.getD i 0 = ps[i] := by rw [List.getD_eq_getElem?_getD, List.getElem?_eq_getElem hlt]; rfl
      rw [hQ] at HL
      obtain ⟨p, hp⟩ : ∃ p, ps[i] = p := ⟨_, rfl⟩
      rw [hp] at cp HL hpd
      clear hQ hp hQl
      cases Q with
      | nil =>
        have HN : Hid (∀ j, j < i + 1 → Qs[j]? = some []) := Lib.hid (fun j hj => by
          by_cases e : j = i
          · subst e; exact hQ?
          · exact hr.out j (by omega))
        simp only [List.length_nil] at HL
        clear hQ? hpd
        go_wp2_with fail
        refine HL.out.mono ?_
        rintro e w1 ⟨rfl, rfl⟩
        go_wp2_with fail
        go_round
        case rel => exact ⟨i + 1, by go_num, by omega, HN.out⟩
        case measure => simp [intOf]; omega
      | cons q Q =>
        have HF : Hid (R = some ⟨p, 0, none⟩) := Lib.hid (by
          rw [← HR.out]; unfold fstP; rw [fstQ_at hQ? hr.out]; simp only; rw [hpd])
        obtain ⟨m, hm⟩ : ∃ m, (q :: Q).length = m := ⟨_, rfl⟩
        have hm0 : (0 : Int) < m := by have : m = Q.length + 1 := by rw [← hm]; rfl
                                       omega
        rw [hm] at HL
        clear hQ? hpd hm
        go_wp2_with fail
        refine HL.out.mono ?_
        rintro e w1 ⟨rfl, rfl⟩
        go_wp2_with fail
        go_ret
        exact ⟨by rw [HF.out]; rfl, rfl⟩
    · have hie : i = ps.length := by omega
      have HF : Hid (R = none) := Lib.hid (by
        rw [← HR.out]; unfold fstP
        cases e : fstQ Qs with
        | none => rfl
        | some k =>
          obtain ⟨q, Q, h3, h4⟩ := fstQ_some e
          have hk : k < Qs.length := (List.getElem?_eq_some_iff.1 h3).1
          rw [hr.out k (by rw [hie, HM.out.plen]; exact hk)] at h3; cases h3)
      subst hie
      go_wp2_with fail
      go_ret
      exact ⟨by rw [HF.out]; rfl, rfl⟩
end Go.Proofs.YtfckgddodjmbdaaGreatDoor
