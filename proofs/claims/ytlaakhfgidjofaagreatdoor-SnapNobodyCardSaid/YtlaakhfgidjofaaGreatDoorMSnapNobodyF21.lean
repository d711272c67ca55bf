/- Ranks (layer 16): New, Next, Sent. -/
import Derived.Test.YtlaakhfgidjofaaGreatDoorMSnapNobodyF20
import Derived.Test.YtlaakhfgidjofaaGreatDoorMSnapNobodyF2
namespace Go.Proofs.YtlaakhfgidjofaaGreatDoor
set_option linter.unusedVariables false
set_option linter.unusedSimpArgs false
open Go Go.RowKit Go.Shelf
structure Rk where
  kind : Int
  fl : List FlR
  tags : List Nat
  virt : Nat
def tagF (kind : Int) (f : FlR) : Nat := if kind = 3 then f.size else 0
structure Rk.Ok (r : Rk) : Prop where
  kind : 1 ≤ r.kind ∧ r.kind ≤ 3
  len : r.tags.length = r.fl.length
  few : 1 ≤ r.fl.length ∧ r.fl.length ≤ 64
  fok : ∀ f ∈ r.fl, f.ok
  tok : ∀ t ∈ r.tags, t < 18446744073709551616
  vok : r.virt < 18446744073709551616
def eN8 (n : Nat) : Value := .int .u64 n
def RMem (w : World) (F : Nat → Prop) (rb : Nat) (r : Rk) : Prop := ∃ v1 v2, F = (fun b => b = rb ∨ v1.ownBlock = some b ∨ v2.ownBlock = some b) ∧ Blk w rb [.int .i64 r.kind, v1, v2, .int .u64 r.virt] 199 ∧
  w.ownsRow 0 85 5 v1 r.fl.length (r.fl.flatMap enFl) ∧ w.ownsRow 0 22 1 v2 r.tags.length (r.tags.map eN8) ∧ r.Ok
theorem RMem.kp {T : Nat → Prop} {w w' : World} {F : Nat → Prop} {rb : Nat} {r : Rk} (h : RMem w F rb r) (k : Kp T w w') (hT : ∀ b, F b → ¬ T b) : RMem w' F rb r := by
  obtain ⟨v1, v2, rfl, hb, h1, h2, ok⟩ := h
  exact ⟨v1, v2, rfl, hb.kp k (hT _ (.inl rfl)), own_kp h1 k (fun b hb => hT b (.inr (.inl hb))), own_kp h2 k (fun b hb => hT b (.inr (.inr hb))), ok⟩
theorem RMem.old {w w' : World} {F : Nat → Prop} {rb : Nat} {r : Rk} (h : RMem w F rb r) (k : Kp none' w w') : RMem w' F rb r := h.kp k (fun _ _ x => x)
theorem RMem.lt {w : World} {F : Nat → Prop} {rb : Nat} {r : Rk} (h : RMem w F rb r) {b : Nat} (hb : F b) : b < w.heap.size := by
  obtain ⟨v1, v2, rfl, hb', h1, h2, ok⟩ := h
  rcases hb with rfl | hb | hb
  · exact hb'.lt
  · exact (own_block h1 hb).2
  · exact (own_block h2 hb).2
theorem RMem.ok {w : World} {F : Nat → Prop} {rb : Nat} {r : Rk} (h : RMem w F rb r) : r.Ok := by
  obtain ⟨_, _, _, _, _, _, ok⟩ := h; exact ok
structure NwJ (w wr : World) (rb : Nat) (kind : Int) (l : List FlR) (fv v2 : Value) (k : Nat) : Prop where
  blk : Blk wr rb [.int .i64 kind, fv, v2, .int .u64 0] 199
  fls : wr.ownsRow w.heap.size 85 5 fv l.length (l.flatMap enFl)
  own : wr.ownsRow w.heap.size 22 1 v2 k (((l.take k).map (tagF kind)).map eN8)
  kp : Kp none' w wr
set_option maxRecDepth 100000 in
set_option maxHeartbeats 4000000 in
theorem kNew (kind : Int) (hk : 1 ≤ kind ∧ kind ≤ 3) (l : List FlR) (v : Value) (w : World) (h : Sl w v l.length 5 (l.flatMap enFl)) (hfe : flowsE l = 0) (hfok : ∀ f ∈ l, f.ok) : Calls Tryz.prog 37 #[.int .i64 kind, v] w fun e w' => ∃ F rb, e = .returned (.tuple #[.pointer (some ⟨rb, 0, none⟩), .int .i64 0]) ∧ RMem w' F rb ⟨kind, l, l.map (tagF kind), 0⟩ ∧ (∀ b, F b → w.heap.size ≤ b) ∧ Kp none' w w' := by
  obtain ⟨ao, cap, rfl⟩ : ∃ ao cap, v = .slice ao l.length cap := by obtain ⟨ao, cap, rfl, _⟩ := h.is; exact ⟨_, _, rfl⟩
  have HS := Lib.hid h
  have hlen : 1 ≤ l.length ∧ l.length ≤ 64 ∧ (idsF l).Nodup := by
    unfold flowsE at hfe
    split at hfe
    · omega
    · split at hfe
      · rename_i h1 h2; exact ⟨by omega, by omega, h2⟩
      · omega
  have HFO := Lib.hid hfok
  have hk1 : ¬ kind < 1 := by omega
  have hk3 : ¬ 3 < kind := by omega
  have e1 : ((l.length : Int) == 0) = false := by rw [beq_eq_false_iff_ne]; omega
  have h64i : ¬ (64 : Int) < l.length := by omega
  have HT := Lib.hid (gTwice l hlen.2.1 (.slice ao l.length cap) w h)
  have HCL := Lib.hid (fun W hs => kClone l hlen.2.1 (by omega) (.slice ao l.length cap) W hs)
  have hd : (!decide (idsF l).Nodup) = false := by simp [hlen.2.2]
  rw [hd] at HT
  have hl64 : l.length ≤ 64 := hlen.2.1
  have HL1 := Lib.hid hlen.1
  clear h hfe hfok hlen hd
  have HKK := Lib.hid hk
  clear hk
  go_enter Tryz.func37, Tryz.ntmps37
  go_wp2_with fail
  refine (HT.out).mono ?_
  rintro e w1 ⟨rfl, k1⟩
  have HK1 := Lib.hid k1
  clear k1 HT
  go_wp2_with fail
  refine (HCL.out _ (HS.out.old HK1.out)).mono ?_
  rintro e w2 ⟨fv, rfl, ho2, k2⟩
  obtain ⟨fo, fc, hfv⟩ := own_shape ho2
  subst hfv
  have HK2 := Lib.hid (HK1.out.trans k2)
  have HO2 := Lib.hid (own_base ho2 HK1.out.size)
  clear k2 HCL ho2
  go_wp2_with fail
  have hz2 := HK2.out.size
  have hb3' : Blk (w2.alloc (.cells #[.int .i64 kind, .slice fo l.length fc, .slice none 0 0, .int .u64 0] 199)) w2.heap.size [.int .i64 kind, .slice fo l.length fc, .slice none 0 0, .int .u64 0] 199 := Blk.new w2 [.int .i64 kind, .slice fo l.length fc, .slice none 0 0, .int .u64 0] 199
  have hk3' : Kp none' w (w2.alloc (.cells #[.int .i64 kind, .slice fo l.length fc, .slice none 0 0, .int .u64 0] 199)) := HK2.out.alloc (.cells #[.int .i64 kind, .slice fo l.length fc, .slice none 0 0, .int .u64 0] 199)
  have ho3 := own_kp HO2.out ((Kp.refl none' w2).alloc (.cells #[.int .i64 kind, .slice fo l.length fc, .slice none 0 0, .int .u64 0] 199)) (fun _ _ x => x)
  generalize w2.alloc (.cells #[.int .i64 kind, .slice fo l.length fc, .slice none 0 0, .int .u64 0] 199) = w3 at *
  obtain ⟨rb, hrb⟩ : ∃ rb, w2.heap.size = rb := ⟨_, rfl⟩
  rw [hrb] at hb3' hz2 ⊢
  have HI0 : Hid (NwJ w w3 rb kind l (.slice fo l.length fc) (.slice none 0 0) 0) := ⟨hb3', ho3, ⟨rfl, .inl ⟨rfl, rfl⟩⟩, hk3'⟩
  clear hb3' hk3' ho3 hrb HK2 HO2
  go_loopw [36] (fun i0 wr => ∃ (k : Nat) (v2 : Value), i0 = .int .i64 k ∧ k ≤ l.length ∧ Hid (NwJ w wr rb kind l (.slice fo l.length fc) v2 k)) (fun i0 _ => l.length - (intOf i0).toNat)
  case atStart => exact ⟨0, _, rfl, by omega, HI0.out⟩
  case round =>
    clear HI0
    obtain ⟨k, v2, rfl, hk, hr⟩ := hrel
    by_cases hlt : k < l.length
    · have hki : (k : Int) < l.length := by omega
      obtain ⟨gx, ox, cx, e1, hcx⟩ := (HS.out.old hr.out.kp).at enFl_len (by decide) k hlt
      injection e1 with e1 _ e3
      subst e1 e3
      have HTK : Hid (((l.take (k + 1)).map (tagF kind)).map eN8 = ((l.take k).map (tagF kind)).map eN8 ++ [.int .u64 (tagF kind l[k])]) := by
        show _ = _
        rw [List.take_succ_eq_append_getElem hlt, List.map_append, List.map_append]; rfl
      obtain ⟨f, hf⟩ : ∃ f, l[k] = f := ⟨_, rfl⟩
      rw [hf] at hcx HTK
      have d0 := hcx 0 _ rfl
      have d1 := hcx 1 _ rfl
      have d2 := hcx 2 _ rfl
      have d3 := hcx 3 _ rfl
      have d4 := hcx 4 _ rfl
      simp only [Nat.add_zero] at d0
      have hzr := hr.out.kp.size
      obtain ⟨tg, htg⟩ : ∃ tg, tagF kind f = tg := ⟨_, rfl⟩
      rw [htg] at HTK
      have hba := hr.out.blk.alloc (.cells #[.int .u32 f.id, .int .u64 f.cost, .int .u64 f.budget, .int .u64 f.size, .int .u64 f.cap] 85)
      have c2 := hba.cell 2 rfl
      have hba2 := hba.alloc (.cells #[.int .u64 tg] 22)
      have HBA := Lib.hid hba2
      have hks := ((Kp.refl none' wr).alloc (.cells #[.int .u32 f.id, .int .u64 f.cost, .int .u64 f.budget, .int .u64 f.size, .int .u64 f.cap] 85)).alloc (.cells #[.int .u64 tg] 22)
      have HOA := Lib.hid (own_kp (S := none') hr.out.own hks (fun _ _ x => x))
      have HFA := Lib.hid (own_kp (S := none') hr.out.fls hks (fun _ _ x => x))
      have HKA := Lib.hid (hr.out.kp.trans hks)
      have HNE := Lib.hid (own_ne_blk hr.out.own hr.out.blk (by decide))
      have HNF := Lib.hid (own_ne_own hr.out.fls hr.out.own (by decide))
      clear hcx hf hba hba2 hks
      by_cases h3 : kind = 3
      · have htg3 : f.size = tg := by rw [← htg]; unfold tagF; rw [if_pos h3]
        have h3' : (kind == 3) = true := by rw [beq_iff_eq]; exact h3
        rw [← htg3] at HTK HBA HOA HFA HKA
        clear htg htg3 h3
        go_wp2_with (first
          | (refine wp_app1 tU64 (.tmp 48) (.tmp 50) rfl rfl w.heap.size (v := v2) HOA.out [.int .u64 f.size] rfl rfl rfl (fr := (0, 0)) (heap_newC _ _ (by simp)) rfl (by omega) (by omega) (by simp; omega) ?_; intro g8 cap8 w8 hown8 hgrow8
             have hk8 := HKA.out.grown hgrow8 (fun b hb => .inr (own_block HOA.out hb).1)
             have hb8 := HBA.out.grown hgrow8 (fun e => HNE.out e.symm)
             have hf8 := own_grownF HFA.out hgrow8 (fun b hb e => HNF.out b hb e)
             have x2 := hb8.cell 2 rfl
             have z2 := hb8.fz 2
             have HK8 := Lib.hid hk8; have HB8 := Lib.hid hb8; have HO8 := Lib.hid hown8; have HF8 := Lib.hid hf8
             clear hown8 hgrow8 hk8 hb8 hf8))
        have hown9 := own_setNe HO8.out (a := ⟨rb, 2, none⟩) (fun b hb e => own_ne_blk HO8.out HB8.out (by decide) (by rw [hb]; exact congrArg some e)) (.slice (some ⟨g8, 0, none⟩) (k + 1) cap8)
        have hfls9 := own_setNe HF8.out (a := ⟨rb, 2, none⟩) (fun b hb e => own_ne_blk HF8.out HB8.out (by decide) (by rw [hb]; exact congrArg some e)) (.slice (some ⟨g8, 0, none⟩) (k + 1) cap8)
        have hr9 : NwJ w (w8.setCell ⟨rb, 2, none⟩ (.slice (some ⟨g8, 0, none⟩) (k + 1) cap8)) rb kind l (.slice fo l.length fc) (.slice (some ⟨g8, 0, none⟩) (k + 1) cap8) (k + 1) :=
          ⟨HB8.out.set 2 _, hfls9, by rw [HTK.out]; exact hown9, HK8.out.set (p := ⟨rb, 2, none⟩) (.inr hz2) _⟩
        have HR9 := Lib.hid hr9
        clear hown9 hr9 hfls9
        go_roundw
        case rel => exact ⟨k + 1, _, by go_num, by omega, HR9.out⟩
        case measure => simp [intOf]; omega
      · have htg3 : 0 = tg := by rw [← htg]; unfold tagF; rw [if_neg h3]
        have h3' : (kind == 3) = false := by rw [beq_eq_false_iff_ne]; exact h3
        subst htg3
        clear htg h3
        go_wp2_with (first
          | (refine wp_app1 tU64 (.tmp 48) (.tmp 50) rfl rfl w.heap.size (v := v2) HOA.out [.int .u64 0] rfl rfl rfl (fr := (0, 0)) (heap_newC _ _ (by simp)) rfl (by omega) (by omega) (by simp; omega) ?_; intro g8 cap8 w8 hown8 hgrow8
             have hk8 := HKA.out.grown hgrow8 (fun b hb => .inr (own_block HOA.out hb).1)
             have hb8 := HBA.out.grown hgrow8 (fun e => HNE.out e.symm)
             have hf8 := own_grownF HFA.out hgrow8 (fun b hb e => HNF.out b hb e)
             have x2 := hb8.cell 2 rfl
             have z2 := hb8.fz 2
             have HK8 := Lib.hid hk8; have HB8 := Lib.hid hb8; have HO8 := Lib.hid hown8; have HF8 := Lib.hid hf8
             clear hown8 hgrow8 hk8 hb8 hf8))
        have hown9 := own_setNe HO8.out (a := ⟨rb, 2, none⟩) (fun b hb e => own_ne_blk HO8.out HB8.out (by decide) (by rw [hb]; exact congrArg some e)) (.slice (some ⟨g8, 0, none⟩) (k + 1) cap8)
        have hfls9 := own_setNe HF8.out (a := ⟨rb, 2, none⟩) (fun b hb e => own_ne_blk HF8.out HB8.out (by decide) (by rw [hb]; exact congrArg some e)) (.slice (some ⟨g8, 0, none⟩) (k + 1) cap8)
        have hr9 : NwJ w (w8.setCell ⟨rb, 2, none⟩ (.slice (some ⟨g8, 0, none⟩) (k + 1) cap8)) rb kind l (.slice fo l.length fc) (.slice (some ⟨g8, 0, none⟩) (k + 1) cap8) (k + 1) :=
          ⟨HB8.out.set 2 _, hfls9, by rw [HTK.out]; exact hown9, HK8.out.set (p := ⟨rb, 2, none⟩) (.inr hz2) _⟩
        have HR9 := Lib.hid hr9
        clear hown9 hr9 hfls9
        go_roundw
        case rel => exact ⟨k + 1, _, by go_num, by omega, HR9.out⟩
        case measure => simp [intOf]; omega
    · have hke : k = l.length := by omega
      subst hke
      go_wp2
      go_ret2
      have hfin := hr.out
      refine ⟨_, rb, rfl, ⟨.slice fo l.length fc, v2, rfl, hfin.blk, own_base hfin.fls (Nat.zero_le _), ?_, ⟨HKK.out, by simp, ⟨HL1.out, hl64⟩, HFO.out, fun t ht => ?_, by show 0 < _; omega⟩⟩, fun b hb => ?_, hfin.kp⟩
      · have := own_base hfin.own (Nat.zero_le _)
        rw [List.take_length] at this
        simpa using this
      · obtain ⟨f, hf, rfl⟩ := List.mem_map.1 ht
        have := HFO.out f hf
        unfold tagF; split
        · exact this.size
        · omega
      · rcases hb with rfl | hb | hb
        · exact hz2
        · exact (own_block hfin.fls hb).1
        · exact (own_block hfin.own hb).1

def pR (p : Nat) : Value := .pointer (some ⟨p, 0, none⟩)
structure QuM (w : World) (qb room : Nat) (bs : List Nat) (Qs : List (List It)) (v1 v2 : Value) (ps : List Nat) (Fs : Nat → Nat → Prop) : Prop where
  top : Blk w qb [v1, v2, .int .i64 room, .int .i64 (totQ Qs)] 237
  prow : w.ownsRow 0 260 1 v1 ps.length (ps.map pR)
  brow : w.ownsRow 0 22 1 v2 bs.length (bs.map eN8)
  plen : ps.length = Qs.length
  blen : bs.length = Qs.length
  few : 1 ≤ Qs.length ∧ Qs.length ≤ 32
  tot : totQ Qs ≤ room ∧ room ≤ 4096
  up : Upw bs
  bok : ∀ b ∈ bs, b < 18446744073709551616
  rings : ∀ i p Q, ps[i]? = some p → Qs[i]? = some Q → Rg w (Fs i) p room Q
  apart : ∀ i j b, i < ps.length → j < ps.length → i ≠ j → Fs i b → ¬ Fs j b
def QuF (qb : Nat) (v1 v2 : Value) (ps : List Nat) (Fs : Nat → Nat → Prop) : Nat → Prop := fun b => b = qb ∨ v1.ownBlock = some b ∨ v2.ownBlock = some b ∨ ∃ i, i < ps.length ∧ Fs i b
def Qu (w : World) (F : Nat → Prop) (qb room : Nat) (bs : List Nat) (Qs : List (List It)) : Prop := ∃ (v1 v2 : Value) (ps : List Nat) (Fs : Nat → Nat → Prop), F = QuF qb v1 v2 ps Fs ∧ QuM w qb room bs Qs v1 v2 ps Fs
theorem QuM.kp {T : Nat → Prop} {w w' : World} {qb room : Nat} {bs : List Nat} {Qs : List (List It)} {v1 v2 : Value} {ps : List Nat} {Fs : Nat → Nat → Prop} (h : QuM w qb room bs Qs v1 v2 ps Fs) (k : Kp T w w') (hT : ∀ b, QuF qb v1 v2 ps Fs b → ¬ T b) : QuM w' qb room bs Qs v1 v2 ps Fs :=
  { h with top := h.top.kp k (hT _ (.inl rfl)), prow := own_kp h.prow k (fun b hb => hT b (.inr (.inl hb))), brow := own_kp h.brow k (fun b hb => hT b (.inr (.inr (.inl hb)))), rings := fun i p Q hp hQ => (h.rings i p Q hp hQ).kp k (fun b hb => hT b (.inr (.inr (.inr ⟨i, (List.getElem?_eq_some_iff.1 hp).1, hb⟩)))) }
theorem QuM.old {w w' : World} {qb room : Nat} {bs : List Nat} {Qs : List (List It)} {v1 v2 : Value} {ps : List Nat} {Fs : Nat → Nat → Prop} (h : QuM w qb room bs Qs v1 v2 ps Fs) (k : Kp none' w w') : QuM w' qb room bs Qs v1 v2 ps Fs := h.kp k (fun _ _ x => x)
theorem Qu.kp {T : Nat → Prop} {w w' : World} {F : Nat → Prop} {qb room : Nat} {bs : List Nat} {Qs : List (List It)} (h : Qu w F qb room bs Qs) (k : Kp T w w') (hT : ∀ b, F b → ¬ T b) : Qu w' F qb room bs Qs := by
  obtain ⟨v1, v2, ps, Fs, rfl, hm⟩ := h
  exact ⟨v1, v2, ps, Fs, rfl, hm.kp k hT⟩
theorem Qu.old {w w' : World} {F : Nat → Prop} {qb room : Nat} {bs : List Nat} {Qs : List (List It)} (h : Qu w F qb room bs Qs) (k : Kp none' w w') : Qu w' F qb room bs Qs := h.kp k (fun _ _ x => x)
theorem Qu.lt {w : World} {F : Nat → Prop} {qb room : Nat} {bs : List Nat} {Qs : List (List It)} (h : Qu w F qb room bs Qs) {b : Nat} (hb : F b) : b < w.heap.size := by
  obtain ⟨v1, v2, ps, Fs, rfl, hm⟩ := h
  rcases hb with rfl | hb | hb | ⟨i, hi, hb⟩
  · exact hm.top.lt
  · exact (own_block hm.prow hb).2
  · exact (own_block hm.brow hb).2
  · exact (hm.rings i _ _ (List.getElem?_eq_getElem hi) (List.getElem?_eq_getElem (by rw [← hm.plen]; exact hi))).lt hb

theorem Rg.ty {w : World} {F : Nat → Prop} {rb room : Nat} {Q : List It} (h : Rg w F rb room Q) {b : Nat} (hb : F b) : ∃ cs t, w.heap[b]? = some (.cells cs t (0, 0)) ∧ (t = 294 ∨ t = 173) := by
  obtain ⟨v, S, fr, n, rfl, hm, ok, h4⟩ := h
  rcases hb with rfl | hb
  · exact ⟨_, _, hm.top.is, .inl rfl⟩
  · obtain ⟨cur, hc⟩ := own_type hm.row hb
    exact ⟨_, _, hc, .inr rfl⟩
theorem Rg.ne {w : World} {F : Nat → Prop} {rb room : Nat} {Q : List It} (h : Rg w F rb room Q) {b : Nat} {cs : List Value} {t : TypeId} (hb : Blk w b cs t) (h1 : t ≠ 294) (h2 : t ≠ 173) : ¬ F b := fun hf => by
  obtain ⟨cs', t', h3, h4⟩ := h.ty hf
  have := hb.is.symm.trans h3
  simp only [Option.some.injEq, Obj.cells.injEq] at this
  rcases h4 with h4 | h4
  · exact h1 (this.2.1.trans h4)
  · exact h2 (this.2.1.trans h4)
theorem Rg.neO {w : World} {F : Nat → Prop} {rb room : Nat} {Q : List It} (h : Rg w F rb room Q) {base size n : Nat} {e : TypeId} {v : Value} {xs : List Value} (ho : w.ownsRow base e size v n xs) (h1 : e ≠ 294) (h2 : e ≠ 173) : ∀ b, v.ownBlock = some b → ¬ F b := fun b hb hf => by
  obtain ⟨cs', t', h3, h4⟩ := h.ty hf
  obtain ⟨cur, h5⟩ := own_type ho hb
  have := h5.symm.trans h3
  simp only [Option.some.injEq, Obj.cells.injEq] at this
  rcases h4 with h4 | h4
  · exact h1 (this.2.1.trans h4)
  · exact h2 (this.2.1.trans h4)

structure Em (w wr : World) (v : Value) (ps : List Nat) (room k : Nat) : Prop where
  row : wr.ownsRow w.heap.size 260 1 v k (ps.map pR)
  len : ps.length = k
  rings : ∀ (i p : Nat), ps[i]? = some p → Blk wr p [.slice none 0 0, .int .i64 0, .int .i64 0, .int .i64 room] 294 ∧ w.heap.size ≤ p
  inj : ∀ (i j p : Nat), ps[i]? = some p → ps[j]? = some p → i = j
  kp : Kp none' w wr
theorem Em.step {w wr w1 W w8 : World} {v v8 : Value} {ps : List Nat} {room k rb : Nat} (h : Em w wr v ps room k) (hk1 : Kp none' wr w1) (hb : Blk w1 rb [.slice none 0 0, .int .i64 0, .int .i64 0, .int .i64 room] 294) (hr : wr.heap.size ≤ rb)
    (hkW : Kp none' w1 W) (ho : w8.ownsRow w.heap.size 260 1 v8 (k + 1) (ps.map pR ++ [pR rb])) (hg : W.grownBy w8 v.ownBlock) : Em w w8 v8 (ps ++ [rb]) room (k + 1) := by
  have hO : W.ownsRow w.heap.size 260 1 v k (ps.map pR) := own_kp (own_kp h.row hk1 (fun _ _ x => x)) hkW (fun _ _ x => x)
  have hB : ∀ p, Blk W p [.slice none 0 0, .int .i64 0, .int .i64 0, .int .i64 room] 294 → Blk w8 p [.slice none 0 0, .int .i64 0, .int .i64 0, .int .i64 room] 294 := fun p hp => hp.grown hg (fun e => own_ne_blk hO hp (by decide) e.symm)
  have hlt : ∀ (i p : Nat), ps[i]? = some p → p < wr.heap.size := fun i p hp => (h.rings i p hp).1.lt
  have hcase : ∀ (i p : Nat), (ps ++ [rb])[i]? = some p → ps[i]? = some p ∨ (i = ps.length ∧ p = rb) := fun i p hp => by
    by_cases hi : i < ps.length
    · rw [List.getElem?_append_left hi] at hp; exact .inl hp
    · rw [List.getElem?_append_right (by omega)] at hp
      obtain ⟨h1, h2⟩ := List.getElem?_eq_some_iff.1 hp
      simp only [List.length_cons, List.length_nil] at h1
      have h0 : i - ps.length = 0 := by omega
      simp only [h0, List.getElem_cons_zero] at h2
      exact .inr ⟨by omega, h2.symm⟩
  refine ⟨by rw [List.map_append]; exact ho, by rw [List.length_append, h.len]; rfl, fun i p hp => ?_, fun i j p hi hj => ?_, ((h.kp.trans hk1).trans hkW).grown hg (fun b hb => .inr (own_block hO hb).1)⟩
  · rcases hcase i p hp with h1 | ⟨_, rfl⟩
    · exact ⟨hB p (((h.rings i p h1).1.kp hk1 (fun x => x)).kp hkW (fun x => x)), (h.rings i p h1).2⟩
    · exact ⟨hB _ (hb.kp hkW (fun x => x)), by have := h.kp.size; omega⟩
  · rcases hcase i p hi with h1 | ⟨h1, h2⟩ <;> rcases hcase j p hj with h3 | ⟨h3, h4⟩
    · exact h.inj i j p h1 h3
    · have := hlt i p h1; omega
    · have := hlt j p h3; omega
    · omega

theorem calls_post {P : Program} {f : Nat} {a : Array Value} {w : World} {Q : Ending → World → Prop} (h : ∀ PP : Ending → World → Prop, Hid (∀ e w', Q e w' → PP e w') → Calls P f a w PP) : Calls P f a w Q := h Q (Lib.hid fun _ _ h => h)






inductive BkS
  | hp (n : Nat) (S : List (En Pk))
  | qu (bs : List Nat) (Qs : List (List It))
def itE (e : En Pk) : It := ⟨e.rank, e.x⟩
def bkItems : BkS → List It
  | .hp _ S => S.map itE
  | .qu _ Qs => Qs.flatten
def bkWf : BkS → Prop
  | .hp _ _ => True
  | .qu bs Qs => bs.length = Qs.length ∧ 1 ≤ bs.length

def hpV (b : Nat) : Value := .iface 178 (.agg #[.pointer (some ⟨b, 0, none⟩)])
def quV (b : Nat) : Value := .iface 167 (.agg #[.pointer (some ⟨b, 0, none⟩)])
set_option maxRecDepth 100000 in
set_option maxHeartbeats 1000000 in
theorem madeH (c : CfR) (v : Value) (w : World) (hb : c.back = 1) (h1 : 1 ≤ c.packets) (h2 : c.packets ≤ 4096) :
    Calls Tryz.prog 35 #[.agg (enC c v).toArray] w fun e w' => ∃ b F, e = .returned (hpV b) ∧ Hp w' F b c.packets.toNat 0 [] ∧ (∀ b, F b → w.heap.size ≤ b) ∧ Kp none' w w' := by
  obtain ⟨rk, bk, lv, qu, pk, bt, sh, mt, rt, bu, fl⟩ := c
  simp only at hb h1 h2
  subst hb
  obtain ⟨p, rfl⟩ : ∃ p : Nat, pk = p := ⟨pk.toNat, by omega⟩
  have HN := Lib.hid (fun W => hpNew p (by omega) (by omega) W)
  have HB0 := Lib.hid (Blk.new w [.int .i64 rk, .int .i64 1, .int .i64 lv, .int .i64 qu, .int .i64 p, .int .u64 bt, .int .i64 sh, .int .u64 mt, .int .u64 rt, .int .u64 bu, v] 25)
  have HK0 := Lib.hid ((Kp.refl none' w).alloc (.cells #[.int .i64 rk, .int .i64 1, .int .i64 lv, .int .i64 qu, .int .i64 p, .int .u64 bt, .int .i64 sh, .int .u64 mt, .int .u64 rt, .int .u64 bu, v] 25))
  refine calls_post ?_
  intro PP HP
  simp only [enC] at *
  go_enter Tryz.func35, Tryz.ntmps35
  go_wp2_with fail
  refine (HN.out _).mono ?_
  rintro e w2 ⟨b, F, rfl, hp, hF, hk⟩
  have HH := Lib.hid hp
  have HF := Lib.hid hF
  have HK := Lib.hid (HK0.out.trans hk)
  clear hp hF hk
  go_wp2_with fail
  exact HP.out _ _ ⟨b, F, rfl, by simpa using HH.out, fun x hx => by have := HF.out x hx; have := HK0.out.size; omega, HK.out⟩
end Go.Proofs.YtlaakhfgidjofaaGreatDoor
