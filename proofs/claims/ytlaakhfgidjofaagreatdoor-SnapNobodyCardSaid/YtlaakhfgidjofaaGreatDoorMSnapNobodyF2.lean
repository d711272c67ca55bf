/- Texts as lists of bytes. Names no function of the program. -/
import Derived.Test.YtlaakhfgidjofaaGreatDoorMSnapNobodyF0
import Derived.Lib.Strings
import Derived.Test.YtlaakhfgidjofaaGreatDoorProg
import Derived.BigQuiet
import Derived.Deep.QuietTactic
import Derived.Test.YtlaakhfgidjofaaGreatDoorMSnapNobodyF1
import Derived.Test.YtlaakhfgidjofaaGreatDoorShelf
namespace Go.Proofs.YtlaakhfgidjofaaGreatDoor
set_option linter.unusedVariables false
set_option linter.unusedSimpArgs false
open Go.RowKit
def bl (s : ByteArray) : List UInt8 := s.data.toList
theorem bl_len (s : ByteArray) : (bl s).length = s.size := by simp [bl]
theorem bl_get (s : ByteArray) (k : Nat) (h : k < s.size) : (bl s)[k]'(by rw [bl_len]; exact h) = s[k] := rfl
theorem head_get (s : ByteArray) (h : 0 < s.size) : (bl s).head? = some s[0] := by
  rw [List.head?_eq_getElem?, List.getElem?_eq_getElem (by rw [bl_len]; exact h), bl_get s 0 h]
theorem str_ext {a b : ByteArray} (h : bl a = bl b) : a = b := by
  cases a; cases b; simp [bl] at h; rw [h]
def tx (l : List UInt8) : ByteArray := ⟨l.toArray⟩
theorem bl_tx (l : List UInt8) : bl (tx l) = l := by simp [bl, tx]
theorem tx_bl (s : ByteArray) : tx (bl s) = s := str_ext (bl_tx _)
theorem tx_size (l : List UInt8) : (tx l).size = l.length := by rw [← bl_len, bl_tx]
theorem bl_cut (s : ByteArray) (a b : Nat) : bl (s.extract a b) = ((bl s).drop a).take (b - a) := Lib.extract_data s a b
theorem bl_nil (s : ByteArray) : s.toList.isEmpty = (bl s).isEmpty := by rw [Lib.toList_data]; rfl
theorem str_beq {a b : ByteArray} (h : a = b) : (a.toList == b.toList) = true := by rw [h]; simp
theorem str_bne {a b : ByteArray} (h : a ≠ b) : (a.toList == b.toList) = false := by
  rw [beq_eq_false_iff_ne, Lib.toList_data, Lib.toList_data]
  exact fun e => h (str_ext e)
theorem dropLast_take (l : List UInt8) : (l.drop 0).take (l.length - 1) = l.dropLast := by simp [List.dropLast_eq_take]
theorem last_get (l : List UInt8) (h : 0 < l.length) : l.getLast? = some (l[l.length - 1]'(by omega)) := by
  rw [List.getLast?_eq_getElem?, List.getElem?_eq_getElem]

def strs (l : List ByteArray) : List Value := l.map Value.string
theorem tStr : SlT Tryz.prog 111 9 (.string ByteArray.empty) 1 16 := ⟨Tryz.underlying111, by kernel_rfl, rfl, by decide⟩
end Go.Proofs.YtlaakhfgidjofaaGreatDoor

namespace Go.Proofs.YtlaakhfgidjofaaGreatDoor
set_option linter.unusedVariables false
set_option linter.unusedSimpArgs false
end Go.Proofs.YtlaakhfgidjofaaGreatDoor

namespace Go.Proofs.YtlaakhfgidjofaaGreatDoor
set_option linter.unusedVariables false
set_option linter.unusedSimpArgs false
open Go Go.RowKit Go.Shelf
def eU (x : Nat) : Value := .int .u32 x
theorem tU32 : SlT Tryz.prog 256 69 (.int .u32 0) 1 4 := ⟨Tryz.underlying256, by kernel_rfl, rfl, by decide⟩
theorem tFlw : SlT Tryz.prog 23 85 (.agg #[.int .u32 0, .int .u64 0, .int .u64 0, .int .u64 0, .int .u64 0]) 5 40 := ⟨Tryz.underlying23, by kernel_rfl, rfl, by decide⟩
theorem tU64 : SlT Tryz.prog 27 22 (.int .u64 0) 1 8 := ⟨Tryz.underlying27, by kernel_rfl, rfl, by decide⟩
theorem eU_get {xs : List Nat} {i : Nat} (h : i < xs.length) : (xs.map eU)[i]? = some (.int .u32 (xs[i] : Int)) := by
  rw [List.getElem?_map, List.getElem?_eq_getElem h]; rfl
set_option maxHeartbeats 2000000 in
theorem gIndex (xs : List Nat) (x : Nat) (v : Value) (w : World) (h : Sl w v xs.length 1 (xs.map eU)) : Calls Tryz.prog 151 #[v, .int .u32 x] w fun e w' => (∃ r : Int, e = .returned (.int .i64 r) ∧ (0 ≤ r ↔ x ∈ xs)) ∧ Kp none' w w' := by
  obtain ⟨ao, cap, rfl⟩ : ∃ ao cap, v = .slice ao xs.length cap := by obtain ⟨ao, cap, rfl, _⟩ := h.is; exact ⟨_, _, rfl⟩
  have hmx := h.max
  have HS := Lib.hid h
  clear h
  go_enter Tryz.func151, Tryz.ntmps151
  go_wp2
  go_loopw [8] (fun i0 wr => ∃ k : Nat, i0 = .int .i64 k ∧ k ≤ xs.length ∧ Hid ((∀ (j : Nat) (hj : j < xs.length), j < k → x ≠ xs[j]) ∧ Kp none' w wr)) (fun i0 _ => xs.length - (intOf i0).toNat)
  case atStart => exact ⟨0, rfl, by omega, fun j _ h => by omega, Kp.refl _ _⟩
  case round =>
    obtain ⟨k, rfl, hk, hr⟩ := hrel
    by_cases hlt : k < xs.length
    · have hki : (k : Int) < xs.length := by omega
      obtain ⟨ao', cap', e1, hc⟩ := (HS.out.old hr.out.2).is
      injection e1 with e1 _ e3
      subst e1 e3
      obtain ⟨b, off, rfl, hcell⟩ := hc k _ (eU_get hlt)
      by_cases hx : x = xs[k]
      · have hxi : (x : Int) = (xs[k] : Nat) := by rw [← hx]
        have hxb : ((x : Int) == ((xs[k] : Nat) : Int)) = true := by rw [beq_iff_eq]; exact hxi
        have HX : Hid (x ∈ xs) := by show _ ∈ _; rw [hx]; exact List.getElem_mem hlt
        clear hx hc hxi
        go_wp2
        go_ret
        exact ⟨⟨_, rfl, ⟨fun _ => HX.out, fun _ => by omega⟩⟩, hr.out.2⟩
      · have hxb : ((x : Int) == ((xs[k] : Nat) : Int)) = false := by rw [beq_eq_false_iff_ne]; omega
        have HX := Lib.hid hx
        clear hx hc
        go_wp2
        go_roundw
        case rel => exact ⟨k + 1, by go_num, by omega, fun j hj h => by
          rcases Nat.lt_or_ge j k with h1 | h1
          · exact hr.out.1 j hj h1
          · have : j = k := by omega
            subst this; exact HX.out, hr.out.2⟩
        case measure => simp [intOf]; omega
    · have hke : k = xs.length := by omega
      subst hke
      go_wp2
      go_ret
      refine ⟨⟨_, rfl, ⟨fun h => by omega, fun h => ?_⟩⟩, hr.out.2⟩
      obtain ⟨i, hi, e⟩ := List.mem_iff_getElem.1 h
      exact absurd e.symm (hr.out.1 i hi hi)
set_option maxHeartbeats 2000000 in
theorem gContains (xs : List Nat) (x : Nat) (v : Value) (w : World) (h : Sl w v xs.length 1 (xs.map eU)) : Calls Tryz.prog 128 #[v, .int .u32 x] w fun e w' => e = .returned (.bool (decide (x ∈ xs))) ∧ Kp none' w w' := by
  have HI := Lib.hid (gIndex xs x v w h)
  clear h
  go_enter Tryz.func128, Tryz.ntmps128
  go_wp2_with fail
  refine (HI.out).mono ?_
  rintro e w1 ⟨⟨r, rfl, hr⟩, k1⟩
  have HK := Lib.hid k1
  have hd : decide (0 ≤ r) = decide (x ∈ xs) := by rw [decide_eq_decide]; exact hr
  have HD := Lib.hid hd
  clear hr hd k1 HI
  go_wp2
  go_ret
  exact ⟨by rw [← HD.out]; rfl, HK.out⟩
def idsF (l : List FlR) : List Nat := l.map (·.id)
theorem idsF_snoc (l : List FlR) (k : Nat) (h : k < l.length) : idsF (l.take (k + 1)) = idsF (l.take k) ++ [l[k].id] := by
  unfold idsF; rw [List.take_succ_eq_append_getElem h, List.map_append]; rfl
theorem idsF_len (l : List FlR) (k : Nat) (h : k ≤ l.length) : (idsF (l.take k)).length = k := by unfold idsF; rw [List.length_map, List.length_take]; omega
theorem nodup_snoc {xs : List Nat} {x : Nat} (h : xs.Nodup) (hx : x ∉ xs) : (xs ++ [x]).Nodup := by
  rw [List.nodup_append]
  exact ⟨h, by simp, fun a ha b hb => by simp at hb; subst hb; exact fun e => hx (e ▸ ha)⟩
theorem nodup_not {l : List FlR} {k : Nat} (h : k < l.length) (hx : l[k].id ∈ idsF (l.take k)) : ¬ (idsF l).Nodup := by
  intro hn
  have e : idsF l = idsF (l.take (k + 1)) ++ idsF (l.drop (k + 1)) := by unfold idsF; rw [← List.map_append, List.take_append_drop]
  rw [e, idsF_snoc l k h, List.nodup_append] at hn
  have := (List.nodup_append.1 hn.1).2.2 _ hx l[k].id (by simp)
  exact this rfl
set_option maxRecDepth 100000 in
set_option maxHeartbeats 4000000 in
theorem gTwice (l : List FlR) (hl : l.length ≤ 64) (v : Value) (w : World) (h : Sl w v l.length 5 (l.flatMap enFl)) : Calls Tryz.prog 86 #[v] w fun e w' => e = .returned (.bool (!decide (idsF l).Nodup)) ∧ Kp none' w w' := by
  obtain ⟨ao, cap, rfl⟩ : ∃ ao cap, v = .slice ao l.length cap := by obtain ⟨ao, cap, rfl, _⟩ := h.is; exact ⟨_, _, rfl⟩
  have HS := Lib.hid h
  clear h
  go_enter Tryz.func86, Tryz.ntmps86
  go_wp2
  go_loopw [3, 8] (fun s0 i0 wr => ∃ (k : Nat) (v3 : Value), v3 = s0 ∧ i0 = .int .i64 k ∧ k ≤ l.length ∧ Hid (wr.ownsRow w.heap.size 69 1 v3 k ((idsF (l.take k)).map eU) ∧ (idsF (l.take k)).Nodup ∧ Kp none' w wr)) (fun _ i0 _ => l.length - (intOf i0).toNat)
  case atStart => exact ⟨0, _, rfl, rfl, by omega, ⟨rfl, .inl ⟨rfl, rfl⟩⟩, List.nodup_nil, Kp.refl _ _⟩
  case round =>
    obtain ⟨k, v3, rfl, rfl, hk, hr⟩ := hrel
    by_cases hlt : k < l.length
    · have hki : (k : Int) < l.length := by omega
      obtain ⟨gx, ox, cx, e1, hcx⟩ := (HS.out.old hr.out.2.2).at enFl_len (by decide) k hlt
      injection e1 with e1 _ e3
      subst e1 e3
      obtain ⟨f, hf⟩ : ∃ f, l[k] = f := ⟨_, rfl⟩
      have hsn := idsF_snoc l k hlt
      have HND : Hid (f.id ∈ idsF (l.take k) → ¬ (idsF l).Nodup) := by show _ → _; rw [← hf]; exact nodup_not hlt
      rw [hf] at hcx hsn
      have d0 := hcx 0 _ rfl
      have d1 := hcx 1 _ rfl
      have d2 := hcx 2 _ rfl
      have d3 := hcx 3 _ rfl
      have d4 := hcx 4 _ rfl
      simp only [Nat.add_zero] at d0
      have hil := idsF_len l k (by omega)
      have HSN := Lib.hid hsn; have HIL := Lib.hid hil
      have hzr := hr.out.2.2.size
      clear hcx hf hsn hil
      go_wp2_with fail
      have hk1 := (Kp.refl none' wr).alloc (.cells (enFl f).toArray 85)
      have hb1 := Blk.new wr (enFl f) 85
      have hk1' : Kp none' wr (wr.alloc (.cells #[.int .u32 f.id, .int .u64 f.cost, .int .u64 f.budget, .int .u64 f.size, .int .u64 f.cap] 85)) := hk1
      have hb1' : Blk (wr.alloc (.cells #[.int .u32 f.id, .int .u64 f.cost, .int .u64 f.budget, .int .u64 f.size, .int .u64 f.cap] 85)) wr.heap.size (enFl f) 85 := hb1
      clear hk1 hb1 d0 d1 d2 d3 d4
      generalize wr.alloc (.cells #[.int .u32 f.id, .int .u64 f.cost, .int .u64 f.budget, .int .u64 f.size, .int .u64 f.cap] 85) = w1 at *
      have HK1 := Lib.hid hk1'; have HB1 := Lib.hid hb1'
      have HO1 := Lib.hid (own_kp hr.out.1 hk1' (fun _ _ x => x))
      clear hk1' hb1'
      have HC := Lib.hid (gContains (idsF (l.take k)) f.id v3 w1 (by have := own_sl HO1.out; rw [HIL.out]; exact this))
      refine (HC.out).mono ?_
      rintro e w2 ⟨rfl, k2⟩
      have HK2 := Lib.hid (HK1.out.trans k2); have HB2 := Lib.hid (HB1.out.kp k2 (fun x => x)); have HO2 := Lib.hid (own_kp HO1.out k2 (fun _ _ x => x))
      have hz2 := (hr.out.2.2.trans HK2.out).size
      clear k2 HC HB1 HK1 HO1
      have c0 := HB2.out.cell 0 rfl
      cases hb : decide (f.id ∈ idsF (l.take k)) with
      | true =>
        have HN := Lib.hid (HND.out (of_decide_eq_true hb))
        clear hb
        go_wp2
        go_ret
        exact ⟨by rw [decide_eq_false HN.out]; rfl, hr.out.2.2.trans HK2.out⟩
      | false =>
        have HN := Lib.hid (nodup_snoc hr.out.2.1 (of_decide_eq_false hb))
        clear hb
        go_wp2_with (first
          | (refine wp_app1 tU32 (.tmp 16) (.tmp 19) rfl rfl w.heap.size (v := v3) (HO2.out.alloc _) [.int .u32 f.id] rfl rfl rfl (fr := (0, 0)) (heap_new _ _) rfl (by omega) (by omega) (by simp; omega) ?_; intro g8 cap8 w8 hown8 hgrow8
             have hk8 := ((hr.out.2.2.trans HK2.out).alloc (.cells #[.int .u32 f.id] 69)).grown hgrow8 (fun b hb => .inr (own_block hr.out.1 hb).1)
             have HK8 := Lib.hid hk8
             have HO8 : Hid (w8.ownsRow w.heap.size 69 1 (.slice (some ⟨g8, 0, none⟩) (k + 1) cap8) (k + 1) ((idsF (l.take (k + 1))).map eU)) := by show World.ownsRow _ _ _ _ _ _ _; rw [HSN.out, List.map_append]; exact hown8
             clear hown8 hgrow8 hk8))
        go_roundw
        case rel => exact ⟨k + 1, _, rfl, by go_num, by omega, HO8.out, by rw [HSN.out]; exact HN.out, HK8.out⟩
        case measure => simp [intOf]; omega
    · have hke : k = l.length := by omega
      subst hke
      have HN : Hid ((idsF l).Nodup) := by have := hr.out.2.1; rw [List.take_length] at this; exact this
      go_wp2
      go_ret
      exact ⟨by rw [decide_eq_true HN.out]; rfl, hr.out.2.2⟩

theorem own_zero (w : World) (e : TypeId) (sz : Nat) : (w.alloc (.cells #[] e)).ownsRow w.heap.size e sz (.slice (some ⟨w.heap.size, 0, none⟩) 0 0) 0 [] :=
  ⟨by simp, .inr ⟨w.heap.size, 0, #[], rfl, Nat.le_refl _, heap_new _ _, Nat.le_refl _, by unfold maxLen; omega, by simp, by simp⟩⟩
theorem heap_newC (w : World) (o : Obj) {n : Nat} (h : n = w.heap.size) : (w.alloc o).heap[n]? = some o := by subst h; exact heap_new w o
theorem one_fl (l : List FlR) : (l.flatMap enFl).all (·.oneCell') = true := by
  rw [List.all_eq_true]
  intro v hv
  obtain ⟨r, _, hv⟩ := List.mem_flatMap.1 hv
  simp only [enFl, List.mem_cons, List.not_mem_nil, or_false] at hv
  rcases hv with rfl | rfl | rfl | rfl | rfl <;> rfl
set_option maxHeartbeats 4000000 in
theorem gClone (l : List FlR) (hl : l.length ≤ 64) (v : Value) (w : World) (h : Sl w v l.length 5 (l.flatMap enFl)) : Calls Tryz.prog 87 #[v] w fun e w' => (∃ ao n cap, e = .returned (.slice ao n cap)) ∧ Kp none' w w' := by
  obtain ⟨ao, cap, rfl⟩ : ∃ ao cap, v = .slice ao l.length cap := by obtain ⟨ao, cap, rfl, _⟩ := h.is; exact ⟨_, _, rfl⟩
  have HS := Lib.hid h
  clear h
  have HOF := Lib.hid (one_fl l)
  cases ao with
  | none =>
    have hnil : ∀ W : World, (binOp BinOp.eql 23 (.slice none l.length cap) (.slice none 0 0)).run Tryz.prog W = .ok (.bool true) W := fun _ => by kernel_rfl
    go_enter Tryz.func87, Tryz.ntmps87
    go_wp2
    go_ret
    exact ⟨⟨_, _, _, rfl⟩, Kp.refl _ _⟩
  | some ad =>
    have hnil : ∀ W : World, (binOp BinOp.eql 23 (.slice (some ad) l.length cap) (.slice none 0 0)).run Tryz.prog W = .ok (.bool false) W := fun _ => by kernel_rfl
    have hs2 := HS.out.old ((Kp.refl none' w).alloc (.cells #[] 85))
    have HS2 := Lib.hid hs2
    clear hs2
    go_enter Tryz.func87, Tryz.ntmps87
    go_wp2_with (first
      | (refine wp_appSl tFlw (.tmp 5) (.tmp 6) rfl rfl w.heap.size (own_zero w 85 5) rfl rfl HS2.out HOF.out (by omega) (by omega) (by simp) ?_; intro v8 w8 hown8 hgrow8
         have hk8 := ((Kp.refl none' w).alloc (.cells #[] 85)).grown hgrow8 (fun b hb => .inr (by cases hb; exact Nat.le_refl _))
         obtain ⟨ao8, cap8, rfl⟩ := own_shape hown8
         have HK8 := Lib.hid hk8
         clear hown8 hgrow8 hk8))
    go_ret
    exact ⟨⟨_, _, _, rfl⟩, HK8.out⟩
structure NwI (w wr : World) (rb : Nat) (fv v2 : Value) (k : Nat) : Prop where
  blk : Blk wr rb [.int .i64 2, fv, v2, .int .u64 0] 199
  own : wr.ownsRow w.heap.size 22 1 v2 k (List.replicate k (.int .u64 0))
  kp : Kp none' w wr
set_option maxRecDepth 100000 in
set_option maxHeartbeats 4000000 in
theorem gRank (l : List FlR) (v : Value) (w : World) (h : Sl w v l.length 5 (l.flatMap enFl)) : Calls Tryz.prog 37 #[.int .i64 2, v] w fun e w' => (∃ p, e = .returned (.tuple #[p, .int .i64 (flowsE l)])) ∧ Kp none' w w' := by
  obtain ⟨ao, cap, rfl⟩ : ∃ ao cap, v = .slice ao l.length cap := by obtain ⟨ao, cap, rfl, _⟩ := h.is; exact ⟨_, _, rfl⟩
  have HS := Lib.hid h
  have hmx := h.max
  clear h
  by_cases h0 : l.length = 0
  · have HE : Hid (flowsE l = 29) := by show _ = _; unfold flowsE; rw [if_pos (.inl h0)]
    have e1 : ((l.length : Int) == 0) = true := by rw [beq_iff_eq]; omega
    have e2 : (l.length == 0) = true := by rw [beq_iff_eq]; omega
    rw [h0] at HS ⊢
    clear hmx e1 e2
    go_enter Tryz.func37, Tryz.ntmps37
    go_wp2
    go_ret2
    exact ⟨⟨_, by rw [HE.out]; rfl⟩, Kp.refl _ _⟩
  · have e1 : ((l.length : Int) == 0) = false := by rw [beq_eq_false_iff_ne]; omega
    by_cases h64 : 64 < l.length
    · have HE : Hid (flowsE l = 29) := by show _ = _; unfold flowsE; rw [if_pos (.inr h64)]
      have h64i : (64 : Int) < l.length := by omega
      clear h0
      go_enter Tryz.func37, Tryz.ntmps37
      go_wp2
      go_ret2
      exact ⟨⟨_, by rw [HE.out]; rfl⟩, Kp.refl _ _⟩
    · have h64i : ¬ (64 : Int) < l.length := by omega
      have HE0 : Hid (flowsE l = if (idsF l).Nodup then 0 else 30) := by show _ = _; unfold flowsE; rw [if_neg (by omega)]; rfl
      have HT := Lib.hid (gTwice l (by omega) (.slice ao l.length cap) w HS.out)
      have HCL := Lib.hid (fun W hs => gClone l (by omega) (.slice ao l.length cap) W hs)
      have hl64 : l.length ≤ 64 := by omega
      clear h0 h64
      go_enter Tryz.func37, Tryz.ntmps37
      go_wp2_with fail
      refine (HT.out).mono ?_
      rintro e w1 ⟨rfl, k1⟩
      have HK1 := Lib.hid k1
      clear k1 HT
      by_cases hn : (idsF l).Nodup
      · have HE : Hid (flowsE l = 0) := by show _ = _; rw [HE0.out, if_pos hn]
        have hd : (!decide (idsF l).Nodup) = false := by simp [hn]
        rw [hd]
        clear hd HE0 hn
        go_wp2_with fail
        refine (HCL.out _ (HS.out.old HK1.out)).mono ?_
        rintro e w2 ⟨⟨fo, fn, fc, rfl⟩, k2⟩
        have HK2 := Lib.hid (HK1.out.trans k2)
        clear k2 HCL
        go_wp2_with fail
        have hz2 := HK2.out.size
        have hb3 := Blk.new w2 [.int .i64 2, .slice fo fn fc, .slice none 0 0, .int .u64 0] 199
        have hk3 := HK2.out.alloc (.cells #[.int .i64 2, .slice fo fn fc, .slice none 0 0, .int .u64 0] 199)
        have hk3' : Kp none' w (w2.alloc (.cells #[.int .i64 2, .slice fo fn fc, .slice none 0 0, .int .u64 0] 199)) := hk3
        have hb3' : Blk (w2.alloc (.cells #[.int .i64 2, .slice fo fn fc, .slice none 0 0, .int .u64 0] 199)) w2.heap.size [.int .i64 2, .slice fo fn fc, .slice none 0 0, .int .u64 0] 199 := hb3
        clear hk3 hb3
        generalize w2.alloc (.cells #[.int .i64 2, .slice fo fn fc, .slice none 0 0, .int .u64 0] 199) = w3 at *
        obtain ⟨rb, hrb⟩ : ∃ rb, w2.heap.size = rb := ⟨_, rfl⟩
        rw [hrb] at hb3' hz2 ⊢
        have HI0 : Hid (NwI w w3 rb (.slice fo fn fc) (.slice none 0 0) 0) := ⟨hb3', ⟨rfl, .inl ⟨rfl, rfl⟩⟩, hk3'⟩
        clear hb3' hk3' hrb HK2
        go_loopw [36] (fun i0 wr => ∃ (k : Nat) (v2 : Value), i0 = .int .i64 k ∧ k ≤ l.length ∧ Hid (NwI w wr rb (.slice fo fn fc) v2 k)) (fun i0 _ => l.length - (intOf i0).toNat)
        case atStart => exact ⟨0, _, rfl, by omega, HI0.out⟩
        case round =>
          clear HI0
          obtain ⟨k, v2, rfl, hk, hr⟩ := hrel
          by_cases hlt : k < l.length
          · have hki : (k : Int) < l.length := by omega
            obtain ⟨gx, ox, cx, e1, hcx⟩ := (HS.out.old hr.out.kp).at enFl_len (by decide) k hlt
            injection e1 with e1 _ e3
            subst e1 e3
            obtain ⟨f, hf⟩ : ∃ f, l[k] = f := ⟨_, rfl⟩
            rw [hf] at hcx
            have d0 := hcx 0 _ rfl
            have d1 := hcx 1 _ rfl
            have d2 := hcx 2 _ rfl
            have d3 := hcx 3 _ rfl
            have d4 := hcx 4 _ rfl
            simp only [Nat.add_zero] at d0
            have hzr := hr.out.kp.size
            have hba := hr.out.blk.alloc (.cells #[.int .u32 f.id, .int .u64 f.cost, .int .u64 f.budget, .int .u64 f.size, .int .u64 f.cap] 85)
            have c2 := hba.cell 2 rfl
            have hba2 := hba.alloc (.cells #[.int .u64 0] 22)
            have HBA := Lib.hid hba2
            have HOA := Lib.hid (own_kp (S := none') hr.out.own (((Kp.refl none' wr).alloc (.cells #[.int .u32 f.id, .int .u64 f.cost, .int .u64 f.budget, .int .u64 f.size, .int .u64 f.cap] 85)).alloc (.cells #[.int .u64 0] 22)) (fun _ _ x => x))
            have HKA := Lib.hid ((hr.out.kp.alloc (.cells #[.int .u32 f.id, .int .u64 f.cost, .int .u64 f.budget, .int .u64 f.size, .int .u64 f.cap] 85)).alloc (.cells #[.int .u64 0] 22))
            have HNE := Lib.hid (own_ne_blk hr.out.own hr.out.blk (by decide))
            clear hcx hf hba hba2
            go_wp2_with (first
              | (refine wp_app1 tU64 (.tmp 48) (.tmp 50) rfl rfl w.heap.size (v := v2) HOA.out [.int .u64 0] rfl rfl rfl (fr := (0, 0)) (heap_newC _ _ (by simp)) rfl (by omega) (by omega) (by simp; omega) ?_; intro g8 cap8 w8 hown8 hgrow8
                 have hk8 := HKA.out.grown hgrow8 (fun b hb => .inr (own_block HOA.out hb).1)
                 have hb8 := HBA.out.grown hgrow8 (fun e => HNE.out e.symm)
                 have x2 := hb8.cell 2 rfl
                 have z2 := hb8.fz 2
                 have HK8 := Lib.hid hk8; have HB8 := Lib.hid hb8; have HO8 := Lib.hid hown8
                 clear hown8 hgrow8 hk8 hb8))
            have hown9 := own_setNe HO8.out (a := ⟨rb, 2, none⟩) (fun b hb e => own_ne_blk HO8.out HB8.out (by decide) (by rw [hb]; exact congrArg some e)) (.slice (some ⟨g8, 0, none⟩) (k + 1) cap8)
            have hr9 : NwI w (w8.setCell ⟨rb, 2, none⟩ (.slice (some ⟨g8, 0, none⟩) (k + 1) cap8)) rb (.slice fo fn fc) (.slice (some ⟨g8, 0, none⟩) (k + 1) cap8) (k + 1) :=
              ⟨HB8.out.set 2 _, by rw [List.replicate_succ']; exact hown9, HK8.out.set (p := ⟨rb, 2, none⟩) (.inr hz2) _⟩
            have HR9 := Lib.hid hr9
            clear hown9 hr9
            go_roundw
            case rel => exact ⟨k + 1, _, by go_num, by omega, HR9.out⟩
            case measure => simp [intOf]; omega
          · have hke : k = l.length := by omega
            subst hke
            go_wp2
            go_ret2
            exact ⟨⟨_, by rw [HE.out]; rfl⟩, hr.out.kp⟩
      · have HE : Hid (flowsE l = 30) := by show _ = _; rw [HE0.out, if_neg hn]
        have hd : (!decide (idsF l).Nodup) = true := by simp [hn]
        rw [hd]
        clear hd HE0 hn
        go_wp2
        go_ret2
        exact ⟨⟨_, by rw [HE.out]; rfl⟩, HK1.out⟩

def enC (c : CfR) (v : Value) : List Value := [.int .i64 c.rank, .int .i64 c.back, .int .i64 c.levels, .int .i64 c.queues, .int .i64 c.packets, .int .u64 c.bytes, .int .i64 c.share, .int .u64 c.mtu, .int .u64 c.rate, .int .u64 c.burst, v]
theorem enC_len (c : CfR) (v : Value) : (enC c v).length = 11 := rfl
theorem adm_caps {c : CfR} (h : c.packets < 1 ∨ 4096 < c.packets ∨ c.bytes = 0 ∨ c.share < 0 ∨ 16 < c.share) : admE c = 25 := by unfold admE; rw [if_pos h]
theorem adm_over {c : CfR} (h : ¬ (c.packets < 1 ∨ 4096 < c.packets ∨ c.bytes = 0 ∨ c.share < 0 ∨ 16 < c.share)) (h2 : 18446744073709551615 / 2 ^ c.share.toNat < c.bytes) : admE c = 25 := by unfold admE; rw [if_neg h, if_pos h2]
theorem adm_mtu {c : CfR} (h : ¬ (c.packets < 1 ∨ 4096 < c.packets ∨ c.bytes = 0 ∨ c.share < 0 ∨ 16 < c.share)) (h2 : ¬ 18446744073709551615 / 2 ^ c.share.toNat < c.bytes) (h3 : c.mtu < 1 ∨ 65535 < c.mtu) : admE c = 26 := by unfold admE; rw [if_neg h, if_neg h2, if_pos h3]
theorem adm_fl {c : CfR} (h : ¬ (c.packets < 1 ∨ 4096 < c.packets ∨ c.bytes = 0 ∨ c.share < 0 ∨ 16 < c.share)) (h2 : ¬ 18446744073709551615 / 2 ^ c.share.toNat < c.bytes) (h3 : ¬ (c.mtu < 1 ∨ 65535 < c.mtu)) : admE c = flowsE c.flows := by unfold admE; rw [if_neg h, if_neg h2, if_neg h3]
def lim (s : Nat) : Nat := 18446744073709551615 / 2 ^ s
set_option maxRecDepth 100000 in
set_option maxHeartbeats 4000000 in
theorem gAdm (c : CfR) (hc : c.ok) (v : Value) (w : World) (h : Sl w v c.flows.length 5 (c.flows.flatMap enFl)) : Calls Tryz.prog 80 #[.agg (enC c v).toArray] w fun e w' => e = .returned (.int .i64 (admE c)) ∧ Kp none' w w' := by
  have GR := Lib.hid (fun W hs => gRank c.flows v W hs)
  have H1 := Lib.hid (@adm_caps c); have H2 := Lib.hid (@adm_over c); have H3 := Lib.hid (@adm_mtu c); have H4 := Lib.hid (@adm_fl c)
  have HS := Lib.hid h
  have b5 := hc.bytes; have b7 := hc.mtu
  unfold M64 at b5 b7
  obtain ⟨rk, bk, lv, qu, pk, bt, sh, mt, rt, bu, fl⟩ := c
  unfold enC
  simp only at GR H1 H2 H3 H4 HS b5 b7 ⊢
  clear h hc
  by_cases h1 : pk < 1
  · have HE := Lib.hid (H1.out (.inl h1))
    go_enter Tryz.func80, Tryz.ntmps80
    go_wp2
    go_ret
    exact ⟨by rw [HE.out]; rfl, (Kp.refl _ _).alloc _⟩
  · by_cases h2 : 4096 < pk
    · have HE := Lib.hid (H1.out (.inr (.inl h2)))
      go_enter Tryz.func80, Tryz.ntmps80
      go_wp2
      go_ret
      exact ⟨by rw [HE.out]; rfl, (Kp.refl _ _).alloc _⟩
    · by_cases h3 : bt = 0
      · have HE := Lib.hid (H1.out (.inr (.inr (.inl h3))))
        subst h3
        go_enter Tryz.func80, Tryz.ntmps80
        go_wp2
        go_ret
        exact ⟨by rw [HE.out]; rfl, (Kp.refl _ _).alloc _⟩
      · have h3b : ((bt : Int) == 0) = false := by rw [beq_eq_false_iff_ne]; omega
        by_cases h4 : sh < 0
        · have HE := Lib.hid (H1.out (.inr (.inr (.inr (.inl h4)))))
          clear h3
          go_enter Tryz.func80, Tryz.ntmps80
          go_wp2
          go_ret
          exact ⟨by rw [HE.out]; rfl, (Kp.refl _ _).alloc _⟩
        · by_cases h5 : 16 < sh
          · have HE := Lib.hid (H1.out (.inr (.inr (.inr (.inr h5)))))
            clear h3
            go_enter Tryz.func80, Tryz.ntmps80
            go_wp2
            go_ret
            exact ⟨by rw [HE.out]; rfl, (Kp.refl _ _).alloc _⟩
          · obtain ⟨s, rfl⟩ : ∃ s : Nat, sh = s := ⟨sh.toNat, by omega⟩
            have HN : Hid (¬ (pk < 1 ∨ 4096 < pk ∨ bt = 0 ∨ (s : Int) < 0 ∨ 16 < (s : Int))) := by show ¬ _; omega
            rw [Int.toNat_natCast] at H2 H3 H4
            have hs16 : s ≤ 16 := by omega
            clear h3
            have hl : (18446744073709551615 : Int) / 2 ^ s = (lim s : Nat) := by unfold lim; rw [Int.natCast_ediv, Int.natCast_pow]; rfl
            have hb0 := Blk.new w (enC ⟨rk, bk, lv, qu, pk, bt, s, mt, rt, bu, fl⟩ v) 25
            have hk0 := (Kp.refl none' w).alloc (.cells (enC ⟨rk, bk, lv, qu, pk, bt, s, mt, rt, bu, fl⟩ v).toArray 25)
            unfold enC at hb0 hk0
            have HL := Lib.hid hl; have HB0 := Lib.hid hb0; have HK0 := Lib.hid hk0
            clear hl hb0 hk0
            go_enter Tryz.func80, Tryz.ntmps80
            go_wp2
            go_quiet (fail)
            rw [HL.out]
            have hb1 := HB0.out.drewN nq
            have HK1 := Lib.hid (HK0.out.drewN nq)
            have c7 := hb1.cell 7 rfl
            have c10 := hb1.cell 10 rfl
            clear hb1 HB0 HK0
            generalize (w.alloc (.cells #[.int .i64 rk, .int .i64 bk, .int .i64 lv, .int .i64 qu, .int .i64 pk, .int .u64 bt, .int .i64 s, .int .u64 mt, .int .u64 rt, .int .u64 bu, v] 25)).drewN nq = w1 at *
            by_cases h6 : lim s < bt
            · have HE := Lib.hid (H2.out HN.out h6)
              have h6d : decide (((lim s : Nat) : Int) < (bt : Int)) = true := by rw [decide_eq_true_iff]; omega
              rw [h6d]
              clear h6d h6
              go_wp2
              go_ret
              exact ⟨by rw [HE.out]; rfl, HK1.out⟩
            · have h6d : decide (((lim s : Nat) : Int) < (bt : Int)) = false := by rw [decide_eq_false_iff_not]; omega
              have HL6 := Lib.hid h6
              rw [h6d]
              clear h6d h6
              by_cases h7 : mt < 1
              · have HE := Lib.hid (H3.out HN.out HL6.out (.inl h7))
                have h7i : (mt : Int) < 1 := by omega
                go_wp2
                go_ret
                exact ⟨by rw [HE.out]; rfl, HK1.out⟩
              · have h7i : ¬ (mt : Int) < 1 := by omega
                by_cases h8 : 65535 < mt
                · have HE := Lib.hid (H3.out HN.out HL6.out (.inr h8))
                  have h8i : (65535 : Int) < mt := by omega
                  clear h7
                  go_wp2
                  go_ret
                  exact ⟨by rw [HE.out]; rfl, HK1.out⟩
                · have HE := Lib.hid (H4.out HN.out HL6.out (by omega))
                  have h8i : ¬ (65535 : Int) < mt := by omega
                  clear h7 h8
                  go_wp2_with fail
                  refine (GR.out _ (HS.out.old HK1.out)).mono ?_
                  rintro e w2 ⟨⟨p, rfl⟩, k2⟩
                  have HK2 := Lib.hid (HK1.out.trans k2)
                  clear k2
                  go_wp2
                  go_ret
                  exact ⟨by rw [HE.out]; rfl, HK2.out⟩
end Go.Proofs.YtlaakhfgidjofaaGreatDoor
