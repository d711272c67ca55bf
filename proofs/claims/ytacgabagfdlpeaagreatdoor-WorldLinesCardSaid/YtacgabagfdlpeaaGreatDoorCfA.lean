/- Walks for layer 24: which flows may be (layers 16), the program's and the document's. -/
import Derived.Test.YtacgabagfdlpeaaGreatDoorCfP
import Derived.Test.YtacgabagfdlpeaaGreatDoorAppSl
import Derived.Test.YtacgabagfdlpeaaGreatDoorSnoc
import Derived.Test.YtacgabagfdlpeaaGreatDoorShelf
import Derived.Deep.QuietTactic
import Derived.BigQuiet
namespace Go.Proofs.YtacgabagfdlpeaaGreatDoor
set_option linter.unusedVariables false
set_option linter.unusedSimpArgs false
open Go Go.RowKit Go.Shelf

def eU (x : Nat) : Value := .int .u32 x
theorem tU32 : SlT Tryz.prog 217 23 (.int .u32 0) 1 4 := ⟨Tryz.underlying217, by kernel_rfl, rfl, by decide⟩
theorem tFlw : SlT Tryz.prog 53 72 (.agg #[.int .u32 0, .int .u64 0, .int .u64 0, .int .u64 0, .int .u64 0]) 5 40 := ⟨Tryz.underlying53, by kernel_rfl, rfl, by decide⟩
theorem tU64 : SlT Tryz.prog 36 24 (.int .u64 0) 1 8 := ⟨Tryz.underlying36, by kernel_rfl, rfl, by decide⟩
theorem eU_get {xs : List Nat} {i : Nat} (h : i < xs.length) : (xs.map eU)[i]? = some (.int .u32 (xs[i] : Int)) := by
  rw [List.getElem?_map, List.getElem?_eq_getElem h]; rfl
set_option maxHeartbeats 2000000 in
theorem gIndex (xs : List Nat) (x : Nat) (v : Value) (w : World) (h : Sl w v xs.length 1 (xs.map eU)) : Calls Tryz.prog 122 #[v, .int .u32 x] w fun e w' => (∃ r : Int, e = .returned (.int .i64 r) ∧ (0 ≤ r ↔ x ∈ xs)) ∧ Kp none' w w' := by
  obtain ⟨ao, cap, rfl⟩ : ∃ ao cap, v = .slice ao xs.length cap := by obtain ⟨ao, cap, rfl, _⟩ := h.is; exact ⟨_, _, rfl⟩
  have hmx := h.max
  have HS := Lib.hid h
  clear h
  go_enter Tryz.func122, Tryz.ntmps122
  go_wp2
  go_loopw [8] (fun i0 wr => ∃ k : Nat, i0 = .int .i64 k ∧ k ≤ xs.length ∧ Hid ((∀ (j : Nat) (hj : j < xs.length), j < k → x ≠ xs[j]) ∧ Kp none' w wr)) (fun i0 _ => xs.length - (intOf i0).toNat)
  case atStart => exact ⟨0, rfl, by omega, fun j _ h => by omega, Kp.refl _ _⟩
  case round =>
    obtain ⟨k, rfl, hk, hr⟩ := hrel
    by_cases hlt : k < xs.length
    · have hki : (k : Int) < xs.length := by omega
      obtain ⟨ao', cap', e1, hc⟩ := (HS.out.old hr.out.2).is
      injection e1 with e1 _ e3
      subst e1 e3
      obtain ⟨b, off, rfl, hcell⟩ := hc k _ (eU_get hlt)
      by_cases hx : x = xs[k]
      · have hxi : (x : Int) = (xs[k] : Nat) := by rw [← hx]
        have hxb : ((x : Int) == ((xs[k] : Nat) : Int)) = true := by rw [beq_iff_eq]; exact hxi
        have HX : Hid (x ∈ xs) := by show _ ∈ _; rw [hx]; exact List.getElem_mem hlt
        clear hx hc hxi
        go_wp2
        go_ret
        exact ⟨⟨_, rfl, ⟨fun _ => HX.out, fun _ => by omega⟩⟩, hr.out.2⟩
      · have hxb : ((x : Int) == ((xs[k] : Nat) : Int)) = false := by rw [beq_eq_false_iff_ne]; omega
        have HX := Lib.hid hx
        clear hx hc
        go_wp2
        go_roundw
        case rel => exact ⟨k + 1, by go_num, by omega, fun j hj h => by
          rcases Nat.lt_or_ge j k with h1 | h1
          · exact hr.out.1 j hj h1
          · have : j = k := by omega
            subst this; exact HX.out, hr.out.2⟩
        case measure => simp [intOf]; omega
    · have hke : k = xs.length := by omega
      subst hke
      go_wp2
      go_ret
      refine ⟨⟨_, rfl, ⟨fun h => by omega, fun h => ?_⟩⟩, hr.out.2⟩
      obtain ⟨i, hi, e⟩ := List.mem_iff_getElem.1 h
      exact absurd e.symm (hr.out.1 i hi hi)
set_option maxHeartbeats 2000000 in
theorem gContains (xs : List Nat) (x : Nat) (v : Value) (w : World) (h : Sl w v xs.length 1 (xs.map eU)) : Calls Tryz.prog 99 #[v, .int .u32 x] w fun e w' => e = .returned (.bool (decide (x ∈ xs))) ∧ Kp none' w w' := by
  have HI := Lib.hid (gIndex xs x v w h)
  clear h
  go_enter Tryz.func99, Tryz.ntmps99
  go_wp2_with fail
  refine (HI.out).mono ?_
  rintro e w1 ⟨⟨r, rfl, hr⟩, k1⟩
  have HK := Lib.hid k1
  have hd : decide (0 ≤ r) = decide (x ∈ xs) := by rw [decide_eq_decide]; exact hr
  have HD := Lib.hid hd
  clear hr hd k1 HI
  go_wp2
  go_ret
  exact ⟨by rw [← HD.out]; rfl, HK.out⟩
def idsF (l : List FlR) : List Nat := l.map (·.id)
theorem idsF_snoc (l : List FlR) (k : Nat) (h : k < l.length) : idsF (l.take (k + 1)) = idsF (l.take k) ++ [l[k].id] := by
  unfold idsF; rw [List.take_succ_eq_append_getElem h, List.map_append]; rfl
theorem idsF_len (l : List FlR) (k : Nat) (h : k ≤ l.length) : (idsF (l.take k)).length = k := by unfold idsF; rw [List.length_map, List.length_take]; omega
theorem nodup_snoc {xs : List Nat} {x : Nat} (h : xs.Nodup) (hx : x ∉ xs) : (xs ++ [x]).Nodup := by
  rw [List.nodup_append]
  exact ⟨h, by simp, fun a ha b hb => by simp at hb; subst hb; exact fun e => hx (e ▸ ha)⟩
theorem nodup_not {l : List FlR} {k : Nat} (h : k < l.length) (hx : l[k].id ∈ idsF (l.take k)) : ¬ (idsF l).Nodup := by
  intro hn
  have e : idsF l = idsF (l.take (k + 1)) ++ idsF (l.drop (k + 1)) := by unfold idsF; rw [← List.map_append, List.take_append_drop]
  rw [e, idsF_snoc l k h, List.nodup_append] at hn
  have := (List.nodup_append.1 hn.1).2.2 _ hx l[k].id (by simp)
  exact this rfl
set_option maxRecDepth 100000 in
set_option maxHeartbeats 4000000 in
theorem gTwice (l : List FlR) (hl : l.length ≤ 64) (v : Value) (w : World) (h : Sl w v l.length 5 (l.flatMap enFl)) : Calls Tryz.prog 61 #[v] w fun e w' => e = .returned (.bool (!decide (idsF l).Nodup)) ∧ Kp none' w w' := by
  obtain ⟨ao, cap, rfl⟩ : ∃ ao cap, v = .slice ao l.length cap := by obtain ⟨ao, cap, rfl, _⟩ := h.is; exact ⟨_, _, rfl⟩
  have HS := Lib.hid h
  clear h
  go_enter Tryz.func61, Tryz.ntmps61
  go_wp2
  go_loopw [3, 8] (fun s0 i0 wr => ∃ (k : Nat) (v3 : Value), v3 = s0 ∧ i0 = .int .i64 k ∧ k ≤ l.length ∧ Hid (wr.ownsRow w.heap.size 23 1 v3 k ((idsF (l.take k)).map eU) ∧ (idsF (l.take k)).Nodup ∧ Kp none' w wr)) (fun _ i0 _ => l.length - (intOf i0).toNat)
  case atStart => exact ⟨0, _, rfl, rfl, by omega, ⟨rfl, .inl ⟨rfl, rfl⟩⟩, List.nodup_nil, Kp.refl _ _⟩
  case round =>
    obtain ⟨k, v3, rfl, rfl, hk, hr⟩ := hrel
    by_cases hlt : k < l.length
    · have hki : (k : Int) < l.length := by omega
      obtain ⟨gx, ox, cx, e1, hcx⟩ := (HS.out.old hr.out.2.2).at enFl_len (by decide) k hlt
      injection e1 with e1 _ e3
      subst e1 e3
      obtain ⟨f, hf⟩ : ∃ f, l[k] = f := ⟨_, rfl⟩
      have hsn := idsF_snoc l k hlt
      have HND : Hid (f.id ∈ idsF (l.take k) → ¬ (idsF l).Nodup) := by show _ → _; rw [← hf]; exact nodup_not hlt
      rw [hf] at hcx hsn
      have d0 := hcx 0 _ rfl
      have d1 := hcx 1 _ rfl
      have d2 := hcx 2 _ rfl
      have d3 := hcx 3 _ rfl
      have d4 := hcx 4 _ rfl
      simp only [Nat.add_zero] at d0
      have hil := idsF_len l k (by omega)
      have HSN := Lib.hid hsn; have HIL := Lib.hid hil
      have hzr := hr.out.2.2.size
      clear hcx hf hsn hil
      go_wp2_with fail
      have hk1 := (Kp.refl none' wr).alloc (.cells (enFl f).toArray 72)
      have hb1 := Blk.new wr (enFl f) 72
      have hk1' : Kp none' wr (wr.alloc (.cells #[.int .u32 f.id, .int .u64 f.cost, .int .u64 f.budget, .int .u64 f.size, .int .u64 f.cap] 72)) := hk1
      have hb1' : Blk (wr.alloc (.cells #[.int .u32 f.id, .int .u64 f.cost, .int .u64 f.budget, .int .u64 f.size, .int .u64 f.cap] 72)) wr.heap.size (enFl f) 72 := hb1
      clear hk1 hb1 d0 d1 d2 d3 d4
      generalize wr.alloc (.cells #[.int .u32 f.id, .int .u64 f.cost, .int .u64 f.budget, .int .u64 f.size, .int .u64 f.cap] 72) = w1 at *
      have HK1 := Lib.hid hk1'; have HB1 := Lib.hid hb1'
      have HO1 := Lib.hid (own_kp hr.out.1 hk1' (fun _ _ x => x))
      clear hk1' hb1'
      have HC := Lib.hid (gContains (idsF (l.take k)) f.id v3 w1 (by have := own_sl HO1.out; rw [HIL.out]; exact this))
      refine (HC.out).mono ?_
      rintro e w2 ⟨rfl, k2⟩
      have HK2 := Lib.hid (HK1.out.trans k2); have HB2 := Lib.hid (HB1.out.kp k2 (fun x => x)); have HO2 := Lib.hid (own_kp HO1.out k2 (fun _ _ x => x))
      have hz2 := (hr.out.2.2.trans HK2.out).size
      clear k2 HC HB1 HK1 HO1
      have c0 := HB2.out.cell 0 rfl
      cases hb : decide (f.id ∈ idsF (l.take k)) with
      | true =>
        have HN := Lib.hid (HND.out (of_decide_eq_true hb))
        clear hb
        go_wp2
        go_ret
        exact ⟨by rw [decide_eq_false HN.out]; rfl, hr.out.2.2.trans HK2.out⟩
      | false =>
        have HN := Lib.hid (nodup_snoc hr.out.2.1 (of_decide_eq_false hb))
        clear hb
        go_wp2_with (first
          | (refine wp_app1 tU32 (.tmp 16) (.tmp 19) rfl rfl w.heap.size (v := v3) (HO2.out.alloc _) [.int .u32 f.id] rfl rfl rfl (fr := (0, 0)) (heap_new _ _) rfl (by omega) (by omega) (by simp; omega) ?_; intro g8 cap8 w8 hown8 hgrow8
             have hk8 := ((hr.out.2.2.trans HK2.out).alloc (.cells #[.int .u32 f.id] 23)).grown hgrow8 (fun b hb => .inr (own_block hr.out.1 hb).1)
             have HK8 := Lib.hid hk8
             have HO8 : Hid (w8.ownsRow w.heap.size 23 1 (.slice (some ⟨g8, 0, none⟩) (k + 1) cap8) (k + 1) ((idsF (l.take (k + 1))).map eU)) := by show World.ownsRow _ _ _ _ _ _ _; rw [HSN.out, List.map_append]; exact hown8
             clear hown8 hgrow8 hk8))
        go_roundw
        case rel => exact ⟨k + 1, _, rfl, by go_num, by omega, HO8.out, by rw [HSN.out]; exact HN.out, HK8.out⟩
        case measure => simp [intOf]; omega
    · have hke : k = l.length := by omega
      subst hke
      have HN : Hid ((idsF l).Nodup) := by have := hr.out.2.1; rw [List.take_length] at this; exact this
      go_wp2
      go_ret
      exact ⟨by rw [decide_eq_true HN.out]; rfl, hr.out.2.2⟩
end Go.Proofs.YtacgabagfdlpeaaGreatDoor
