/- RulesBehind: the law's walk. -/
import Derived.Test.YthnlggecjdifnaaDoorRuLv
import Derived.Test.YthnlggecjdifnaaDoorRuRg
import Derived.Test.YthnlggecjdifnaaDoorAppSl
namespace Go.Proofs.YthnlggecjdifnaaDoor
set_option linter.unusedVariables false
set_option linter.unusedSimpArgs false
open Go.RowKit

theorem Sl.pre {w : World} {ao : Option Addr} {cap sz : Nat} {α : Type} {enc : α → List Value} {l : List α} (h : Sl w (.slice ao l.length cap) l.length sz (l.flatMap enc)) (hl : ∀ a, (enc a).length = sz) (k : Nat) (hk : k ≤ l.length) : Sl w (.slice ao k cap) k sz ((l.take k).flatMap enc) := by
  refine ⟨by rw [flat_len enc sz hl, List.length_take, Nat.min_eq_left hk], Nat.le_trans hk h.max, ao, cap, rfl, fun i u hu => ?_⟩
  obtain ⟨ao', cap', e, hc⟩ := h.is
  injection e with e1 _ _
  subst e1
  refine hc i u ?_
  have e2 : l.flatMap enc = (l.take k).flatMap enc ++ (l.drop k).flatMap enc := by rw [← List.flatMap_append, List.take_append_drop]
  rw [e2, List.getElem?_append_left (List.getElem?_eq_some_iff.1 hu).1]
  exact hu
theorem tRu : SlT Tryd.prog 22 48 (.agg #[.int .u32 0, .int .i64 0, .int .u32 0, .int .i64 0, .int .u16 0, .int .u16 0, .int .u32 0]) 7 40 := ⟨Tryd.underlying22, by kernel_rfl, rfl, by decide⟩
theorem own_zero (w : World) (e : TypeId) (sz : Nat) : (w.alloc (.cells #[] e)).ownsRow w.heap.size e sz (.slice (some ⟨w.heap.size, 0, none⟩) 0 0) 0 [] :=
  ⟨by simp, .inr ⟨w.heap.size, 0, #[], rfl, Nat.le_refl _, heap_new _ _, Nat.le_refl _, by unfold maxLen; omega, by simp, by simp⟩⟩
theorem one7 (l : List RuN) : (l.flatMap enR7).all (·.oneCell') = true := by
  rw [List.all_eq_true]
  intro v hv
  obtain ⟨r, _, hv⟩ := List.mem_flatMap.1 hv
  simp only [enR7, List.mem_cons, List.not_mem_nil, or_false] at hv
  rcases hv with rfl | rfl | rfl | rfl | rfl | rfl | rfl <;> rfl
set_option maxRecDepth 100000 in
set_option maxHeartbeats 8000000 in
theorem behindLaw (l o : List RuN) (hok : ∀ r ∈ l, r.Ok) (hoo : ∀ r ∈ o, r.Ok) (h : HdR) (hh : h.Ok) (ao : Option Addr) (cap : Nat) (hcap : l.length ≤ cap) (v2 : Value) (w : World) (hS : Sl w (.slice ao l.length cap) l.length 7 (l.flatMap enR7)) (hS2 : Sl w v2 o.length 7 (o.flatMap enR7)) (hT : Tab w) :
    Calls Tryd.prog 3 #[.slice ao l.length cap, v2, .agg #[.int .u8 h.ds, .int .u16 h.id, .int .u8 h.ttl, .int .u32 h.s, .int .u32 h.d, .int .u16 h.sp, .int .u16 h.p]] w fun e w' => e = .returned (.bool true) ∧ Kp none' w w' := by
  have hm1 := hS.max
  have hm2 := hS2.max
  obtain ⟨bo, bcap, rfl⟩ : ∃ bo bcap, v2 = .slice bo o.length bcap := by obtain ⟨bo, bcap, rfl, _⟩ := hS2.is; exact ⟨_, _, rfl⟩
  have hk0 := (Kp.refl none' w).alloc (.cells #[.int .u8 h.ds, .int .u16 h.id, .int .u8 h.ttl, .int .u32 h.s, .int .u32 h.d, .int .u16 h.sp, .int .u16 h.p] 26)
  have HL := Lib.hid (fun W (k : Kp none' w W) => lives34 W (hT.kp k (fun x => x)))
  have HK0 := Lib.hid hk0
  by_cases hbig : 64 < l.length
  · have hbi : (64 : Int) < l.length := by omega
    clear hS hS2 hT hk0 hok hoo
    go_enter Tryd.func3, Tryd.ntmps3
    go_wp2_with (go_at_call 7; refine (HL.out _ HK0.out).mono ?_; rintro e w1 ⟨rfl, hk1⟩; have HK1 := Lib.hid (HK0.out.trans hk1); clear hk1)
    go_ret
    exact ⟨rfl, HK1.out⟩
  by_cases hbig2 : 64 < o.length
  · have hbi : ¬ (64 : Int) < l.length := by omega
    have hbi2 : (64 : Int) < o.length := by omega
    clear hS hS2 hT hk0 hok hoo
    go_enter Tryd.func3, Tryd.ntmps3
    go_wp2_with (go_at_call 7; refine (HL.out _ HK0.out).mono ?_; rintro e w1 ⟨rfl, hk1⟩; have HK1 := Lib.hid (HK0.out.trans hk1); clear hk1)
    go_ret
    exact ⟨rfl, HK1.out⟩
  have hbi : ¬ (64 : Int) < l.length := by omega
  have hbi2 : ¬ (64 : Int) < o.length := by omega
  by_cases hc : chkN l ≠ 0
  · have HNB := Lib.hid (tNewBad l hok hc _ _ (hS.old hk0))
    obtain ⟨c, hcc⟩ : ∃ c, chkN l = c := ⟨_, rfl⟩
    rw [hcc] at HNB hc
    have hd : ¬ (c : Int) = 0 := by omega
    clear hS hS2 hT hk0 hok hoo hcc
    go_enter Tryd.func3, Tryd.ntmps3
    go_wp2_with (first
      | (go_at_call 8; refine HNB.out.mono ?_; rintro e w1 ⟨rfl, hk1⟩; have HK1 := Lib.hid (HK0.out.trans hk1); clear hk1)
      | (go_at_call 7; refine (HL.out _ HK1.out).mono ?_; rintro e w2 ⟨rfl, hk2⟩; have HK2 := Lib.hid (HK1.out.trans hk2); clear hk2))
    go_ret
    exact ⟨rfl, HK2.out⟩
  have hc : chkN l = 0 := by omega
  have HNO := Lib.hid (tNewOk l hok hc _ _ (hS.old hk0))
  have HF := Lib.hid (fun W (k : Kp none' w W) tb H => tFindR W tb l hok hc H (hT.kp k (fun x => x)) h hh)
  have HB := Lib.hid (Blk.new w (enHd h) 26)
  cases hf : findN l h.n with
  | none =>
    rw [hf] at HF
    simp only [atN, isN] at HF
    clear hS hS2 hT hk0 hok hoo hf
    go_enter Tryd.func3, Tryd.ntmps3
    go_wp2_with fail
    refine HNO.out.mono ?_
    rintro e w1 ⟨tb, rfl, hR, hk1⟩
    have HR := Lib.hid hR; have HK1 := Lib.hid (HK0.out.trans hk1); have HB1 := Lib.hid (HB.out.kp hk1 (fun x => x))
    have b0 := HB1.out.cell 0 rfl
    have b1 := HB1.out.cell 1 rfl
    have b2 := HB1.out.cell 2 rfl
    have b3 := HB1.out.cell 3 rfl
    have b4 := HB1.out.cell 4 rfl
    have b5 := HB1.out.cell 5 rfl
    have b6 := HB1.out.cell 6 rfl
    clear hk1 hR
    go_wp2_with (first
      | (go_at_call 9; refine (HF.out _ HK1.out tb HR.out).mono ?_; rintro e w2 ⟨rfl, hk2⟩; have HK2 := Lib.hid (HK1.out.trans hk2); clear hk2)
      | (go_at_call 7; refine (HL.out _ HK2.out).mono ?_; rintro e w3 ⟨rfl, hk3⟩; have HK3 := Lib.hid (HK2.out.trans hk3); clear hk3))
    go_ret
    exact ⟨rfl, HK3.out⟩
  | some i =>
    have hil := (findN_some.1 hf).1
    have hfb := find_behind (o := o) hf
    obtain ⟨g0, off0, cap', e1, _⟩ := hS.at enR7_len (by decide) i hil
    cases e1
    have hpre := hS.pre enR7_len (i + 1) (by omega)
    have HPRE := Lib.hid hpre
    have HS2 := Lib.hid hS2; have HT := Lib.hid hT
    obtain ⟨m, hm⟩ : ∃ m, l.take (i + 1) ++ o = m := ⟨_, rfl⟩
    have hml : m.length = i + 1 + o.length := by rw [← hm, List.length_append, List.length_take]; omega
    have hmo : ∀ r ∈ m, r.Ok := fun r hr => by
      rw [← hm, List.mem_append] at hr
      exact hr.elim (fun h => hok r (List.mem_of_mem_take h)) (hoo r)
    have HMF : Hid ((l.take (i + 1)).flatMap enR7 ++ o.flatMap enR7 = m.flatMap enR7) := by show _ = _; rw [← hm, List.flatMap_append]
    rw [hm] at hfb
    rw [hf] at HF
    simp only [atN, isN] at HF
    have HML := Lib.hid hml; have HMO := Lib.hid hmo; have HFB := Lib.hid hfb
    have hii : (i : Int) < l.length := by omega
    have hic : (i : Int) + 1 ≤ cap := by omega
    have hw : IntKind.i64.wrap ((i : Int) + 1) = (i : Int) + 1 := by rw [IntKind.wrap_i64]; omega
    have htn : ((i : Int) + 1).toNat = i + 1 := by omega
    clear hS hS2 hT hk0 hok hoo hf hpre hm hml hmo hfb
    go_enter Tryd.func3, Tryd.ntmps3
    go_wp2_with fail
    refine HNO.out.mono ?_
    rintro e w1 ⟨tb, rfl, hR, hk1⟩
    have HR := Lib.hid hR; have HK1 := Lib.hid (HK0.out.trans hk1); have HB1 := Lib.hid (HB.out.kp hk1 (fun x => x))
    have b0 := HB1.out.cell 0 rfl
    have b1 := HB1.out.cell 1 rfl
    have b2 := HB1.out.cell 2 rfl
    have b3 := HB1.out.cell 3 rfl
    have b4 := HB1.out.cell 4 rfl
    have b5 := HB1.out.cell 5 rfl
    have b6 := HB1.out.cell 6 rfl
    clear hk1 hR
    go_wp2_with (first
      | (go_at_call 9; refine (HF.out _ HK1.out tb HR.out).mono ?_; rintro e w2 ⟨rfl, hk2⟩; have HK2 := Lib.hid (HK1.out.trans hk2); have HB2 := Lib.hid (HB1.out.kp hk2 (fun x => x)); clear hk2 b0 b1 b2 b3 b4 b5 b6)
      | (at_builtin; refine wp_appSl tRu (.tmp 46) (.tmp 50) rfl rfl w2.heap.size (own_zero w2 _ _) rfl rfl (HPRE.out.old (HK2.out.alloc _)) (one7 _) (by omega) (by omega) (by simp) ?_))
    intro v4 w4 hown4 hgrow4
    have hk4 : Kp none' w2 w4 := ((Kp.refl none' w2).alloc _).grown hgrow4 (fun k hk => .inr (own_block (own_zero w2 48 7) hk).1)
    obtain ⟨ao4, cap4, rfl⟩ := own_shape hown4
    have HOW4 := Lib.hid hown4
    have HK4 := Lib.hid (HK2.out.trans hk4); have HK24 := Lib.hid hk4
    have hs4 := hk4.size
    clear hown4 hgrow4 hk4
    go_wp2_with (at_builtin; refine wp_appSl tRu (.tmp 51) (.tmp 52) rfl rfl w2.heap.size HOW4.out rfl rfl (HS2.out.old HK4.out) (one7 _) (by omega) (by omega) hs4 ?_)
    intro v5 w5 hown5 hgrow5
    have hk5 : Kp none' w2 w5 := HK24.out.grown hgrow5 (fun k hk => .inr (own_block HOW4.out hk).1)
    have hsm : Sl w5 v5 m.length 7 (m.flatMap enR7) := by
      have := own_sl hown5

      rw [HMF.out] at this
      rw [HML.out]
      exact this
    have HSM := Lib.hid hsm; have HK5 := Lib.hid (HK2.out.trans hk5); have HB5 := Lib.hid (HB2.out.kp hk5 (fun x => x))
    obtain ⟨ao5, cap5, rfl, _⟩ := hsm.is
    clear hown5 hgrow5 hk5 hsm
    by_cases hcm : chkN m ≠ 0
    · have HNB := Lib.hid (tNewBad m HMO.out hcm _ _ HSM.out)
      have HRC := Lib.hid (fun W (k : Kp none' w5 W) => rCheck34 m HMO.out _ W (HSM.out.old k))
      obtain ⟨c, hcc⟩ : ∃ c, chkN m = c := ⟨_, rfl⟩
      rw [hcc] at HNB hcm HRC
      have hd : ¬ (c : Int) = 0 := by omega
      clear hcc
      go_wp2_with (first
        | (go_at_call 8; refine HNB.out.mono ?_; rintro e w6 ⟨rfl, hk6⟩; have HK6 := Lib.hid hk6; clear hk6)
        | (go_at_call 10; refine (HRC.out _ HK6.out).mono ?_; rintro e w7 ⟨rfl, hk7⟩; have HK7 := Lib.hid ((HK5.out.trans HK6.out).trans hk7); clear hk7)
        | (go_at_call 7; refine (HL.out _ HK7.out).mono ?_; rintro e w8 ⟨rfl, hk8⟩; have HK8 := Lib.hid (HK7.out.trans hk8); clear hk8))
      go_ret
      exact ⟨rfl, HK8.out⟩
    · have hcm0 : chkN m = 0 := by omega
      have HNM := Lib.hid (tNewOk m HMO.out hcm0 _ _ HSM.out)
      have HFM := Lib.hid (fun W (k : Kp none' w W) tb H => tFindR W tb m HMO.out hcm0 H (HT.out.kp k (fun x => x)) h hh)
      rw [HFB.out] at HFM
      simp only [atN, isN] at HFM
      clear hcm hcm0
      go_wp2_with fail
      refine HNM.out.mono ?_
      rintro e w6 ⟨tb2, rfl, hR6, hk6⟩
      have HR6 := Lib.hid hR6; have HK6 := Lib.hid (HK5.out.trans hk6); have HB6 := Lib.hid (HB5.out.kp hk6 (fun x => x))
      have b0 := HB6.out.cell 0 rfl
      have b1 := HB6.out.cell 1 rfl
      have b2 := HB6.out.cell 2 rfl
      have b3 := HB6.out.cell 3 rfl
      have b4 := HB6.out.cell 4 rfl
      have b5 := HB6.out.cell 5 rfl
      have b6 := HB6.out.cell 6 rfl
      clear hk6 hR6
      go_wp2_with (first
        | (go_at_call 9; refine (HFM.out _ HK6.out tb2 HR6.out).mono ?_; rintro e w7 ⟨rfl, hk7⟩; have HK7 := Lib.hid (HK6.out.trans hk7); clear hk7)
        | (go_at_call 7; refine (HL.out _ HK7.out).mono ?_; rintro e w8 ⟨rfl, hk8⟩; have HK8 := Lib.hid (HK7.out.trans hk8); clear hk8))
      go_ret
      exact ⟨rfl, HK8.out⟩
end Go.Proofs.YthnlggecjdifnaaDoor
