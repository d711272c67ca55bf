/- The document's pool, walked: Pop. -/
import Derived.Test.YtoiiofcpohoeaaaRefPoolC
namespace Go.Proofs.Ytoiiofcpohoeaaa
open Go.RowKit
set_option linter.unusedVariables false

set_option maxHeartbeats 4000000 in
theorem rPop (w : World) (B0 m : Nat) (vi vn vb : Value) (R : RP Int) (h : RMem w B0 m vi vn vb R) (q : Int) (hnd : (R.inn.map (·.2)).Nodup) (hl2 : R.inn.length ≤ 1000000) (hb : B0 ≤ w.heap.size) :
    Calls Try.prog 28 #[.pointer (some ⟨m, 0, none⟩), .int .i64 q] w fun e w' => e = .returned (.tuple #[.int .i64 (R.pop q).2.1, .bool (R.pop q).2.2]) ∧ RStep w w' B0 m vi vn vb (R.pop q).1 := by
  have HU := Lib.hid (rQueue w B0 m vi vn vb R h q hl2)
  have HM := Lib.hid h
  cases hq : R.q q with
  | nil =>
    have hS : R.pop q = (R, 0, false) := by unfold RP.pop; rw [hq]
    rw [hS]
    rw [hq] at HU
    clear h hS hq hnd
    go_enter Try.func28, Try.ntmps28
    go_wp2_with fail
    refine (HU.out).mono ?_
    rintro e w1 ⟨v, rfl, hown, hk⟩
    obtain ⟨ao, cap, rfl⟩ := own_shape hown
    have HK := Lib.hid hk
    clear hown hk
    simp only [List.length_nil]
    go_wp2
    go_ret2
    exact ⟨rfl, _, _, _, HM.out.old HK.out, HK.out.mono (fun _ _ h => h.elim)⟩
  | cons x tl =>
    have hmem : x ∈ R.inn.map (·.2) := q_in (q := q) (by rw [hq]; simp)
    obtain ⟨k, hk, hkl, hkx⟩ := posL_get hmem
    have hkl' : k < R.inn.length := by simpa using hkl
    obtain ⟨y, hy⟩ : ∃ y, R.inn[k]? = some y := ⟨_, List.getElem?_eq_some_iff.2 ⟨hkl', rfl⟩⟩
    have hyk : R.inn[k] = y := (List.getElem?_eq_some_iff.1 hy).2
    have hy1 : y.2 = x := by rw [← hyk]; simpa using hkx
    have hfi : R.inn.filter (fun p => p.2 != x) = R.inn.take k ++ R.inn.drop (k + 1) := filter_at (fun p => p.2) R.inn k x hkl' (by rw [hyk]; exact hy1) hnd
    have hS : R.pop q = ({ R with inn := R.inn.take k ++ R.inn.drop (k + 1) }, x, true) := by unfold RP.pop; rw [hq]; simp only [hfi]
    rw [hS]
    rw [hq] at HU
    obtain ⟨g, cap, e, cy0, cy1⟩ := pair_get h.inn k y hy
    subst e
    have hcells := fun i u hu => own_cell h.inn i (u := u) hu
    have hcap : R.inn.length ≤ cap := by
      rcases h.inn.2 with ⟨e, _⟩ | ⟨g', cap', cur, hv, _, _, hle, _⟩
      · cases e
      · cases hv; omega
    have HI := Lib.hid h.inn
    have HC := Lib.hid hcells
    have hA1 : ((R.inn.take k).flatMap enI).length = k * 2 := by rw [flat_len enI 2 enI_len]; simp; omega
    have hA3 := enI_one (R.inn.take k)
    have hD1 : ((R.inn.drop (k + 1)).flatMap enI).length = (R.inn.length - (k + 1)) * 2 := by rw [flat_len enI 2 enI_len]; simp
    have hD2 : ∀ j u, ((R.inn.drop (k + 1)).flatMap enI)[j]? = some u → w.cell? ⟨g, (k + 1) * 2 + j, none⟩ = some u := fun j u hu => hcells _ u (drop_flat _ _ _ (by omega) _ hu)
    have hD3 := enI_one (R.inn.drop (k + 1))
    have hA2 : ∀ j u, ((R.inn.take k).flatMap enI)[j]? = some u → w.cell? ⟨g, 0 + j, none⟩ = some u := fun j u hu => by rw [Nat.zero_add]; exact hcells j u (take_flat _ _ _ _ hu)
    have HA1 := Lib.hid hA1; have HA2 := Lib.hid hA2; have HA3 := Lib.hid hA3; have HD1 := Lib.hid hD1; have HD2 := Lib.hid hD2; have HD3 := Lib.hid hD3
    have HPK := Lib.hid hk
    clear h hS hyk hy hkl hkx hnd hfi hcells hA1 hA2 hA3 hD1 hD2 hD3 hmem hq hk
    by_cases hce : cap = k + 1
    · have hlen : R.inn.length = k + 1 := by omega
      have hdr : R.inn.drop (k + 1) = [] := List.drop_of_length_le (by omega)
      have HDR := Lib.hid hdr
      clear hdr HD1 HD2 HD3
      subst hce
      go_enter Try.func28, Try.ntmps28
      go_wp2_with fail
      refine (HU.out).mono ?_
      rintro e w0 ⟨v, rfl, hown0, hk0⟩
      obtain ⟨qg, qcap, rfl, hqg⟩ := own_shape1 hown0 (by simp)
      have cq := own_cell hown0 0 (u := .int .i64 x) rfl
      have hM0 := HM.out.old hk0
      have c3 := hM0.top.cell 3 rfl
      have hqq := rQueued w0 B0 m _ _ _ R hM0 x hl2
      rw [HPK.out] at hqq
      have HQ := Lib.hid hqq
      have HM0 := Lib.hid hM0
      have HK0 := Lib.hid hk0
      have hw0 := hk0.size
      have HA2' : Hid (∀ j u, ((R.inn.take k).flatMap enI)[j]? = some u → w0.cell? ⟨g, 0 + j, none⟩ = some u) := fun j u hu => hk0.cell (HA2.out j u hu) id
      have HQO := Lib.hid hown0
      clear hown0 hM0 hqq hk0
      simp only [List.length_cons] at cq ⊢
      go_wp2_with (first | (go_at_call 33; refine (HQ.out).mono ?_; rintro e w' ⟨rfl, rfl⟩) | (at_builtin; refine wp_appN tP (.tmp 20) (.tmp 26) rfl rfl w0.heap.size (World.ownsRow_nil _ _ _ _) ((R.inn.take k).flatMap enI) rfl rfl HA1.out HA2'.out HA3.out (by omega) (by omega) (Nat.le_refl _) ?_))
      intro v1 w1 hown1 hg1
      replace hown1 : w1.ownsRow w0.heap.size 72 2 v1 k ((R.inn.take k).flatMap enI) := by simpa using hown1
      have hk1 : Kp none' w0 w1 := (Kp.refl _ _).grown hg1 (fun b e => by cases e)
      have hk01 := HK0.out.trans hk1
      obtain ⟨lo, lcap, rfl⟩ := own_shape hown1
      have hM1 := HM.out.old hk01
      have d3 := hM1.top.cell 3 rfl
      have hw1 := hk1.size
      have cq1 := hk1.cell cq id
      have HO1 := Lib.hid hown1
      have HM1 := Lib.hid hM1
      have HK1 := Lib.hid hk1
      clear hown1 hM1 hk1 hg1 hk01
      go_wp2_with (at_builtin; refine wp_appN tP (.tmp 29) (.tmp 36) rfl rfl w0.heap.size HO1.out [] rfl rfl (by simp <;> omega) (fun j u hu => by cases hu) rfl (by omega) (by omega) hw1 ?_)
      intro v2 w2 hown2 hg2
      have hk12 : Kp none' w0 w2 := HK1.out.grown hg2 (fun b e => .inr (own_block HO1.out e).1)
      have hk2 : Kp none' w w2 := HK0.out.trans hk12
      replace hown2 : w2.ownsRow B0 72 2 v2 (R.inn.take k ++ R.inn.drop (k + 1)).length ((R.inn.take k ++ R.inn.drop (k + 1)).flatMap enI) := by
        rw [HDR.out, List.append_nil]
        have := own_base hown2 (Nat.le_trans hb hw0)
        simpa [hlen] using this
      obtain ⟨lo2, lcap2, hv2⟩ := own_shape hown2
      obtain ⟨L2, hL2⟩ : ∃ L2, (R.inn.take k ++ R.inn.drop (k + 1)).length = L2 := ⟨_, rfl⟩
      rw [hL2] at hv2
      have hM2 := HM.out.old hk2
      have hM3 := hM2.growIn (Kp.refl _ _) (R.inn.take k ++ R.inn.drop (k + 1)) hown2 (grown_refl _ _)
      have e3 := hM2.top.cell 3 rfl
      have fm2 := fun j => hM2.top.fz j
      have hne : qg ≠ m := fun e => by subst e; have := HM.out.top.lt; omega
      have cq2 := hk12.cell cq id
      have hkp := (hk2.mono (T := RF m vi (.slice (some ⟨g, 0, none⟩) R.inn.length (k + 1)) vb) (fun _ _ h => h.elim)).set (p := ⟨m, 3, none⟩) (.inl (.inl rfl)) v2
      have HST := Lib.hid hM3
      have HKP := Lib.hid hkp
      clear hown2 hM2 hM3 hk2 hg2 hL2 hkp hk12
      subst hv2
      go_wp2
      go_ret2
      exact ⟨rfl, _, _, _, HST.out, HKP.out⟩
    · have hcl : k + 1 < cap := by omega
      go_enter Try.func28, Try.ntmps28
      go_wp2_with fail
      refine (HU.out).mono ?_
      rintro e w0 ⟨v, rfl, hown0, hk0⟩
      obtain ⟨qg, qcap, rfl, hqg⟩ := own_shape1 hown0 (by simp)
      have cq := own_cell hown0 0 (u := .int .i64 x) rfl
      have hM0 := HM.out.old hk0
      have c3 := hM0.top.cell 3 rfl
      have hqq := rQueued w0 B0 m _ _ _ R hM0 x hl2
      rw [HPK.out] at hqq
      have HQ := Lib.hid hqq
      have HM0 := Lib.hid hM0
      have HK0 := Lib.hid hk0
      have hw0 := hk0.size
      have HA2' : Hid (∀ j u, ((R.inn.take k).flatMap enI)[j]? = some u → w0.cell? ⟨g, 0 + j, none⟩ = some u) := fun j u hu => hk0.cell (HA2.out j u hu) id
      have HQO := Lib.hid hown0
      clear hown0 hM0 hqq hk0
      simp only [List.length_cons] at cq ⊢
      go_wp2_with (first | (go_at_call 33; refine (HQ.out).mono ?_; rintro e w' ⟨rfl, rfl⟩) | (at_builtin; refine wp_appN tP (.tmp 20) (.tmp 26) rfl rfl w0.heap.size (World.ownsRow_nil _ _ _ _) ((R.inn.take k).flatMap enI) rfl rfl HA1.out HA2'.out HA3.out (by omega) (by omega) (Nat.le_refl _) ?_))
      intro v1 w1 hown1 hg1
      replace hown1 : w1.ownsRow w0.heap.size 72 2 v1 k ((R.inn.take k).flatMap enI) := by simpa using hown1
      have hk1 : Kp none' w0 w1 := (Kp.refl _ _).grown hg1 (fun b e => by cases e)
      have hk01 := HK0.out.trans hk1
      obtain ⟨lo, lcap, rfl⟩ := own_shape hown1
      have hM1 := HM.out.old hk01
      have d3 := hM1.top.cell 3 rfl
      have hw1 := hk1.size
      have cq1 := hk1.cell cq id
      have HD2' : Hid (∀ j u, ((R.inn.drop (k + 1)).flatMap enI)[j]? = some u → w1.cell? ⟨g, (k + 1) * 2 + j, none⟩ = some u) := fun j u hu => hk01.cell (HD2.out j u hu) id
      have HO1 := Lib.hid hown1
      have HM1 := Lib.hid hM1
      have HK1 := Lib.hid hk1
      clear hown1 hM1 hk1 hg1 hk01
      go_wp2_with (at_builtin; refine wp_appN tP (.tmp 29) (.tmp 36) rfl rfl w0.heap.size HO1.out ((R.inn.drop (k + 1)).flatMap enI) rfl rfl HD1.out HD2'.out HD3.out (by omega) (by omega) hw1 ?_)
      intro v2 w2 hown2 hg2
      have hk12 : Kp none' w0 w2 := HK1.out.grown hg2 (fun b e => .inr (own_block HO1.out e).1)
      have hk2 : Kp none' w w2 := HK0.out.trans hk12
      replace hown2 : w2.ownsRow B0 72 2 v2 (R.inn.take k ++ R.inn.drop (k + 1)).length ((R.inn.take k ++ R.inn.drop (k + 1)).flatMap enI) := by
        rw [List.flatMap_append]
        have e : (R.inn.take k ++ R.inn.drop (k + 1)).length = k + (R.inn.length - (k + 1)) := by simp; omega
        rw [e]
        exact own_base hown2 (Nat.le_trans hb hw0)
      obtain ⟨lo2, lcap2, hv2⟩ := own_shape hown2
      obtain ⟨L2, hL2⟩ : ∃ L2, (R.inn.take k ++ R.inn.drop (k + 1)).length = L2 := ⟨_, rfl⟩
      rw [hL2] at hv2
      have hM2 := HM.out.old hk2
      have hM3 := hM2.growIn (Kp.refl _ _) (R.inn.take k ++ R.inn.drop (k + 1)) hown2 (grown_refl _ _)
      have e3 := hM2.top.cell 3 rfl
      have fm2 := fun j => hM2.top.fz j
      have hne : qg ≠ m := fun e => by subst e; have := HM.out.top.lt; omega
      have cq2 := hk12.cell cq id
      have hkp := (hk2.mono (T := RF m vi (.slice (some ⟨g, 0, none⟩) R.inn.length cap) vb) (fun _ _ h => h.elim)).set (p := ⟨m, 3, none⟩) (.inl (.inl rfl)) v2
      have HST := Lib.hid hM3
      have HKP := Lib.hid hkp
      clear hown2 hM2 hM3 hk2 hg2 hL2 hkp hk12
      subst hv2
      go_wp2
      go_ret2
      exact ⟨rfl, _, _, _, HST.out, HKP.out⟩

end Go.Proofs.Ytoiiofcpohoeaaa
