/- The document's waits, and the walk of FairWaits. -/
import Derived.Test.YthjapdjglifopaaFwW
import Derived.Test.YthjapdjglifopaaSatR
import Derived.Test.YthjapdjglifopaaKept
import Derived.Test.YthjapdjglifopaaFairL
namespace Go.Proofs.Ythjapdjglifopaa
set_option linter.unusedVariables false
set_option linter.unusedSimpArgs false
open Go Go.RowKit Go.Shelf

set_option maxRecDepth 100000 in
set_option maxHeartbeats 4000000 in
theorem rTime (x : List OpR) (hx : ∀ o ∈ x, o.ok) (hxn : x.length ≤ 1000) (m : Nat) (hm : m ≤ x.length) (u : Value) (w : World) (h1 : Sl w u x.length 5 (x.flatMap enO)) :
    Calls Try.prog 48 #[u, .int .i64 m] w fun e w' => e = .returned (.int .u64 (nowF (x.take m))) ∧ Kp none' w w' := by
  obtain ⟨ao, acap, rfl⟩ : ∃ ao cap, u = .slice ao x.length cap := by obtain ⟨ao, cap, rfl, _⟩ := h1.is; exact ⟨_, _, rfl⟩
  have HX := Lib.hid h1
  clear h1
  go_enter Try.func48, Try.ntmps48
  go_wp2
  go_loopw [5, 6] (fun n0 k0 wi => ∃ (k n : Nat), k0 = .int .i64 k ∧ k ≤ m ∧ n0 = .int .u64 n ∧ n < 18446744073709551616 ∧ Hid (n = nowF (x.take k) ∧ Kp none' w wi)) (fun _ k0 _ => m - (intOf k0).toNat)
  case atStart => exact ⟨0, 0, rfl, by omega, rfl, by omega, rfl, Kp.refl _ _⟩
  case round =>
    obtain ⟨k, n, rfl, hk, rfl, hn, hi⟩ := hrel
    by_cases hkm : k < m
    · have hki : (k : Int) < m := by omega
      have hkx : k < x.length := by omega
      have c1 : (k : Int) < x.length := by omega
      obtain ⟨gx, ox, cx, e1, hcx⟩ := (HX.out.old hi.out.2).at enO_len (by decide) k hkx
      injection e1 with e1 _ e3
      subst e1 e3
      have hoo := hx x[k] (List.getElem_mem hkx)
      have hnw : nowF (x.take (k + 1)) = nowS n x[k] := by rw [List.take_succ_eq_append_getElem hkx, nowF_snoc, hi.out.1]
      obtain ⟨⟨ok, ofl, oid, oln, otk⟩, ho⟩ : ∃ o, x[k] = o := ⟨_, rfl⟩
      rw [ho] at hoo hcx hnw
      have htk := hoo.ticks
      simp only at htk
      have d0 := hcx 0 _ rfl
      have d4 := hcx 4 _ rfl
      simp only [Nat.add_zero] at d0
      have HNW := Lib.hid hnw
      have HA := Lib.hid (fun W => rAdd n otk hn htk W)
      clear hcx hnw hoo ho
      by_cases hk3 : ok = 3
      · have HL : Hid (nowF (x.take (k + 1)) = satN n otk) := by show _ = _; rw [HNW.out]; unfold nowS; rw [if_pos hk3]
        subst hk3
        have hs := satN_lt n otk
        obtain ⟨n2, hn2⟩ : ∃ z, satN n otk = z := ⟨_, rfl⟩
        rw [hn2] at HA HL hs
        clear hn2
        go_wp2_with fail
        refine (HA.out _).mono ?_
        rintro e w4 ⟨rfl, k4⟩
        have HK4 := Lib.hid (hi.out.2.trans k4)
        clear k4
        go_wp2_with fail
        go_roundw
        case rel => exact ⟨k + 1, n2, by go_num, by omega, rfl, hs, HL.out.symm, HK4.out⟩
        case measure => simp [intOf]; omega
      · have HL : Hid (nowF (x.take (k + 1)) = n) := by show _ = _; rw [HNW.out]; unfold nowS; rw [if_neg hk3]
        have hk3b : (ok == 3) = false := by simpa using hk3
        go_wp2_with fail
        go_roundw
        case rel => exact ⟨k + 1, n, by go_num, by omega, rfl, hn, HL.out.symm, hi.out.2⟩
        case measure => simp [intOf]; omega
    · have hkk : k = m := by omega
      subst hkk
      go_wp2_with fail
      go_ret
      exact ⟨by rw [hi.out.1]; rfl, hi.out.2⟩
theorem tWtR : SlT Try.prog 41 47 (.agg #[.int .u32 0, .int .u32 0, .int .u64 0, .int .u64 0, .int .u64 0]) 5 32 := ⟨Try.underlying41, by kernel_rfl, rfl, by decide⟩
theorem tBl : SlT Try.prog 83 4 (.bool false) 1 1 := ⟨Try.underlying83, by kernel_rfl, rfl, by decide⟩
theorem first_at {l : List RpR} {told : List Bool} {p : Pk} {i k : Nat} (h1 : k < i) (h2 : mayT l told p k = true) (h3 : ∀ j, j < k → mayT l told p j = false) : firstT l told p i = some k := by
  unfold firstT
  rw [List.find?_range_eq_some]
  simp only [List.mem_range, Bool.not_eq_eq_eq_not, Bool.not_true]
  exact ⟨h2, h1, h3⟩
theorem first_no {l : List RpR} {told : List Bool} {p : Pk} {i : Nat} (h : ∀ j, j < i → mayT l told p j = false) : firstT l told p i = none := by
  unfold firstT
  rw [List.find?_range_eq_none]
  intro j hj
  simp [h j hj]
theorem told_map (l : List Bool) : (l ++ [false]).map Value.bool = l.map Value.bool ++ [.bool false] := by simp
theorem told_set (l : List Bool) (k : Nat) : (l.set k true).map Value.bool = (l.map Value.bool).set k (.bool true) := by
  rw [List.map_set]
/-- What the document's loop keeps. -/
structure WrI (x : List OpR) (l : List RpR) (B : Nat) (w wr : World) (v v6 : Value) (i : Nat) : Prop where
  own : wr.ownsRow B 47 5 v (wS x l i).out.length ((wS x l i).out.flatMap enT)
  told : wr.ownsRow B 4 1 v6 i ((wS x l i).told.map Value.bool)
  kp : Kp none' w wr
end Go.Proofs.Ythjapdjglifopaa
namespace Go.Proofs.Ythjapdjglifopaa
set_option linter.unusedVariables false
set_option linter.unusedSimpArgs false
open Go Go.RowKit Go.Shelf

set_option maxRecDepth 100000 in
set_option maxHeartbeats 8000000 in
theorem rWaitsR (x : List OpR) (l : List RpR) (hx : ∀ o ∈ x, o.ok) (hl : ∀ q ∈ l, q.ok) (hxn : x.length ≤ 1000) (hln : l.length ≤ 1000) (u v : Value) (w : World) (h1 : Sl w u x.length 5 (x.flatMap enO)) (h2 : Sl w v l.length 42 (l.flatMap enQ)) :
    Calls Try.prog 17 #[u, v] w fun e w' => ∃ r, e = .returned r ∧ w'.ownsRow w.heap.size 47 5 r (outW x l).length ((outW x l).flatMap enT) ∧ Kp none' w w' := by
  obtain ⟨xo, xc, rfl⟩ : ∃ ao cap, u = .slice ao x.length cap := by obtain ⟨ao, cap, rfl, _⟩ := h1.is; exact ⟨_, _, rfl⟩
  obtain ⟨lo, lc, rfl⟩ : ∃ ao cap, v = .slice ao l.length cap := by obtain ⟨ao, cap, rfl, _⟩ := h2.is; exact ⟨_, _, rfl⟩
  have HX := Lib.hid h1; have HQ := Lib.hid h2; have HXO := Lib.hid hx; have HLO := Lib.hid hl
  obtain ⟨N, hN⟩ : ∃ N, N = min x.length l.length := ⟨_, rfl⟩
  have hNx : N ≤ x.length := by omega
  have hNl : N ≤ l.length := by omega
  have HRES : Hid (outW x l = (wS x l N).out) := by show _ = _; unfold outW; rw [hN]
  have HN := Lib.hid hN
  have HI0 : Hid (WrI x l w.heap.size w w (.slice none 0 0) (.slice none 0 0) 0) := ⟨⟨rfl, .inl ⟨rfl, rfl⟩⟩, ⟨rfl, .inl ⟨rfl, rfl⟩⟩, Kp.refl _ _⟩
  clear h1 h2 hx hl hN
  go_enter Try.func17, Try.ntmps17
  go_wp2_with fail
  go_loopw [5, 6, 7] (fun s5 s6 i wr => ∃ (j : Nat) (v5 v6 : Value), v5 = s5 ∧ v6 = s6 ∧ i = .int .i64 j ∧ j ≤ N ∧ Hid (WrI x l w.heap.size w wr v5 v6 j)) (fun _ _ i _ => N - (intOf i).toNat)
  case atStart => exact ⟨0, _, _, rfl, rfl, rfl, by omega, HI0.out⟩
  case round =>
    clear HI0
    obtain ⟨j, v5, v6, rfl, rfl, rfl, hj, HI⟩ := hrel
    by_cases hlt : j < N
    · have hjl : j < l.length := by omega
      have hjx : j < x.length := by omega
      have hjli : (j : Int) < l.length := by omega
      have hjxi : (j : Int) < x.length := by omega
      have hws := HI.out.kp.size
      have hwl := wS_len x l j
      have hol := wS_out x l j
      obtain ⟨gq, oq, cq, e1, hcq⟩ := HQ.out.at enQ_len (by decide) j hjl
      injection e1 with e1 _ e3
      subst e1 e3
      have hqo := HLO.out l[j] (List.getElem_mem hjl)
      have hgd : l.getD j default = l[j] := by simp [List.getD, hjl]
      have hst : wS x l (j + 1) = stepW x l (wS x l j) j := rfl
      obtain ⟨q, hq⟩ : ∃ q, l[j] = q := ⟨_, rfl⟩
      rw [hq] at hqo hcq hgd
      unfold stepW at hst
      rw [hgd] at hst
      obtain ⟨qk, qc, qf, qi, qn, qone, _, _, _, _, _⟩ := hqo
      have q0 := hcq 0 _ qk
      have q1 := hcq 1 _ qc
      have q2 := hcq 2 _ qf
      have q3 := hcq 3 _ qi
      have q4 := hcq 4 _ qn
      simp only [Nat.add_zero] at q0
      have q3' : w.cell? ⟨gq, oq + j * 42 + 2 + 1, none⟩ = some (.int .u32 q.id) := q3
      have q4' : w.cell? ⟨gq, oq + j * 42 + 2 + 2, none⟩ = some (.int .u64 q.len) := q4
      have HQ2 := Lib.hid q2; have HQ3 := Lib.hid q3; have HQ4 := Lib.hid q4; have HQ3' := Lib.hid q3'; have HQ4' := Lib.hid q4'
      have HST := Lib.hid hst
      have HGE : Hid (goesB q = (decide (q.kind = 2) && decide (q.code = 0))) := rfl
      have HTL := Lib.hid hwl
      have HP : Hid (pkQ q = (q.flow, q.id, q.len)) := rfl
      obtain ⟨fq, hfq⟩ : ∃ z, q.flow = z := ⟨_, rfl⟩
      obtain ⟨iq, hiq⟩ : ∃ z, q.id = z := ⟨_, rfl⟩
      obtain ⟨nq0, hnq0⟩ : ∃ z, q.len = z := ⟨_, rfl⟩
      obtain ⟨kd, hkd⟩ : ∃ z, q.kind = z := ⟨_, rfl⟩
      obtain ⟨cd, hcd⟩ : ∃ z, q.code = z := ⟨_, rfl⟩
      rw [hfq] at HQ2 HP
      rw [hiq] at HQ3 HQ3' HP
      rw [hnq0] at HQ4 HQ4' HP
      rw [hkd] at q0 HGE
      rw [hcd] at q1 HGE
      clear hst qk qc qf qi qn qone q2 q3 q4 q3' q4' hcq hfq hiq hnq0 hkd hcd hgd
      obtain ⟨wo, hwo⟩ : ∃ wo : World, wo = wr := ⟨_, rfl⟩
      subst hwo
      cases hgo : goesB q with
      | false =>
        have hstep : wS x l (j + 1) = ⟨(wS x l j).told ++ [false], (wS x l j).out⟩ := by rw [HST.out, hgo]
        have HSTEP := Lib.hid hstep
        rw [hgo] at HGE
        clear hstep HST
        by_cases hk2 : kd = 2
        · subst hk2
          have hc0 : ¬ cd = 0 := fun h => by have := HGE.out; simp [h] at this
          have hc0b : (cd != 0) = true := by simpa using hc0
          go_wp2_with (first
            | (refine wp_app1 tBl (.tmp 21) (.tmp 22) rfl rfl w.heap.size (v := v6) (own_kp (S := none') HI.out.told ((Kp.refl none' wo).alloc _) (fun _ _ h => h)) [.bool false] rfl rfl rfl (fr := (0, 0)) (heap_new _ _) rfl (by omega) (by omega) (by simp; omega) ?_; intro g6 cap6 w3 hown6 hgrow6
               have hk3 : Kp none' w w3 := (HI.out.kp.alloc _).grown hgrow6 (fun b hb => .inr (own_block HI.out.told hb).1)
               have c0 := hk3.cell q0 (fun x => x); have c1 := hk3.cell q1 (fun x => x)
               have hown5 := own_kp (S := fun b => v6.ownBlock = some b) HI.out.own (((Kp.refl (fun b => v6.ownBlock = some b) wo).alloc _).grown hgrow6 (fun b hb => .inl hb)) (own_ne_own HI.out.own HI.out.told (by decide))
               rw [← told_map] at hown6
               have HK3 := Lib.hid hk3; have HO5 := Lib.hid hown5; have HO6 := Lib.hid hown6
               clear hk3 hown5 hown6 hgrow6))
          have hwa : WrI x l w.heap.size w w3 v5 (.slice (some ⟨g6, 0, none⟩) (j + 1) cap6) (j + 1) := ⟨by rw [HSTEP.out]; exact HO5.out, by rw [HSTEP.out]; exact HO6.out, HK3.out⟩
          have HWA := Lib.hid hwa
          clear hwa c0 c1
          go_wp2_with fail
          go_roundw
          case rel => exact ⟨j + 1, _, _, rfl, rfl, by go_num, by omega, HWA.out⟩
          case measure => simp [intOf]; omega
        · have hk2b : (kd != 2) = true := by simpa using hk2
          go_wp2_with (first
            | (refine wp_app1 tBl (.tmp 21) (.tmp 22) rfl rfl w.heap.size (v := v6) (own_kp (S := none') HI.out.told ((Kp.refl none' wo).alloc _) (fun _ _ h => h)) [.bool false] rfl rfl rfl (fr := (0, 0)) (heap_new _ _) rfl (by omega) (by omega) (by simp; omega) ?_; intro g6 cap6 w3 hown6 hgrow6
               have hk3 : Kp none' w w3 := (HI.out.kp.alloc _).grown hgrow6 (fun b hb => .inr (own_block HI.out.told hb).1)
               have c0 := hk3.cell q0 (fun x => x); have c1 := hk3.cell q1 (fun x => x)
               have hown5 := own_kp (S := fun b => v6.ownBlock = some b) HI.out.own (((Kp.refl (fun b => v6.ownBlock = some b) wo).alloc _).grown hgrow6 (fun b hb => .inl hb)) (own_ne_own HI.out.own HI.out.told (by decide))
               rw [← told_map] at hown6
               have HK3 := Lib.hid hk3; have HO5 := Lib.hid hown5; have HO6 := Lib.hid hown6
               clear hk3 hown5 hown6 hgrow6))
          have hwa : WrI x l w.heap.size w w3 v5 (.slice (some ⟨g6, 0, none⟩) (j + 1) cap6) (j + 1) := ⟨by rw [HSTEP.out]; exact HO5.out, by rw [HSTEP.out]; exact HO6.out, HK3.out⟩
          have HWA := Lib.hid hwa
          clear hwa c0 c1
          go_wp2_with fail
          go_roundw
          case rel => exact ⟨j + 1, _, _, rfl, rfl, by go_num, by omega, HWA.out⟩
          case measure => simp [intOf]; omega
      | true =>
        rw [hgo] at HGE
        have hkc : kd = 2 ∧ cd = 0 := by have := HGE.out; simpa using this.symm
        obtain ⟨rfl, rfl⟩ := hkc
        go_wp2_with (first
          | (refine wp_app1 tBl (.tmp 21) (.tmp 22) rfl rfl w.heap.size (v := v6) (own_kp (S := none') HI.out.told ((Kp.refl none' wo).alloc _) (fun _ _ h => h)) [.bool false] rfl rfl rfl (fr := (0, 0)) (heap_new _ _) rfl (by omega) (by omega) (by simp; omega) ?_; intro g6 cap6 w3 hown6 hgrow6
             have hk3 : Kp none' w w3 := (HI.out.kp.alloc _).grown hgrow6 (fun b hb => .inr (own_block HI.out.told hb).1)
             have c0 := hk3.cell q0 (fun x => x); have c1 := hk3.cell q1 (fun x => x)
             have hown5 := own_kp (S := fun b => v6.ownBlock = some b) HI.out.own (((Kp.refl (fun b => v6.ownBlock = some b) wo).alloc _).grown hgrow6 (fun b hb => .inl hb)) (own_ne_own HI.out.own HI.out.told (by decide))
             rw [← told_map] at hown6
             have HK3 := Lib.hid hk3; have HO5 := Lib.hid hown5; have HO6 := Lib.hid hown6
             clear hk3 hown5 hown6 hgrow6))
        clear c0 c1 q0 q1
        go_loopw [5, 8] (fun s5 k0 wi => ∃ k : Nat, v5 = s5 ∧ k0 = .int .i64 k ∧ k ≤ j ∧ Hid ((∀ i, i < k → mayT l (wS x l j).told (pkQ q) i = false) ∧ Kp none' w3 wi)) (fun _ k0 _ => j - (intOf k0).toNat)
        case atStart => exact ⟨0, rfl, rfl, by omega, fun i h => by omega, Kp.refl _ _⟩
        case round =>
          obtain ⟨k, rfl, rfl, hk, hi⟩ := hrel
          have HKI := Lib.hid hi.out.2
          have HKW2 := Lib.hid (HK3.out.trans hi.out.2)
          have HLW := Lib.hid hi.out.1
          clear hi
          by_cases hkj : k < j
          · have hki : (k : Int) < j := by omega
            have hkl : k < l.length := by omega
            have hkli : (k : Int) < l.length := by omega
            have hktl : (k : Int) < (j : Int) + 1 := by omega
            obtain ⟨gq2, oq2, cq2, e2, hcp⟩ := HQ.out.at enQ_len (by decide) k hkl
            cases e2
            have hpo := HLO.out l[k] (List.getElem_mem hkl)
            obtain ⟨b, hb⟩ : ∃ b, (wS x l j).told.getD k false = b := ⟨_, rfl⟩
            have ht : (wS x l j).told[k]? = some b := by rw [← hb, List.getD_eq_getElem?_getD, List.getElem?_eq_getElem (by rw [hwl]; exact hkj)]; rfl
            have hmay : mayT l (wS x l j).told (pkQ q) k = (letsB l[k] && decide (pkQ l[k] = pkQ q) && !b) := by rw [← hb]; unfold mayT; simp [List.getD, hkl]
            obtain ⟨p, hp⟩ : ∃ p, l[k] = p := ⟨_, rfl⟩
            rw [hp] at hpo hcp hmay
            obtain ⟨pk, pc, pf, pi, pn, _, _, _, _, _, _⟩ := hpo
            have a0 := HKW2.out.cell (hcp 0 _ pk) (fun x => x)
            have a1 := HKW2.out.cell (hcp 1 _ pc) (fun x => x)
            have a2 := HKW2.out.cell (hcp 2 _ pf) (fun x => x)
            have a3 : wr.cell? ⟨gq, oq + k * 42 + 2 + 1, none⟩ = some (.int .u32 p.id) := HKW2.out.cell (hcp 3 _ pi) (fun x => x)
            have a4 : wr.cell? ⟨gq, oq + k * 42 + 2 + 2, none⟩ = some (.int .u64 p.len) := HKW2.out.cell (hcp 4 _ pn) (fun x => x)
            simp only [Nat.add_zero] at a0
            have d2 := HKW2.out.cell HQ2.out (fun x => x)
            have d3 := HKW2.out.cell HQ3'.out (fun x => x)
            have d4 := HKW2.out.cell HQ4'.out (fun x => x)
            have ho6 := own_kp (S := none') HO6.out HKI.out (fun _ _ h => h)
            have ht6 : ((((wS x l j).told ++ [false]).map Value.bool))[k]? = some (.bool b) := by rw [List.getElem?_map, List.getElem?_append_left (by rw [hwl]; exact hkj), ht]; rfl
            have tb := own_cell ho6 k ht6
            have HLE : Hid (letsB p = (decide (p.kind = 1) && decide (p.code = 0))) := rfl
            have HPP : Hid (pkQ p = (p.flow, p.id, p.len)) := rfl
            have HMAY := Lib.hid hmay
            have HNX0 : Hid (mayT l (wS x l j).told (pkQ q) k = false → ∀ i, i < k + 1 → mayT l (wS x l j).told (pkQ q) i = false) := fun h i hi => by
              rcases Nat.lt_or_ge i k with h1 | h1
              · exact HLW.out i h1
              · have : i = k := by omega
                subst this; exact h
            have HO6W := Lib.hid ho6
            obtain ⟨fp, hfp⟩ : ∃ z, p.flow = z := ⟨_, rfl⟩
            obtain ⟨ip, hip⟩ : ∃ z, p.id = z := ⟨_, rfl⟩
            obtain ⟨np, hnp⟩ : ∃ z, p.len = z := ⟨_, rfl⟩
            obtain ⟨kp, hkp⟩ : ∃ z, p.kind = z := ⟨_, rfl⟩
            obtain ⟨cp, hcp'⟩ : ∃ z, p.code = z := ⟨_, rfl⟩
            rw [hfp] at a2 HPP
            rw [hip] at a3 HPP
            rw [hnp] at a4 HPP
            rw [hkp] at a0 HLE
            rw [hcp'] at a1 HLE
            clear pk pc pf pi pn hcp hb ht ht6 hmay hp hfp hip hnp hkp hcp' ho6
            by_cases hk1 : kp = 1
            · subst hk1
              by_cases hc1 : cp = 0
              · subst hc1
                have HL1 : Hid (letsB p = true) := by show _ = _; rw [HLE.out]; rfl
                by_cases hf : fp = fq
                · subst hf
                  by_cases hid' : ip = iq
                  · subst hid'
                    by_cases hln' : np = nq0
                    · subst hln'
                      have HEQ : Hid (pkQ p = pkQ q) := by show _ = _; rw [HPP.out, HP.out]
                      cases b with
                      | true =>
                        have hm : mayT l (wS x l j).told (pkQ q) k = false := by rw [HMAY.out]; simp
                        have HNX := Lib.hid (HNX0.out hm)
                        clear hm
                        go_wp2_with fail
                        go_quiet (fail)
                        have HKW := Lib.hid (HKI.out.drewN nq)
                        clear HKI HKW2 a0 a1 a2 a3 a4 d2 d3 d4 tb HO6W
                        generalize wr.drewN nq = w5 at *
                        go_wp2_with fail
                        go_roundw
                        case rel => exact ⟨k + 1, rfl, by go_num, by omega, HNX.out, HKW.out⟩
                        case measure => simp [intOf]; omega
                      | false =>
                        have hm : mayT l (wS x l j).told (pkQ q) k = true := by rw [HMAY.out, HL1.out, HEQ.out]; simp
                        have HM := Lib.hid hm
                        clear hm
                        have hft := first_at hkj HM.out HLW.out
                        have hstep : wS x l (j + 1) = ⟨((wS x l j).told ++ [false]).set k true, (wS x l j).out ++ [(pkQ q, nowF (x.take k), nowF (x.take j))]⟩ := by rw [HST.out, hgo]; simp only [hft]
                        obtain ⟨t0, ht0⟩ : ∃ t0, nowF (x.take k) = t0 := ⟨_, rfl⟩
                        obtain ⟨t1, ht1⟩ : ∃ t1, nowF (x.take j) = t1 := ⟨_, rfl⟩
                        have hT0 : ∀ W, Kp none' w W → Calls Try.prog 48 #[.slice xo x.length xc, .int .i64 k] W fun e w' => e = .returned (.int .u64 t0) ∧ Kp none' W w' := fun W h => by rw [← ht0]; exact rTime x HXO.out hxn k (by omega) _ W (HX.out.old h)
                        have hT1 : ∀ W, Kp none' w W → Calls Try.prog 48 #[.slice xo x.length xc, .int .i64 j] W fun e w' => e = .returned (.int .u64 t1) ∧ Kp none' W w' := fun W h => by rw [← ht1]; exact rTime x HXO.out hxn j (by omega) _ W (HX.out.old h)
                        rw [ht0, ht1] at hstep
                        have HSTEP := Lib.hid hstep; have HT0 := Lib.hid hT0; have HT1 := Lib.hid hT1
                        clear hft hstep hT0 hT1 ht0 ht1
                        go_wp2_with fail
                        go_quiet (fail)
                        have HKW := Lib.hid (HKI.out.drewN nq)
                        have tb5 := ((Kp.refl none' wr).drewN nq).cell tb (fun x => x)
                        clear HKI HKW2 a0 a1 a2 a3 a4 d2 d3 d4 tb HO6W
                        generalize wr.drewN nq = w5 at *
                        have hkw5 := HK3.out.trans HKW.out
                        have ho6 := own_kp (S := none') HO6.out HKW.out (fun _ _ h => h)
                        have ho5 := own_kp (S := none') HO5.out HKW.out (fun _ _ h => h)
                        have hfz := own_fz ho6 k
                        have hk6 : Kp none' w (w5.setCell ⟨g6, k, none⟩ (.bool true)) := hkw5.set (p := ⟨g6, k, none⟩) (.inr (own_block HO6.out rfl).1) (.bool true)
                        have ho6' := own_set ho6 k (.bool true)
                        rw [← told_set] at ho6'
                        have ho5' := own_setNe ho5 (a := ⟨g6, k, none⟩) (fun b hb e => own_ne_own ho5 ho6 (by decide) b hb (by rw [e]; rfl)) (.bool true)
                        have HKW6 := Lib.hid hk6; have HO6' := Lib.hid ho6'; have HO5' := Lib.hid ho5'
                        clear hkw5 ho6 ho5 hk6 ho6' ho5'
                        go_wp2_with fail
                        generalize w5.setCell ⟨g6, k, none⟩ (.bool true) = w6 at *
                        have f2 := HKW6.out.cell HQ2.out (fun x => x)
                        have f3 := HKW6.out.cell HQ3'.out (fun x => x)
                        have f4 := HKW6.out.cell HQ4'.out (fun x => x)
                        have GT0 : Hid (∀ W, Kp none' w6 W → Calls Try.prog 48 #[.slice xo x.length xc, .int .i64 k] W fun e w' => e = .returned (.int .u64 t0) ∧ Kp none' W w') := fun W h => HT0.out W (HKW6.out.trans h)
                        have GT1 : Hid (∀ W, Kp none' w6 W → Calls Try.prog 48 #[.slice xo x.length xc, .int .i64 j] W fun e w' => e = .returned (.int .u64 t1) ∧ Kp none' W w') := fun W h => HT1.out W (HKW6.out.trans h)
                        refine wp_region_kept2 [0] [1, 2, 3, 4, 5, 6, 7, 8, 9, 10, 11, 12] 13 (by kernel_rfl) (by kernel_rfl) (fun c a d u w h => by cases d <;> exact h) ?_
                        simp only [pick, List.getElem?_cons_succ, List.getElem?_cons_zero, List.drop_succ_cons, List.drop_zero]
                        repeat (first
                          | (refine wpHeads_op (by exact rfl) (by as_aux_lemma => intro W; go_simp; exact rfl) ?_; simp only [Act.put, List.setIfInBounds_toArray, List.set_cons_succ, List.set_cons_zero])
                          | (refine wpHeads_off (by exact rfl) ?_; simp only [Act.put, List.setIfInBounds_toArray, List.set_cons_succ, List.set_cons_zero]))
                        show wpKL _ _ _ _ _ _
                        repeat (first
                          | (refine wpKL_op (by exact rfl) (by as_aux_lemma => intro W hK; have e2 := hK.cell f2 (fun x => x); have e3 := hK.cell f3 (fun x => x); have e4 := hK.cell f4 (fun x => x); go_simp; exact rfl) ?_; simp only [Act.put, List.setIfInBounds_toArray, List.set_cons_succ, List.set_cons_zero])
                          | (refine wpKL_off (by exact rfl) ?_; simp only [Act.put, List.setIfInBounds_toArray, List.set_cons_succ, List.set_cons_zero])
                          | (refine wpKL_call (by exact rfl) (by as_aux_lemma => intro W; go_simp; exact ⟨rfl, rfl⟩) (by intro W hK; with_reducible first | exact GT0.out W hK | exact GT1.out W hK) ?_; simp only [Act.put, List.setIfInBounds_toArray, List.set_cons_succ, List.set_cons_zero]))
                        show ∀ W, _ → wpList _ _ _ _ _ _
                        intro W7 hK7
                        have hws7 := (HKW6.out.trans hK7).size
                        have HO57 := Lib.hid (own_kp (S := none') HO5'.out (hK7.alloc (.cells #[.int .u32 fp, .int .u32 ip, .int .u64 np, .int .u64 t0, .int .u64 t1] 47)) (fun _ _ h => h))
                        go_wp2_with (first
                          | (refine wp_app1 tWtR (.tmp 80) (.tmp 93) rfl rfl w.heap.size (v := v5) HO57.out [.int .u32 fp, .int .u32 ip, .int .u64 np, .int .u64 t0, .int .u64 t1] rfl rfl rfl (fr := (0, 0)) (heap_new _ _) rfl (by omega) (by omega) (by simp; omega) ?_; intro g8 cap8 w8 hown8 hgrow8
                             have hk8 : Kp none' w w8 := ((HKW6.out.trans hK7).alloc _).grown hgrow8 (fun b hb => .inr (own_block HO5'.out hb).1)
                             have hk78 : Kp (fun b => v5.ownBlock = some b) w6 w8 := ((hK7.mono (T := fun b => v5.ownBlock = some b) (fun _ _ x => x.elim)).alloc _).grown hgrow8 (fun b hb => .inl hb)
                             have ho68 := own_kp HO6'.out hk78 (fun b hb hb' => own_ne_own HO5'.out HO6'.out (by decide) b hb' hb)
                             have hwa : WrI x l w.heap.size w w8 (.slice (some ⟨g8, 0, none⟩) ((wS x l j).out.length + 1) cap8) (.slice (some ⟨g6, 0, none⟩) (j + 1) cap6) (j + 1) := ⟨by rw [HSTEP.out, List.length_append, List.flatMap_append, HP.out]; exact hown8, by rw [HSTEP.out]; exact ho68, hk8⟩
                             have HWA := Lib.hid hwa
                             clear hown8 hgrow8 hk8 hk78 ho68 hwa))
                        go_roundw
                        case rel => exact ⟨j + 1, _, _, rfl, rfl, by go_num, by omega, HWA.out⟩
                        case measure => simp [intOf]; omega
                    · have hm : mayT l (wS x l j).told (pkQ q) k = false := by rw [HMAY.out, HPP.out, HP.out, decide_eq_false (by simp [hln'])]; simp
                      have HNX := Lib.hid (HNX0.out hm)
                      have hni : ¬ (np : Int) = nq0 := by omega
                      clear hm
                      go_wp2_with fail
                      go_quiet (fail)
                      have HKW := Lib.hid (HKI.out.drewN nq)
                      clear HKI HKW2 a0 a1 a2 a3 a4 d2 d3 d4 tb HO6W
                      generalize wr.drewN nq = w5 at *
                      go_wp2_with fail
                      go_roundw
                      case rel => exact ⟨k + 1, rfl, by go_num, by omega, HNX.out, HKW.out⟩
                      case measure => simp [intOf]; omega
                  · have hm : mayT l (wS x l j).told (pkQ q) k = false := by rw [HMAY.out, HPP.out, HP.out, decide_eq_false (by simp [hid'])]; simp
                    have HNX := Lib.hid (HNX0.out hm)
                    have hni : ¬ (ip : Int) = iq := by omega
                    clear hm
                    go_wp2_with fail
                    go_quiet (fail)
                    have HKW := Lib.hid (HKI.out.drewN nq)
                    clear HKI HKW2 a0 a1 a2 a3 a4 d2 d3 d4 tb HO6W
                    generalize wr.drewN nq = w5 at *
                    go_wp2_with fail
                    go_roundw
                    case rel => exact ⟨k + 1, rfl, by go_num, by omega, HNX.out, HKW.out⟩
                    case measure => simp [intOf]; omega
                · have hm : mayT l (wS x l j).told (pkQ q) k = false := by rw [HMAY.out, HPP.out, HP.out, decide_eq_false (by simp [hf])]; simp
                  have HNX := Lib.hid (HNX0.out hm)
                  have hni : ¬ (fp : Int) = fq := by omega
                  clear hm
                  go_wp2_with fail
                  go_quiet (fail)
                  have HKW := Lib.hid (HKI.out.drewN nq)
                  clear HKI HKW2 a0 a1 a2 a3 a4 d2 d3 d4 tb HO6W
                  generalize wr.drewN nq = w5 at *
                  go_wp2_with fail
                  go_roundw
                  case rel => exact ⟨k + 1, rfl, by go_num, by omega, HNX.out, HKW.out⟩
                  case measure => simp [intOf]; omega
              · have hm : mayT l (wS x l j).told (pkQ q) k = false := by rw [HMAY.out, HLE.out, decide_eq_false hc1]; simp
                have HNX := Lib.hid (HNX0.out hm)
                have hcb : (cp == 0) = false := by simpa using hc1
                clear hm
                go_wp2_with fail
                go_quiet (fail)
                have HKW := Lib.hid (HKI.out.drewN nq)
                clear HKI HKW2 a0 a1 a2 a3 a4 d2 d3 d4 tb HO6W
                generalize wr.drewN nq = w5 at *
                go_wp2_with fail
                go_roundw
                case rel => exact ⟨k + 1, rfl, by go_num, by omega, HNX.out, HKW.out⟩
                case measure => simp [intOf]; omega
            · have hm : mayT l (wS x l j).told (pkQ q) k = false := by rw [HMAY.out, HLE.out, decide_eq_false hk1]; simp
              have HNX := Lib.hid (HNX0.out hm)
              have hkb : (kp == 1) = false := by simpa using hk1
              clear hm
              go_wp2_with fail
              go_quiet (fail)
              have HKW := Lib.hid (HKI.out.drewN nq)
              clear HKI HKW2 a0 a1 a2 a3 a4 d2 d3 d4 tb HO6W
              generalize wr.drewN nq = w5 at *
              go_wp2_with fail
              go_roundw
              case rel => exact ⟨k + 1, rfl, by go_num, by omega, HNX.out, HKW.out⟩
              case measure => simp [intOf]; omega
          · have hkk : k = j := by omega
            subst hkk
            have hfn := first_no HLW.out
            have hstep : wS x l (k + 1) = ⟨(wS x l k).told ++ [false], (wS x l k).out⟩ := by rw [HST.out, hgo]; simp only [hfn]
            have hwa : WrI x l w.heap.size w wr v5 (.slice (some ⟨g6, 0, none⟩) (k + 1) cap6) (k + 1) := ⟨by rw [hstep]; exact own_kp (S := none') HO5.out HKI.out (fun _ _ h => h), by rw [hstep]; exact own_kp (S := none') HO6.out HKI.out (fun _ _ h => h), HKW2.out⟩
            have HWA := Lib.hid hwa
            clear hwa hstep hfn
            go_wp2_with fail
            go_roundw
            case rel => exact ⟨k + 1, _, _, rfl, rfl, by go_num, by omega, HWA.out⟩
            case measure => simp [intOf]; omega
    · have hjN : j = N := by omega
      subst hjN
      by_cases hjl : j < l.length
      · have b1 : (j : Int) < l.length := by omega
        have b2 : ¬ (j : Int) < x.length := by have := HN.out; omega
        have b3 : decide ((j : Int) < x.length) = false := by rw [decide_eq_false_iff_not]; exact b2
        have b4 : decide (j < x.length) = false := by rw [decide_eq_false_iff_not]; have := HN.out; omega
        go_wp2
        go_ret
        exact ⟨_, rfl, by rw [HRES.out]; exact HI.out.own, HI.out.kp⟩
      · have b3 : decide ((j : Int) < l.length) = false := by rw [decide_eq_false_iff_not]; omega
        have b4 : decide (j < l.length) = false := by rw [decide_eq_false_iff_not]; omega
        go_wp2
        go_ret
        exact ⟨_, rfl, by rw [HRES.out]; exact HI.out.own, HI.out.kp⟩
end Go.Proofs.Ythjapdjglifopaa
namespace Go.Proofs.Ythjapdjglifopaa
set_option linter.unusedVariables false
set_option linter.unusedSimpArgs false
open Go Go.RowKit Go.Shelf

set_option maxRecDepth 100000 in
set_option maxHeartbeats 8000000 in
theorem waitsLaw (x : List OpR) (l : List RpR) (hx : ∀ o ∈ x, o.ok) (hq : ∀ q ∈ l, q.ok) (u v : Value) (w : World) (h1 : Sl w u x.length 5 (x.flatMap enO)) (h2 : Sl w v l.length 42 (l.flatMap enQ)) :
    Calls Try.prog 4 #[u, v] w fun e w' => e = .returned (.bool true) ∧ Kp none' w w' := by
  have m1 := h1.max; have m2 := h2.max
  obtain ⟨ao, acap, rfl⟩ : ∃ ao cap, u = .slice ao x.length cap := by obtain ⟨ao, cap, rfl, _⟩ := h1.is; exact ⟨_, _, rfl⟩
  obtain ⟨bo, bcap, rfl⟩ : ∃ ao cap, v = .slice ao l.length cap := by obtain ⟨ao, cap, rfl, _⟩ := h2.is; exact ⟨_, _, rfl⟩
  have GL := Lib.hid fairLives
  have HX := Lib.hid h1; have HQ := Lib.hid h2
  clear h1 h2
  by_cases c1 : x.length ≤ 80
  · by_cases c2 : l.length ≤ 80
    · have e1 : decide (80 < (x.length : Int)) = false := by rw [decide_eq_false_iff_not]; omega
      have e1' : decide (80 < x.length) = false := by rw [decide_eq_false_iff_not]; omega
      have e2 : decide (80 < (l.length : Int)) = false := by rw [decide_eq_false_iff_not]; omega
      have e2' : decide (80 < l.length) = false := by rw [decide_eq_false_iff_not]; omega
      have G1 := Lib.hid (fun W h h' => fWaits x l hx hq (by omega) (by omega) (.slice ao x.length acap) (.slice bo l.length bcap) W h h')
      have G2 := Lib.hid (fun W h h' => rWaitsR x l hx hq (by omega) (by omega) (.slice ao x.length acap) (.slice bo l.length bcap) W h h')
      have hol : (outW x l).length ≤ 80 := by unfold outW; have := wS_out x l (min x.length l.length); omega
      generalize outW x l = out at *
      obtain ⟨n, hn⟩ : ∃ n, out.length = n := ⟨_, rfl⟩
      rw [hn] at hol
      simp only [hn] at G1 G2
      go_enter Try.func4, Try.ntmps4
      go_wp2_with fail
      refine (G1.out _ HX.out HQ.out).mono ?_
      rintro e w2 ⟨ra, rfl, oa, k2⟩
      have K2 := Lib.hid k2
      obtain ⟨sa, ca, rfl⟩ := own_shape oa
      have OA := Lib.hid oa
      clear oa k2 G1
      go_wp2_with fail
      refine (G2.out _ (HX.out.old K2.out) (HQ.out.old K2.out)).mono ?_
      rintro e w3 ⟨rb, rfl, ob, k3⟩
      have K3 := Lib.hid (K2.out.trans k3)
      obtain ⟨sb, cb, rfl⟩ := own_shape ob
      have OB := Lib.hid ob
      have OA3 := Lib.hid (own_kp (S := none') OA.out k3 (fun _ _ h => h))
      clear ob k3 G2 OA
      go_wp2_with fail
      go_loopw [30] (fun i0 wr => ∃ j : Nat, i0 = .int .i64 j ∧ j ≤ n ∧ Hid (Kp none' w3 wr)) (fun i0 _ => n - (intOf i0).toNat)
      case atStart => exact ⟨0, rfl, by omega, Kp.refl _ _⟩
      case round =>
        obtain ⟨j, rfl, hj, hr⟩ := hrel
        by_cases hlt : j < n
        · have hji : (j : Int) < n := by omega
          obtain ⟨ga, ca2, e1, _⟩ := own_shape1 OA3.out (by omega)
          injection e1 with e1 _ e3
          subst e1 e3
          obtain ⟨gb, cb2, e1, _⟩ := own_shape1 OB.out (by omega)
          injection e1 with e1 _ e3
          subst e1 e3
          have ha := own_kp (S := none') OA3.out hr.out (fun _ _ h => h)
          have hb := own_kp (S := none') OB.out hr.out (fun _ _ h => h)
          have hjr : j < out.length := by rw [hn]; exact hlt
          have fc := fun k (hk : k < 5) => flat_get enT 5 enT_len out j k hk
          obtain ⟨⟨⟨x0, x1, x2⟩, x3, x4⟩, hrow⟩ : ∃ x, out[j] = x := ⟨_, rfl⟩
          rw [List.getElem?_eq_getElem hjr, hrow] at fc
          have a0 := own_cell ha (j * 5 + 0) (fc 0 (by omega))
          have a1 := own_cell ha (j * 5 + 1) (fc 1 (by omega))
          have a2 := own_cell ha (j * 5 + 2) (fc 2 (by omega))
          have a3 := own_cell ha (j * 5 + 3) (fc 3 (by omega))
          have a4 := own_cell ha (j * 5 + 4) (fc 4 (by omega))
          have b0 := own_cell hb (j * 5 + 0) (fc 0 (by omega))
          have b1 := own_cell hb (j * 5 + 1) (fc 1 (by omega))
          have b2 := own_cell hb (j * 5 + 2) (fc 2 (by omega))
          have b3 := own_cell hb (j * 5 + 3) (fc 3 (by omega))
          have b4 := own_cell hb (j * 5 + 4) (fc 4 (by omega))
          simp only [Nat.add_zero] at a0 b0
          have HR := Lib.hid hr.out
          clear ha hb fc hrow hr
          go_wp2_with fail
          go_quiet (fail)
          have HD := Lib.hid (HR.out.drewN nq)
          generalize wr.drewN nq = w5 at *
          clear a0 a1 a2 a3 a4 b0 b1 b2 b3 b4
          go_wp2_with fail
          go_roundw
          case rel => exact ⟨j + 1, by go_num, by omega, HD.out⟩
          case measure => simp [intOf]; omega
        · have hje : j = n := by omega
          have K4 := Lib.hid (K3.out.trans hr.out)
          clear hr OA3 OB
          go_wp2_with fail
          refine (GL.out _).mono ?_
          rintro e w10 ⟨rfl, k10⟩
          have K10 := Lib.hid (K4.out.trans k10)
          clear k10
          go_wp2_with fail
          go_ret
          exact ⟨rfl, K10.out⟩
    · have e1 : decide (80 < (x.length : Int)) = false := by rw [decide_eq_false_iff_not]; omega
      have e1' : decide (80 < x.length) = false := by rw [decide_eq_false_iff_not]; omega
      have e2 : decide (80 < (l.length : Int)) = true := by rw [decide_eq_true_iff]; omega
      have e2' : decide (80 < l.length) = true := by rw [decide_eq_true_iff]; omega
      go_enter Try.func4, Try.ntmps4
      go_wp2_with fail
      refine (GL.out _).mono ?_
      rintro e w6 ⟨rfl, k6⟩
      have HK6 := Lib.hid k6
      clear k6
      go_wp2_with fail
      go_ret
      exact ⟨rfl, HK6.out⟩
  · have e1 : decide (80 < (x.length : Int)) = true := by rw [decide_eq_true_iff]; omega
    have e1' : decide (80 < x.length) = true := by rw [decide_eq_true_iff]; omega
    go_enter Try.func4, Try.ntmps4
    go_wp2_with fail
    refine (GL.out _).mono ?_
    rintro e w6 ⟨rfl, k6⟩
    have HK6 := Lib.hid k6
    clear k6
    go_wp2_with fail
    go_ret
    exact ⟨rfl, HK6.out⟩
end Go.Proofs.Ythjapdjglifopaa
