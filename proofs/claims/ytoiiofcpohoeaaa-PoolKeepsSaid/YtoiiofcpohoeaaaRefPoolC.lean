/- The document's pool, walked: Give. -/
import Derived.Test.YtoiiofcpohoeaaaRefPoolB
namespace Go.Proofs.Ytoiiofcpohoeaaa
open Go.RowKit
set_option linter.unusedVariables false

/-- The one with this key taken out. -/
theorem filter_at {α : Type} (f : α → Int) (l : List α) (k : Nat) (x : Int) (hk : k < l.length) (hx : f l[k] = x) (hn : (l.map f).Nodup) : l.filter (fun p => f p != x) = l.take k ++ l.drop (k + 1) := by
  have e : l = l.take k ++ l[k] :: l.drop (k + 1) := by rw [← List.drop_eq_getElem_cons hk, List.take_append_drop]
  have hn2 := hn
  rw [e, List.map_append, List.map_cons] at hn2
  obtain ⟨h1, h2, h3⟩ := List.nodup_append.1 hn2
  obtain ⟨h4, _⟩ := List.nodup_cons.1 h2
  conv => lhs; rw [e]
  rw [List.filter_append, List.filter_cons]
  have a1 : (l.take k).filter (fun p => f p != x) = l.take k := by
    rw [List.filter_eq_self]
    intro p hp
    have := h3 (f p) (List.mem_map.2 ⟨p, hp, rfl⟩) (f l[k]) (by simp)
    rw [hx] at this; simpa using this
  have a2 : (l.drop (k + 1)).filter (fun p => f p != x) = l.drop (k + 1) := by
    rw [List.filter_eq_self]
    intro p hp
    have : f p ≠ x := fun e => h4 (by rw [hx, ← e]; exact List.mem_map.2 ⟨p, hp, rfl⟩)
    simpa using this
  rw [a1, a2, if_neg (by simp [hx])]

theorem enI_one (l : List (Int × Int)) : (l.flatMap enI).all (·.oneCell') = true := by
  rw [List.all_eq_true]
  intro v hv
  obtain ⟨p, _, hp⟩ := List.mem_flatMap.1 hv
  simp [enI] at hp
  rcases hp with rfl | rfl <;> rfl
theorem take_flat (l : List (Int × Int)) (k j : Nat) (u : Value) (h : ((l.take k).flatMap enI)[j]? = some u) : (l.flatMap enI)[j]? = some u := by
  have e : l.flatMap enI = (l.take k).flatMap enI ++ (l.drop k).flatMap enI := by rw [← List.flatMap_append, List.take_append_drop]
  rw [e, List.getElem?_append_left (List.getElem?_eq_some_iff.1 h).1]; exact h
theorem drop_flat (l : List (Int × Int)) (k j : Nat) (hk : k ≤ l.length) (u : Value) (h : ((l.drop k).flatMap enI)[j]? = some u) : (l.flatMap enI)[k * 2 + j]? = some u := by
  have e : l.flatMap enI = (l.take k).flatMap enI ++ (l.drop k).flatMap enI := by rw [← List.flatMap_append, List.take_append_drop]
  have hl : ((l.take k).flatMap enI).length = k * 2 := by rw [flat_len enI 2 enI_len]; simp; omega
  rw [e, List.getElem?_append_right (by omega), hl, Nat.add_sub_cancel_left]; exact h

theorem grown_refl (w : World) (row : Option Nat) : w.grownBy w row := ⟨rfl, rfl, rfl, Nat.le_refl _, fun _ _ _ => rfl⟩

set_option maxHeartbeats 4000000 in
theorem rGive (w : World) (B0 m : Nat) (vi vn vb : Value) (R : RP Int) (h : RMem w B0 m vi vn vb R) (x : Int) (hnd : (R.items.map (·.1)).Nodup) (hl : R.items.length ≤ 1000000) (hl2 : R.inn.length ≤ 1000000) (hl3 : R.back.length ≤ 1000000) (hb : B0 ≤ w.heap.size) :
    Calls Try.prog 26 #[.pointer (some ⟨m, 0, none⟩), .int .i64 x] w fun e w' => e = .returned (.tuple #[.int .i64 (R.give 0 x).2.1, .int .i64 (R.give 0 x).2.2]) ∧ RStep w w' B0 m vi vn vb (R.give 0 x).1 := by
  have c2 := h.top.cell 2 rfl
  have c4 := h.top.cell 4 rfl
  have HF := Lib.hid (rFind w B0 m vi vn vb R h x hl)
  have HQ := Lib.hid (rQueued w B0 m vi vn vb R h x hl2)
  have HS := Lib.hid h.same
  have HM := Lib.hid h
  by_cases h3 : x ∈ R.items.map (·.1)
  · obtain ⟨k, hk, hkl, hkx⟩ := posL_get h3
    rw [hk] at HF
    have hkl' : k < R.items.length := by simpa using hkl
    obtain ⟨y, hy⟩ : ∃ y, R.items[k]? = some y := ⟨_, List.getElem?_eq_some_iff.2 ⟨hkl', rfl⟩⟩
    have hyk : R.items[k] = y := (List.getElem?_eq_some_iff.1 hy).2
    have hy1 : y.1 = x := by rw [← hyk]; simpa using hkx
    have hf : R.find x = some y.2 := by
      refine mem_find hnd ?_
      rw [← hy1, ← hyk]; exact List.getElem_mem hkl'
    by_cases h4 : x ∈ R.inn.map (·.2)
    · obtain ⟨k2, hk2, _⟩ := posL_get h4
      rw [hk2] at HQ
      have hS : R.give 0 x = (R, 0, 9) := by unfold RP.give; rw [hf]; simp only; rw [if_pos h4]
      rw [hS]
      clear h hS h3 h4 hf hyk hy hkl hkx hnd
      go_enter Try.func26, Try.ntmps26
      go_wp2_with (first | (go_at_call 12; refine (HF.out).mono ?_; rintro e w' ⟨rfl, rfl⟩) | (go_at_call 33; refine (HQ.out).mono ?_; rintro e w' ⟨rfl, rfl⟩))
      go_ret2
      exact ⟨rfl, HS.out⟩
    · rw [posL_no h4] at HQ
      have hfi : R.items.filter (fun p => p.1 != x) = R.items.take k ++ R.items.drop (k + 1) := filter_at (fun p => p.1) R.items k x hkl' (by rw [hyk]; exact hy1) hnd
      have hS : R.give 0 x = ({ R with items := R.items.take k ++ R.items.drop (k + 1), back := R.back ++ [x] }, y.2, 0) := by unfold RP.give; rw [hf]; simp only; rw [if_neg h4, hfi]
      rw [hS]
      obtain ⟨g, cap, e, cy0, cy1⟩ := pair_get h.items k y hy
      subst e
      obtain ⟨bo, bcap, rfl⟩ := own_shape h.back
      have hcells := fun i u hu => own_cell h.items i (u := u) hu
      have hcap : R.items.length ≤ cap := by
        rcases h.items.2 with ⟨e, _⟩ | ⟨g', cap', cur, hv, _, _, hle, _⟩
        · cases e
        · cases hv; omega
      have HI := Lib.hid h.items
      have HB := Lib.hid h.back
      have HC := Lib.hid hcells
      have hA1 : ((R.items.take k).flatMap enI).length = k * 2 := by rw [flat_len enI 2 enI_len]; simp; omega
      have hA2 : ∀ j u, ((R.items.take k).flatMap enI)[j]? = some u → w.cell? ⟨g, 0 + j, none⟩ = some u := fun j u hu => by rw [Nat.zero_add]; exact hcells j u (take_flat _ _ _ _ hu)
      have hA3 := enI_one (R.items.take k)
      have hD1 : ((R.items.drop (k + 1)).flatMap enI).length = (R.items.length - (k + 1)) * 2 := by rw [flat_len enI 2 enI_len]; simp
      have hD2 : ∀ j u, ((R.items.drop (k + 1)).flatMap enI)[j]? = some u → w.cell? ⟨g, (k + 1) * 2 + j, none⟩ = some u := fun j u hu => hcells _ u (drop_flat _ _ _ (by omega) _ hu)
      have hD3 := enI_one (R.items.drop (k + 1))
      have HA1 := Lib.hid hA1; have HA2 := Lib.hid hA2; have HA3 := Lib.hid hA3; have HD1 := Lib.hid hD1; have HD2 := Lib.hid hD2; have HD3 := Lib.hid hD3
      clear h hS h3 h4 hf hyk hy hkl hkx hnd hfi hcells hA1 hA2 hA3 hD1 hD2 hD3
      by_cases hce : cap = k + 1
      · have hlen : R.items.length = k + 1 := by omega
        have hdr : R.items.drop (k + 1) = [] := List.drop_of_length_le (by omega)
        have HDR := Lib.hid hdr
        have hlk := HA1.out
        clear hdr HD1 HD2 HD3 hlk
        subst hce
        go_enter Try.func26, Try.ntmps26
        go_wp2_with (first | (go_at_call 12; refine (HF.out).mono ?_; rintro e w' ⟨rfl, rfl⟩) | (go_at_call 33; refine (HQ.out).mono ?_; rintro e w' ⟨rfl, rfl⟩) | (at_builtin; refine wp_appN tI (.tmp 26) (.tmp 32) rfl rfl w.heap.size (World.ownsRow_nil _ _ _ _) ((R.items.take k).flatMap enI) rfl rfl HA1.out HA2.out HA3.out (by omega) (by omega) (Nat.le_refl _) ?_))
        intro v1 w1 hown1 hg1
        replace hown1 : w1.ownsRow w.heap.size 44 2 v1 k ((R.items.take k).flatMap enI) := by simpa using hown1
        have hk1 : Kp none' w w1 := (Kp.refl _ _).grown hg1 (fun b e => by cases e)
        obtain ⟨lo, lcap, rfl⟩ := own_shape hown1
        have hM1 := HM.out.old hk1
        have d2 := hM1.top.cell 2 rfl
        have d4 := hM1.top.cell 4 rfl
        have hw1 := hk1.size
        have HO1 := Lib.hid hown1
        have HM1 := Lib.hid hM1
        have HK1 := Lib.hid hk1
        clear hown1 hM1 hk1 hg1
        go_wp2_with (at_builtin; refine wp_appN tI (.tmp 35) (.tmp 42) rfl rfl w.heap.size HO1.out [] rfl rfl (by simp <;> omega) (fun j u hu => by cases hu) rfl (by omega) (by omega) hw1 ?_)
        intro v2 w2 hown2 hg2
        have hk2 : Kp none' w w2 := HK1.out.grown hg2 (fun b e => .inr (own_block HO1.out e).1)
        replace hown2 : w2.ownsRow B0 44 2 v2 (R.items.take k ++ R.items.drop (k + 1)).length ((R.items.take k ++ R.items.drop (k + 1)).flatMap enI) := by
          rw [HDR.out, List.append_nil]
          have := own_base hown2 hb
          simpa [hlen] using this
        obtain ⟨lo2, lcap2, hv2⟩ := own_shape hown2
        obtain ⟨L2, hL2⟩ : ∃ L2, (R.items.take k ++ R.items.drop (k + 1)).length = L2 := ⟨_, rfl⟩
        rw [hL2] at hv2
        have hM2 := HM.out.old hk2
        have hM3 := hM2.growItems (Kp.refl _ _) (R.items.take k ++ R.items.drop (k + 1)) hown2 (grown_refl _ _)
        have e2 := hM2.top.cell 2 rfl
        have e4 := hM2.top.cell 4 rfl
        have fm2 := fun j => hM2.top.fz j
        have hb3 : Hid (World.ownsRow (w2.setCell ⟨m, 2, none⟩ v2) B0 3 1 (.slice bo R.back.length bcap) R.back.length (ints R.back)) := hM3.back
        have hsz3 : B0 ≤ (w2.setCell ⟨m, 2, none⟩ v2).heap.size := by have := hk2.size; simp [World.setCell]; omega
        have HM3 := Lib.hid hM3
        have HK2 := Lib.hid hk2
        clear hown2 hM2 hM3 hk2 hg2 hL2
        subst hv2
        go_wp2_with (at_builtin; refine wp_app1 ti7 (.tmp 50) (.tmp 52) rfl rfl B0 (hb3.out.alloc _) [.int .i64 x] rfl rfl rfl (fr := (0, 0)) (heap_new3 _ _ _ (by simp [World.setCell])) rfl (by omega) (by omega) (by simp only [World.size_alloc]; omega) ?_)
        intro g4 cap4 w4 hown4 hg4
        have hst := HM3.out.growBack ((Kp.refl _ _).alloc _) (R.back ++ [x]) (by rw [ints_snoc]; simpa using hown4) hg4
        have hT := (HM3.out.top.alloc (.cells [.int .i64 x].toArray 3)).grown hg4 (fun e => HM3.out.ne.mb e.symm)
        have f2 := hT.cell 4 rfl
        have ff2 := hT.fz 4
        have hkp : Kp (RF m (.slice (some ⟨g, 0, none⟩) R.items.length (k + 1)) vn (.slice bo R.back.length bcap)) w w4 := ((((HK2.out.mono (fun _ _ h => h.elim)).set (p := ⟨m, 2, none⟩) (.inl (.inl rfl)) _)).alloc _).grown hg4 (fun b e => .inl (.inr (.inr (.inr e))))
        have hkp2 := hkp.set (p := ⟨m, 4, none⟩) (.inl (.inl rfl)) (.slice (some ⟨g4, 0, none⟩) (R.back.length + 1) cap4)
        have HST := Lib.hid hst
        have HKP := Lib.hid hkp2
        clear hst hkp hkp2 hown4 hg4 hT
        go_wp2
        go_ret2
        exact ⟨rfl, _, _, _, HST.out, HKP.out⟩
      · have hcl : k + 1 < cap := by omega
        go_enter Try.func26, Try.ntmps26
        go_wp2_with (first | (go_at_call 12; refine (HF.out).mono ?_; rintro e w' ⟨rfl, rfl⟩) | (go_at_call 33; refine (HQ.out).mono ?_; rintro e w' ⟨rfl, rfl⟩) | (at_builtin; refine wp_appN tI (.tmp 26) (.tmp 32) rfl rfl w.heap.size (World.ownsRow_nil _ _ _ _) ((R.items.take k).flatMap enI) rfl rfl HA1.out HA2.out HA3.out (by omega) (by omega) (Nat.le_refl _) ?_))
        intro v1 w1 hown1 hg1
        replace hown1 : w1.ownsRow w.heap.size 44 2 v1 k ((R.items.take k).flatMap enI) := by simpa using hown1
        have hk1 : Kp none' w w1 := (Kp.refl _ _).grown hg1 (fun b e => by cases e)
        obtain ⟨lo, lcap, rfl⟩ := own_shape hown1
        have hM1 := HM.out.old hk1
        have d2 := hM1.top.cell 2 rfl
        have d4 := hM1.top.cell 4 rfl
        have hw1 := hk1.size
        have HD2' : Hid (∀ j u, ((R.items.drop (k + 1)).flatMap enI)[j]? = some u → w1.cell? ⟨g, (k + 1) * 2 + j, none⟩ = some u) := fun j u hu => hk1.cell (HD2.out j u hu) id
        have HO1 := Lib.hid hown1
        have HM1 := Lib.hid hM1
        have HK1 := Lib.hid hk1
        clear hown1 hM1 hk1 hg1
        go_wp2_with (at_builtin; refine wp_appN tI (.tmp 35) (.tmp 42) rfl rfl w.heap.size HO1.out ((R.items.drop (k + 1)).flatMap enI) rfl rfl HD1.out HD2'.out HD3.out (by omega) (by omega) hw1 ?_)
        intro v2 w2 hown2 hg2
        have hk2 : Kp none' w w2 := HK1.out.grown hg2 (fun b e => .inr (own_block HO1.out e).1)
        replace hown2 : w2.ownsRow B0 44 2 v2 (R.items.take k ++ R.items.drop (k + 1)).length ((R.items.take k ++ R.items.drop (k + 1)).flatMap enI) := by
          rw [List.flatMap_append]
          have e : (R.items.take k ++ R.items.drop (k + 1)).length = k + (R.items.length - (k + 1)) := by simp; omega
          rw [e]
          exact own_base hown2 hb
        obtain ⟨lo2, lcap2, hv2⟩ := own_shape hown2
        obtain ⟨L2, hL2⟩ : ∃ L2, (R.items.take k ++ R.items.drop (k + 1)).length = L2 := ⟨_, rfl⟩
        rw [hL2] at hv2
        have hM2 := HM.out.old hk2
        have hM3 := hM2.growItems (Kp.refl _ _) (R.items.take k ++ R.items.drop (k + 1)) hown2 (grown_refl _ _)
        have e2 := hM2.top.cell 2 rfl
        have e4 := hM2.top.cell 4 rfl
        have fm2 := fun j => hM2.top.fz j
        have hb3 : Hid (World.ownsRow (w2.setCell ⟨m, 2, none⟩ v2) B0 3 1 (.slice bo R.back.length bcap) R.back.length (ints R.back)) := hM3.back
        have hsz3 : B0 ≤ (w2.setCell ⟨m, 2, none⟩ v2).heap.size := by have := hk2.size; simp [World.setCell]; omega
        have HM3 := Lib.hid hM3
        have HK2 := Lib.hid hk2
        clear hown2 hM2 hM3 hk2 hg2 hL2
        subst hv2
        go_wp2_with (at_builtin; refine wp_app1 ti7 (.tmp 50) (.tmp 52) rfl rfl B0 (hb3.out.alloc _) [.int .i64 x] rfl rfl rfl (fr := (0, 0)) (heap_new3 _ _ _ (by simp [World.setCell])) rfl (by omega) (by omega) (by simp only [World.size_alloc]; omega) ?_)
        intro g4 cap4 w4 hown4 hg4
        have hst := HM3.out.growBack ((Kp.refl _ _).alloc _) (R.back ++ [x]) (by rw [ints_snoc]; simpa using hown4) hg4
        have hT := (HM3.out.top.alloc (.cells [.int .i64 x].toArray 3)).grown hg4 (fun e => HM3.out.ne.mb e.symm)
        have f2 := hT.cell 4 rfl
        have ff2 := hT.fz 4
        have hkp : Kp (RF m (.slice (some ⟨g, 0, none⟩) R.items.length cap) vn (.slice bo R.back.length bcap)) w w4 := ((((HK2.out.mono (fun _ _ h => h.elim)).set (p := ⟨m, 2, none⟩) (.inl (.inl rfl)) _)).alloc _).grown hg4 (fun b e => .inl (.inr (.inr (.inr e))))
        have hkp2 := hkp.set (p := ⟨m, 4, none⟩) (.inl (.inl rfl)) (.slice (some ⟨g4, 0, none⟩) (R.back.length + 1) cap4)
        have HST := Lib.hid hst
        have HKP := Lib.hid hkp2
        clear hst hkp hkp2 hown4 hg4 hT
        go_wp2
        go_ret2
        exact ⟨rfl, _, _, _, HST.out, HKP.out⟩
  · have hf := (find_pos R x).2 h3
    rw [posL_no h3] at HF
    have hS : R.give 0 x = (R, 0, 7) := by unfold RP.give; rw [hf]
    rw [hS]
    clear h hS h3 hf
    go_enter Try.func26, Try.ntmps26
    go_wp2_with (go_at_call 12; refine (HF.out).mono ?_; rintro e w' ⟨rfl, rfl⟩)
    go_ret2
    exact ⟨rfl, HS.out⟩

end Go.Proofs.Ytoiiofcpohoeaaa
