/- Walks of layer 39, the document's: the records of replies. -/
import Derived.Test.YthjapdjglifopaaTrOfW
import Derived.Test.YthjapdjglifopaaSatR
import Derived.RegionTactic
import Derived.ChangeAlike
import Derived.Deep.RegionLaw
namespace Go.Proofs.Ythjapdjglifopaa
set_option linter.unusedVariables false
set_option linter.unusedSimpArgs false
open Go.RowKit Go.Shelf

set_option maxRecDepth 100000 in
set_option maxHeartbeats 4000000 in
theorem rtOf (x : List OpR) (l : List RpR) (hx : ∀ o ∈ x, o.ok) (hl : ∀ q ∈ l, q.ok) (hxn : x.length ≤ 1000) (hln : l.length ≤ 1000) (u v : Value) (w : World) (h1 : Sl w u x.length 5 (x.flatMap enO)) (h2 : Sl w v l.length 42 (l.flatMap enQ)) :
    Calls Try.prog 30 #[u, v] w fun e w' => ∃ r, e = .returned r ∧ w'.ownsRow w.heap.size 53 6 r (min x.length l.length) ((ofF x l (min x.length l.length)).flatMap enR) ∧ Kp none' w w' := by
  obtain ⟨ao, acap, rfl⟩ : ∃ ao cap, u = .slice ao x.length cap := by obtain ⟨ao, cap, rfl, _⟩ := h1.is; exact ⟨_, _, rfl⟩
  obtain ⟨bo, bcap, rfl⟩ : ∃ ao cap, v = .slice ao l.length cap := by obtain ⟨ao, cap, rfl, _⟩ := h2.is; exact ⟨_, _, rfl⟩
  have HX := Lib.hid h1; have HQ := Lib.hid h2
  obtain ⟨N, hN⟩ : ∃ N, min x.length l.length = N := ⟨_, rfl⟩
  have hNx : N ≤ x.length := by omega
  have hNl : N ≤ l.length := by omega
  rw [hN]
  have HN := Lib.hid hN
  clear h1 h2 hN
  go_enter Try.func30, Try.ntmps30
  go_wp2
  go_loopw [5, 6] (fun r i0 wr => ∃ (j : Nat), i0 = .int .i64 j ∧ j ≤ N ∧ Hid (wr.ownsRow w.heap.size 53 6 r j ((ofF x l j).flatMap enR) ∧ Kp none' w wr)) (fun _ i0 _ => N - (intOf i0).toNat)
  case atStart => exact ⟨0, rfl, by omega, World.ownsRow_nil _ _ _ _, Kp.refl _ _⟩
  case round =>
    obtain ⟨j, rfl, hj, hr⟩ := hrel
    obtain ⟨ro, rcap, rfl⟩ := own_shape hr.out.1
    have hsz := hr.out.2.size
    by_cases hlt : j < N
    · have hjl : j < l.length := by omega
      have hjx : j < x.length := by omega
      have b1 : (j : Int) < l.length := by omega
      have b2 : (j : Int) < x.length := by omega
      obtain ⟨wo, hwo⟩ : ∃ wo : World, wo = wr := ⟨_, rfl⟩
      subst hwo
      go_wp2
      go_loopw [7, 8] (fun n0 k0 wi => ∃ (k n : Nat), k0 = .int .i64 k ∧ k ≤ j ∧ n0 = .int .u64 n ∧ n < 18446744073709551616 ∧ Hid (n = nowF (x.take k) ∧ Kp none' wo wi)) (fun _ k0 _ => j - (intOf k0).toNat)
      case atStart => exact ⟨0, 0, rfl, by omega, rfl, by omega, rfl, Kp.refl _ _⟩
      case round =>
        obtain ⟨k, n, rfl, hk, rfl, hn, hi⟩ := hrel
        by_cases hkj : k < j
        · have hkx : k < x.length := by omega
          have c1 : (k : Int) < x.length := by omega
          obtain ⟨gx, ox, cx, e1, hcx⟩ := (HX.out.old (hr.out.2.trans hi.out.2)).at enO_len (by decide) k hkx
          injection e1 with e1 _ e3
          subst e1 e3
          have hoo := hx x[k] (List.getElem_mem hkx)
          have hnw : nowF (x.take (k + 1)) = nowS n x[k] := by rw [List.take_succ_eq_append_getElem hkx, nowF_snoc, hi.out.1]
          obtain ⟨⟨ok, ofl, oid, oln, otk⟩, ho⟩ : ∃ o, x[k] = o := ⟨_, rfl⟩
          rw [ho] at hoo hcx hnw
          have htk := hoo.ticks
          simp only at htk
          have d0 := hcx 0 _ rfl
          have d4 := hcx 4 _ rfl
          simp only [Nat.add_zero] at d0
          have HNW := Lib.hid hnw
          have HA := Lib.hid (fun W => rAdd n otk hn htk W)
          clear hcx hnw hoo ho
          by_cases hk3 : ok = 3
          · have HL : Hid (nowF (x.take (k + 1)) = satN n otk) := by show _ = _; rw [HNW.out]; unfold nowS; rw [if_pos hk3]
            subst hk3
            have hs := satN_lt n otk
            obtain ⟨n2, hn2⟩ : ∃ z, satN n otk = z := ⟨_, rfl⟩
            rw [hn2] at HA HL hs
            clear hn2
            go_wp2_with fail
            refine (HA.out _).mono ?_
            rintro e w4 ⟨rfl, k4⟩
            have HK4 := Lib.hid (hi.out.2.trans k4)
            clear k4
            go_wp2_with fail
            go_roundw
            case rel => exact ⟨k + 1, n2, by go_num, by omega, rfl, hs, HL.out.symm, HK4.out⟩
            case measure => simp [intOf]; omega
          · have HL : Hid (nowF (x.take (k + 1)) = n) := by show _ = _; rw [HNW.out]; unfold nowS; rw [if_neg hk3]
            have hk3b : (ok == 3) = false := by simpa using hk3
            go_wp2_with fail
            go_roundw
            case rel => exact ⟨k + 1, n, by go_num, by omega, rfl, hn, HL.out.symm, hi.out.2⟩
            case measure => simp [intOf]; omega
        · have hkk : k = j := by omega
          subst hkk
          have hkq := hr.out.2.trans hi.out.2
          obtain ⟨gq, oq, cq, e1, hcq⟩ := (HQ.out.old hkq).at enQ_len (by decide) k hjl
          injection e1 with e1 _ e3
          subst e1 e3
          have hqo := hl l[k] (List.getElem_mem hjl)
          have hof : ofF x l (k + 1) = ofF x l k ++ [recQ n l[k]] := by rw [ofF, getD_at _ _ hjl, hi.out.1]
          obtain ⟨q, hq⟩ : ∃ q, l[k] = q := ⟨_, rfl⟩
          rw [hq] at hqo hcq hof
          have c0 := hcq 0 _ hqo.k
          have c1 := hcq 1 _ hqo.c
          have c2 := hcq 2 _ hqo.f
          have c3 := hcq 3 _ hqo.i
          have c4 := hcq 4 _ hqo.n
          simp only [Nat.add_zero] at c0
          have HOF := Lib.hid hof
          have HKP := Lib.hid hkq
          have HGQ : Hid (gq < w.heap.size) := by
            obtain ⟨g', o', c', e4, hcw⟩ := HQ.out.at enQ_len (by decide) k hjl
            injection e4 with e4 _ _
            injection e4 with e4
            injection e4 with e4
            subst e4
            exact World.block_lt_of_cell? w _ (hcw 0 _ (by rw [hq]; exact hqo.k))
          have HOWN := Lib.hid (own_kp (S := none') hr.out.1 hi.out.2 (fun _ _ h => h))
          have hsz2 := hkq.size
          clear hof hcq hqo hq hkq hi hr
          go_wp2_with fail
          have hk1 := (Kp.refl none' wr).alloc (.cells #[.int .u32 q.flow, .int .u32 q.id, .int .u64 q.len] 45)
          have HB : Hid (Blk (wr.alloc (.cells #[.int .u32 q.flow, .int .u32 q.id, .int .u64 q.len] 45)) wr.heap.size [.int .u32 q.flow, .int .u32 q.id, .int .u64 q.len] 45) := Blk.new _ _ _
          have HKP1 := Lib.hid (HKP.out.trans hk1)
          have HOWN1 := Lib.hid (own_kp (S := none') HOWN.out hk1 (fun _ _ h => h))
          have d0 := hk1.cell c0 id
          have d1 := hk1.cell c1 id
          clear hk1 c0 c1 c2 c3 c4 HKP HOWN
          generalize wr.alloc (.cells #[.int .u32 q.flow, .int .u32 q.id, .int .u64 q.len] 45) = w2 at *
          obtain ⟨p, hp⟩ : ∃ p, wr.heap.size = p := ⟨_, rfl⟩
          rw [hp] at HB ⊢
          clear hp hsz2
          have hsz2 := HKP1.out.size
          have e0 := HB.out.cell 0 rfl
          have e1 := HB.out.cell 1 rfl
          have e2 := HB.out.cell 2 rfl
          have N2 : Hid (some p ≠ (Value.slice ro k rcap).ownBlock) := fun e => own_ne_blk HOWN1.out HB.out (by decide) e.symm
          have N1 : Hid (some gq ≠ (Value.slice ro k rcap).ownBlock) := fun e => by have := (own_block HOWN1.out e.symm).1; have := HGQ.out; omega
          go_region_held3 (fun w' => w'.cell? ⟨gq, oq + k * 42, none⟩ = some (.int .i64 q.kind) ∧ w'.cell? ⟨gq, oq + k * 42 + 1, none⟩ = some (.int .i64 q.code) ∧ w'.cell? ⟨p, 0, none⟩ = some (.int .u32 q.flow) ∧ w'.cell? ⟨p, 1, none⟩ = some (.int .u32 q.id) ∧ w'.cell? ⟨p, 2, none⟩ = some (.int .u64 q.len))
            (first | go_keep | exact ⟨hgrow.cell (((Kp.refl none' w2).alloc _).drew.cell d0 id) N1.out, hgrow.cell (((Kp.refl none' w2).alloc _).drew.cell d1 id) N1.out, hgrow.cell (((Kp.refl none' w2).alloc _).drew.cell e0 id) N2.out, hgrow.cell (((Kp.refl none' w2).alloc _).drew.cell e1 id) N2.out, hgrow.cell (((Kp.refl none' w2).alloc _).drew.cell e2 id) N2.out⟩)
            ((refine step_app1 tRec (.tmp 45) (.tmp 64) (by rfl) (by rfl) w.heap.size (v := .slice ro k rcap) ((HOWN1.out.alloc _).drew) (enR (recQ n q)) (by rfl) (by rfl) rfl (fr := (0, 0)) (heap_new2 _ _ _ (by simp)) rfl (by omega) (by omega) (by simp; omega) ?_; intro g3 cap3 w3 hown hgrow))
          have hK3 : Kp none' w w3 := ((HKP1.out.alloc _).drew).grown hgrow (fun b hb => .inr (by have := (own_block HOWN1.out hb); omega))
          have HK3 := Lib.hid hK3
          have HO3 : Hid (w3.ownsRow w.heap.size 53 6 (.slice (some ⟨g3, 0, none⟩) (k + 1) cap3) (k + 1) ((ofF x l (k + 1)).flatMap enR)) := by
            show World.ownsRow _ _ _ _ _ _ _
            rw [HOF.out, List.flatMap_append]; simpa using hown
          clear hown hgrow hK3
          go_wp2_with fail
          go_roundw
          case rel => exact ⟨k + 1, by go_num, by omega, HO3.out, HK3.out⟩
          case measure => simp [intOf]; omega
    · have hjN : j = N := by omega
      subst hjN
      by_cases hjl : j < l.length
      · have b1 : (j : Int) < l.length := by omega
        have b2 : ¬ (j : Int) < x.length := by have := HN.out; omega
        have b3 : decide ((j : Int) < x.length) = false := by rw [decide_eq_false_iff_not]; exact b2
        have b4 : decide (j < x.length) = false := by rw [decide_eq_false_iff_not]; have := HN.out; omega
        go_wp2
        go_ret
        exact ⟨_, rfl, hr.out.1, hr.out.2⟩
      · have b3 : decide ((j : Int) < l.length) = false := by rw [decide_eq_false_iff_not]; omega
        have b4 : decide (j < l.length) = false := by rw [decide_eq_false_iff_not]; omega
        go_wp2
        go_ret
        exact ⟨_, rfl, hr.out.1, hr.out.2⟩
end Go.Proofs.Ythjapdjglifopaa
