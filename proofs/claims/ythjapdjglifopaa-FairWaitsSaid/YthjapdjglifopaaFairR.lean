/- Walks of layer 27: rows. -/
import Derived.Test.YthjapdjglifopaaFairW
import Derived.Test.YthjapdjglifopaaMake
import Derived.RegionTactic
import Derived.ChangeAlike
import Derived.Deep.RegionHeld3
import Derived.StillTailTactics
namespace Go.Proofs.Ythjapdjglifopaa
set_option linter.unusedVariables false
set_option linter.unusedSimpArgs false
open Go.RowKit Go.Shelf

theorem tRow : SlT Try.prog 26 33 (.agg #[.int .i64 0, .int .i64 0, .int .u64 0]) 3 24 := ⟨Try.underlying26, by kernel_rfl, rfl, by decide⟩
theorem rowsF_nil (fl : List FlR) : rowsF fl [] = List.replicate fl.length ⟨0, 0, 0⟩ := by
  apply List.ext_getElem?
  intro f
  by_cases h : f < fl.length
  · rw [rowsF_get fl [] f h, List.getElem?_replicate, if_pos h]; rfl
  · rw [List.getElem?_eq_none (by rw [rowsF_len]; omega), List.getElem?_eq_none (by simp; omega)]
/-- What the loop keeps. -/
structure RwS (fl : List FlR) (l : List RpR) (w wr : World) (b : Nat) : Prop where
  own : wr.ownsRow w.heap.size 33 3 (.slice (some ⟨b, 0, none⟩) fl.length fl.length) fl.length ((rowsF fl l).flatMap enW)
  kp : Kp none' w wr

set_option maxRecDepth 100000 in
set_option maxHeartbeats 4000000 in
theorem fRows (fl : List FlR) (l : List RpR) (hq : ∀ q ∈ l, q.ok) (hfn : fl.length ≤ 1000) (hln : l.length ≤ 1000) (u v : Value) (w : World) (h1 : Sl w u fl.length 5 (fl.flatMap enFl)) (h2 : Sl w v l.length 42 (l.flatMap enQ)) :
    Calls Try.prog 10 #[u, v] w fun e w' => ∃ r, e = .returned r ∧ w'.ownsRow w.heap.size 33 3 r fl.length ((rowsF fl l).flatMap enW) ∧ Kp none' w w' := by
  obtain ⟨ao, acap, rfl⟩ : ∃ ao cap, u = .slice ao fl.length cap := by obtain ⟨ao, cap, rfl, _⟩ := h1.is; exact ⟨_, _, rfl⟩
  obtain ⟨bo, bcap, rfl⟩ : ∃ ao cap, v = .slice ao l.length cap := by obtain ⟨ao, cap, rfl, _⟩ := h2.is; exact ⟨_, _, rfl⟩
  have HX := Lib.hid h1; have HQ := Lib.hid h2
  have hmk := run_make_flat tRow enW enW_len ⟨0, 0, 0⟩ rfl fl.length (by omega) (by omega) w
  have HR : Hid (RwS fl [] w (w.alloc (.cells ((List.replicate fl.length (⟨0, 0, 0⟩ : RowR)).flatMap enW).toArray 33)) w.heap.size) :=
    ⟨by rw [rowsF_nil]; exact own_made enW 3 enW_len _ _ (by omega) _ w _ (Nat.le_refl _), (Kp.refl _ _).alloc _⟩
  clear h1 h2
  go_enter Try.func10, Try.ntmps10
  go_wp2
  clear hmk
  go_loopw [14] (fun i0 wr => ∃ j : Nat, i0 = .int .i64 j ∧ j ≤ l.length ∧ Hid (RwS fl (l.take j) w wr w.heap.size)) (fun i0 _ => l.length - (intOf i0).toNat)
  case atStart => exact ⟨0, rfl, by omega, by rw [List.take_zero]; exact HR.out⟩
  case round =>
    obtain ⟨j, rfl, hj, hr⟩ := hrel
    have hsz := hr.out.kp.size
    by_cases hlt : j < l.length
    · obtain ⟨gq, oq, cq, e1, hcq⟩ := (HQ.out.old hr.out.kp).range enQ_len (by decide) j hlt
      injection e1 with e1 _ e3
      subst e1 e3
      have hqo := hq l[j] (List.getElem_mem hlt)
      obtain ⟨q, hqj⟩ : ∃ q, l[j] = q := ⟨_, rfl⟩
      rw [hqj] at hqo hcq
      have HT : Hid (l.take (j + 1) = l.take j ++ [q]) := by show _ = _; rw [List.take_succ_eq_append_getElem hlt, hqj]
      have HQO := Lib.hid hqo
      have HOWN := Lib.hid hr.out.own; have HKP := Lib.hid hr.out.kp
      have hle := fun a => rowF_le fl a (l.take j)
      have hlj : (l.take j).length ≤ 1000 := by rw [List.length_take]; omega
      have HLE := Lib.hid hle
      have hqn := hqo.hn
      have HF := Lib.hid (fun W h => fFind fl (by omega) q.flow (.slice ao fl.length acap) W h)
      have hge := findF_ge fl q.flow
      clear hqj hqo hr hle
      go_wp2_with (first
        | (refine wpList_load_mid rfl 77 (.tmp 16) rfl gq (oq + j * 42) rfl (enQ q) _ hcq Try.underlying77 rfl (infoQ q) ?_)
        | (refine wp_new_row rfl 77 (.tmp 7) (.tmp 17) rfl (enQ q) rfl rfl (infoQ q) (by rw [enQ_len]; rfl) HQO.out.one ?_
           intro W2 hB2 hK2
           have c2 := hB2.cell 2 HQO.out.f
           have HB2 := Lib.hid hB2
           have HK2 := Lib.hid hK2
           clear hB2 hK2))
      refine (HF.out _ (HX.out.old (HKP.out.trans HK2.out))).mono ?_
      rintro e w3 ⟨rfl, k3⟩
      have HB3 := Lib.hid (HB2.out.kp k3 id)
      have HK3 := Lib.hid ((HKP.out.trans HK2.out).trans k3)
      have HO3 := Lib.hid (own_kp (S := none') (own_kp (S := none') HOWN.out HK2.out (fun _ _ h => h)) k3 (fun _ _ h => h))
      have hp : wr.heap.size < w3.heap.size := HB3.out.lt
      have hpw : w.heap.size ≤ wr.heap.size := hsz
      have HSM : Hid (findF fl q.flow < 0 → rowsF fl (l.take j ++ [q]) = rowsF fl (l.take j)) := fun h => rowsF_same fl _ _ (fun f hf => by
        have : ∀ k, ofB fl q f k = false := fun k => by unfold ofB; simp; intro _ _; omega
        unfold rowS; rw [this 1, this 2]; simp)
      clear k3 c2 HB2 HK2 hcq HF HOWN HKP
      obtain ⟨p, hpp⟩ : ∃ p, wr.heap.size = p := ⟨_, rfl⟩
      rw [hpp] at HB3 hp hpw ⊢
      clear hpp hsz
      by_cases hneg : findF fl q.flow < 0
      · have HS := Lib.hid (HSM.out hneg)
        generalize findF fl q.flow = at0 at *
        have hdn : decide (at0 < 0) = true := by simpa using hneg
        go_wp2_with fail
        go_roundw
        case rel => exact ⟨j + 1, by go_num, by omega, by rw [HT.out, HS.out]; exact HO3.out, HK3.out⟩
        case measure => simp [intOf]; omega
      · obtain ⟨a, hfa⟩ : ∃ a : Nat, findF fl q.flow = a := ⟨(findF fl q.flow).toNat, by omega⟩
        have HST := Lib.hid (rowsF_set fl (l.take j) q a (by omega) hfa)
        have hal : a < fl.length := by omega
        rw [hfa]
        have hlet : rowS fl a (rowF fl a (l.take j)) q = if letsB q = true then ⟨(rowF fl a (l.take j)).inn + 1, (rowF fl a (l.take j)).left, (rowF fl a (l.take j)).bytes⟩ else if goesB q = true then ⟨(rowF fl a (l.take j)).inn, (rowF fl a (l.take j)).left + 1, satN (rowF fl a (l.take j)).bytes q.len⟩ else rowF fl a (l.take j) := by
          unfold rowS; rw [of_lets, of_goes, hfa]; simp
        have hget := rowsF_get fl (l.take j) a hal
        have hrl := rowsF_len fl (l.take j)
        have hbd := HLE.out a
        obtain ⟨⟨ri, rl, rb⟩, hrow⟩ : ∃ r, rowF fl a (l.take j) = r := ⟨_, rfl⟩
        rw [hrow] at hlet hget hbd
        simp only at hlet hbd
        have HROW := Lib.hid hrow
        have HLET := Lib.hid hlet; have HGET := Lib.hid hget; have HRL := Lib.hid hrl
        have hdn : decide ((a : Int) < 0) = false := by rw [decide_eq_false_iff_not]; omega
        obtain ⟨b1, b2, b3⟩ := hbd
        have HL := Lib.hid (fun W => fLets q HQO.out W)
        have HG := Lib.hid (fun W => fGoes q HQO.out W)
        have HIS := Lib.hid HB3.out.is
        clear hneg hfa hlet hget hrl hrow hge
        go_wp2_with (refine wpList_load_row rfl 77 (.tmp 7) rfl p rfl 77 (enQ q).toArray (0, 0) _ HIS.out Try.underlying77 rfl (infoQ' q) ?_)
        refine (HL.out _).mono ?_
        rintro e w4 ⟨rfl, k4⟩
        have HB4 := Lib.hid (HB3.out.kp k4 id)
        have HK4 := Lib.hid (HK3.out.trans k4)
        have ho4 := own_kp (S := none') HO3.out k4 (fun _ _ h => h)
        have HO4 := Lib.hid ho4
        have f0 := own_cell ho4 (a * 3 + 0) (by rw [flat_get enW 3 enW_len _ a 0 (by omega), HGET.out]; rfl)
        have f1 := own_cell ho4 (a * 3 + 1) (by rw [flat_get enW 3 enW_len _ a 1 (by omega), HGET.out]; rfl)
        have f2 := own_cell ho4 (a * 3 + 2) (by rw [flat_get enW 3 enW_len _ a 2 (by omega), HGET.out]; rfl)
        have z0 := own_fz ho4 (a * 3)
        have z1 := own_fz ho4 (a * 3 + 1)
        have z2 := own_fz ho4 (a * 3 + 2)
        simp only [Nat.add_zero] at f0
        clear k4 ho4
        have hai : (a : Int) < fl.length := by omega
        have HIS4 := Lib.hid HB4.out.is
        have HKS : Hid (∀ {p : Addr} (hp : p.block = w.heap.size) (u : Value), Kp none' w (w4.setCell p u)) := fun {p} hp u => HK4.out.set (Or.inr (by omega)) u
        cases hl1 : letsB q with
        | true =>
          have HR1 : Hid (rowsF fl (l.take (j + 1)) = (rowsF fl (l.take j)).set a ⟨ri + 1, rl, rb⟩) := by
            show _ = _
            rw [HT.out, HST.out, HROW.out, HLET.out, if_pos hl1]
          have HFS : Hid (((rowsF fl (l.take j)).set a ⟨ri + 1, rl, rb⟩).flatMap enW = ((rowsF fl (l.take j)).flatMap enW).set (a * 3) (.int .i64 ((ri : Int) + 1))) :=
            flat_set1 enW 3 enW_len (rowsF fl (l.take j)) a ⟨ri + 1, rl, rb⟩ ⟨ri, rl, rb⟩ 0 (.int .i64 ((ri : Int) + 1)) (by omega) HGET.out (by simp [enW])
          clear hl1
          go_wp2_with fail
          go_roundw
          case rel =>
            refine ⟨j + 1, by go_num, by omega, ?_, HKS.out rfl _⟩
            rw [HR1.out, HFS.out]
            exact own_set HO4.out _ _
          case measure => simp [intOf]; omega
        | false =>
          go_wp2_with (refine wpList_load_row rfl 77 (.tmp 7) rfl p rfl 77 (enQ q).toArray (0, 0) _ HIS4.out Try.underlying77 rfl (infoQ' q) ?_)
          refine (HG.out _).mono ?_
          rintro e w5 ⟨rfl, k5⟩
          have HB5 := Lib.hid (HB4.out.kp k5 id)
          have HK5 := Lib.hid (HK4.out.trans k5)
          have ho5 := own_kp (S := none') HO4.out k5 (fun _ _ h => h)
          have HO5 := Lib.hid ho5
          have d4 : w5.cell? ⟨p, 4, none⟩ = some (.int .u64 q.len) := HB5.out.cell 4 HQO.out.n
          have g1 := k5.cell f1 id
          have g2 := k5.cell f2 id
          have y1 := own_fz ho5 (a * 3 + 1)
          have y2 := own_fz ho5 (a * 3 + 2)
          clear k5 ho5 f0 f1 f2 z0 z1 z2 HB4 HK4 HO4 HKS HIS4
          cases hg1 : goesB q with
          | false =>
            have HR1 : Hid (rowsF fl (l.take (j + 1)) = rowsF fl (l.take j)) := by
              show _ = _
              rw [HT.out, HST.out, HROW.out, HLET.out, if_neg (by simp [hl1]), if_neg (by simp [hg1])]
              apply List.ext_getElem?
              intro f
              by_cases e : f = a
              · subst e; rw [List.getElem?_set_self (by rw [HRL.out]; exact hal), HGET.out]
              · rw [List.getElem?_set_ne (fun x => e x.symm)]
            clear hl1 hg1
            go_wp2_with fail
            go_roundw
            case rel =>
              refine ⟨j + 1, by go_num, by omega, ?_, HK5.out⟩
              rw [HR1.out]
              exact HO5.out
            case measure => simp [intOf]; omega
          | true =>
            have HR1 : Hid (rowsF fl (l.take (j + 1)) = (rowsF fl (l.take j)).set a ⟨ri, rl + 1, satN rb q.len⟩) := by
              show _ = _
              rw [HT.out, HST.out, HROW.out, HLET.out, if_neg (by simp [hl1]), if_pos hg1]
            have HA := Lib.hid (fun W => sAdd rb q.len b3 hqn W)
            clear hl1 hg1
            go_wp2_with fail
            have hne : p ≠ w.heap.size := fun e => own_ne_blk HO5.out HB5.out (by decide) (by rw [e]; rfl)
            have ho6 := own_set HO5.out (a * 3 + 1) (.int .i64 ((rl : Int) + 1))
            have hb6 := HB5.out.setNe (a := ⟨w.heap.size, a * 3 + 1, none⟩) hne (.int .i64 ((rl : Int) + 1))
            have HK6 : Hid (Kp none' w _) := HK5.out.set (p := ⟨w.heap.size, a * 3 + 1, none⟩) (Or.inr (Nat.le_refl _)) (.int .i64 ((rl : Int) + 1))
            have hfl := flat_get enW 3 enW_len (rowsF fl (l.take j)) a 2 (by omega)
            rw [HGET.out] at hfl
            have q4 := hb6.cell 4 HQO.out.n
            have q2 := own_cell ho6 (a * 3 + 2) (by rw [List.getElem?_set_ne (by omega), hfl]; rfl)
            have q3 := own_fz ho6 (a * 3 + 2)
            have HO6 := Lib.hid ho6
            clear ho6 hb6 g1 g2 y1 y2 d4 hfl
            generalize w5.setCell ⟨w.heap.size, a * 3 + 1, none⟩ (.int .i64 ((rl : Int) + 1)) = w6 at *
            refine wp_region_still_tail 11 (by kernel_rfl) (by kernel_rfl) ?_
            simp only [List.take_succ_cons, List.take_zero, List.drop_succ_cons, List.drop_zero]
            repeat still_step
            still_call ((HA.out _).mono fun _ _ h => ⟨h.1, h.2.symm⟩)
            repeat still_step
            refine wpStill_nil ?_
            change wpList _ _ _ _ _ w6.drew
            have HO7 := Lib.hid (own_kp (S := none') HO6.out (Kp.refl _ _).drew (fun _ _ h => h))
            have q5 := own_fz HO7.out (a * 3 + 2)
            obtain ⟨u0, q6⟩ : ∃ u0, w6.drew.cell? ⟨w.heap.size, a * 3 + 2, none⟩ = some u0 := ⟨_, q2⟩
            have HFS : Hid (((rowsF fl (l.take j)).set a ⟨ri, rl + 1, satN rb q.len⟩).flatMap enW = (((rowsF fl (l.take j)).flatMap enW).set (a * 3 + 1) (.int .i64 ((rl : Int) + 1))).set (a * 3 + 2) (.int .u64 (satN rb q.len))) := by
              have s1 := flat_set1 enW 3 enW_len (rowsF fl (l.take j)) a ⟨ri, rl + 1, rb⟩ ⟨ri, rl, rb⟩ 1 (.int .i64 ((rl : Int) + 1)) (by omega) HGET.out (by simp [enW])
              have s2 := flat_set1 enW 3 enW_len ((rowsF fl (l.take j)).set a ⟨ri, rl + 1, rb⟩) a ⟨ri, rl + 1, satN rb q.len⟩ ⟨ri, rl + 1, rb⟩ 2 (.int .u64 (satN rb q.len)) (by omega) (by rw [List.getElem?_set_self (by rw [HRL.out]; exact hal)]) (by simp [enW])
              rw [List.set_set] at s2
              show _ = _
              rw [s2, s1]
            have HK7 := Lib.hid (HK6.out.drew)
            clear q2 q3 q4 HO6 HK6
            generalize w6.drew = w7 at *
            go_wp2_with fail
            go_roundw
            case rel =>
              refine ⟨j + 1, by go_num, by omega, ?_, HK7.out.set (p := ⟨w.heap.size, a * 3 + 2, none⟩) (Or.inr (Nat.le_refl _)) _⟩
              rw [HR1.out, HFS.out]
              exact own_set HO7.out _ _
            case measure => simp [intOf]; omega
    · have hjl : j = l.length := by omega
      have HF : Hid (RwS fl l w wr w.heap.size) := by
        have := hr.out
        rwa [List.take_of_length_le (by omega)] at this
      go_wp2
      go_ret
      exact ⟨_, rfl, HF.out.own, HF.out.kp⟩
end Go.Proofs.Ythjapdjglifopaa
