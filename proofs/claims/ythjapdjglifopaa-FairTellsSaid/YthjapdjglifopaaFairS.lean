/- Walks of layer 27, the document's: rows. -/
import Derived.Test.YthjapdjglifopaaFairR
import Derived.Test.YthjapdjglifopaaSatR
namespace Go.Proofs.Ythjapdjglifopaa
set_option linter.unusedVariables false
set_option linter.unusedSimpArgs false
open Go.RowKit Go.Shelf

theorem tRowR : SlT Try.prog 28 32 (.agg #[.int .i64 0, .int .i64 0, .int .u64 0]) 3 24 := ⟨Try.underlying28, by kernel_rfl, rfl, by decide⟩
theorem rowsF_take (fl : List FlR) (l : List RpR) (k : Nat) (h : k < fl.length) : (rowsF fl l).take (k + 1) = (rowsF fl l).take k ++ [rowF fl k l] := take_snoc (rowsF_get fl l k h)

theorem range_set {w : World} {g o p k : Nat} {cs : List Value} (h : w.rangeAt g o cs) (hne : g ≠ p) (u : Value) : (w.setCell ⟨p, k, none⟩ u).rangeAt g o cs := fun i x hx =>
  ((Kp.refl (fun b => b = p) w).set (p := ⟨p, k, none⟩) (.inl rfl) u).cell (h i x hx) hne
theorem rowS_in {fl : List FlR} {f : Int} {q : RpR} (h : ofB fl q f 1 = true) (r : RowR) : rowS fl f r q = ⟨r.inn + 1, r.left, r.bytes⟩ ∧ ofB fl q f 2 = false := by
  refine ⟨by unfold rowS; rw [if_pos h], ?_⟩
  rw [of_lets] at h; rw [of_goes]
  simp only [Bool.and_eq_true] at h
  rw [lets_goes h.1]; rfl
theorem rowS_out {fl : List FlR} {f : Int} {q : RpR} (h : ofB fl q f 1 = false) (h2 : ofB fl q f 2 = true) (r : RowR) : rowS fl f r q = ⟨r.inn, r.left + 1, satN r.bytes q.len⟩ := by
  unfold rowS; rw [if_neg (by simp [h]), if_pos h2]
theorem rowS_no {fl : List FlR} {f : Int} {q : RpR} (h : ofB fl q f 1 = false) (h2 : ofB fl q f 2 = false) (r : RowR) : rowS fl f r q = r := by
  unfold rowS; rw [if_neg (by simp [h]), if_neg (by simp [h2])]
set_option maxRecDepth 100000 in
set_option maxHeartbeats 8000000 in
theorem rRows (fl : List FlR) (l : List RpR) (hq : ∀ q ∈ l, q.ok) (hfn : fl.length ≤ 1000) (hln : l.length ≤ 1000) (u v : Value) (w : World) (h1 : Sl w u fl.length 5 (fl.flatMap enFl)) (h2 : Sl w v l.length 42 (l.flatMap enQ)) :
    Calls Try.prog 11 #[u, v] w fun e w' => ∃ r, e = .returned r ∧ w'.ownsRow w.heap.size 32 3 r fl.length ((rowsF fl l).flatMap enW) ∧ Kp none' w w' := by
  obtain ⟨ao, acap, rfl⟩ : ∃ ao cap, u = .slice ao fl.length cap := by obtain ⟨ao, cap, rfl, _⟩ := h1.is; exact ⟨_, _, rfl⟩
  obtain ⟨bo, bcap, rfl⟩ : ∃ ao cap, v = .slice ao l.length cap := by obtain ⟨ao, cap, rfl, _⟩ := h2.is; exact ⟨_, _, rfl⟩
  have HX := Lib.hid h1; have HQ := Lib.hid h2
  clear h1 h2
  go_enter Try.func11, Try.ntmps11
  go_wp2
  go_loopw [5, 6] (fun r i0 wr => ∃ f : Nat, i0 = .int .i64 f ∧ f ≤ fl.length ∧ Hid (wr.ownsRow w.heap.size 32 3 r f (((rowsF fl l).take f).flatMap enW) ∧ Kp none' w wr)) (fun _ i0 _ => fl.length - (intOf i0).toNat)
  case atStart => exact ⟨0, rfl, by omega, World.ownsRow_nil _ _ _ _, Kp.refl _ _⟩
  case round =>
    obtain ⟨f, rfl, hf, hr⟩ := hrel
    obtain ⟨ro, rcap, rfl⟩ := own_shape hr.out.1
    have hsz := hr.out.2.size
    by_cases hlt : f < fl.length
    · have hfi : (f : Int) < fl.length := by omega
      obtain ⟨wo, hwo⟩ : ∃ wo : World, wo = wr := ⟨_, rfl⟩
      subst hwo
      have HB0 : Hid (Blk (wo.alloc (.cells (enW (rowF fl f (l.take 0))).toArray 32)) wo.heap.size (enW (rowF fl f (l.take 0))) 32) := Blk.new _ _ _
      have HK0 : Hid (Kp none' wo (wo.alloc (.cells (enW (rowF fl f (l.take 0))).toArray 32))) := (Kp.refl _ _).alloc _
      go_wp2
      obtain ⟨p, hp⟩ : ∃ p, wo.heap.size = p := ⟨_, rfl⟩
      rw [hp] at HB0 ⊢
      have HP := Lib.hid hp
      go_loopw [8] (fun k0 wi => ∃ k : Nat, k0 = .int .i64 k ∧ k ≤ l.length ∧ Hid (Blk wi p (enW (rowF fl f (l.take k))) 32 ∧ Kp none' wo wi)) (fun k0 _ => l.length - (intOf k0).toNat)
      case atStart => exact ⟨0, rfl, by omega, HB0.out, HK0.out⟩
      case round =>
        obtain ⟨k, rfl, hk, hi⟩ := hrel
        by_cases hkl : k < l.length
        · have hki : (k : Int) < l.length := by omega
          have hkq := hr.out.2.trans hi.out.2
          obtain ⟨gq, oq, cq, e1, hcq⟩ := (HQ.out.old hkq).range enQ_len (by decide) k hkl
          injection e1 with e1 _ e3
          subst e1 e3
          have hqo := hq l[k] (List.getElem_mem hkl)
          obtain ⟨q, hqj⟩ : ∃ q, l[k] = q := ⟨_, rfl⟩
          rw [hqj] at hqo hcq
          have hst : rowF fl f (l.take (k + 1)) = rowS fl f (rowF fl f (l.take k)) q := by rw [List.take_succ_eq_append_getElem hkl, hqj, rowF_snoc]
          have hbd := rowF_le fl f (l.take k)
          have hlk : (l.take k).length ≤ 1000 := by rw [List.length_take]; omega
          obtain ⟨⟨ri, rl, rb⟩, hrow⟩ : ∃ r, rowF fl f (l.take k) = r := ⟨_, rfl⟩
          have hblk := hi.out.1
          rw [hrow] at hst hbd hblk
          simp only at hbd
          obtain ⟨b1, b2, b3⟩ := hbd
          have hqn := hqo.hn
          have HQO := Lib.hid hqo
          have HST := Lib.hid hst
          have HBK := Lib.hid hblk
          have HCQ := Lib.hid hcq
          have hgp : gq ≠ p := by
            obtain ⟨g', o', c', e4, hcw⟩ := HQ.out.at enQ_len (by decide) k hkl
            injection e4 with e4 _ _
            injection e4 with e4
            injection e4 with e4
            subst e4
            have := World.block_lt_of_cell? w _ (hcw 0 _ (by rw [hqj]; exact hqo.k))
            have := HP.out
            intro e; simp only at *; omega
          have hpw : w.heap.size ≤ p := by have := HP.out; omega
          have HA := Lib.hid (fun W h => rOfQ fl (by omega) q HQO.out f 1 (.slice ao fl.length acap) W h)
          have HC := Lib.hid (fun W h => rOfQ fl (by omega) q HQO.out f 2 (.slice ao fl.length acap) W h)
          have HKI := Lib.hid hi.out.2
          clear hqj hst hrow hblk hqo hkq hi
          go_wp2_with (refine wpList_load_mid rfl 77 (.tmp 25) rfl gq (oq + k * 42) rfl (enQ q) _ HCQ.out Try.underlying77 rfl (infoQ q) ?_)
          refine (HA.out _ (HX.out.old (hr.out.2.trans HKI.out))).mono ?_
          rintro e w3 ⟨rfl, k3⟩
          have HB3 := Lib.hid (HBK.out.kp k3 id)
          have HK3 := Lib.hid (HKI.out.trans k3)
          have HCQ3 : Hid (w3.rangeAt gq (oq + k * 42) (enQ q)) := fun i u hu => k3.cell (HCQ.out i u hu) id
          have c0 := HB3.out.cell 0 rfl
          have z0 := HB3.out.fz 0
          clear k3 hcq
          have HPO : Hid (wo.heap.size ≤ p) := by show _ ≤ _; rw [HP.out]; omega
          cases ha1 : ofB fl q f 1 with
          | true =>
            obtain ⟨hs1, ha2⟩ := rowS_in ha1 ⟨ri, rl, rb⟩
            have HS1 : Hid (rowF fl f (l.take (k + 1)) = ⟨ri + 1, rl, rb⟩) := by show _ = _; rw [HST.out, hs1]
            have HR4 := Lib.hid (range_set (k := 0) HCQ3.out hgp (.int .i64 ((ri : Int) + 1)))
            rw [ha2] at HC
            clear ha1 ha2 hs1
            go_wp2_with (refine wpList_load_mid rfl 77 (.tmp 36) rfl gq (oq + k * 42) rfl (enQ q) _ HR4.out Try.underlying77 rfl (infoQ q) ?_)
            refine (HC.out _ (HX.out.old (hr.out.2.trans (HK3.out.set (p := ⟨p, 0, none⟩) (Or.inr HPO.out) _)))).mono ?_
            rintro e w4 ⟨rfl, k4⟩
            have HB4 : Hid (Blk w4 p (enW ⟨ri + 1, rl, rb⟩) 32) := ((HB3.out.set 0 (.int .i64 ((ri : Int) + 1))).kp k4 id)
            have HK4 := Lib.hid ((HK3.out.set (p := ⟨p, 0, none⟩) (Or.inr HPO.out) _).trans k4)
            clear k4
            go_wp2_with fail
            go_roundw
            case rel => exact ⟨k + 1, by go_num, by omega, by rw [HS1.out]; exact HB4.out, HK4.out⟩
            case measure => simp [intOf]; omega
          | false =>
            cases ha2 : ofB fl q f 2 with
            | false =>
              have HS1 : Hid (rowF fl f (l.take (k + 1)) = ⟨ri, rl, rb⟩) := by show _ = _; rw [HST.out, rowS_no ha1 ha2]
              rw [ha2] at HC
              clear ha1 ha2
              go_wp2_with (refine wpList_load_mid rfl 77 (.tmp 36) rfl gq (oq + k * 42) rfl (enQ q) _ HCQ3.out Try.underlying77 rfl (infoQ q) ?_)
              refine (HC.out _ (HX.out.old (hr.out.2.trans HK3.out))).mono ?_
              rintro e w4 ⟨rfl, k4⟩
              have HB4 := Lib.hid (HB3.out.kp k4 id)
              have HK4 := Lib.hid (HK3.out.trans k4)
              clear k4
              go_wp2_with fail
              go_roundw
              case rel => exact ⟨k + 1, by go_num, by omega, by rw [HS1.out]; exact HB4.out, HK4.out⟩
              case measure => simp [intOf]; omega
            | true =>
              have HS1 : Hid (rowF fl f (l.take (k + 1)) = ⟨ri, rl + 1, satN rb q.len⟩) := by show _ = _; rw [HST.out, rowS_out ha1 ha2]
              have HAD := Lib.hid (fun W => rAdd rb q.len b3 hqn W)
              rw [ha2] at HC
              clear ha1 ha2
              go_wp2_with (refine wpList_load_mid rfl 77 (.tmp 36) rfl gq (oq + k * 42) rfl (enQ q) _ HCQ3.out Try.underlying77 rfl (infoQ q) ?_)
              refine (HC.out _ (HX.out.old (hr.out.2.trans HK3.out))).mono ?_
              rintro e w4 ⟨rfl, k4⟩
              have HB4 := Lib.hid (HB3.out.kp k4 id)
              have HK4 := Lib.hid (HK3.out.trans k4)
              have d1 := HB4.out.cell 1 rfl
              have y1 := HB4.out.fz 1
              have HCQ4 : Hid (w4.rangeAt gq (oq + k * 42) (enQ q)) := fun i u hu => k4.cell (HCQ3.out i u hu) id
              clear k4 c0 z0
              go_wp2_with fail
              have HB5 : Hid (Blk (w4.setCell ⟨p, 1, none⟩ (.int .i64 ((rl : Int) + 1))) p (enW ⟨ri, rl + 1, rb⟩) 32) := HB4.out.set 1 (.int .i64 ((rl : Int) + 1))
              have HK5 : Hid (Kp none' wo (w4.setCell ⟨p, 1, none⟩ (.int .i64 ((rl : Int) + 1)))) := HK4.out.set (p := ⟨p, 1, none⟩) (Or.inr HPO.out) _
              have HCQ5 : Hid ((w4.setCell ⟨p, 1, none⟩ (.int .i64 ((rl : Int) + 1))).rangeAt gq (oq + k * 42) (enQ q)) := range_set HCQ4.out hgp _
              clear d1 y1
              generalize w4.setCell ⟨p, 1, none⟩ (.int .i64 ((rl : Int) + 1)) = w5 at *
              have g2 := HB5.out.cell 2 rfl
              have y2 := HB5.out.fz 2
              have q4 := HCQ5.out 4 _ HQO.out.n
              refine wp_region_still_tail 8 (by kernel_rfl) (by kernel_rfl) ?_
              simp only [List.take_succ_cons, List.take_zero, List.drop_succ_cons, List.drop_zero]
              repeat still_step
              refine wpStill_nil ?_
              change wpList _ _ _ _ _ w5.drew
              have HB6 := Lib.hid HB5.out.drew
              have HK6 := Lib.hid HK5.out.drew
              clear q4 g2 y2 HB5 HK5 HCQ5
              generalize w5.drew = w6 at *
              go_wp2_with fail
              refine (HAD.out _).mono ?_
              rintro e w7 ⟨rfl, k7⟩
              have HB6' := Lib.hid (HB6.out.kp k7 id)
              have HK6' := Lib.hid (HK6.out.trans k7)
              have g2 := HB6'.out.cell 2 rfl
              have y2 := HB6'.out.fz 2
              clear k7
              go_wp2_with fail
              have HB7 : Hid (Blk (w7.setCell ⟨p, 2, none⟩ (.int .u64 (satN rb q.len))) p (enW ⟨ri, rl + 1, satN rb q.len⟩) 32) := HB6'.out.set 2 _
              have HK7 : Hid (Kp none' wo (w7.setCell ⟨p, 2, none⟩ (.int .u64 (satN rb q.len)))) := HK6'.out.set (p := ⟨p, 2, none⟩) (Or.inr HPO.out) _
              go_roundw
              case rel => exact ⟨k + 1, by go_num, by omega, by rw [HS1.out]; exact HB7.out, HK7.out⟩
              case measure => simp [intOf]; omega
        · have hkl' : k = l.length := by omega
          subst hkl'
          have hB := hi.out.1
          rw [List.take_of_length_le (Nat.le_refl _)] at hB
          have hbd := rowF_le fl f l
          have hrow := rowsF_take fl l f hlt
          obtain ⟨⟨ri, rl, rb⟩, hr1⟩ : ∃ r, rowF fl f l = r := ⟨_, rfl⟩
          rw [hr1] at hB hrow
          have HKI := Lib.hid hi.out.2
          have HKO := Lib.hid hr.out.2
          have HOW := Lib.hid (own_kp (S := none') hr.out.1 HKI.out (fun _ _ h => h))
          have HB1 := Lib.hid hB
          have HRO := Lib.hid hrow
          have c0 := hB.cell 0 rfl
          have c1 := hB.cell 1 rfl
          have c2 := hB.cell 2 rfl
          have hz := HKI.out.size
          clear hi hr hB hrow hr1 hbd
          go_wp2_with (at_builtin; refine wp_app1 tRowR (.tmp 54) (.tmp 56) rfl rfl w.heap.size (HOW.out.alloc _) (enW ⟨ri, rl, rb⟩) rfl rfl rfl (heap_new _ _) rfl (by omega) (by omega) (by simp; omega) ?_)
          intro g2 cap2 w7 hown hgrow
          have HOW2 : Hid (w7.ownsRow w.heap.size 32 3 (.slice (some ⟨g2, 0, none⟩) (f + 1) cap2) (f + 1) (((rowsF fl l).take (f + 1)).flatMap enW)) := by
            show World.ownsRow _ _ _ _ _ _ _
            rw [HRO.out, List.flatMap_append]; simpa using hown
          have HK7 : Hid (Kp none' w w7) := (((HKO.out.trans HKI.out).alloc _).grown hgrow (fun b hb => .inr (by have := (own_block HOW.out hb); omega)))
          clear hown hgrow
          go_wp2_with fail
          go_roundw
          case rel => exact ⟨f + 1, by go_num, by omega, HOW2.out, HK7.out⟩
          case measure => simp [intOf]; omega
    · have hf' : f = fl.length := by omega
      subst hf'
      have hO := hr.out.1
      rw [List.take_of_length_le (by rw [rowsF_len]; exact Nat.le_refl _)] at hO
      have HO := Lib.hid hO
      go_wp2
      go_ret
      exact ⟨_, rfl, HO.out, hr.out.2⟩
end Go.Proofs.Ythjapdjglifopaa
