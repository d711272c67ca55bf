/- Walks of layer 27: both wait. -/
import Derived.Test.YthjapdjglifopaaFairX
namespace Go.Proofs.Ythjapdjglifopaa
set_option linter.unusedVariables false
set_option linter.unusedSimpArgs false
open Go.RowKit Go.Shelf

theorem list_set_same {α : Type} {l : List α} {a : Nat} {u : α} (h : l[a]? = some u) : l.set a u = l := by
  apply List.ext_getElem?
  intro i
  by_cases e : i = a
  · subst e
    have hi : i < l.length := (List.getElem?_eq_some_iff.1 h).1
    rw [List.getElem?_set_self hi, h]
  · rw [List.getElem?_set_ne (fun x => e x.symm)]
/-- What the loop keeps. -/
structure BoS (fl : List FlR) (l k : List RpR) (f g : Int) (w wr : World) (p0 p1 j : Nat) : Prop where
  out : Blk wr p0 (outsV fl l f g j) 4
  cnt : Blk wr p1 (cntsV fl k) 3
  kp : Kp none' w wr
theorem BoS.fin {fl : List FlR} {l k : List RpR} {f g : Int} {w wr : World} {p0 p1 j : Nat} (h : BoS fl l k f g w wr p0 p1 j) (hj : j < l.length) (h0 : w.heap.size ≤ p0) (hne : p0 ≠ p1) {b : Bool} (hb : b = bothB fl l f g j) : BoS fl l k f g w (wr.setCell ⟨p0, j, none⟩ (.bool b)) p0 p1 (j + 1) :=
  ⟨by rw [← outsV_set fl l f g j hj b hb]; exact h.out.set j _, h.cnt.setNe (a := ⟨p0, j, none⟩) (fun e => hne e.symm) _, h.kp.set (p := ⟨p0, j, none⟩) (.inr h0) _⟩
theorem BoS.put {fl : List FlR} {l k k' : List RpR} {f g : Int} {w wr : World} {p0 p1 j : Nat} (h : BoS fl l k f g w wr p0 p1 j) (h1 : w.heap.size ≤ p1) (hne : p0 ≠ p1) (a : Nat) {u : Value} (hu : cntsV fl k' = (cntsV fl k).set a u) : BoS fl l k' f g w (wr.setCell ⟨p1, a, none⟩ u) p0 p1 j :=
  ⟨h.out.setNe (a := ⟨p1, a, none⟩) hne _, by rw [hu]; exact h.cnt.set a _, h.kp.set (p := ⟨p1, a, none⟩) (.inr h1) _⟩
theorem BoS.next {fl : List FlR} {l k : List RpR} {f g : Int} {w wr w' : World} {p0 p1 j : Nat} (h : BoS fl l k f g w wr p0 p1 j) (kp : Kp none' wr w') : BoS fl l k f g w w' p0 p1 j :=
  ⟨h.out.kp kp id, h.cnt.kp kp id, h.kp.trans kp⟩

set_option maxRecDepth 100000 in
set_option maxHeartbeats 4000000 in
theorem fBothIn (fl : List FlR) (l : List RpR) (hq : ∀ q ∈ l, q.ok) (hfn : fl.length ≤ 1000) (hln : l.length ≤ 1000) (f g : Nat) (hf : f < fl.length) (hg : g < fl.length) (hfg : f ≠ g) (u v : Value) (w : World) (h1 : Sl w u fl.length 5 (fl.flatMap enFl)) (h2 : Sl w v l.length 42 (l.flatMap enQ)) :
    Calls Try.prog 39 #[u, v, .int .i64 f, .int .i64 g] w fun e w' => ∃ r, e = .returned r ∧ w'.ownsRow w.heap.size 4 1 r l.length ((bitsF fl l f g).flatMap enB) ∧ Kp none' w w' := by
  obtain ⟨ao, acap, rfl⟩ : ∃ ao cap, u = .slice ao fl.length cap := by obtain ⟨ao, cap, rfl, _⟩ := h1.is; exact ⟨_, _, rfl⟩
  obtain ⟨bo, bcap, rfl⟩ : ∃ ao cap, v = .slice ao l.length cap := by obtain ⟨ao, cap, rfl, _⟩ := h2.is; exact ⟨_, _, rfl⟩
  have HX := Lib.hid h1; have HQ := Lib.hid h2
  have hm1 := run_make_flat tBits enB enB_len false rfl l.length (by omega) (by omega) w
  have hm2 := run_make_flat tInts enN enN_len 0 rfl fl.length (by omega) (by omega) (w.alloc (.cells ((List.replicate l.length false).flatMap enB).toArray 4))
  rw [outsV_nil fl l f g] at hm1 hm2
  rw [cntsV_nil fl] at hm2
  have HR : Hid (BoS fl l [] f g w ((w.alloc (.cells (outsV fl l f g 0).toArray 4)).alloc (.cells (cntsV fl []).toArray 3)) w.heap.size (w.heap.size + 1) 0) := by
    have hb := Blk.new (w.alloc (.cells (outsV fl l f g 0).toArray 4)) (cntsV fl []) 3
    rw [World.size_alloc] at hb
    exact ⟨(Blk.new w _ _).alloc _, hb, ((Kp.refl _ _).alloc _).alloc _⟩
  have d1 : ¬ (f : Int) < 0 := by omega
  have d2 : ¬ (g : Int) < 0 := by omega
  have d3 : ¬ (fl.length : Int) ≤ f := by omega
  have d4 : ¬ (fl.length : Int) ≤ g := by omega
  have d5 : ((f : Int) == (g : Int)) = false := by rw [beq_eq_false_iff_ne]; omega
  have HOT : Hid (outB fl f g = false) := by
    show _ = _
    unfold outB; rw [decide_eq_false d1, decide_eq_false d2, decide_eq_false d3, decide_eq_false d4, decide_eq_false (by omega)]; rfl
  clear h1 h2
  go_enter Try.func39, Try.ntmps39
  go_wp2
  clear hm1 hm2
  go_loopw [46] (fun i0 wr => ∃ j : Nat, i0 = .int .i64 j ∧ j ≤ l.length ∧ Hid (BoS fl l (l.take j) f g w wr w.heap.size (w.heap.size + 1) j)) (fun i0 _ => l.length - (intOf i0).toNat)
  case atStart => exact ⟨0, rfl, by omega, by rw [List.take_zero]; exact HR.out⟩
  case round =>
    obtain ⟨j, rfl, hj, hr⟩ := hrel
    obtain ⟨p0, hp0⟩ : ∃ p0, w.heap.size = p0 := ⟨_, rfl⟩
    obtain ⟨p1, hp1⟩ : ∃ p1, w.heap.size + 1 = p1 := ⟨_, rfl⟩
    rw [hp1] at hr ⊢
    have HP0 : Hid (w.heap.size ≤ p0) := by show _ ≤ _; omega
    have HP1 : Hid (w.heap.size ≤ p1) := by show _ ≤ _; omega
    have HNE : Hid (p0 ≠ p1) := by show _ ≠ _; omega
    have hr' : Hid (BoS fl l (l.take j) f g w wr p0 p1 j) := by rw [← hp0]; exact hr
    rw [hp0]
    have hpsz := hr'.out.cnt.lt
    have HSZ := Lib.hid hr'.out.kp.size
    clear hr
    by_cases hlt : j < l.length
    · have hlti : (j : Int) < l.length := by omega
      obtain ⟨gq, oq, cq, e1, hcq⟩ := (HQ.out.old hr'.out.kp).range enQ_len (by decide) j hlt
      injection e1 with e1 _ e3
      subst e1 e3
      have hqo := hq l[j] (List.getElem_mem hlt)
      obtain ⟨q, hqj⟩ : ∃ q, l[j] = q := ⟨_, rfl⟩
      rw [hqj] at hqo hcq
      have HT : Hid (l.take (j + 1) = l.take j ++ [q]) := by show _ = _; rw [List.take_succ_eq_append_getElem hlt, hqj]
      have HQO := Lib.hid hqo
      have hle := fun a => cntF_le fl a (l.take j)
      have hlj : (l.take j).length ≤ 1000 := by rw [List.length_take]; omega
      have HLE := Lib.hid hle
      have HF := Lib.hid (fun W h => fFind fl (by omega) q.flow (.slice ao fl.length acap) W h)
      have hge := findF_ge fl q.flow
      have HCF : Hid (∀ a : Nat, a < fl.length → (cntsV fl (l.take (j + 1)))[a]? = some (.int .i64 (cntF fl a (l.take (j + 1))))) := fun a h => cntsV_at fl _ a h
      have HBB : Hid (bothB fl l f g j = (decide (0 < cntF fl f (l.take (j + 1))) && decide (0 < cntF fl g (l.take (j + 1))))) := by
        show _ = _
        unfold bothB waitsB; rw [HOT.out]; rfl
      obtain ⟨uj, huj⟩ := outsV_at fl l f g j j hlt
      have HOJ := Lib.hid huj
      have HL := Lib.hid (fun W => fLets q HQO.out W)
      have HG := Lib.hid (fun W => fGoes q HQO.out W)
      clear hqj hqo hle huj hp0 hp1
      go_wp2_with (first
        | (refine wpList_load_mid rfl 77 (.tmp 49) rfl gq (oq + j * 42) rfl (enQ q) _ hcq Try.underlying77 rfl (infoQ q) ?_)
        | (refine wp_new_row rfl 77 (.tmp 12) (.tmp 50) rfl (enQ q) rfl rfl (infoQ q) (by rw [enQ_len]; rfl) HQO.out.one ?_
           intro W2 hB2 hK2
           have c2 := hB2.cell 2 HQO.out.f
           have HB2 := Lib.hid hB2
           have HK2 := Lib.hid hK2
           clear hB2 hK2))
      refine (HF.out _ (HX.out.old (hr'.out.kp.trans HK2.out))).mono ?_
      rintro e w3 ⟨rfl, k3⟩
      have HB3 := Lib.hid (HB2.out.kp k3 id)
      have HS3 := Lib.hid (hr'.out.next (HK2.out.trans k3))
      clear k3 c2 HB2 HK2 hcq HF hr'
      obtain ⟨p, hpp⟩ : ∃ p, wr.heap.size = p := ⟨_, rfl⟩
      rw [hpp] at HB3 hpsz ⊢
      clear hpp
      by_cases hneg : findF fl q.flow < 0
      · have hsame : cntsV fl (l.take j ++ [q]) = cntsV fl (l.take j) := cntsV_same fl _ _ (fun a ha => by
          have : ∀ k, ofB fl q a k = false := fun k => by unfold ofB; simp; intro _ _; omega
          unfold cntS; rw [this 1, this 2]; simp)
        have HS6 : Hid (BoS fl l (l.take (j + 1)) f g w w3 p0 p1 j) := ⟨HS3.out.out, by rw [HT.out, hsame]; exact HS3.out.cnt, HS3.out.kp⟩
        clear hsame HT
        generalize findF fl q.flow = at0 at *
        have hdn : decide (at0 < 0) = true := by simpa using hneg
        have e1 := HS6.out.cnt.cell f (HCF.out f (by omega))
        have e2 := HS6.out.cnt.cell g (HCF.out g (by omega))
        have o1 := HS6.out.out.fz j
        have o2 := HS6.out.out.cell j HOJ.out
        have HBJ := Lib.hid HBB.out
        generalize cntF fl f (l.take (j + 1)) = c1 at *
        generalize cntF fl g (l.take (j + 1)) = c2 at *
        by_cases hc1 : 0 < c1
        · have hb : decide (0 < c2) = bothB fl l f g j := by rw [HBJ.out]; simp [hc1]
          have HF := Lib.hid (HS6.out.fin hlt HP0.out HNE.out hb)
          clear hb
          go_wp2_with fail
          go_roundw
          case rel => exact ⟨j + 1, by go_num, by omega, HF.out⟩
          case measure => simp [intOf]; omega
        · have hb : false = bothB fl l f g j := by rw [HBJ.out]; simp [hc1]
          have HF := Lib.hid (HS6.out.fin hlt HP0.out HNE.out hb)
          clear hb
          go_wp2_with fail
          go_roundw
          case rel => exact ⟨j + 1, by go_num, by omega, HF.out⟩
          case measure => simp [intOf]; omega
      · obtain ⟨a, hfa⟩ : ∃ a : Nat, findF fl q.flow = a := ⟨(findF fl q.flow).toNat, by omega⟩
        have hst := cntsV_set fl (l.take j) q a (by omega) hfa
        have hal : a < fl.length := by omega
        have hai : (a : Int) < fl.length := by omega
        have hlet : letsB q = true → cntS fl a (cntF fl a (l.take j)) q = cntF fl a (l.take j) + 1 := fun h => by
          unfold cntS; rw [of_lets, hfa, h]; simp
        have hgo : letsB q = false → goesB q = true → cntS fl a (cntF fl a (l.take j)) q = cntF fl a (l.take j) - 1 := fun h h' => by
          unfold cntS; rw [of_lets, of_goes, hfa, h, h']; simp
        have hno : letsB q = false → goesB q = false → cntS fl a (cntF fl a (l.take j)) q = cntF fl a (l.take j) := fun h h' => by
          unfold cntS; rw [of_lets, of_goes, h, h']; simp
        have hcell := cntsV_at fl (l.take j) a hal
        rw [← HT.out] at hst
        have hbd := HLE.out a
        rw [hfa]
        generalize cntF fl a (l.take j) = c at *
        have b1 : -1000 ≤ c := by omega
        have b2 : c ≤ 1000 := by omega
        have HST := Lib.hid hst; have HLT := Lib.hid hlet; have HGO := Lib.hid hgo; have HNO := Lib.hid hno
        have HCE := Lib.hid hcell
        have hdn : decide ((a : Int) < 0) = false := by rw [decide_eq_false_iff_not]; omega
        have HIS := Lib.hid HB3.out.is
        clear hneg hfa hge hst hlet hgo hno hcell hbd HLE
        go_wp2_with (refine wpList_load_row rfl 77 (.tmp 12) rfl p rfl 77 (enQ q).toArray (0, 0) _ HIS.out Try.underlying77 rfl (infoQ' q) ?_)
        refine (HL.out _).mono ?_
        rintro e w4 ⟨rfl, k4⟩
        have HB4 := Lib.hid (HB3.out.kp k4 id)
        have HS4 := Lib.hid (HS3.out.next k4)
        clear k4 HB3 HS3 HIS
        cases hl1 : letsB q with
        | true =>
          have x1 := HS4.out.cnt.cell a HCE.out
          have z1 := HS4.out.cnt.fz a
          have hst := HST.out
          rw [HLT.out hl1] at hst
          have HS6 := Lib.hid (HS4.out.put HP1.out HNE.out a hst)
          clear hl1 hst
          have e1 := HS6.out.cnt.cell f (HCF.out f (by omega))
          have e2 := HS6.out.cnt.cell g (HCF.out g (by omega))
          have o1 := HS6.out.out.fz j
          have o2 := HS6.out.out.cell j HOJ.out
          have HBJ := Lib.hid HBB.out
          generalize cntF fl f (l.take (j + 1)) = c1 at *
          generalize cntF fl g (l.take (j + 1)) = c2 at *
          by_cases hc1 : 0 < c1
          · have hb : decide (0 < c2) = bothB fl l f g j := by rw [HBJ.out]; simp [hc1]
            have HF := Lib.hid (HS6.out.fin hlt HP0.out HNE.out hb)
            clear hb
            go_wp2_with fail
            go_roundw
            case rel => exact ⟨j + 1, by go_num, by omega, HF.out⟩
            case measure => simp [intOf]; omega
          · have hb : false = bothB fl l f g j := by rw [HBJ.out]; simp [hc1]
            have HF := Lib.hid (HS6.out.fin hlt HP0.out HNE.out hb)
            clear hb
            go_wp2_with fail
            go_roundw
            case rel => exact ⟨j + 1, by go_num, by omega, HF.out⟩
            case measure => simp [intOf]; omega
        | false =>
          have HIS4 := Lib.hid HB4.out.is
          go_wp2_with (refine wpList_load_row rfl 77 (.tmp 12) rfl p rfl 77 (enQ q).toArray (0, 0) _ HIS4.out Try.underlying77 rfl (infoQ' q) ?_)
          refine (HG.out _).mono ?_
          rintro e w5 ⟨rfl, k5⟩
          have HS5 := Lib.hid (HS4.out.next k5)
          clear k5 HB4 HS4 HIS4
          cases hg1 : goesB q with
          | true =>
            have x1 := HS5.out.cnt.cell a HCE.out
            have z1 := HS5.out.cnt.fz a
            have hst := HST.out
            rw [HGO.out hl1 hg1] at hst
            have HS6 := Lib.hid (HS5.out.put HP1.out HNE.out a hst)
            clear hl1 hg1 hst
            have e1 := HS6.out.cnt.cell f (HCF.out f (by omega))
            have e2 := HS6.out.cnt.cell g (HCF.out g (by omega))
            have o1 := HS6.out.out.fz j
            have o2 := HS6.out.out.cell j HOJ.out
            have HBJ := Lib.hid HBB.out
            generalize cntF fl f (l.take (j + 1)) = c1 at *
            generalize cntF fl g (l.take (j + 1)) = c2 at *
            by_cases hc1 : 0 < c1
            · have hb : decide (0 < c2) = bothB fl l f g j := by rw [HBJ.out]; simp [hc1]
              have HF := Lib.hid (HS6.out.fin hlt HP0.out HNE.out hb)
              clear hb
              go_wp2_with fail
              go_roundw
              case rel => exact ⟨j + 1, by go_num, by omega, HF.out⟩
              case measure => simp [intOf]; omega
            · have hb : false = bothB fl l f g j := by rw [HBJ.out]; simp [hc1]
              have HF := Lib.hid (HS6.out.fin hlt HP0.out HNE.out hb)
              clear hb
              go_wp2_with fail
              go_roundw
              case rel => exact ⟨j + 1, by go_num, by omega, HF.out⟩
              case measure => simp [intOf]; omega
          | false =>
            have hst := HST.out
            rw [HNO.out hl1 hg1, list_set_same HCE.out] at hst
            have HS6 : Hid (BoS fl l (l.take (j + 1)) f g w w5 p0 p1 j) := ⟨HS5.out.out, by rw [hst]; exact HS5.out.cnt, HS5.out.kp⟩
            clear hl1 hg1 hst
            have e1 := HS6.out.cnt.cell f (HCF.out f (by omega))
            have e2 := HS6.out.cnt.cell g (HCF.out g (by omega))
            have o1 := HS6.out.out.fz j
            have o2 := HS6.out.out.cell j HOJ.out
            have HBJ := Lib.hid HBB.out
            generalize cntF fl f (l.take (j + 1)) = c1 at *
            generalize cntF fl g (l.take (j + 1)) = c2 at *
            by_cases hc1 : 0 < c1
            · have hb : decide (0 < c2) = bothB fl l f g j := by rw [HBJ.out]; simp [hc1]
              have HF := Lib.hid (HS6.out.fin hlt HP0.out HNE.out hb)
              clear hb
              go_wp2_with fail
              go_roundw
              case rel => exact ⟨j + 1, by go_num, by omega, HF.out⟩
              case measure => simp [intOf]; omega
            · have hb : false = bothB fl l f g j := by rw [HBJ.out]; simp [hc1]
              have HF := Lib.hid (HS6.out.fin hlt HP0.out HNE.out hb)
              clear hb
              go_wp2_with fail
              go_roundw
              case rel => exact ⟨j + 1, by go_num, by omega, HF.out⟩
              case measure => simp [intOf]; omega
    · have hjl : j = l.length := by omega
      go_wp2
      go_ret
      refine ⟨_, rfl, ?_, hr'.out.kp⟩
      have hO := hr'.out.out
      rw [hjl, outsV_all] at hO
      exact own_blk hO 1 l.length _ (by rw [flat_len enB 1 enB_len, bitsF_len]) (by omega) HP0.out
end Go.Proofs.Ythjapdjglifopaa
