/- Whether rules may be: the program's Check. -/
import Derived.Test.YthnlggecjdifnaaDoorRuA
namespace Go.Proofs.YthnlggecjdifnaaDoor
set_option linter.unusedVariables false
set_option linter.unusedSimpArgs false
open Go.RowKit

theorem bad_at {l : List RuN} {j : Nat} (h : j < l.length) (hn : l.length ≤ 64) (hb : badR l[j] = true) : chkN l = 6 := by
  unfold chkN
  rw [if_neg (by omega), if_pos (List.any_eq_true.2 ⟨_, List.getElem_mem h, hb⟩)]
theorem good_all {l : List RuN} (hn : l.length ≤ 64) (h : ∀ r ∈ l, badR r = false) : chkN l = 0 := chk_zero.2 ⟨hn, h⟩
theorem good_snoc {l : List RuN} {j : Nat} (h : j < l.length) (hb : badR l[j] = false) (ha : ∀ r ∈ l.take j, badR r = false) : ∀ r ∈ l.take (j + 1), badR r = false := by
  rw [List.take_succ_eq_append_getElem h]
  intro r hr
  rw [List.mem_append, List.mem_singleton] at hr
  rcases hr with hr | rfl
  · exact ha r hr
  · exact hb
set_option maxRecDepth 100000 in
set_option maxHeartbeats 8000000 in
theorem tCheck (l : List RuN) (hok : ∀ r ∈ l, r.Ok) (v : Value) (w : World) (h : Sl w v l.length 7 (l.flatMap enR7)) :
    Calls Tryd.prog 13 #[v] w fun e w' => e = .returned (.int .i64 (chkN l : Nat)) ∧ Kp none' w w' := by
  have hmax := h.max
  obtain ⟨ao, cap, rfl⟩ : ∃ ao cap, v = .slice ao l.length cap := by obtain ⟨ao, cap, rfl, _⟩ := h.is; exact ⟨_, _, rfl⟩
  have HS := Lib.hid h
  have HO := Lib.hid hok
  clear h hok
  by_cases hbig : 64 < l.length
  · have hc : chkN l = 20 := by unfold chkN; rw [if_pos hbig]
    have HC := Lib.hid hc
    obtain ⟨c, hcc⟩ : ∃ c, chkN l = c := ⟨_, rfl⟩
    rw [hcc] at hc ⊢
    subst hc
    have hbi : (64 : Int) < l.length := by omega
    clear hcc
    go_enter Tryd.func13, Tryd.ntmps13
    go_wp2
    go_ret
    exact ⟨rfl, Kp.refl _ _⟩
  · have hbi : ¬ (64 : Int) < l.length := by omega
    obtain ⟨c, hcc⟩ : ∃ c, chkN l = c := ⟨_, rfl⟩
    rw [hcc]
    have HC := Lib.hid hcc
    clear hcc
    go_enter Tryd.func13, Tryd.ntmps13
    go_wp2_with fail
    go_loopw [10] (fun i wr => ∃ j : Nat, i = .int .i64 j ∧ j ≤ l.length ∧ Hid ((∀ r ∈ l.take j, badR r = false) ∧ Kp none' w wr)) (fun i _ => l.length - (intOf i).toNat)
    case atStart => exact ⟨0, rfl, Nat.zero_le _, by simp, Kp.refl _ _⟩
    case round =>
      obtain ⟨j, rfl, hj, HI⟩ := hrel
      by_cases hlt : j < l.length
      · obtain ⟨g, off, cap', e1, hc⟩ := (HS.out.old HI.out.2).at enR7_len (by decide) j hlt
        injection e1 with e1 _ e3
        subst e1 e3
        have hji : (j : Int) < l.length := by omega
        have hbad := bad_at hlt (by omega)
        have hgood := fun h => good_snoc hlt h HI.out.1
        obtain ⟨r, hrr⟩ : ∃ r, l[j] = r := ⟨_, rfl⟩
        have hro := HO.out r (by rw [← hrr]; exact List.getElem_mem hlt)
        rw [hrr] at hc hbad hgood
        have HBAD := Lib.hid hbad; have HGOOD := Lib.hid hgood
        have c0 : wr.cell? ⟨g, off + j * 7, none⟩ = some (.int .u32 r.s.1) := hc 0 _ rfl
        have c1 := hc 1 _ rfl
        have c2 := hc 2 _ rfl
        have c3 := hc 3 _ rfl
        have c4 := hc 4 _ rfl
        have c5 := hc 5 _ rfl
        have c6 := hc 6 _ rfl
        have HRs := Lib.hid (fun W => aRight r.s.1 r.s.2 W hro.s.1 hro.s.2)
        have HRd := Lib.hid (fun W => aRight r.d.1 r.d.2 W hro.d.1 hro.d.2)
        have HB := Lib.hid (Blk.new wr (enR7 r) 48)
        have HK0 := Lib.hid (HI.out.2.alloc (.cells (enR7 r).toArray 48))
        clear hc hrr hbad hgood hro
        cases hs : rightB r.s.1 r.s.2 with
        | false =>
          have hb : badR r = true := by unfold badR; rw [hs]; rfl
          have HE := Lib.hid (HC.out.symm.trans (HBAD.out hb))
          rw [hs] at HRs
          clear hb hs HRd
          go_wp2_with fail
          refine (HRs.out _).mono ?_
          rintro e w1 ⟨rfl, hk1⟩
          have HK1 := Lib.hid (HK0.out.trans hk1)
          clear hk1
          go_wp2_with fail
          go_ret
          exact ⟨by rw [HE.out]; rfl, HK1.out⟩
        | true =>
          rw [hs] at HRs
          cases hd : rightB r.d.1 r.d.2 with
          | false =>
            have hb : badR r = true := by unfold badR; rw [hs, hd]; rfl
            have HE := Lib.hid (HC.out.symm.trans (HBAD.out hb))
            rw [hd] at HRd
            clear hb hs hd
            go_wp2_with fail
            refine (HRs.out _).mono ?_
            rintro e w1 ⟨rfl, hk1⟩
            have HK1 := Lib.hid (HK0.out.trans hk1)
            have r2 := (HB.out.kp hk1 (fun x => x)).cell 2 rfl
            have r3 := (HB.out.kp hk1 (fun x => x)).cell 3 rfl
            clear hk1
            go_wp2_with fail
            refine (HRd.out _).mono ?_
            rintro e w2 ⟨rfl, hk2⟩
            have HK2 := Lib.hid (HK1.out.trans hk2)
            clear hk2
            go_wp2_with fail
            go_ret
            exact ⟨by rw [HE.out]; rfl, HK2.out⟩
          | true =>
            rw [hd] at HRd
            by_cases hlh : r.lo ≤ r.hi
            · have hb : badR r = false := bad_false.2 ⟨hs, hd, hlh⟩
              have HG := Lib.hid (HGOOD.out hb)
              have hlh2 : ¬ r.hi < r.lo := by omega
              clear hb hs hd
              go_wp2_with fail
              refine (HRs.out _).mono ?_
              rintro e w1 ⟨rfl, hk1⟩
              have HK1 := Lib.hid (HK0.out.trans hk1)
              have HB1 := Lib.hid (HB.out.kp hk1 (fun x => x))
              have r2 := HB1.out.cell 2 rfl
              have r3 := HB1.out.cell 3 rfl
              clear hk1
              go_wp2_with fail
              refine (HRd.out _).mono ?_
              rintro e w2 ⟨rfl, hk2⟩
              have HK2 := Lib.hid (HK1.out.trans hk2)
              have r4 := (HB1.out.kp hk2 (fun x => x)).cell 4 rfl
              have r5 := (HB1.out.kp hk2 (fun x => x)).cell 5 rfl
              clear hk2 r2 r3
              go_wp2_with fail
              go_roundw
              case rel => exact ⟨j + 1, by go_num, by omega, HG.out, HK2.out⟩
              case measure => simp [intOf]; omega
            · have hb : badR r = true := by unfold badR; rw [hs, hd, decide_eq_false hlh]; rfl
              have HE := Lib.hid (HC.out.symm.trans (HBAD.out hb))
              have hlh2 : r.hi < r.lo := by omega
              clear hb hs hd
              go_wp2_with fail
              refine (HRs.out _).mono ?_
              rintro e w1 ⟨rfl, hk1⟩
              have HK1 := Lib.hid (HK0.out.trans hk1)
              have HB1 := Lib.hid (HB.out.kp hk1 (fun x => x))
              have r2 := HB1.out.cell 2 rfl
              have r3 := HB1.out.cell 3 rfl
              clear hk1
              go_wp2_with fail
              refine (HRd.out _).mono ?_
              rintro e w2 ⟨rfl, hk2⟩
              have HK2 := Lib.hid (HK1.out.trans hk2)
              have r4 := (HB1.out.kp hk2 (fun x => x)).cell 4 rfl
              have r5 := (HB1.out.kp hk2 (fun x => x)).cell 5 rfl
              clear hk2 r2 r3
              go_wp2_with fail
              go_ret
              exact ⟨by rw [HE.out]; rfl, HK2.out⟩
      · have hjn : j = l.length := by omega
        subst hjn
        have hg := HI.out.1
        rw [List.take_length] at hg
        have HE := Lib.hid (HC.out.symm.trans (good_all (by omega) hg))
        clear hg
        go_wp2_with fail
        go_ret
        exact ⟨by rw [HE.out]; rfl, HI.out.2⟩
end Go.Proofs.YthnlggecjdifnaaDoor
