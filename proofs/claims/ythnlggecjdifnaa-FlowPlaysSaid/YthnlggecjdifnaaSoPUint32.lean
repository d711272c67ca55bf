/- The library's sort at uint32: pdqsort itself, its loop and its calls of itself. -/
import Derived.Test.YthnlggecjdifnaaSoCUint32
import Derived.Test.YthnlggecjdifnaaSoDUint32
import Derived.Test.YthnlggecjdifnaaSoGUint32
import Derived.Test.YthnlggecjdifnaaSoIUint32
import Derived.Test.YthnlggecjdifnaaSoJUint32
import Derived.Test.YthnlggecjdifnaaSoKUint32
import Derived.Test.YthnlggecjdifnaaSoLUint32
import Derived.Test.YthnlggecjdifnaaSoMUint32
import Derived.Test.YthnlggecjdifnaaSoNUint32
import Derived.Deep.Cut
namespace Go.Proofs.Ythnlggecjdifnaa.sortUint32
set_option linter.unusedVariables false
set_option linter.unusedSimpArgs false
open Go.RowKit Go.Sort Go.Proofs.Ythnlggecjdifnaa
theorem eighthI {x y p q : Nat} (h1 : q ≤ p) (h2 : y ≤ x) : decide (((x : Int) - (y : Int)) / 8 ≤ (p : Int) - (q : Int)) = decide (p - q ≥ (x - y) / 8) :=
  decide_eq_decide.2 ⟨fun h => by omega, fun h => by omega⟩
theorem hintI_two {h : Hint} (e : hintI h = 2) : h = .decreasing := by cases h <;> simp [hintI] at e ⊢
set_option maxRecDepth 1000000 in
set_option maxHeartbeats 16000000 in
theorem pdqU : ∀ (N blk off cap a b limit : Nat) (d : Array Nat) (w : World), b - a < N → Holds en w blk off d → blk < w.heap.size → a ≤ b → b ≤ d.size → d.size < 2305843009213693952 → limit < 4611686018427387904 → Below ltn a b d →
    Calls Try.prog 34 #[.slice (some ⟨blk, off, none⟩) d.size cap, .int .i64 a, .int .i64 b, .int .i64 limit] w fun e w' => e = .returned (.tuple #[]) ∧ Rw w blk off (pdq ltn d a b limit true true) w' := by
  intro N
  induction N with
  | zero => intro _ _ _ _ _ _ _ _ h; exact absurd h (Nat.not_lt_zero _)
  | succ N ih =>
    intro blk off cap a b limit d w hN hH0 hbl0 hab hb hsz hlimit hB0
    have HH := Lib.hid hH0
    have IH := Lib.hid ih
    have HR0 := Lib.hid (Rw.refl hH0 hbl0)
    clear ih hH0
    go_enter Try.func34, Try.ntmps34
    go_wp2
    go_loopg [1, 2, 3, 8, 9] (b - a) (fun k s1 s2 s3 s8 s9 wr => ∃ (a' b' lim : Nat) (wb wp : Bool) (dk : Array Nat), s1 = .int .i64 a' ∧ s2 = .int .i64 b' ∧ s3 = .int .i64 lim ∧ s8 = .bool wb ∧ s9 = .bool wp ∧
      a' ≤ b' ∧ b' ≤ d.size ∧ b' - a' ≤ k ∧ k ≤ b - a ∧ lim ≤ limit ∧ dk.size = d.size ∧ Below ltn a' b' dk ∧ Rw w blk off dk wr ∧ Hid (pdq ltn d a b limit true true = pdq ltn dk a' b' lim wb wp))
    case atStart => exact ⟨a, b, limit, true, true, d, rfl, rfl, rfl, rfl, rfl, hab, hb, Nat.le_refl _, Nat.le_refl _, Nat.le_refl _, rfl, hB0, HR0.out, rfl⟩
    case round =>
      clear HR0
      obtain ⟨a', b', lim, wb, wp, dk, rfl, rfl, rfl, rfl, rfl, hab', hb', hk, hkN, hlim, hds, hBel, hRw, HE⟩ := hrel
      have hHk : Holds en wr blk off dk := hRw.holds HH.out hds
      by_cases h12 : b' - a' ≤ 12
      · have h12z : (b' : Int) - (a' : Int) ≤ 12 := by omega
        have hc := insertion blk off cap a' b' dk wr hHk hab' (by omega) (by omega)
        rw [hds] at hc
        have HC := Lib.hid hc
        clear hc hHk
        go_wp2_with (go_at_call 36; refine HC.out.mono ?_; rintro e w1 ⟨rfl, hw1⟩)
        (try simp only [Exit.inBlock, Exit.then]); refine bodyPost_ret (results_none rfl _ _ _) rfl ?_
        refine ⟨rfl, ?_⟩
        rw [HE.out, pdq_small h12]
        exact hRw.put (insertionSort_holds ltn_swo dk a' b' hab' (by omega)).1.1 hw1
      · have h12z : ¬ ((b' : Int) - (a' : Int) ≤ 12) := by omega
        by_cases hl0 : lim = 0
        · subst hl0
          have hc := heapU blk off cap a' b' dk wr hHk hab' (by omega) (by omega)
          rw [hds] at hc
          have HC := Lib.hid hc
          clear hc hHk
          go_wp2_with (go_at_call 37; refine HC.out.mono ?_; rintro e w1 ⟨rfl, hw1⟩)
          (try simp only [Exit.inBlock, Exit.then]); refine bodyPost_ret (results_none rfl _ _ _) rfl ?_
          refine ⟨rfl, ?_⟩
          rw [HE.out, pdq_heap h12 rfl]
          exact hRw.put (heapSort_holds ltn_swo dk a' b' hab' (by omega)).1.1 hw1
        · have hl0z : ¬ ((lim : Int) = 0) := by omega
          obtain ⟨D1, D2, D3, L, C1, PV, C2, HT, dn, O⟩ := opened (wb := wb) (wp := wp) h12 hl0 (show b' ≤ dk.size by omega) hBel
          have hlL := O.liml
          have hs1 := O.s1.trans hds
          have hs2 := O.s2.trans hds
          have hs3 := O.s3.trans hds
          have hc1 := O.c1
          have hpv := O.pv
          go_upto_if 35 with fail
          go_cut [3] from 19 (fun s3 wc => s3 = .int .i64 L ∧ Rw w blk off D1 wc)
          case first =>
            cases wb with
            | false =>
              obtain ⟨e1, e2⟩ := O.brk rfl
              have hc := breakU blk off cap a' b' dk wr hHk hRw.blk hab' (by omega) (by omega)
              rw [hds, ← e1] at hc
              have HC := Lib.hid hc
              have hLi : (lim : Int) - 1 = (L : Int) := by omega
              clear hc hHk e1 e2
              go_wp2_with (go_at_call 38; refine HC.out.mono ?_; rintro e w1 ⟨rfl, hw1⟩)
              go_meet
              case rel => exact ⟨by first | rfl | rw [hLi] | (congr 1), hRw.trans O.s1 hw1⟩
            | true =>
              obtain ⟨e1, e2⟩ := O.nob rfl
              subst e1 e2
              go_wp2_with fail
              go_meet
              case rel => exact ⟨by first | rfl | trivial, hRw⟩
          case rest =>
            obtain ⟨rfl, hRw1⟩ := hcut
            clear hRw hHk
            have hc := choosePivotU blk off cap a' b' D1 wc (hRw1.holds HH.out hs1) hRw1.blk (by omega) (by omega) (by omega)
            rw [O.piv, hs1] at hc
            have HC := Lib.hid hc
            clear hc
            go_upto_if 50 with (go_at_call 39; refine HC.out.mono ?_; rintro e w2 ⟨rfl, hw2⟩)
            have hRw2 : Rw w blk off D1 w2 := hRw1.old hw2
            clear HC hw2 hRw1
            go_cut [11, 12] from 19 (fun s11 s12 wc => s11 = .int .i64 PV ∧ s12 = .int .i64 (hintI HT) ∧ Rw w blk off D2 wc)
            case first =>
              by_cases hh : C2 = .decreasing
              · obtain ⟨e1, e2, e3⟩ := O.dec hh
                have hc := reverseR blk off cap a' b' D1 w2 (hRw2.holds HH.out hs1) hab' (by omega) (by omega)
                rw [hs1, ← e1] at hc
                have HC := Lib.hid hc
                have hpi : (b' : Int) - 1 - ((C1 : Int) - (a' : Int)) = (PV : Int) := by omega
                subst hh e3
                have hcode : hintI .decreasing = 2 := rfl
                clear hc e1 e2
                go_wp2_with (go_at_call 40; refine HC.out.mono ?_; rintro e w3 ⟨rfl, hw3⟩)
                go_meet
                case rel => exact ⟨by first | rfl | rw [hpi], rfl, hRw2.put (by rw [hs2, hs1]) hw3⟩
              · have hcode : ¬ (hintI C2 = 2) := fun h => hh (hintI_two h)
                obtain ⟨e1, e2, e3⟩ := O.ndec hh
                subst e1 e2 e3
                go_wp2_with fail
                go_meet
                case rel => exact ⟨rfl, rfl, hRw2⟩
            case rest =>
              obtain ⟨rfl, rfl, hRw3⟩ := hcut
              clear hRw2
              go_upto_region 15 with fail
              go_cut [68] from 19 (fun s68 wx => s68 = .bool (wb && wp && decide (HT = .increasing)) ∧ wx = wc)
              case first =>
                cases wb <;> cases wp <;> cases HT <;>
                  (simp only [hintI]
                   go_wp2_with fail
                   go_meet
                   exact ⟨by simp, rfl⟩)
              case rest =>
                obtain ⟨rfl, rfl⟩ := hcut
                go_upto_if 68 with fail
                go_cut [] from 19 (fun wx => dn = false ∧ Rw w blk off D3 wx)
                case first =>
                  cases h68 : (wb && wp && decide (HT = .increasing)) with
                  | false =>
                    obtain ⟨e1, e2⟩ := O.nop h68
                    subst e1 e2
                    go_wp2_with fail
                    go_meet
                    case rel => exact ⟨by first | rfl | trivial, hRw3⟩
                  | true =>
                    have hc := partialU blk off cap a' b' D2 wc (hRw3.holds HH.out hs2) (by omega) (by omega) (by omega)
                    rw [O.par h68, hs2] at hc
                    have HC := Lib.hid hc
                    clear hc
                    cases dn with
                    | false =>
                      go_wp2_with (go_at_call 41; refine HC.out.mono ?_; rintro e w4 ⟨rfl, hw4⟩)
                      go_meet
                      case rel => exact ⟨by first | rfl | trivial, hRw3.put (by rw [hs3, hs2]) hw4⟩
                    | true =>
                      go_wp2_with (go_at_call 41; refine HC.out.mono ?_; rintro e w4 ⟨rfl, hw4⟩)
                      (try simp only [Exit.inBlock, Exit.then]); refine bodyPost_ret (results_none rfl _ _ _) rfl ?_
                      refine ⟨rfl, ?_⟩
                      rw [HE.out, O.done rfl]
                      exact hRw3.put (by rw [hs3, hs2]) hw4
                case rest =>
                  obtain ⟨rfl, hRw5⟩ := hcut
                  clear hRw3
                  obtain ⟨G, hG⟩ : ∃ G : Nat → Nat, ∀ t, G t = D3[t]! := ⟨fun t => D3[t]!, fun _ => rfl⟩
                  have hH5 := hRw5.holds HH.out hs3
                  have hcw : ∀ t, t < d.size → wc.cell? ⟨blk, off + t, none⟩ = some (en (G t)) := fun t ht => by rw [hG]; exact (hH5 t (by omega)).1
                  have hfw : ∀ t, t < d.size → wc.frozen? ⟨blk, off + t, none⟩ = false := fun t ht => (hH5 t (by omega)).2
                  have HG := Lib.hid hG
                  clear hG hH5
                  obtain ⟨c87, h87⟩ : ∃ c, (decide (a' > 0) && !ltn D3[a' - 1]! D3[PV]!) = c := ⟨_, rfl⟩
                  have H87 := Lib.hid h87
                  clear h87
                  go_upto_region 17 with fail
                  go_cut [87] from 19 (fun s87 wx => s87 = .bool c87 ∧ Rw w blk off D3 wx)
                  case first =>
                    rcases Nat.eq_zero_or_pos a' with ha0 | ha0
                    · have ha0z : decide ((a' : Int) > 0) = false := decide_eq_false (by omega)
                      go_big_quiet (first | (go_at_call 42; refine Calls.quiet_of_same (less _ _ _)))
                      go_wp2_with fail
                      go_meet
                      case rel => exact ⟨by rw [← H87.out]; simp [ha0], hRw5.old ⟨rfl, rfl, rfl, Nat.le_refl _, fun _ _ _ => rfl⟩⟩
                    · have ha0z : (a' : Int) > 0 := by omega
                      go_big_quiet (first | (go_at_call 42; refine Calls.quiet_of_same (less _ _ _)))
                      go_wp2_with fail
                      go_meet
                      case rel => exact ⟨by rw [← H87.out, ← HG.out, ← HG.out]; simp [ha0], hRw5.old ⟨rfl, rfl, rfl, Nat.le_refl _, fun _ _ _ => rfl⟩⟩
                  case rest =>
                    obtain ⟨rfl, hRw6⟩ := hcut
                    clear hcw hfw hRw5
                    have hH6 := hRw6.holds HH.out hs3
                    cases c87 with
                    | false =>
                      obtain ⟨mid, ap, D4, hx⟩ : ∃ mid ap D4, partition ltn D3 a' b' PV = (mid, ap, D4) := ⟨_, _, _, rfl⟩
                      obtain ⟨r1, r2, r3, r4, r5, r6, r7⟩ := O.prt rfl H87.out mid ap D4 hx
                      have hc := partU blk off cap a' b' PV D3 wc hH6 hpv.1 hpv.2 (by omega) (by omega)
                      rw [hx, hs3] at hc
                      have HC := Lib.hid hc
                      have hs4 := r3.trans hds
                      have O2 := O
                      clear hc hx hH6 O
                      go_upto_if 113 with (go_at_call 44; refine HC.out.mono ?_; rintro e w7 ⟨rfl, hw7⟩)
                      have hRw7 : Rw w blk off D4 w7 := hRw6.put (by rw [hs4, hs3]) hw7
                      have hH7 := hRw7.holds HH.out hs4
                      clear hw7 hRw6 HC
                      by_cases h4 : mid - a' < b' - mid
                      · have h4z : (mid : Int) - (a' : Int) < (b' : Int) - (mid : Int) := by omega
                        obtain ⟨E, rfl, q1, q2, q3⟩ := r6 h4
                        clear r6 r7
                        have hc := IH.out blk off cap a' mid L D4 w7 (by omega) hH7 hRw7.blk (by omega) (by omega) (by omega) (by omega) r4
                        rw [hs4] at hc
                        have HC := Lib.hid hc
                        have HQ := Lib.hid q3
                        have HQ2 := Lib.hid q2
                        have HQ1 := Lib.hid (q1.trans hds)
                        clear hc q1 q2 q3 hH7
                        go_wp2_with (go_at_call 34; refine HC.out.mono ?_; rintro e w8 ⟨rfl, hw8⟩)
                        go_roundg (b' - (mid + 1))
                        case measure => omega
                        case rel =>
                          refine ⟨mid + 1, b', L, decide (mid - a' ≥ (b' - a') / 8), ap, _, by simp, rfl, rfl, ?_, rfl, by omega, by omega, Nat.le_refl _, by omega, by omega, HQ1.out, HQ2.out, hRw7.trans (by rw [HQ1.out, hs4]) hw8, ?_⟩
                          · exact congrArg Value.bool (eighthI (by omega) (by omega))
                          · show _ = _
                            rw [HE.out, HQ.out]
                      · have h4z : ¬ ((mid : Int) - (a' : Int) < (b' : Int) - (mid : Int)) := by omega
                        obtain ⟨E, rfl, q1, q2, q3⟩ := r7 h4
                        clear r6 r7
                        have hc := IH.out blk off cap (mid + 1) b' L D4 w7 (by omega) hH7 hRw7.blk (by omega) (by omega) (by omega) (by omega) r5
                        rw [hs4] at hc
                        have HC := Lib.hid hc
                        have HQ := Lib.hid q3
                        have HQ2 := Lib.hid q2
                        have HQ1 := Lib.hid (q1.trans hds)
                        clear hc q1 q2 q3 hH7
                        go_wp2_with (go_at_call 34; refine HC.out.mono ?_; rintro e w8 ⟨rfl, hw8⟩)
                        go_roundg (mid - a')
                        case measure => omega
                        case rel =>
                          refine ⟨a', mid, L, decide (b' - mid ≥ (b' - a') / 8), ap, _, rfl, rfl, rfl, ?_, rfl, by omega, by omega, Nat.le_refl _, by omega, by omega, HQ1.out, HQ2.out, hRw7.trans (by rw [HQ1.out, hs4]) hw8, ?_⟩
                          · exact congrArg Value.bool (eighthI (by omega) (by omega))
                          · show _ = _
                            rw [HE.out, HQ.out]
                    | true =>
                      obtain ⟨mid, D4, hx⟩ : ∃ mid D4, partitionEqual ltn D3 a' b' PV = (mid, D4) := ⟨_, _, rfl⟩
                      obtain ⟨r1, r2, r3, r4, r5⟩ := O.peq rfl H87.out mid D4 hx
                      have hc := partEqU blk off cap a' b' PV D3 wc hH6 hpv.1 hpv.2 (by omega) (by omega)
                      rw [hx, hs3] at hc
                      have HC := Lib.hid hc
                      have HQ := Lib.hid r5
                      have hs4 := r3.trans hds
                      clear hc hx hH6 O r5
                      go_wp2_with (go_at_call 43; refine HC.out.mono ?_; rintro e w7 ⟨rfl, hw7⟩)
                      go_roundg (b' - mid)
                      case measure => omega
                      case rel => exact ⟨mid, b', L, wb, wp, D4, rfl, rfl, rfl, rfl, rfl, r2, hb', Nat.le_refl _, by omega, by omega, hs4, r4, hRw6.put (by rw [hs4, hs3]) hw7, by show _ = _; rw [HE.out, HQ.out]⟩
theorem pdqAtAll : PdqAt 2305843009213693951 := fun blk cap limit d w hH hb hs hl => by
  exact pdqU (d.size + 1) blk 0 cap 0 d.size limit d w (by omega) hH hb (Nat.zero_le _) (Nat.le_refl _) (by omega) hl (.inl rfl)
end Go.Proofs.Ythnlggecjdifnaa.sortUint32
