/- FfsPlays walked: whatever is put and dropped. -/
import Derived.Test.YtoiiofcpohoeaaaDoorFfsLaw
import Derived.Test.YtoiiofcpohoeaaaDoorOpen
import Derived.Deep.DeepCutAuto
import Derived.Deep.LoopGhost
import Derived.BigQuiet
import Derived.Deep.QuietTactic
namespace Go.Proofs.YtoiiofcpohoeaaaDoor
open Go.RowKit

abbrev Act08 := Bool × Int × Int
def enAct (a : Act08) : List Value := [.bool a.1, .int .i64 a.2.1, .int .i64 a.2.2]
def okAct (a : Act08) : Prop := -9223372036854775808 ≤ a.2.1 ∧ a.2.1 ≤ 9223372036854775807 ∧ -9223372036854775808 ≤ a.2.2 ∧ a.2.2 ≤ 9223372036854775807
theorem enAct_len (a : Act08) : (enAct a).length = 3 := rfl

set_option maxHeartbeats 1000000 in
theorem r08Size (k : Nat) (w : World) (k3 : k ≤ 3) : Calls Tryd.prog 8 #[.int .i64 k] w fun e w' => e = .returned (.int .i64 (szI k)) ∧ w = w' := by
  have hp : ∀ j, j ≤ 3 → 64 ^ j ≤ 262144 := fun j hj => by
    have : j = 0 ∨ j = 1 ∨ j = 2 ∨ j = 3 := by omega
    rcases this with rfl | rfl | rfl | rfl <;> decide
  go_enter Tryd.func8, Tryd.ntmps8
  go_wp2
  go_loop [3, 4] (fun s3 s4 => ∃ j : Nat, j ≤ k ∧ s3 = .int .i64 ((64 ^ j : Nat) : Int) ∧ s4 = .int .i64 j) (fun _ s4 => k - (intOf s4).toNat)
  case atStart => exact ⟨0, Nat.zero_le _, rfl, rfl⟩
  case round =>
    obtain ⟨j, hj, rfl, rfl⟩ := hrel
    by_cases h : j < k
    · have hpj := hp j (by omega)
      have hpn : ((64 ^ (j + 1) : Nat) : Int) = ((64 ^ j : Nat) : Int) * 64 := by rw [Nat.pow_succ]; simp
      have HPN := Lib.hid hpn; clear hpn
      generalize 64 ^ j = M at *
      go_wp2
      go_round
      case rel => exact ⟨j + 1, by omega, by rw [HPN.out], by go_num⟩
      case measure => simp [intOf]; omega
    · obtain rfl : j = k := by omega
      go_wp2
      go_ret
      exact ⟨rfl, rfl⟩

/-- What the loop holds. -/
structure Play (w0 wr : World) (p k bl : Nat) (B : Nat → Nat) (ml : List Int) (v : Value) (j : Nat) : Prop where
  set : SR wr p k bl B ml
  own : wr.ownsRow w0.heap.size 3 1 v ml.length (ints ml)
  kp : Kp none' w0 wr
  le : ml.length ≤ j
  new : ∀ b, Fp p bl B k b → w0.heap.size ≤ b

theorem Play.drew {w0 wr : World} {p k bl : Nat} {B : Nat → Nat} {ml : List Int} {v : Value} {j : Nat} (h : Play w0 wr p k bl B ml v j) {wn : World} (K : Kp none' wr wn) : Play w0 wn p k bl B ml v j :=
  ⟨h.set.old K, own_kp h.own K (fun _ _ h => h), h.kp.trans K, h.le, h.new⟩

theorem Play.mut {w0 wr w2 : World} {p k bl : Nat} {B : Nat → Nat} {ml ml2 : List Int} {v : Value} {j : Nat} (h : Play w0 wr p k bl B ml v j) (hs : SR w2 p k bl B ml2) (K : Kp (Fp p bl B k) wr w2) :
    SR w2 p k bl B ml2 ∧ w2.ownsRow w0.heap.size 3 1 v ml.length (ints ml) ∧ Kp none' w0 w2 :=
  ⟨hs, own_kp h.own K (h.set.ne h.own), h.kp.then K (fun b hb hf => by have := h.new b hf; omega)⟩
theorem dropL_le (l : List Int) (x : Int) : (dropL l x).length ≤ l.length := List.length_filter_le _ _

set_option maxRecDepth 100000 in
set_option maxHeartbeats 4000000 in
theorem plays08 (levels : Int) (l : List Act08) (v : Value) (w : World) (hT : Tab w) (hl : Sl w v l.length 3 (l.flatMap enAct)) (hok : ∀ a ∈ l, okAct a) :
    Calls Tryd.prog 3 #[.int .i64 levels, v] w fun e w' => e = .returned (.bool true) ∧ Kp none' w w' := by
  have hm := hl.max
  have HT := Lib.hid hT; clear hT
  by_cases h1 : levels < 1 ∨ 3 < levels
  · obtain ⟨ao, cap, rfl, _⟩ := hl.is
    clear hl
    have h1' : (decide (1 ≤ levels) && decide (levels ≤ 3)) = false := by
      rcases h1 with h | h
      · have : ¬ 1 ≤ levels := by omega
        simp [this]
      · have : ¬ levels ≤ 3 := by omega
        simp [this]
    go_enter Tryd.func3, Tryd.ntmps3
    go_wp2_with fail
    refine (fNewNo levels w h1).mono ?_
    rintro e w1 ⟨rfl, rfl⟩
    have HL := Lib.hid (lives08 w HT.out)
    rcases h1 with h1 | h1
    all_goals
      clear h1'
      go_wp2_with (go_at_call 7; refine (HL.out).mono ?_; rintro e w2 ⟨rfl, hk2⟩)
      go_ret
      exact ⟨rfl, hk2⟩
  · obtain ⟨k, rfl⟩ : ∃ k : Nat, levels = k := ⟨levels.toNat, by omega⟩
    have k1 : 1 ≤ k := by omega
    have k3 : k ≤ 3 := by omega
    clear h1
    by_cases hn : 150 < l.length
    · obtain ⟨ao, cap, rfl, _⟩ := hl.is
      clear hl
      go_enter Tryd.func3, Tryd.ntmps3
      go_wp2_with fail
      refine (sNew k w k1 k3).mono ?_
      rintro e w1 ⟨p, bl, B, rfl, hs, hp, hk1⟩
      have HL := Lib.hid (lives08 w1 (HT.out.kp hk1 id))
      go_wp2_with (go_at_call 7; refine (HL.out).mono ?_; rintro e w2 ⟨rfl, hk2⟩)
      go_ret
      exact ⟨rfl, hk1.trans hk2⟩
    · obtain ⟨ao, cap, hv, _⟩ := hl.is
      have HL := Lib.hid hl
      subst hv
      clear hl
      go_enter Tryd.func3, Tryd.ntmps3
      go_wp2_with fail
      refine (sNew k w k1 k3).mono ?_
      rintro e w1 ⟨p, bl, B, rfl, hs, hp, hk1⟩
      have HP : Hid (Play w w1 p k bl B [] (.slice none 0 0) 0) := ⟨hs, World.ownsRow_nil _ _ _ _, hk1, Nat.le_refl _, hp⟩
      clear hs hk1
      go_wp2_with fail
      refine (r08Size k w1 k3).mono ?_
      rintro e w2 ⟨rfl, rfl⟩
      go_wp2
      go_loopg [9, 59] l.length (fun g s9 s59 wr => ∃ (j : Nat) (ml : List Int), j ≤ l.length ∧ s59 = .int .i64 j ∧ g = l.length - j ∧ Hid (Play w wr p k bl B ml s9 j))
      case atStart => exact ⟨0, [], Nat.zero_le _, rfl, rfl, HP.out⟩
      case round =>
        obtain ⟨j, ml, hj, rfl, hgk, hpl⟩ := hrel
        by_cases hlt : j < l.length
        · obtain ⟨b, off, cap', hv, hcell⟩ := HL.out.at enAct_len (by decide) j hlt
          cases hv
          obtain ⟨a, ha⟩ : ∃ a, l[j] = a := ⟨_, rfl⟩
          rw [ha] at hcell
          have hoka := hok a (by rw [← ha]; exact List.getElem_mem hlt)
          obtain ⟨d, N, F⟩ := a
          obtain ⟨ok1, ok2, ok3, ok4⟩ := hoka
          simp only at ok1 ok2 ok3 ok4
          have hkr := hpl.out.kp
          have e0 := hkr.cell (hcell 0 (.bool d) rfl) id
          have e1 := hkr.cell (hcell 1 (.int .i64 N) rfl) id
          have e2 := hkr.cell (hcell 2 (.int .i64 F) rfl) id
          rw [Nat.add_zero] at e0
          clear hcell ha hkr HP
          have h64 := szI_le k k1 k3
          have hle : ml.length ≤ 150 := by have := hpl.out.le; omega
          have HGK := Lib.hid hgk; clear hgk
          go_wp2_with fail
          -- r08.Has
          have hpl1 : Hid (Play w (wr.alloc (.cells #[.bool d, .int .i64 N, .int .i64 F] 31)) p k bl B ml u9 j) := hpl.out.drew ((Kp.refl _ _).alloc _)
          have hbq : Hid (Blk (wr.alloc (.cells #[.bool d, .int .i64 N, .int .i64 F] 31)) wr.heap.size [.bool d, .int .i64 N, .int .i64 F] 31) := Blk.new _ _ _
          refine (r08Has ml u9 N _ (own_sl hpl1.out.own)).mono ?_
          rintro e w2 ⟨rfl, rfl⟩
          have hns : w.heap.size ≤ wr.heap.size := hpl.out.kp.size
          have hnq : ¬ Fp p bl B k wr.heap.size := fun h => by have := hpl.out.set.lt h; omega
          clear hpl e0 e1 e2
          generalize wr.alloc (.cells #[.bool d, .int .i64 N, .int .i64 F] 31) = wx at *
          generalize wr.heap.size = q at *
          have d0 := hbq.out.cell 0 rfl
          have d1 := hbq.out.cell 1 rfl
          have d2 := hbq.out.cell 2 rfl
          obtain ⟨bb, hbb⟩ : ∃ bb, decide (N ∈ ml) = bb := ⟨_, rfl⟩
          rw [hbb]
          have HBB := Lib.hid hbb; clear hbb
          go_upto_region 13 with (fail)
          go_cut [13] (fun s13 wc => Hid (s13 = .bool (inB k N)) ∧ Hid (wc = wx))
          case first =>
            by_cases hN : 0 ≤ N
            · by_cases hN2 : N < szI k
              · have hin : Hid (Value.bool true = .bool (inB k N)) := by simp only [Hid, inB, hN, hN2, decide_true, Bool.and_self]
                have hd : decide (N < szI k) = true := by simpa using hN2
                go_wp2_with fail
                go_meet
                case rel => exact ⟨hin.out, rfl⟩
              · have hin : Hid (Value.bool false = .bool (inB k N)) := by simp only [Hid, inB, hN, hN2, decide_false, Bool.and_false]
                have hd : decide (N < szI k) = false := by simpa using hN2
                go_wp2_with fail
                go_meet
                case rel => exact ⟨hin.out, rfl⟩
            · have hin : Hid (Value.bool false = .bool (inB k N)) := by simp only [Hid, inB, hN, decide_false, Bool.false_and]
              go_wp2_with fail
              go_meet
              case rel => exact ⟨hin.out, rfl⟩
          case rest =>
            obtain ⟨h13, hwc⟩ := hcut
            obtain rfl : wc = wx := hwc.out
            have e13 := h13.out
            subst e13
            obtain ⟨ib, hib⟩ : ∃ ib, inB k N = ib := ⟨_, rfl⟩
            rw [hib]
            have HIB := Lib.hid hib; clear hib h13 hwc
            have hputB : putB k ml N = (ib && !bb) := by unfold putB; rw [HIB.out, HBB.out]
            have HPB := Lib.hid hputB; clear hputB
            go_upto_if 77 with (fail)
            go_cut [9] (fun s9 wd => ∃ ml2, Hid (Play w wd p k bl B ml2 s9 (j + 1)) ∧ Hid (Blk wd q [.bool d, .int .i64 N, .int .i64 F] 31))
            case first =>
              cases d
              · go_wp2_with fail
                refine (sPut p k bl B ml N wc hpl1.out.set k3 (by omega)).mono ?_
                rintro e w2 ⟨rfl, hs2, hk2⟩
                rw [HPB.out] at hs2
                rw [HPB.out]
                obtain ⟨hs3, ho3, hk3⟩ := hpl1.out.mut hs2 hk2
                have hbq2 : Hid (Blk w2 q [.bool false, .int .i64 N, .int .i64 F] 31) := hbq.out.kp hk2 hnq
                have f1 := hbq2.out.cell 1 rfl
                have f2 := hbq2.out.cell 2 rfl
                have HS := Lib.hid hs3; have HO := Lib.hid ho3; have HK := Lib.hid hk3
                clear hs2 hk2 hs3 ho3 hk3
                cases ib
                · go_wp2_with fail
                  go_meet
                  case rel => exact ⟨ml, ⟨HS.out, HO.out, HK.out, by have := hpl1.out.le; omega, hp⟩, hbq2.out⟩
                · cases bb
                  · go_wp2_with fail
                    refine (r08Put ml _ N w2 (own_sl HO.out) (by omega)).mono ?_
                    rintro e w3 ⟨v3, rfl, ho4, hk4⟩
                    have hpl4 : Hid (Play w w3 p k bl B (putL ml N) v3 (j + 1)) := ⟨HS.out.old hk4, own_base ho4 HK.out.size, HK.out.trans hk4, by rw [putL_len]; have := hpl1.out.le; omega, hp⟩
                    have hbq3 : Hid (Blk w3 q [.bool false, .int .i64 N, .int .i64 F] 31) := hbq2.out.kp hk4 id
                    clear ho4 hk4
                    go_wp2_with fail
                    go_meet
                    case rel => exact ⟨_, hpl4.out, hbq3.out⟩
                  · go_wp2_with fail
                    go_meet
                    case rel => exact ⟨ml, ⟨HS.out, HO.out, HK.out, by have := hpl1.out.le; omega, hp⟩, hbq2.out⟩
              · go_wp2_with fail
                refine (sDrop p k bl B ml N wc hpl1.out.set k3 (by omega)).mono ?_
                rintro e w2 ⟨rfl, hs2, hk2⟩
                rw [HBB.out]
                obtain ⟨hs3, ho3, hk3⟩ := hpl1.out.mut hs2 hk2
                have hbq2 : Hid (Blk w2 q [.bool true, .int .i64 N, .int .i64 F] 31) := hbq.out.kp hk2 hnq
                have f1 := hbq2.out.cell 1 rfl
                have f2 := hbq2.out.cell 2 rfl
                have HS := Lib.hid hs3; have HO := Lib.hid ho3; have HK := Lib.hid hk3
                have hbne : (bb != bb) = false := by simp
                clear hs2 hk2 hs3 ho3 hk3
                go_wp2_with fail
                refine (r08Drop ml _ N w2 (own_sl HO.out) (by omega)).mono ?_
                rintro e w3 ⟨v3, rfl, ho4, hk4⟩
                have hpl4 : Hid (Play w w3 p k bl B (dropL ml N) v3 (j + 1)) := ⟨HS.out.old hk4, own_base ho4 HK.out.size, HK.out.trans hk4, by have := dropL_le ml N; have := hpl1.out.le; omega, hp⟩
                have hbq3 : Hid (Blk w3 q [.bool true, .int .i64 N, .int .i64 F] 31) := hbq2.out.kp hk4 id
                clear ho4 hk4
                go_wp2_with fail
                go_meet
                case rel => exact ⟨_, hpl4.out, hbq3.out⟩
            case rest =>
              rename_i wd
              obtain ⟨ml2, hpl2, hbq2⟩ := hcut
              have hT2 := Lib.hid (HT.out.kp hpl2.out.kp id)
              have f2 := hbq2.out.cell 2 rfl
              clear hpl1 hbq d0 d1 d2 HIB HPB HBB HL
              go_wp2_with fail
              refine (sFrom p k bl B ml2 F _ hpl2.out.set k3 hT2.out ok4).mono ?_
              rintro e w2 ⟨rfl, rfl⟩
              obtain ⟨fr, hfr⟩ : ∃ fr, fromL ml2 F = fr := ⟨_, rfl⟩
              rw [hfr]
              have HFR := Lib.hid hfr; clear hfr
              go_wp2_with fail
              refine (r08From ml2 _ F _ (own_sl hpl2.out.own)).mono ?_
              rintro e w2 ⟨rfl, rfl⟩
              rw [HFR.out]
              obtain ⟨x, bo⟩ := fr
              obtain ⟨ao2, cap2, hv2⟩ := own_shape hpl2.out.own
              subst hv2
              obtain ⟨hm2, hhm2⟩ : ∃ hm2, decide (F ∈ ml2) = hm2 := ⟨_, rfl⟩
              have HM2 := Lib.hid hhm2; clear hhm2
              have q1 : (x != x) = false := by simp
              have q2 : (bo != bo) = false := by simp
              have q3 : (hm2 != hm2) = false := by simp
              have q4 : ((ml2.length : Int) != ml2.length) = false := by simp
              have q5 : (szI k != szI k) = false := by simp
              have hr1 := fun (n : Nat) => quiet1 (w := wc) (n := n) (sHas p k bl B ml2 F (wc.drewN n) (hpl2.out.set.old ((Kp.refl _ _).drewN _)) k3)
              have hr2 := fun (n : Nat) => quiet0 (w := wc) (n := n) (r08Has ml2 (.slice ao2 ml2.length cap2) F (wc.drewN n) (own_sl (hpl2.out.drew ((Kp.refl _ _).drewN n)).own))
              have hr3 := fun (n : Nat) => quiet0 (w := wc) (n := n) (sLen p k bl B ml2 (wc.drewN n) (hpl2.out.set.old ((Kp.refl _ _).drewN _)))
              have hr4 := fun (n : Nat) => quiet1 (w := wc) (n := n) (sSize p k bl B ml2 (wc.drewN n) (hpl2.out.set.old ((Kp.refl _ _).drewN _)) k3)
              rw [HM2.out] at hr1 hr2
              have HR1 := Lib.hid hr1; have HR2 := Lib.hid hr2; have HR3 := Lib.hid hr3; have HR4 := Lib.hid hr4
              clear hr1 hr2 hr3 hr4
              go_wp2_with fail
              go_quiet (first | (go_at_call 16; exact HR1.out _) | (go_at_call 9; exact HR2.out _) | (go_at_call 17; exact HR3.out _) | (go_at_call 18; exact HR4.out _))
              go_wp2
              go_roundg (l.length - (j + 1))
              case measure => have := HGK.out; omega
              case rel => exact ⟨j + 1, ml2, by omega, by go_num, rfl, hpl2.out.drew ((Kp.refl _ _).drewN _)⟩
        · obtain rfl : j = l.length := by omega
          have hT2 := Lib.hid (HT.out.kp hpl.out.kp id)
          clear HP hgk
          go_wp2_with fail
          refine (sAll p k bl B ml wr hpl.out.set k3 hT2.out (by have := hpl.out.le; omega)).mono ?_
          rintro e w3 ⟨v3, rfl, ho3, hk3⟩
          have hpl3 := hpl.out.drew hk3
          have hk4 := Lib.hid (hpl.out.kp.trans hk3)
          have hT3 := Lib.hid (hT2.out.kp hk3 id)
          have HO := Lib.hid ho3
          clear hpl ho3 hk3
          go_wp2_with fail
          refine (r06Same ml ml v3 _ w3 (own_sl HO.out) (own_sl hpl3.own)).mono ?_
          rintro e w4 ⟨rfl, hk5⟩
          have hk6 := Lib.hid (hk4.out.trans hk5)
          have hT4 := Lib.hid (hT3.out.kp hk5 id)
          simp only [decide_true]
          go_wp2_with fail
          refine (lives08 w4 hT4.out).mono ?_
          rintro e w5 ⟨rfl, hk7⟩
          go_wp2
          go_ret
          exact ⟨rfl, hk6.out.trans hk7⟩

end Go.Proofs.YtoiiofcpohoeaaaDoor
