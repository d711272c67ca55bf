/- RulesFind: the law's walk. -/
import Derived.Test.YthnlggecjdifnaaDoorRuLv
import Derived.Test.YthnlggecjdifnaaDoorRuRg
import Derived.Test.YthnlggecjdifnaaDoorRuDd
namespace Go.Proofs.YthnlggecjdifnaaDoor
set_option linter.unusedVariables false
set_option linter.unusedSimpArgs false
open Go.RowKit

theorem deads_split (l : List RuN) (j : Nat) (hj : j < l.length) (hd : deadN l j = true) : ∃ rest, deadsN l = deadsTo l j ++ j :: rest := by
  have e : ∀ n, j < n → ∃ rest, deadsTo l n = deadsTo l j ++ j :: rest := by
    intro n
    induction n with
    | zero => intro h; omega
    | succ n ih =>
      intro h
      rcases Nat.lt_or_ge j n with h1 | h1
      · obtain ⟨rest, hr⟩ := ih h1
        cases hn : deadN l n with
        | true => exact ⟨rest ++ [n], by rw [deadsTo_succ, hn, hr]; simp⟩
        | false => exact ⟨rest, by rw [deadsTo_succ, hn, hr]; simp⟩
      · have : j = n := by omega
        subst this
        refine ⟨[], ?_⟩
        rw [deadsTo_succ, hd]
  exact e l.length hj
theorem dead_at (l : List RuN) (j : Nat) (hj : j < l.length) (hd : deadN l j = true) : (deadsTo l j).length < (deadsN l).length ∧ ((deadsN l).map eI)[(deadsTo l j).length]? = some (eI j) := by
  obtain ⟨rest, hr⟩ := deads_split l j hj hd
  rw [hr]
  refine ⟨by rw [List.length_append, List.length_cons]; omega, ?_⟩
  rw [List.getElem?_map, List.getElem?_append_right (Nat.le_refl _), Nat.sub_self]
  rfl
set_option maxRecDepth 100000 in
set_option maxHeartbeats 8000000 in
theorem findLawBig (l : List RuN) (hs : List HdR) (ao bo : Option Addr) (cap bcap : Nat) (w : World) (hm1 : l.length ≤ 9223372036854775807) (hm2 : hs.length ≤ 9223372036854775807) (hT : Tab w) (hbig : 100 < l.length ∨ 60 < hs.length) :
    Calls Tryd.prog 5 #[.slice ao l.length cap, .slice bo hs.length bcap] w fun e w' => e = .returned (.bool true) ∧ Kp none' w w' := by
  have HL := Lib.hid (lives34 w hT)
  by_cases h1 : 100 < l.length
  · have hbi : (100 : Int) < l.length := by omega
    go_enter Tryd.func5, Tryd.ntmps5
    go_wp2_with (go_at_call 7; refine HL.out.mono ?_; rintro e w1 ⟨rfl, hk1⟩; have HK1 := Lib.hid hk1; clear hk1)
    go_ret
    exact ⟨rfl, HK1.out⟩
  · have h2 : 60 < hs.length := hbig.resolve_left h1
    have hbi : ¬ (100 : Int) < l.length := by omega
    have hbi2 : (60 : Int) < hs.length := by omega
    clear hbig
    go_enter Tryd.func5, Tryd.ntmps5
    go_wp2_with (go_at_call 7; refine HL.out.mono ?_; rintro e w1 ⟨rfl, hk1⟩; have HK1 := Lib.hid hk1; clear hk1)
    go_ret
    exact ⟨rfl, HK1.out⟩
set_option maxRecDepth 100000 in
set_option maxHeartbeats 8000000 in
theorem findLawBad (l : List RuN) (hs : List HdR) (hok : ∀ r ∈ l, r.Ok) (ao bo : Option Addr) (cap bcap : Nat) (w : World) (hS : Sl w (.slice ao l.length cap) l.length 7 (l.flatMap enR7)) (hT : Tab w) (h1 : l.length ≤ 100) (h2 : hs.length ≤ 60) (hc : chkN l ≠ 0) :
    Calls Tryd.prog 5 #[.slice ao l.length cap, .slice bo hs.length bcap] w fun e w' => e = .returned (.bool true) ∧ Kp none' w w' := by
  have HL := Lib.hid (fun W (k : Kp none' w W) => lives34 W (hT.kp k (fun x => x)))
  have HN := Lib.hid (tNewBad l hok hc _ _ hS)
  have HC := Lib.hid (fun W (k : Kp none' w W) => tCheck l hok _ W (hS.old k))
  have HR := Lib.hid (fun W (k : Kp none' w W) => rCheck34 l hok _ W (hS.old k))
  have HD := Lib.hid (fun W (k : Kp none' w W) => tDeadBad l hok hc _ W (hS.old k))
  have hbi : ¬ (100 : Int) < l.length := by omega
  have hbi2 : ¬ (60 : Int) < hs.length := by omega
  obtain ⟨c, hcc⟩ : ∃ c, chkN l = c := ⟨_, rfl⟩
  rw [hcc] at HN hc HC HR
  have hd : ¬ (c : Int) = 0 := by omega
  clear hcc hS hT hok
  go_enter Tryd.func5, Tryd.ntmps5
  go_wp2_with (first
    | (go_at_call 8; refine HN.out.mono ?_; rintro e w1 ⟨rfl, hk1⟩; have HK1 := Lib.hid hk1; clear hk1)
    | (go_at_call 10; refine (HR.out _ HK1.out).mono ?_; rintro e w2 ⟨rfl, hk2⟩; have HK2 := Lib.hid (HK1.out.trans hk2); clear hk2)
    | (go_at_call 13; refine (HC.out _ HK2.out).mono ?_; rintro e w3 ⟨rfl, hk3⟩; have HK3 := Lib.hid (HK2.out.trans hk3); clear hk3)
    | (go_at_call 14; refine (HD.out _ HK3.out).mono ?_; rintro e w4 ⟨rfl, hk4⟩; have HK4 := Lib.hid (HK3.out.trans hk4); clear hk4)
    | (go_at_call 7; refine (HL.out _ HK4.out).mono ?_; rintro e w5 ⟨rfl, hk5⟩; have HK5 := Lib.hid (HK4.out.trans hk5); clear hk5))
  go_ret
  exact ⟨rfl, HK5.out⟩
set_option maxRecDepth 100000 in
set_option maxHeartbeats 8000000 in
theorem findLawOk (l : List RuN) (hs : List HdR) (hok : ∀ r ∈ l, r.Ok) (hho : ∀ h ∈ hs, h.Ok) (ao bo : Option Addr) (cap bcap : Nat) (hcap : l.length ≤ cap) (w : World) (hS : Sl w (.slice ao l.length cap) l.length 7 (l.flatMap enR7)) (hS2 : Sl w (.slice bo hs.length bcap) hs.length 7 (hs.flatMap enHd)) (hT : Tab w) (h1 : l.length ≤ 100) (h2 : hs.length ≤ 60) (hc : chkN l = 0) :
    Calls Tryd.prog 5 #[.slice ao l.length cap, .slice bo hs.length bcap] w fun e w' => e = .returned (.bool true) ∧ Kp none' w w' := by
  have HL := Lib.hid (fun W (k : Kp none' w W) => lives34 W (hT.kp k (fun x => x)))
  have HN := Lib.hid (tNewOk l hok hc _ _ hS)
  have hC := fun W (k : Kp none' w W) => tCheck l hok _ W (hS.old k)
  have hR := fun W (k : Kp none' w W) => rCheck34 l hok _ W (hS.old k)
  rw [hc] at hC hR
  have HC := Lib.hid hC; have HR := Lib.hid hR
  have HD := Lib.hid (fun W (k : Kp none' w W) => tDead l hok hc ao cap hcap W (hS.old k))
  have HF := Lib.hid (fun W (k : Kp none' w W) tb H h hh => tFindR W tb l hok hc H (hT.kp k (fun x => x)) h hh)
  have HFL := Lib.hid (fun W (k : Kp none' w W) tb H h hh => tFlow W tb l hok hc H (hT.kp k (fun x => x)) h hh)
  have HRF := Lib.hid (fun W (k : Kp none' w W) h hh => rFind34 l hok h hh _ W (hS.old k))
  have HRD := Lib.hid (fun W (k : Kp none' w W) j hj => rDead34 l hok j hj _ W (hS.old k))
  have HS := Lib.hid hS; have HS2 := Lib.hid hS2; have HHO := Lib.hid hho
  have hbi : ¬ (100 : Int) < l.length := by omega
  have hbi2 : ¬ (60 : Int) < hs.length := by omega
  clear hS hS2 hT hok hho hC hR hc
  go_enter Tryd.func5, Tryd.ntmps5
  go_wp2_with fail
  refine HN.out.mono ?_
  rintro e w1 ⟨tb, rfl, hR1, hk1⟩
  have HK1 := Lib.hid hk1; have HR1 := Lib.hid hR1
  clear hk1 hR1
  go_wp2_with (first
    | (go_at_call 10; refine (HR.out _ HK1.out).mono ?_; rintro e w2 ⟨rfl, hk2⟩; have HK2 := Lib.hid (HK1.out.trans hk2); have HR2 := Lib.hid (HR1.out.old hk2); clear hk2)
    | (go_at_call 13; refine (HC.out _ HK2.out).mono ?_; rintro e w3 ⟨rfl, hk3⟩; have HK3 := Lib.hid (HK2.out.trans hk3); have HR3 := Lib.hid (HR2.out.old hk3); clear hk3))
  refine (HD.out _ HK3.out).mono ?_
  rintro e w4 ⟨dv, rfl, hown, hk4⟩
  have HK4 := Lib.hid (HK3.out.trans hk4); have HR4 := Lib.hid (HR3.out.old hk4)
  have hdl := deadsTo_len l l.length
  have hdsl := own_sl hown
  have HDS := Lib.hid hdsl
  obtain ⟨ao5, cap5, rfl, _⟩ := hdsl.is
  have hdn : (deadsN l).length ≤ 100 := Nat.le_trans hdl h1
  clear hk4 hown hdl hdsl
  go_wp2_with fail
  go_loopw [63] (fun i wr => ∃ j : Nat, i = .int .i64 j ∧ j ≤ hs.length ∧ Hid (Kp none' w4 wr)) (fun i _ => hs.length - (intOf i).toNat)
  case atStart => exact ⟨0, rfl, Nat.zero_le _, Kp.refl _ _⟩
  case round =>
    obtain ⟨j, rfl, hj, HI⟩ := hrel
    by_cases hlt : j < hs.length
    · obtain ⟨g, off, cap', e1, hcl⟩ := (HS2.out.old (HK4.out.trans HI.out)).at enHd_len (by decide) j hlt
      injection e1 with e1 _ e3
      cases e1
      subst e3
      have hji : (j : Int) < hs.length := by omega
      obtain ⟨h, hh⟩ : ∃ h, hs[j] = h := ⟨_, rfl⟩
      have hho := HHO.out h (by rw [← hh]; exact List.getElem_mem hlt)
      rw [hh] at hcl
      have c0 : wr.cell? ⟨g, off + j * 7, none⟩ = some (.int .u8 h.ds) := hcl 0 _ rfl
      have c1 := hcl 1 _ rfl
      have c2 := hcl 2 _ rfl
      have c3 := hcl 3 _ rfl
      have c4 := hcl 4 _ rfl
      have c5 := hcl 5 _ rfl
      have c6 := hcl 6 _ rfl
      have hka : Kp none' wr (wr.alloc (.cells #[.int .u8 h.ds, .int .u16 h.id, .int .u8 h.ttl, .int .u32 h.s, .int .u32 h.d, .int .u16 h.sp, .int .u16 h.p] 26)) := (Kp.refl none' wr).alloc _
      have HBa := Lib.hid (Blk.new wr (enHd h) 26)
      have HIa := Lib.hid (HI.out.trans hka); have HKa := Lib.hid (HK4.out.trans (HI.out.trans hka)); have HRa := Lib.hid (HR4.out.old (HI.out.trans hka))
      clear hcl hh hka
      have hfl := flow_find l h.n
      cases hf : findN l h.n with
      | none =>
        rw [hf] at hfl
        have hF := fun W k tb H => HF.out W k tb H h hho
        have hRF := fun W k => HRF.out W k h hho
        have hFL := fun W k tb H => HFL.out W k tb H h hho
        rw [hf] at hF hRF
        rw [hfl] at hFL
        simp only [atN, isN, Option.map_none] at hF hRF hFL
        have HFx := Lib.hid hF; have HRFx := Lib.hid hRF; have HFLx := Lib.hid hFL
        clear hF hRF hFL hf hfl
        go_wp2_with (first
          | (go_at_call 9; refine (HFx.out _ HKa.out tb HRa.out).mono ?_; rintro e w5 ⟨rfl, hk5⟩
             have HK5 := Lib.hid (HKa.out.trans hk5); have HR5 := Lib.hid (HRa.out.old hk5); have HB5 := Lib.hid (HBa.out.kp hk5 (fun x => x)); have HI5 := Lib.hid (HIa.out.trans hk5); clear hk5 c0 c1 c2 c3 c4 c5 c6
             have b0 := HB5.out.cell 0 rfl; have b1 := HB5.out.cell 1 rfl; have b2 := HB5.out.cell 2 rfl; have b3 := HB5.out.cell 3 rfl; have b4 := HB5.out.cell 4 rfl; have b5 := HB5.out.cell 5 rfl; have b6 := HB5.out.cell 6 rfl)
          | (go_at_call 15; refine (HRFx.out _ HK5.out).mono ?_; rintro e w6 ⟨rfl, hk6⟩
             have HK6 := Lib.hid (HK5.out.trans hk6); have HR6 := Lib.hid (HR5.out.old hk6); have HB6 := Lib.hid (HB5.out.kp hk6 (fun x => x)); have HI6 := Lib.hid (HI5.out.trans hk6); clear hk6 b0 b1 b2 b3 b4 b5 b6
             have b0 := HB6.out.cell 0 rfl; have b1 := HB6.out.cell 1 rfl; have b2 := HB6.out.cell 2 rfl; have b3 := HB6.out.cell 3 rfl; have b4 := HB6.out.cell 4 rfl; have b5 := HB6.out.cell 5 rfl; have b6 := HB6.out.cell 6 rfl)
          | (go_at_call 11; refine (HFLx.out _ HK6.out tb HR6.out).mono ?_; rintro e w7 ⟨rfl, hk7⟩
             have HK7 := Lib.hid (HK6.out.trans hk7); have HI7 := Lib.hid (HI6.out.trans hk7); clear hk7 b0 b1 b2 b3 b4 b5 b6))
        go_roundw
        case rel => exact ⟨j + 1, by go_num, by omega, HI7.out⟩
        case measure => simp [intOf]; omega
      | some i =>
        rw [hf] at hfl
        have hil := (findN_some.1 hf).1
        have hF := fun W k tb H => HF.out W k tb H h hho
        have hRF := fun W k => HRF.out W k h hho
        have hFL := fun W k tb H => HFL.out W k tb H h hho
        rw [hf] at hF hRF
        rw [hfl] at hFL
        simp only [atN, isN, Option.map_some] at hF hRF hFL
        have hgd := getD_at (default : RuN) hil
        obtain ⟨r, hr⟩ : ∃ r, l[i] = r := ⟨_, rfl⟩
        rw [hgd, hr] at hFL
        obtain ⟨g2, off2, cap2, e2, _⟩ := HS.out.at enR7_len (by decide) i hil
        injection e2 with e2 _ e4
        cases e2
        subst e4
        have HCL : Hid (∀ W, Kp none' w W → W.cell? ⟨g2, off2 + i * 7 + 6, none⟩ = some (.int .u32 r.fl)) := fun W k => by
          obtain ⟨g3, off3, cap3, e5, hcl⟩ := (HS.out.old k).at enR7_len (by decide) i hil
          injection e5 with e5 _ _
          cases e5
          rw [hr] at hcl
          exact hcl 6 _ rfl
        have hii : (i : Int) < l.length := by omega
        have HFx := Lib.hid hF; have HRFx := Lib.hid hRF; have HFLx := Lib.hid hFL
        clear hF hRF hFL hf hfl hgd hr
        go_wp2_with (first
          | (go_at_call 9; refine (HFx.out _ HKa.out tb HRa.out).mono ?_; rintro e w5 ⟨rfl, hk5⟩
             have HK5 := Lib.hid (HKa.out.trans hk5); have HR5 := Lib.hid (HRa.out.old hk5); have HB5 := Lib.hid (HBa.out.kp hk5 (fun x => x)); have HI5 := Lib.hid (HIa.out.trans hk5); clear hk5 c0 c1 c2 c3 c4 c5 c6
             have b0 := HB5.out.cell 0 rfl; have b1 := HB5.out.cell 1 rfl; have b2 := HB5.out.cell 2 rfl; have b3 := HB5.out.cell 3 rfl; have b4 := HB5.out.cell 4 rfl; have b5 := HB5.out.cell 5 rfl; have b6 := HB5.out.cell 6 rfl)
          | (go_at_call 15; refine (HRFx.out _ HK5.out).mono ?_; rintro e w6 ⟨rfl, hk6⟩
             have HK6 := Lib.hid (HK5.out.trans hk6); have HR6 := Lib.hid (HR5.out.old hk6); have HB6 := Lib.hid (HB5.out.kp hk6 (fun x => x)); have HI6 := Lib.hid (HI5.out.trans hk6); clear hk6 b0 b1 b2 b3 b4 b5 b6
             have b0 := HB6.out.cell 0 rfl; have b1 := HB6.out.cell 1 rfl; have b2 := HB6.out.cell 2 rfl; have b3 := HB6.out.cell 3 rfl; have b4 := HB6.out.cell 4 rfl; have b5 := HB6.out.cell 5 rfl; have b6 := HB6.out.cell 6 rfl)
          | (go_at_call 11; refine (HFLx.out _ HK6.out tb HR6.out).mono ?_; rintro e w7 ⟨rfl, hk7⟩
             have HK7 := Lib.hid (HK6.out.trans hk7); have HI7 := Lib.hid (HI6.out.trans hk7); clear hk7 b0 b1 b2 b3 b4 b5 b6; have cf := HCL.out _ HK7.out))
        go_roundw
        case rel => exact ⟨j + 1, by go_num, by omega, HI7.out⟩
        case measure => simp [intOf]; omega
    · have hjn : j = hs.length := by omega
      subst hjn
      have HKe := Lib.hid (HK4.out.trans HI.out); have HRe := Lib.hid (HR4.out.old HI.out); have HDe := Lib.hid (HDS.out.old HI.out)
      go_wp2_with fail
      obtain ⟨we, hwe⟩ : ∃ we : World, we = wr := ⟨_, rfl⟩
      subst hwe
      go_loopw [17, 121] (fun n i wr => ∃ j : Nat, i = .int .i64 j ∧ j ≤ l.length ∧ n = .int .i64 (deadsTo l j).length ∧ Hid (Kp none' we wr)) (fun _ i _ => l.length - (intOf i).toNat)
      case atStart => exact ⟨0, rfl, Nat.zero_le _, rfl, Kp.refl _ _⟩
      case round =>
        obtain ⟨q, rfl, hq, rfl, HQ⟩ := hrel
        by_cases hql : q < l.length
        · have hqi : (q : Int) < l.length := by omega
          have hrd := HRD.out wr (HKe.out.trans HQ.out) q hql
          have hds := deadsTo_succ l q
          cases hdv : deadN l q with
          | false =>
            rw [hdv] at hrd hds
            have HRDx := Lib.hid hrd
            have HDSx : Hid ((deadsTo l (q + 1)).length = (deadsTo l q).length) := by show _ = _; rw [hds]; simp
            obtain ⟨n, hn⟩ : ∃ n, (deadsTo l q).length = n := ⟨_, rfl⟩
            have HNN := Lib.hid hn
            simp only [hn]
            clear hrd hds hdv hn
            go_wp2_with (go_at_call 16; refine HRDx.out.mono ?_; rintro e w8 ⟨rfl, hk8⟩; have HQ8 := Lib.hid (HQ.out.trans hk8); clear hk8)
            go_roundw
            case rel => exact ⟨q + 1, by go_num, by omega, by rw [HDSx.out, HNN.out], HQ8.out⟩
            case measure => simp [intOf]; omega
          | true =>
            rw [hdv] at hrd hds
            have HRDx := Lib.hid hrd
            have HDSx : Hid ((deadsTo l (q + 1)).length = (deadsTo l q).length + 1) := by show _ = _; rw [hds]; simp
            obtain ⟨d1, d2⟩ := dead_at l q hql hdv
            obtain ⟨n, hn⟩ : ∃ n, (deadsTo l q).length = n := ⟨_, rfl⟩
            have HNN := Lib.hid hn
            rw [hn] at d1 d2
            simp only [hn]
            have hn1 : (n : Int) < (deadsN l).length := by omega
            have hn2 : ¬ ((deadsN l).length : Int) ≤ n := by omega
            have hw : IntKind.i64.wrap ((n : Int) + 1) = (n : Int) + 1 := by rw [IntKind.wrap_i64]; omega
            obtain ⟨ao6, cap6, e6, hcd⟩ := (HDe.out.old HQ.out).is
            injection e6 with e6 _ e7
            obtain ⟨g6, off6, e8, _⟩ := hcd n _ d2
            rw [e8] at e6
            cases e6
            subst e7
            have HCD : Hid (∀ W, Kp none' wr W → W.cell? ⟨g6, off6 + n, none⟩ = some (.int .i64 q)) := fun W k => by
              obtain ⟨g9, off9, e9, hc9⟩ := hcd n _ d2
              rw [e8] at e9
              cases e9
              exact k.cell hc9 (fun x => x)
            clear hrd hds hdv hn hcd d2 e8
            go_wp2_with (go_at_call 16; refine HRDx.out.mono ?_; rintro e w8 ⟨rfl, hk8⟩; have HQ8 := Lib.hid (HQ.out.trans hk8); have z := HCD.out w8 hk8; clear hk8)
            go_roundw
            case rel => exact ⟨q + 1, by go_num, by omega, by rw [HDSx.out, HNN.out]; go_num, HQ8.out⟩
            case measure => simp [intOf]; omega
        · have hqn : q = l.length := by omega
          subst hqn
          have HLN := Lib.hid (tLen wr tb l (HRe.out.old HQ.out))
          have HLV := Lib.hid (HL.out wr (HKe.out.trans HQ.out))
          have hdd : (deadsTo l l.length).length = (deadsN l).length := rfl
          rw [hdd]
          have HKz := Lib.hid (HKe.out.trans HQ.out)
          clear hdd
          go_wp2_with (first
            | (go_at_call 12; refine HLN.out.mono ?_; rintro e w9 ⟨rfl, hw9⟩; obtain rfl := hw9)
            | (go_at_call 7; refine HLV.out.mono ?_; rintro e w9 ⟨rfl, hk9⟩; have HK9 := Lib.hid (HKz.out.trans hk9); clear hk9))
          go_ret
          exact ⟨rfl, HK9.out⟩
theorem findLaw (l : List RuN) (hs : List HdR) (hok : ∀ r ∈ l, r.Ok) (hho : ∀ h ∈ hs, h.Ok) (ao bo : Option Addr) (cap bcap : Nat) (hcap : l.length ≤ cap) (w : World) (hS : Sl w (.slice ao l.length cap) l.length 7 (l.flatMap enR7)) (hS2 : Sl w (.slice bo hs.length bcap) hs.length 7 (hs.flatMap enHd)) (hT : Tab w) :
    Calls Tryd.prog 5 #[.slice ao l.length cap, .slice bo hs.length bcap] w fun e w' => e = .returned (.bool true) ∧ Kp none' w w' := by
  by_cases h1 : 100 < l.length
  · exact findLawBig l hs ao bo cap bcap w hS.max hS2.max hT (.inl h1)
  · by_cases h2 : 60 < hs.length
    · exact findLawBig l hs ao bo cap bcap w hS.max hS2.max hT (.inr h2)
    · by_cases hc : chkN l = 0
      · exact findLawOk l hs hok hho ao bo cap bcap hcap w hS hS2 hT (by omega) (by omega) hc
      · exact findLawBad l hs hok ao bo cap bcap w hS hT (by omega) (by omega) hc
end Go.Proofs.YthnlggecjdifnaaDoor
