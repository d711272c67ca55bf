/- RulesLean: the law's walk. -/
import Derived.Test.YthnlggecjdifnaaDoorRuLv
import Derived.Test.YthnlggecjdifnaaDoorRuDd
import Derived.Test.YthnlggecjdifnaaDoorRuBe
import Derived.Test.YthnlggecjdifnaaDoorMake
namespace Go.Proofs.YthnlggecjdifnaaDoor
set_option linter.unusedVariables false
set_option linter.unusedSimpArgs false
open Go.RowKit

def eB (b : Bool) : Value := .bool b
theorem tBool : SlT Tryd.prog 51 4 (.bool false) 1 1 := ⟨Tryd.underlying51, by kernel_rfl, rfl, by decide⟩
theorem flatB (l : List Bool) : l.flatMap (fun b => [eB b]) = l.map eB := by induction l <;> simp_all
theorem lean_snoc (l : List RuN) (bs : List Bool) (r : RuN) (b : Bool) (h : l.length = bs.length) : leanN (l ++ [r]) (bs ++ [b]) = leanN l bs ++ (match b with | true => [] | false => [r]) := by
  induction l generalizing bs with
  | nil =>
    have : bs = [] := List.eq_nil_of_length_eq_zero h.symm
    subst this
    cases b <;> rfl
  | cons q l ih =>
    cases bs with
    | nil => simp at h
    | cons c bs =>
      have h' : l.length = bs.length := by simpa using h
      cases c with
      | true => simp only [List.cons_append, leanN]; exact ih bs h'
      | false => simp only [List.cons_append, leanN]; rw [ih bs h']
theorem lean_step (l : List RuN) (bs : List Bool) (h : l.length = bs.length) (j : Nat) (hj : j < l.length) : leanN (l.take (j + 1)) (bs.take (j + 1)) = leanN (l.take j) (bs.take j) ++ (match bs.getD j false with | true => [] | false => [l[j]]) := by
  have hj2 : j < bs.length := by omega
  rw [List.take_succ_eq_append_getElem hj, List.take_succ_eq_append_getElem hj2, lean_snoc _ _ _ _ (by rw [List.length_take, List.length_take]; omega), getD_at _ hj2]
theorem deads_mem {l : List RuN} {d : Nat} (h : d ∈ deadsN l) : d < l.length ∧ deadN l d = true := by
  unfold deadsN at h
  rw [List.mem_filter, List.mem_range] at h
  exact h
/-- Flags that are on at dead ones alone. -/
structure Fl1 (l : List RuN) (bs : List Bool) : Prop where
  len : bs.length = l.length
  on : ∀ i, bs.getD i false = true → deadN l i = true
theorem Fl1.start (l : List RuN) : Fl1 l (List.replicate l.length false) := by
  refine ⟨by simp, fun i h => ?_⟩
  rw [List.getD_eq_getElem?_getD, List.getElem?_replicate] at h
  split at h <;> simp at h
theorem Fl1.set {l : List RuN} {bs : List Bool} (h : Fl1 l bs) {d : Nat} (hd : deadN l d = true) : Fl1 l (bs.set d true) := by
  refine ⟨by rw [List.length_set]; exact h.len, fun i hi => ?_⟩
  by_cases e : i = d
  · subst e; exact hd
  · refine h.on i ?_
    rw [List.getD_eq_getElem?_getD, List.getElem?_set_ne (fun h => e h.symm)] at hi
    rw [List.getD_eq_getElem?_getD]; exact hi
structure L1 (w1 w3 wr : World) (l : List RuN) (g : Nat) (bs : List Bool) : Prop where
  own : wr.ownsRow w1.heap.size 4 1 (.slice (some ⟨g, 0, none⟩) l.length l.length) l.length (bs.map eB)
  fl : Fl1 l bs
  kp : Kp (fun b => b = g) w3 wr
structure L2 (w5 wr : World) (l : List RuN) (bs : List Bool) (v : Value) (j : Nat) : Prop where
  own : wr.ownsRow w5.heap.size 48 7 v (leanN (l.take j) (bs.take j)).length ((leanN (l.take j) (bs.take j)).flatMap enR7)
  kp : Kp none' w5 wr
set_option maxRecDepth 100000 in
set_option maxHeartbeats 8000000 in
theorem leanLawBig (l : List RuN) (hs : List HdR) (ao bo : Option Addr) (cap bcap : Nat) (w : World) (hm1 : l.length ≤ 9223372036854775807) (hm2 : hs.length ≤ 9223372036854775807) (hT : Tab w) (hbig : 64 < l.length ∨ 60 < hs.length) :
    Calls Tryd.prog 6 #[.slice ao l.length cap, .slice bo hs.length bcap] w fun e w' => e = .returned (.bool true) ∧ Kp none' w w' := by
  have HL := Lib.hid (lives34 w hT)
  by_cases h1 : 64 < l.length
  · have hbi : (64 : Int) < l.length := by omega
    go_enter Tryd.func6, Tryd.ntmps6
    go_wp2_with (go_at_call 7; refine HL.out.mono ?_; rintro e w1 ⟨rfl, hk1⟩; have HK1 := Lib.hid hk1; clear hk1)
    go_ret
    exact ⟨rfl, HK1.out⟩
  · have h2 : 60 < hs.length := hbig.resolve_left h1
    have hbi : ¬ (64 : Int) < l.length := by omega
    have hbi2 : (60 : Int) < hs.length := by omega
    clear hbig
    go_enter Tryd.func6, Tryd.ntmps6
    go_wp2_with (go_at_call 7; refine HL.out.mono ?_; rintro e w1 ⟨rfl, hk1⟩; have HK1 := Lib.hid hk1; clear hk1)
    go_ret
    exact ⟨rfl, HK1.out⟩
set_option maxRecDepth 100000 in
set_option maxHeartbeats 8000000 in
theorem leanLawBad (l : List RuN) (hs : List HdR) (hok : ∀ r ∈ l, r.Ok) (ao bo : Option Addr) (cap bcap : Nat) (w : World) (hS : Sl w (.slice ao l.length cap) l.length 7 (l.flatMap enR7)) (hT : Tab w) (h1 : l.length ≤ 64) (h2 : hs.length ≤ 60) (hc : chkN l ≠ 0) :
    Calls Tryd.prog 6 #[.slice ao l.length cap, .slice bo hs.length bcap] w fun e w' => e = .returned (.bool true) ∧ Kp none' w w' := by
  have HL := Lib.hid (fun W (k : Kp none' w W) => lives34 W (hT.kp k (fun x => x)))
  have HN := Lib.hid (tNewBad l hok hc _ _ hS)
  have hbi : ¬ (64 : Int) < l.length := by omega
  have hbi2 : ¬ (60 : Int) < hs.length := by omega
  obtain ⟨c, hcc⟩ : ∃ c, chkN l = c := ⟨_, rfl⟩
  rw [hcc] at HN hc
  have hd : ¬ (c : Int) = 0 := by omega
  clear hcc hS hT hok
  go_enter Tryd.func6, Tryd.ntmps6
  go_wp2_with (first
    | (go_at_call 8; refine HN.out.mono ?_; rintro e w1 ⟨rfl, hk1⟩; have HK1 := Lib.hid hk1; clear hk1)
    | (go_at_call 7; refine (HL.out _ HK1.out).mono ?_; rintro e w5 ⟨rfl, hk5⟩; have HK5 := Lib.hid (HK1.out.trans hk5); clear hk5))
  go_ret
  exact ⟨rfl, HK5.out⟩
set_option maxRecDepth 100000 in
set_option maxHeartbeats 8000000 in
theorem leanLawOk (l : List RuN) (hs : List HdR) (hok : ∀ r ∈ l, r.Ok) (hho : ∀ h ∈ hs, h.Ok) (ao bo : Option Addr) (cap bcap : Nat) (hcap : l.length ≤ cap) (w : World) (hS : Sl w (.slice ao l.length cap) l.length 7 (l.flatMap enR7)) (hS2 : Sl w (.slice bo hs.length bcap) hs.length 7 (hs.flatMap enHd)) (hT : Tab w) (h1 : l.length ≤ 64) (h2 : hs.length ≤ 60) (hc : chkN l = 0) :
    Calls Tryd.prog 6 #[.slice ao l.length cap, .slice bo hs.length bcap] w fun e w' => e = .returned (.bool true) ∧ Kp none' w w' := by
  have HL := Lib.hid (fun W (k : Kp none' w W) => lives34 W (hT.kp k (fun x => x)))
  have HN := Lib.hid (tNewOk l hok hc _ _ hS)
  have HD := Lib.hid (fun W (k : Kp none' w W) => tDead l hok hc ao cap hcap W (hS.old k))
  have HF := Lib.hid (fun W (k : Kp none' w W) tb H h hh => tFindR W tb l hok hc H (hT.kp k (fun x => x)) h hh)
  have HFL := Lib.hid (fun W (k : Kp none' w W) tb H h hh => tFlow W tb l hok hc H (hT.kp k (fun x => x)) h hh)
  have HT := Lib.hid hT; have HOK := Lib.hid hok; have HCC := Lib.hid hc
  have HS := Lib.hid hS; have HS2 := Lib.hid hS2; have HHO := Lib.hid hho
  have hbi : ¬ (64 : Int) < l.length := by omega
  have hbi2 : ¬ (60 : Int) < hs.length := by omega
  have hmk := run_make_flat tBool (fun b => [eB b]) (fun _ => rfl) false rfl l.length (by omega) (by omega)
  clear hS hS2 hT hok hho hc
  go_enter Tryd.func6, Tryd.ntmps6
  go_wp2_with fail
  refine HN.out.mono ?_
  rintro e w1 ⟨tb, rfl, hR1, hk1⟩
  have HK1 := Lib.hid hk1; have HR1 := Lib.hid hR1
  clear hk1 hR1
  go_wp2_with fail
  have hk2 : Kp none' w1 (w1.alloc (.cells ((List.replicate l.length false).flatMap (fun b => [eB b])).toArray 4)) := (Kp.refl none' w1).alloc _
  have hown2 := own_made (fun b => [eB b]) 1 (fun _ => rfl) false l.length (by omega) 4 w1 w1.heap.size (Nat.le_refl _)
  have hsz2 := World.size_alloc w1 (.cells ((List.replicate l.length false).flatMap (fun b => [eB b])).toArray 4)
  obtain ⟨w2, hw2⟩ : ∃ W, w1.alloc (.cells ((List.replicate l.length false).flatMap (fun b => [eB b])).toArray 4) = W := ⟨_, rfl⟩
  rw [hw2] at hk2 hown2 hsz2 ⊢
  rw [flatB] at hown2
  obtain ⟨g, hg⟩ : ∃ g, w1.heap.size = g := ⟨_, rfl⟩
  rw [hg] at hsz2
  have HG := Lib.hid hg
  have hown2' : w2.ownsRow w1.heap.size 4 1 (.slice (some ⟨g, 0, none⟩) l.length l.length) l.length ((List.replicate l.length false).map eB) := by rw [hg] at hown2; rw [hg]; exact hown2
  have HOW2 := Lib.hid hown2'; have HK2 := Lib.hid hk2
  rw [hg]
  clear hw2 hk2 hown2 hown2' hg hmk
  refine (HD.out w2 (HK1.out.trans HK2.out)).mono ?_
  rintro e w3 ⟨dv, rfl, hown, hk3⟩
  have HK3 := Lib.hid (HK2.out.trans hk3)
  have hdl := deadsTo_len l l.length
  have hdn : (deadsN l).length ≤ 64 := Nat.le_trans hdl h1
  have hL1 : L1 w1 w3 w3 l g (List.replicate l.length false) := ⟨own_kp (S := none') HOW2.out hk3 (fun _ _ h => h), Fl1.start l, Kp.refl _ _⟩
  have HL1 := Lib.hid hL1
  have hdv : ∀ b, dv.ownBlock = some b → b ≠ g := fun b hb => by have := (own_block hown hb).1; omega
  have hdsl := own_sl hown
  have HDS := Lib.hid hdsl; have HDV := Lib.hid hdv
  obtain ⟨ao5, cap5, rfl, _⟩ := hdsl.is
  clear hk3 hown hdl hdsl hL1 hdv
  go_wp2_with fail
  go_loopw [50] (fun i wr => ∃ (k : Nat) (bs : List Bool), i = .int .i64 k ∧ k ≤ (deadsN l).length ∧ Hid (L1 w1 w3 wr l g bs)) (fun i _ => (deadsN l).length - (intOf i).toNat)
  case atStart => exact ⟨0, _, rfl, Nat.zero_le _, HL1.out⟩
  case round =>
    clear HL1
    obtain ⟨k, bs, rfl, hk, HI⟩ := hrel
    by_cases hkl : k < (deadsN l).length
    · have hki : (k : Int) < (deadsN l).length := by omega
      have hsl := HDS.out.kp HI.out.kp (fun b _ hb e => HDV.out b hb e)
      have hd := deads_mem (List.getElem_mem hkl)
      obtain ⟨ao6, cap6, e6, hcd⟩ := hsl.is
      injection e6 with e6 _ e7
      have hcell : ((deadsN l).map eI)[k]? = some (eI (deadsN l)[k]) := by rw [List.getElem?_map, List.getElem?_eq_getElem hkl]; rfl
      obtain ⟨g6, off6, e8, hc6⟩ := hcd k _ hcell
      rw [e8] at e6
      cases e6
      subst e7
      obtain ⟨d, hdd⟩ : ∃ d, (deadsN l)[k] = d := ⟨_, rfl⟩
      rw [hdd] at hd hc6
      have c6 : wr.cell? ⟨g6, off6 + k, none⟩ = some (.int .i64 d) := hc6
      have hdl : (d : Int) < l.length := by omega
      have hdl2 : ¬ (l.length : Int) ≤ d := by omega
      have hd0 : ¬ (d : Int) < 0 := by omega
      have y := own_fz HI.out.own d
      have HF1 : Hid (L1 w1 w3 (wr.setCell ⟨g, d, none⟩ (.bool true)) l g (bs.set d true)) := by
        refine ⟨?_, HI.out.fl.set hd.2, HI.out.kp.set (p := ⟨g, d, none⟩) (.inl rfl) _⟩
        rw [List.map_set]
        exact own_set HI.out.own d (.bool true)
      obtain ⟨b0, hb0⟩ : ∃ b0, (bs.map eB)[d]? = some b0 := ⟨_, List.getElem?_eq_getElem (by rw [List.length_map, HI.out.fl.len]; exact hd.1)⟩
      have cB := own_cell HI.out.own d hb0
      clear hsl hcell hcd hc6 hd hdd e8 hb0
      go_wp2_with fail
      go_roundw
      case rel => exact ⟨k + 1, _, by go_num, by omega, HF1.out⟩
      case measure => simp [intOf]; omega
    · have hkn : k = (deadsN l).length := by omega
      subst hkn
      have HK5 := Lib.hid ((HK1.out.trans HK3.out).then HI.out.kp (fun b hb e => by
        have h1 := HK1.out.size; have := HG.out; omega))
      have HR5 := Lib.hid (HR1.out.old (HK3.out.then HI.out.kp (fun b hb e => by have := HG.out; omega)))
      have HFL1 := Lib.hid HI.out.fl; have HOB := Lib.hid HI.out.own
      have hbl := HI.out.fl.len
      obtain ⟨w5, hw5⟩ : ∃ we : World, we = wr := ⟨_, rfl⟩
      subst hw5
      go_wp2_with fail
      go_loopw [10, 68] (fun s10 i wr => ∃ (j : Nat) (v10 : Value), v10 = s10 ∧ i = .int .i64 j ∧ j ≤ l.length ∧ Hid (L2 w5 wr l bs v10 j)) (fun _ i _ => l.length - (intOf i).toNat)
      case atStart => exact ⟨0, _, rfl, rfl, Nat.zero_le _, ⟨by simp [leanN], .inl ⟨rfl, by simp [leanN]⟩⟩, Kp.refl _ _⟩
      case round =>
        obtain ⟨j, v10, rfl, rfl, hj, HJ⟩ := hrel
        by_cases hlt : j < l.length
        · obtain ⟨gl, off, cap', e1, hcl⟩ := (HS.out.old (HK5.out.trans HJ.out.kp)).at enR7_len (by decide) j hlt
          injection e1 with e1 _ e3
          cases e1
          subst e3
          have hji : (j : Int) < l.length := by omega
          have hst := lean_step l bs hbl.symm j hlt
          have hle := lean_len (l.take j) (bs.take j)
          rw [List.length_take] at hle
          have hl64 : (leanN (l.take j) (bs.take j)).length ≤ 64 := by omega
          obtain ⟨r, hr⟩ : ∃ r, l[j] = r := ⟨_, rfl⟩
          rw [hr] at hcl hst
          have c0 : wr.cell? ⟨gl, off + j * 7, none⟩ = some (.int .u32 r.s.1) := hcl 0 _ rfl
          have c1 := hcl 1 _ rfl
          have c2 := hcl 2 _ rfl
          have c3 := hcl 3 _ rfl
          have c4 := hcl 4 _ rfl
          have c5 := hcl 5 _ rfl
          have c6 := hcl 6 _ rfl
          have cB := own_cell (own_kp (S := none') HOB.out HJ.out.kp (fun _ _ h => h)) j (u := eB (bs.getD j false)) (by rw [List.getElem?_map, List.getElem?_eq_getElem (by omega), getD_at _ (by omega)]; rfl)
          have hka : Kp none' wr (wr.alloc (.cells #[.int .u32 r.s.1, .int .i64 r.s.2, .int .u32 r.d.1, .int .i64 r.d.2, .int .u16 r.lo, .int .u16 r.hi, .int .u32 r.fl] 48)) := (Kp.refl none' wr).alloc _
          have HJa := Lib.hid (own_kp (S := none') HJ.out.own hka (fun _ _ h => h)); have HKa := Lib.hid (HJ.out.kp.trans hka)
          have hsz := HJ.out.kp.size
          have HLE := Lib.hid hle
          clear hcl hr hle
          cases hb : bs.getD j false with
          | true =>
            rw [hb] at hst cB
            have HST := Lib.hid hst
            have HF2 : Hid (L2 w5 (wr.alloc (.cells #[.int .u32 r.s.1, .int .i64 r.s.2, .int .u32 r.d.1, .int .i64 r.d.2, .int .u16 r.lo, .int .u16 r.hi, .int .u32 r.fl] 48)) l bs v10 (j + 1)) := by
              refine ⟨?_, HKa.out⟩
              rw [HST.out, List.append_nil]
              exact HJa.out
            have cB' := hka.cell (a := ⟨g, j, none⟩) (v := .bool true) cB (fun x => x)
            clear hst hb cB hka
            go_wp2_with fail
            go_roundw
            case rel => exact ⟨j + 1, _, rfl, by go_num, by omega, HF2.out⟩
            case measure => simp [intOf]; omega
          | false =>
            rw [hb] at hst cB
            have HST := Lib.hid hst
            have cB' := hka.cell (a := ⟨g, j, none⟩) (v := .bool false) cB (fun x => x)
            clear hst hb cB hka
            go_wp2_with (at_builtin; refine wp_app1 tRu (.tmp 78) (.tmp 80) rfl rfl w5.heap.size (HJa.out.alloc _) (enR7 r) rfl rfl rfl (heap_newN _ _ (by simp)) rfl (by omega) (by omega) (by simp; omega) ?_)
            intro g7 cap7 w7 hown7 hgrow7
            have HF2 : Hid (L2 w5 w7 l bs (.slice (some ⟨g7, 0, none⟩) ((leanN (l.take j) (bs.take j)).length + 1) cap7) (j + 1)) := by
              refine ⟨?_, (HKa.out.alloc _).grown hgrow7 (fun k hk => .inr (own_block HJa.out hk).1)⟩
              rw [HST.out, List.length_append, List.flatMap_append]
              simpa using hown7
            clear hown7 hgrow7
            go_wp2
            go_roundw
            case rel => exact ⟨j + 1, _, rfl, by go_num, by omega, HF2.out⟩
            case measure => simp [intOf]; omega
        · have hjn : j = l.length := by omega
          subst hjn
          have hown := HJ.out.own
          rw [List.take_length, ← hbl, List.take_length] at hown
          obtain ⟨m, hm⟩ : ∃ m, leanN l bs = m := ⟨_, rfl⟩
          rw [hm] at hown
          have hmo : ∀ r ∈ m, r.Ok := fun r hr => by rw [← hm] at hr; exact HOK.out r (lean_mem r hr)
          have hmc : chkN m = 0 := by rw [← hm]; exact lean_chk HCC.out
          have hmf : ∀ h, flowN m h = flowN l h := fun h => by rw [← hm]; exact lean_flow HFL1.out.on h
          have HK6 := Lib.hid (HK5.out.trans HJ.out.kp)
          have hlen : (leanN (l.take l.length) (bs.take l.length)).length = m.length := by rw [List.take_length, ← hbl, List.take_length, hm]
          have hmsl : Sl wr v10 m.length 7 (m.flatMap enR7) := own_sl hown
          have HNM := Lib.hid (tNewOk m hmo hmc _ _ hmsl)
          have HFU := Lib.hid (fun W (k : Kp none' w W) tb H h hh => tFlow W tb m hmo hmc H (HT.out.kp k (fun x => x)) h hh)
          have HMF := Lib.hid hmf
          have HOB6 := Lib.hid (own_kp (S := none') HOB.out HJ.out.kp (fun _ _ h => h))
          have HR6 := Lib.hid (HR5.out.old HJ.out.kp)
          obtain ⟨mo, mcap, rfl, _⟩ := hmsl.is
          clear hown hm hmo hmc hmf hmsl hlen
          go_wp2_with fail
          refine HNM.out.mono ?_
          rintro e w7 ⟨tb2, rfl, hR7, hk7⟩
          have HK7 := Lib.hid (HK6.out.trans hk7); have HU7 := Lib.hid hR7; have HR7 := Lib.hid (HR6.out.old hk7)
          have HOB7 := Lib.hid (own_kp (S := none') HOB6.out hk7 (fun _ _ h => h))
          clear hk7 hR7
          go_wp2_with fail
          go_loopw [96] (fun i wr => ∃ q : Nat, i = .int .i64 q ∧ q ≤ hs.length ∧ Hid (Kp none' w7 wr)) (fun i _ => hs.length - (intOf i).toNat)
          case atStart => exact ⟨0, rfl, Nat.zero_le _, Kp.refl _ _⟩
          case round =>
            obtain ⟨q, rfl, hq, HI⟩ := hrel
            by_cases hql : q < hs.length
            · obtain ⟨gh, offh, caph, e1, hcl⟩ := (HS2.out.old (HK7.out.trans HI.out)).at enHd_len (by decide) q hql
              injection e1 with e1 _ e3
              cases e1
              subst e3
              have hqi : (q : Int) < hs.length := by omega
              obtain ⟨h, hh⟩ : ∃ h, hs[q] = h := ⟨_, rfl⟩
              have hho := HHO.out h (by rw [← hh]; exact List.getElem_mem hql)
              rw [hh] at hcl
              have c0 : wr.cell? ⟨gh, offh + q * 7, none⟩ = some (.int .u8 h.ds) := hcl 0 _ rfl
              have c1 := hcl 1 _ rfl
              have c2 := hcl 2 _ rfl
              have c3 := hcl 3 _ rfl
              have c4 := hcl 4 _ rfl
              have c5 := hcl 5 _ rfl
              have c6 := hcl 6 _ rfl
              have hka : Kp none' wr (wr.alloc (.cells #[.int .u8 h.ds, .int .u16 h.id, .int .u8 h.ttl, .int .u32 h.s, .int .u32 h.d, .int .u16 h.sp, .int .u16 h.p] 26)) := (Kp.refl none' wr).alloc _
              have HBa := Lib.hid (Blk.new wr (enHd h) 26)
              have HIa := Lib.hid (HI.out.trans hka); have HKa := Lib.hid (HK7.out.trans (HI.out.trans hka)); have HRa := Lib.hid (HR7.out.old (HI.out.trans hka)); have HUa := Lib.hid (HU7.out.old (HI.out.trans hka))
              clear hcl hh hka
              have hF := fun W k tb H => HF.out W k tb H h hho
              have hFL := fun W k tb H => HFL.out W k tb H h hho
              have hFU := fun W k tb H => HFU.out W k tb H h hho
              rw [HMF.out h.n] at hFU
              obtain ⟨A, hA⟩ : ∃ A, atN (flowN l h.n) = A := ⟨_, rfl⟩
              obtain ⟨B, hB⟩ : ∃ B, isN (flowN l h.n) = B := ⟨_, rfl⟩
              simp only [hA, hB] at hFL hFU
              have HFLx := Lib.hid hFL; have HFUx := Lib.hid hFU
              clear hFL hFU hA hB
              cases hf : findN l h.n with
              | none =>
                rw [hf] at hF
                simp only [atN, isN] at hF
                have HFx := Lib.hid hF
                clear hF hf
                go_wp2_with (first
                  | (go_at_call 9; refine (HFx.out _ HKa.out tb HRa.out).mono ?_; rintro e w8 ⟨rfl, hk8⟩
                     have HK8 := Lib.hid (HKa.out.trans hk8); have HR8 := Lib.hid (HRa.out.old hk8); have HU8 := Lib.hid (HUa.out.old hk8); have HB8 := Lib.hid (HBa.out.kp hk8 (fun x => x)); have HI8 := Lib.hid (HIa.out.trans hk8); clear hk8 c0 c1 c2 c3 c4 c5 c6
                     have b0 := HB8.out.cell 0 rfl; have b1 := HB8.out.cell 1 rfl; have b2 := HB8.out.cell 2 rfl; have b3 := HB8.out.cell 3 rfl; have b4 := HB8.out.cell 4 rfl; have b5 := HB8.out.cell 5 rfl; have b6 := HB8.out.cell 6 rfl))
                refine (HFLx.out _ HK8.out tb HR8.out).mono ?_
                rintro e w9 ⟨rfl, hk9⟩
                have HK9 := Lib.hid (HK8.out.trans hk9); have HU9 := Lib.hid (HU8.out.old hk9); have HB9 := Lib.hid (HB8.out.kp hk9 (fun x => x)); have HI9 := Lib.hid (HI8.out.trans hk9)
                clear hk9 b0 b1 b2 b3 b4 b5 b6
                have b0 := HB9.out.cell 0 rfl; have b1 := HB9.out.cell 1 rfl; have b2 := HB9.out.cell 2 rfl; have b3 := HB9.out.cell 3 rfl; have b4 := HB9.out.cell 4 rfl; have b5 := HB9.out.cell 5 rfl; have b6 := HB9.out.cell 6 rfl
                go_wp2_with fail
                refine (HFUx.out _ HK9.out tb2 HU9.out).mono ?_
                rintro e w10 ⟨rfl, hk10⟩
                have HI10 := Lib.hid (HI9.out.trans hk10)
                clear hk10 b0 b1 b2 b3 b4 b5 b6
                go_wp2_with fail
                go_roundw
                case rel => exact ⟨q + 1, by go_num, by omega, HI10.out⟩
                case measure => simp [intOf]; omega
              | some i =>
                rw [hf] at hF
                simp only [atN, isN] at hF
                have hil := (findN_some.1 hf).1
                have hbf : bs.getD i false = false := by
                  cases hbi : bs.getD i false with
                  | false => rfl
                  | true => have := HFL1.out.on i hbi; rw [dead_not hf] at this; cases this
                have HCL : Hid (∀ W, Kp none' w7 W → W.cell? ⟨g, i, none⟩ = some (.bool false)) := fun W k => by
                  refine k.cell (own_cell HOB7.out i (u := eB (bs.getD i false)) ?_ |>.trans ?_) (fun x => x)
                  · rw [List.getElem?_map, List.getElem?_eq_getElem (by omega), getD_at _ (by omega)]; rfl
                  · rw [hbf]; rfl
                have hii : (i : Int) < l.length := by omega
                have HFx := Lib.hid hF
                clear hF hf hbf
                go_wp2_with (first
                  | (go_at_call 9; refine (HFx.out _ HKa.out tb HRa.out).mono ?_; rintro e w8 ⟨rfl, hk8⟩
                     have HK8 := Lib.hid (HKa.out.trans hk8); have HR8 := Lib.hid (HRa.out.old hk8); have HU8 := Lib.hid (HUa.out.old hk8); have HB8 := Lib.hid (HBa.out.kp hk8 (fun x => x)); have HI8 := Lib.hid (HIa.out.trans hk8); clear hk8 c0 c1 c2 c3 c4 c5 c6
                     have b0 := HB8.out.cell 0 rfl; have b1 := HB8.out.cell 1 rfl; have b2 := HB8.out.cell 2 rfl; have b3 := HB8.out.cell 3 rfl; have b4 := HB8.out.cell 4 rfl; have b5 := HB8.out.cell 5 rfl; have b6 := HB8.out.cell 6 rfl))
                refine (HFLx.out _ HK8.out tb HR8.out).mono ?_
                rintro e w9 ⟨rfl, hk9⟩
                have HK9 := Lib.hid (HK8.out.trans hk9); have HU9 := Lib.hid (HU8.out.old hk9); have HB9 := Lib.hid (HB8.out.kp hk9 (fun x => x)); have HI9 := Lib.hid (HI8.out.trans hk9)
                clear hk9 b0 b1 b2 b3 b4 b5 b6
                have b0 := HB9.out.cell 0 rfl; have b1 := HB9.out.cell 1 rfl; have b2 := HB9.out.cell 2 rfl; have b3 := HB9.out.cell 3 rfl; have b4 := HB9.out.cell 4 rfl; have b5 := HB9.out.cell 5 rfl; have b6 := HB9.out.cell 6 rfl
                go_wp2_with fail
                refine (HFUx.out _ HK9.out tb2 HU9.out).mono ?_
                rintro e w10 ⟨rfl, hk10⟩
                have HI10 := Lib.hid (HI9.out.trans hk10)
                have cf := HCL.out _ HI10.out
                clear hk10 b0 b1 b2 b3 b4 b5 b6
                go_wp2_with fail
                go_roundw
                case rel => exact ⟨q + 1, by go_num, by omega, HI10.out⟩
                case measure => simp [intOf]; omega
            · have hqn : q = hs.length := by omega
              subst hqn
              have HLV := Lib.hid (HL.out wr (HK7.out.trans HI.out))
              have HKz := Lib.hid (HK7.out.trans HI.out)
              go_wp2_with (go_at_call 7; refine HLV.out.mono ?_; rintro e w9 ⟨rfl, hk9⟩; have HK9 := Lib.hid (HKz.out.trans hk9); clear hk9)
              go_ret
              exact ⟨rfl, HK9.out⟩
theorem leanLaw (l : List RuN) (hs : List HdR) (hok : ∀ r ∈ l, r.Ok) (hho : ∀ h ∈ hs, h.Ok) (ao bo : Option Addr) (cap bcap : Nat) (hcap : l.length ≤ cap) (w : World) (hS : Sl w (.slice ao l.length cap) l.length 7 (l.flatMap enR7)) (hS2 : Sl w (.slice bo hs.length bcap) hs.length 7 (hs.flatMap enHd)) (hT : Tab w) :
    Calls Tryd.prog 6 #[.slice ao l.length cap, .slice bo hs.length bcap] w fun e w' => e = .returned (.bool true) ∧ Kp none' w w' := by
  by_cases h1 : 64 < l.length
  · exact leanLawBig l hs ao bo cap bcap w hS.max hS2.max hT (.inl h1)
  · by_cases h2 : 60 < hs.length
    · exact leanLawBig l hs ao bo cap bcap w hS.max hS2.max hT (.inr h2)
    · by_cases hc : chkN l = 0
      · exact leanLawOk l hs hok hho ao bo cap bcap hcap w hS hS2 hT (by omega) (by omega) hc
      · exact leanLawBad l hs hok ao bo cap bcap w hS hT (by omega) (by omega) hc
end Go.Proofs.YthnlggecjdifnaaDoor
