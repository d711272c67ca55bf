/- All rules that are dead. -/
import Derived.Test.YthnlggecjdifnaaDoorRuDe
namespace Go.Proofs.YthnlggecjdifnaaDoor
set_option linter.unusedVariables false
set_option linter.unusedSimpArgs false
open Go.RowKit

theorem tInt : SlT Tryd.prog 42 3 (.int .i64 0) 1 8 := ⟨Tryd.underlying42, by kernel_rfl, rfl, by decide⟩
def eI (x : Nat) : Value := .int .i64 x
def deadsTo (l : List RuN) (j : Nat) : List Nat := (List.range j).filter (deadN l)
theorem deadsTo_succ (l : List RuN) (j : Nat) : deadsTo l (j + 1) = deadsTo l j ++ (match deadN l j with | true => [j] | false => []) := by
  unfold deadsTo
  rw [List.range_succ, List.filter_append]
  cases h : deadN l j <;> simp [h]
theorem deadsTo_len (l : List RuN) (j : Nat) : (deadsTo l j).length ≤ j := by
  unfold deadsTo
  exact Nat.le_trans (List.length_filter_le _ _) (by simp)
structure DdI (w wr : World) (l : List RuN) (v : Value) (j : Nat) : Prop where
  own : wr.ownsRow w.heap.size 3 1 v (deadsTo l j).length ((deadsTo l j).map eI)
  kp : Kp none' w wr
set_option maxRecDepth 100000 in
set_option maxHeartbeats 8000000 in
theorem tDeadBad (l : List RuN) (hok : ∀ r ∈ l, r.Ok) (hc : chkN l ≠ 0) (v : Value) (w : World) (h : Sl w v l.length 7 (l.flatMap enR7)) :
    Calls Tryd.prog 14 #[v] w fun e w' => e = .returned (.slice none 0 0) ∧ Kp none' w w' := by
  have HC := Lib.hid (tCheck l hok v w h)
  obtain ⟨c, hcc⟩ : ∃ c, chkN l = c := ⟨_, rfl⟩
  rw [hcc] at HC hc
  have hd : ¬ (c : Int) = 0 := by omega
  obtain ⟨ao, cap, rfl⟩ : ∃ ao cap, v = .slice ao l.length cap := by obtain ⟨ao, cap, rfl, _⟩ := h.is; exact ⟨_, _, rfl⟩
  clear h hcc hok
  go_enter Tryd.func14, Tryd.ntmps14
  go_wp2_with (go_at_call 13; refine HC.out.mono ?_; rintro e w1 ⟨rfl, hk1⟩; have HK1 := Lib.hid hk1; clear hk1)
  go_ret
  exact ⟨rfl, HK1.out⟩
set_option maxRecDepth 100000 in
set_option maxHeartbeats 8000000 in
theorem tDead (l : List RuN) (hok : ∀ r ∈ l, r.Ok) (hc : chkN l = 0) (ao : Option Addr) (cap : Nat) (hcap : l.length ≤ cap) (w : World) (h : Sl w (.slice ao l.length cap) l.length 7 (l.flatMap enR7)) :
    Calls Tryd.prog 14 #[.slice ao l.length cap] w fun e w' => ∃ v, e = .returned v ∧ w'.ownsRow w.heap.size 3 1 v (deadsN l).length ((deadsN l).map eI) ∧ Kp none' w w' := by
  have HC := Lib.hid (tCheck l hok _ w h)
  rw [hc] at HC
  have hn := (chk_zero.1 hc).1
  have HS := Lib.hid h; have HO := Lib.hid hok
  clear h hc hok
  go_enter Tryd.func14, Tryd.ntmps14
  go_wp2_with (go_at_call 13; refine HC.out.mono ?_; rintro e w1 ⟨rfl, hk1⟩; have HK1 := Lib.hid hk1; clear hk1)
  go_loopw [3, 11] (fun s3 i wr => ∃ (j : Nat) (v3 : Value), v3 = s3 ∧ i = .int .i64 j ∧ j ≤ l.length ∧ Hid (DdI w wr l v3 j)) (fun _ i _ => l.length - (intOf i).toNat)
  case atStart => exact ⟨0, _, rfl, rfl, Nat.zero_le _, ⟨rfl, .inl ⟨rfl, rfl⟩⟩, HK1.out⟩
  case round =>
    obtain ⟨j, v3, rfl, rfl, hj, HI⟩ := hrel
    by_cases hlt : j < l.length
    · obtain ⟨g, off, cap', e1, hc⟩ := (HS.out.old HI.out.kp).at enR7_len (by decide) j hlt
      injection e1 with e1 _ e3
      subst e1 e3
      have hji : (j : Int) < l.length := by omega
      have hjc : (j : Int) ≤ cap := by omega
      have hgd := getD_at (default : RuN) hlt
      obtain ⟨r, hrr⟩ : ∃ r, l[j] = r := ⟨_, rfl⟩
      have hro := HO.out r (by rw [← hrr]; exact List.getElem_mem hlt)
      rw [hrr] at hc hgd
      have c0 : wr.cell? ⟨g, off + j * 7, none⟩ = some (.int .u32 r.s.1) := hc 0 _ rfl
      have c1 := hc 1 _ rfl
      have c2 := hc 2 _ rfl
      have c3 := hc 3 _ rfl
      have c4 := hc 4 _ rfl
      have c5 := hc 5 _ rfl
      have c6 := hc 6 _ rfl
      have hdl := deadsTo_len l j
      have hds := deadsTo_succ l j
      have hdd : (l.take j).any (fun o => covR o r) = deadN l j := by unfold deadN; rw [hgd]
      have hk5 : Kp none' wr (wr.alloc (.cells #[.int .u32 r.s.1, .int .i64 r.s.2, .int .u32 r.d.1, .int .i64 r.d.2, .int .u16 r.lo, .int .u16 r.hi, .int .u32 r.fl] 48)) := (Kp.refl none' wr).alloc _
      have hb5 : Blk (wr.alloc (.cells #[.int .u32 r.s.1, .int .i64 r.s.2, .int .u32 r.d.1, .int .i64 r.d.2, .int .u16 r.lo, .int .u16 r.hi, .int .u32 r.fl] 48)) wr.heap.size (enR7 r) 48 := Blk.new wr (enR7 r) _
      have HCT := Lib.hid (fun cap2 => tContains l HO.out r hro j hj (some ⟨g, off, none⟩) cap cap2 wr.heap.size _ ((HS.out.old HI.out.kp).old hk5) hb5)
      simp only [hdd] at HCT
      have HOW := Lib.hid (own_kp (S := none') HI.out.own hk5 (fun _ _ h => h)); have HK5 := Lib.hid (HI.out.kp.trans hk5)
      clear hc hrr hro hgd hk5 hb5 hdd
      cases hdv : deadN l j with
      | true =>
        rw [hdv] at HCT hds
        have HDS := Lib.hid hds
        clear hdv hds
        go_wp2_with (first
          | (go_at_call 25; refine (HCT.out _).mono ?_; rintro e w6 ⟨rfl, hk6⟩; have HK6 := Lib.hid (HK5.out.trans hk6); have HOW6 := Lib.hid (own_kp (S := none') HOW.out hk6 (fun _ _ h => h)); have hs6 := (HK5.out.trans hk6).size; clear hk6)
          | (at_builtin; refine wp_app1 tInt (.tmp 21) (.tmp 23) rfl rfl w.heap.size (HOW6.out.alloc _) [.int .i64 j] rfl rfl rfl (heap_newN _ _ (by simp)) rfl (by omega) (by omega) (by simp; omega) ?_))
        intro g2 cap2 w7 hown hgrow
        have hk7 : Kp none' w w7 := (HK6.out.alloc _).grown hgrow (fun k hk => .inr (own_block HOW6.out hk).1)
        have HF : Hid (DdI w w7 l (.slice (some ⟨g2, 0, none⟩) ((deadsTo l j).length + 1) cap2) (j + 1)) := by
          refine ⟨?_, hk7⟩
          rw [HDS.out, List.length_append, List.map_append]
          exact hown
        clear hown hgrow hk7
        go_wp2
        go_roundw
        case rel => exact ⟨j + 1, _, rfl, by go_num, by omega, HF.out⟩
        case measure => simp [intOf]; omega
      | false =>
        rw [hdv] at HCT hds
        have HDS := Lib.hid hds
        clear hdv hds
        go_wp2_with (go_at_call 25; refine (HCT.out _).mono ?_; rintro e w6 ⟨rfl, hk6⟩
                     have HF : Hid (DdI w w6 l v3 (j + 1)) := by
                       refine ⟨?_, HK5.out.trans hk6⟩
                       rw [HDS.out, List.append_nil]
                       exact own_kp (S := none') HOW.out hk6 (fun _ _ h => h)
                     clear hk6)
        go_roundw
        case rel => exact ⟨j + 1, _, rfl, by go_num, by omega, HF.out⟩
        case measure => simp [intOf]; omega
    · have hjn : j = l.length := by omega
      subst hjn
      go_wp2_with fail
      go_ret
      exact ⟨_, rfl, HI.out.own, HI.out.kp⟩
end Go.Proofs.YthnlggecjdifnaaDoor
