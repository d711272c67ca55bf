/- A table of rules in memory; New. -/
import Derived.Test.YthnlggecjdifnaaDoorRuBSrc
import Derived.Test.YthnlggecjdifnaaDoorRuBDst
import Derived.Test.YthnlggecjdifnaaDoorRuR
import Derived.Test.YthnlggecjdifnaaDoorRuK
namespace Go.Proofs.YthnlggecjdifnaaDoor
set_option linter.unusedVariables false
set_option linter.unusedSimpArgs false
open Go.RowKit

theorem tU32 : SlT Tryd.prog 57 24 (.int .u32 0) 1 4 := ⟨Tryd.underlying57, by kernel_rfl, rfl, by decide⟩
abbrev rtT : TypeId := 59
def flV (r : RuN) : Value := .int .u32 r.fl
/-- A table of rules in memory. -/
structure RtM (w : World) (tb : Nat) (l : List RuN) : Prop where
  is : ∃ (base base' sb db sn dn : Nat) (S D : Tr) (zs : List Nat) (pv fv : Value), Blk w tb [.pointer (some ⟨sb, 0, none⟩), .pointer (some ⟨db, 0, none⟩), pv, fv] rtT ∧ TabM w base sb S sn ∧ TabM w base' db D dn ∧
    TreeOf (l.map (fun r => pxOf (pSrc r))) S ∧ TreeOf (l.map (fun r => pxOf (pDst r))) D ∧ Starts l zs ∧ zs.length ≤ 129 ∧ Sl w pv zs.length 2 ((runsOf l zs).flatMap enRun) ∧ Sl w fv l.length 1 (l.flatMap fun r => [flV r])
theorem RtM.old {w w' : World} {tb : Nat} {l : List RuN} (h : RtM w tb l) (k : Kp none' w w') : RtM w' tb l := by
  obtain ⟨base, base', sb, db, sn, dn, S, D, zs, pv, fv, h1, h2, h3, h4, h5, h6, h9, h7, h8⟩ := h.is
  exact ⟨base, base', sb, db, sn, dn, S, D, zs, pv, fv, h1.kp k (fun x => x), h2.old k, h3.old k, h4, h5, h6, h9, h7.old k, h8.old k⟩
set_option maxRecDepth 100000 in
set_option maxHeartbeats 8000000 in
theorem tNewBad (l : List RuN) (hok : ∀ r ∈ l, r.Ok) (hc : chkN l ≠ 0) (v : Value) (w : World) (h : Sl w v l.length 7 (l.flatMap enR7)) :
    Calls Tryd.prog 8 #[v] w fun e w' => e = .returned (.tuple #[.pointer none, .int .i64 (chkN l : Nat)]) ∧ Kp none' w w' := by
  have HC := Lib.hid (tCheck l hok v w h)
  obtain ⟨c, hcc⟩ : ∃ c, chkN l = c := ⟨_, rfl⟩
  rw [hcc] at HC hc ⊢
  have hd : ¬ (c : Int) = 0 := by omega
  obtain ⟨ao, cap, rfl⟩ : ∃ ao cap, v = .slice ao l.length cap := by obtain ⟨ao, cap, rfl, _⟩ := h.is; exact ⟨_, _, rfl⟩
  clear h hcc hok
  go_enter Tryd.func8, Tryd.ntmps8
  go_wp2_with (go_at_call 13; refine HC.out.mono ?_; rintro e w1 ⟨rfl, hk1⟩; have HK1 := Lib.hid hk1; clear hk1)
  go_ret2
  exact ⟨rfl, HK1.out⟩
/-- What the last loop keeps. -/
structure N3 (W3 wr : World) (tb : Nat) (a b pv : Value) (l : List RuN) (fv : Value) (j : Nat) : Prop where
  blk : Blk wr tb [a, b, pv, fv] rtT
  own : wr.ownsRow (W3.heap.size + 1) 24 1 fv j ((l.take j).map flV)
  kp : Kp none' W3 wr
set_option maxRecDepth 100000 in
set_option maxHeartbeats 8000000 in
theorem tNewOk (l : List RuN) (hok : ∀ r ∈ l, r.Ok) (hc : chkN l = 0) (v : Value) (w : World) (h : Sl w v l.length 7 (l.flatMap enR7)) :
    Calls Tryd.prog 8 #[v] w fun e w' => ∃ tb, e = .returned (.tuple #[.pointer (some ⟨tb, 0, none⟩), .int .i64 0]) ∧ RtM w' tb l ∧ Kp none' w w' := by
  have HC := Lib.hid (tCheck l hok v w h)
  rw [hc] at HC
  have hz := chk_zero.1 hc
  have hn := hz.1
  obtain ⟨ao, cap, rfl⟩ : ∃ ao cap, v = .slice ao l.length cap := by obtain ⟨ao, cap, rfl, _⟩ := h.is; exact ⟨_, _, rfl⟩
  have HS := Lib.hid h
  have HP1 := Lib.hid (fun W k => prefixesSrc l hok (fun r hr => (bad_false.1 (hz.2 r hr)).1) hn (.slice ao l.length cap) W (h.old (w' := W) k))
  have HP2 := Lib.hid (fun W k => prefixesDst l hok (fun r hr => (bad_false.1 (hz.2 r hr)).2.1) hn (.slice ao l.length cap) W (h.old (w' := W) k))
  have HRN := Lib.hid (fun W k => tRuns l hok hn (.slice ao l.length cap) W (h.old (w' := W) k))
  clear h hc hz hok
  go_enter Tryd.func8, Tryd.ntmps8
  go_wp2_with (go_at_call 13; refine HC.out.mono ?_; rintro e w1 ⟨rfl, hk1⟩; have HK1 := Lib.hid hk1; clear hk1)
  refine (HP1.out _ HK1.out).mono ?_
  rintro e w2 ⟨sb, S, sn, rfl, hS, hSt, hk2⟩
  have HS2 := Lib.hid hS; have HST := Lib.hid hSt; have HK2 := Lib.hid (HK1.out.trans hk2)
  clear hS hSt hk2
  go_wp2_with fail
  refine (HP2.out _ HK2.out).mono ?_
  rintro e w3 ⟨db, D, dn, rfl, hD, hDt, hk3⟩
  have HS3 := Lib.hid (HS2.out.old hk3); have HD3 := Lib.hid hD; have HDT := Lib.hid hDt; have HK3 := Lib.hid (HK2.out.trans hk3)
  clear hD hDt hk3
  go_wp2_with fail
  refine (HRN.out _ HK3.out).mono ?_
  rintro e w4 ⟨rv, zs, rfl, hst, hzl, hown, hk4⟩
  have HS4 := Lib.hid (HS3.out.old hk4); have HD4 := Lib.hid (HD3.out.old hk4); have HPV := Lib.hid (own_sl hown); have HSTZ := Lib.hid hst; have HK4 := Lib.hid (HK3.out.trans hk4)
  obtain ⟨po, pcap, rfl⟩ := own_shape hown
  clear hst hown hk4
  have HI0 : Hid (N3 w4 (w4.alloc (.cells #[.pointer (some ⟨sb, 0, none⟩), .pointer (some ⟨db, 0, none⟩), .slice po zs.length pcap, .slice none 0 0] 59)) w4.heap.size (.pointer (some ⟨sb, 0, none⟩)) (.pointer (some ⟨db, 0, none⟩)) (.slice po zs.length pcap) l (.slice none 0 0) 0) :=
    ⟨Blk.new w4 [.pointer (some ⟨sb, 0, none⟩), .pointer (some ⟨db, 0, none⟩), .slice po zs.length pcap, .slice none 0 0] _, ⟨by simp, .inl ⟨rfl, rfl⟩⟩, (Kp.refl _ _).alloc _⟩
  go_wp2_with fail
  obtain ⟨tb, htb⟩ : ∃ g, w4.heap.size = g := ⟨_, rfl⟩
  have HTB := Lib.hid htb
  have HI0 := Lib.hid HI0.out
  rw [htb] at HI0 ⊢
  clear htb
  go_loopw [23] (fun i wr => ∃ (j : Nat) (fv : Value), i = .int .i64 j ∧ j ≤ l.length ∧ Hid (N3 w4 wr tb (.pointer (some ⟨sb, 0, none⟩)) (.pointer (some ⟨db, 0, none⟩)) (.slice po zs.length pcap) l fv j)) (fun i _ => l.length - (intOf i).toNat)
  case atStart => exact ⟨0, _, rfl, Nat.zero_le _, HI0.out⟩
  case round =>
    clear HI0
    obtain ⟨j, fv, rfl, hj, HI⟩ := hrel
    by_cases hlt : j < l.length
    · obtain ⟨g, off, cap', e1, hc⟩ := (HS.out.old (HK4.out.trans HI.out.kp)).at enR7_len (by decide) j hlt
      injection e1 with e1 _ e3
      subst e1 e3
      have hji : (j : Int) < l.length := by omega
      obtain ⟨r, hrr⟩ : ∃ r, l[j] = r := ⟨_, rfl⟩
      rw [hrr] at hc
      have c0 : wr.cell? ⟨g, off + j * 7, none⟩ = some (.int .u32 r.s.1) := hc 0 _ rfl
      have c1 := hc 1 _ rfl
      have c2 := hc 2 _ rfl
      have c3 := hc 3 _ rfl
      have c4 := hc 4 _ rfl
      have c5 := hc 5 _ rfl
      have c6 := hc 6 _ rfl
      have HRR := Lib.hid hrr
      clear hc hrr
      go_wp2_with fail
      obtain ⟨fo, fcap, rfl⟩ := own_shape HI.out.own
      have hk5 : Kp none' wr (wr.alloc (.cells #[.int .u32 r.s.1, .int .i64 r.s.2, .int .u32 r.d.1, .int .i64 r.d.2, .int .u16 r.lo, .int .u16 r.hi, .int .u32 r.fl] 48)) := (Kp.refl none' wr).alloc _
      have hb5 : Blk (wr.alloc (.cells #[.int .u32 r.s.1, .int .i64 r.s.2, .int .u32 r.d.1, .int .i64 r.d.2, .int .u16 r.lo, .int .u16 r.hi, .int .u32 r.fl] 48)) wr.heap.size (enR7 r) 48 := Blk.new wr (enR7 r) _
      obtain ⟨W5, hW5⟩ : ∃ W, wr.alloc (.cells #[.int .u32 r.s.1, .int .i64 r.s.2, .int .u32 r.d.1, .int .i64 r.d.2, .int .u16 r.lo, .int .u16 r.hi, .int .u32 r.fl] 48) = W := ⟨_, rfl⟩
      obtain ⟨gr, hgr⟩ : ∃ g, wr.heap.size = g := ⟨_, rfl⟩
      rw [hW5] at hk5 hb5 ⊢
      rw [hgr] at hb5 ⊢
      have HT5 := Lib.hid (HI.out.blk.kp hk5 (fun x => x))
      have HO5 := Lib.hid (own_kp (S := none') HI.out.own hk5 (fun _ _ h => h))
      have HK5 := Lib.hid (HI.out.kp.trans hk5)
      have t3 := HT5.out.cell 3 rfl
      have y3 := HT5.out.fz 3
      have r6 := hb5.cell 6 rfl
      have hsz := HT5.out.lt
      have HB5 := Lib.hid hb5
      have htb := HTB.out
      have htbn : some tb ≠ (Value.slice fo j fcap).ownBlock := fun e => by have := (own_block HO5.out e.symm).1; omega
      have HTN := Lib.hid htbn
      rw [htb] at HO5
      clear hW5 hk5 hb5 hgr htb c0 c1 c2 c3 c4 c5 c6 htbn
      go_region_law ((refine step_app1 tU32 (.tmp 31) (.tmp 34) rfl rfl (tb + 1) (v := .slice fo j fcap) ((HO5.out.alloc _).drew) [.int .u32 r.fl] rfl rfl rfl (fr := (0, 0)) (heap_new2 _ _ _ (by simp)) rfl (by omega) (by omega) (by simp; omega) ?_); intro g6 cap6 w6 hown6 hgrow6; have hblk6 := ((HT5.out.alloc (.cells #[.int .u32 r.fl] 24)).drew).grown hgrow6 HTN.out; have t3 := hblk6.cell 3 rfl; have y3 := hblk6.fz 3)
      all_goals
        have HF : Hid (N3 w4 (w6.setCell ⟨tb, 3, none⟩ (.slice (some ⟨g6, 0, none⟩) (j + 1) cap6)) tb (.pointer (some ⟨sb, 0, none⟩)) (.pointer (some ⟨db, 0, none⟩)) (.slice po zs.length pcap) l (.slice (some ⟨g6, 0, none⟩) (j + 1) cap6) (j + 1)) := by
          have e : (l.take (j + 1)).map flV = (l.take j).map flV ++ [.int .u32 r.fl] := by
            rw [List.take_succ_eq_append_getElem hlt, HRR.out, List.map_append]; rfl
          refine ⟨hblk6.set 3 _, ?_, ?_⟩
          · rw [HTB.out, e]
            exact own_setNe hown6 (fun b hb e2 => by have h1 := (own_block hown6 hb).1; have e3 : b = tb := e2; omega) _
          · refine (((HK5.out.alloc _).drew).grown hgrow6 (fun k hk => .inr (by have := (own_block HO5.out hk).1; have := HTB.out; omega))).set (.inr (by show w4.heap.size ≤ tb; have := HTB.out; omega)) _
        clear hown6 hgrow6 hblk6 t3 y3 r6 HT5 HO5
        go_wp2_with fail
        go_roundw
        case rel => exact ⟨j + 1, _, by go_num, by omega, HF.out⟩
        case measure => simp [intOf]; omega
    · have hjn : j = l.length := by omega
      subst hjn
      have hown := HI.out.own
      rw [List.take_length] at hown
      have hfv := own_sl hown
      have hz : ∀ l : List RuN, l.map flV = l.flatMap (fun r => [flV r]) := fun l => by induction l <;> simp_all
      rw [hz] at hfv
      have HFV := Lib.hid hfv
      clear hown hfv hz
      go_wp2_with fail
      go_ret2
      exact ⟨tb, rfl, ⟨w1.heap.size, w2.heap.size, sb, db, sn, dn, S, D, zs, _, fv, HI.out.blk, HS4.out.old HI.out.kp, HD4.out.old HI.out.kp, HST.out, HDT.out, HSTZ.out, hzl, HPV.out.old HI.out.kp, HFV.out⟩, HK4.out.trans HI.out.kp⟩
end Go.Proofs.YthnlggecjdifnaaDoor
