/- A table of rules in memory; New. -/
import Derived.Test.YtfckgddodjmbdaaGreatDoorMDeviceNobodyF24
import Derived.Test.YtfckgddodjmbdaaGreatDoorMDeviceNobodyF25
import Derived.Test.YtfckgddodjmbdaaGreatDoorMDeviceNobodyF26
import Derived.Test.YtfckgddodjmbdaaGreatDoorMDeviceNobodyF0
namespace Go.Proofs.YtfckgddodjmbdaaGreatDoor
set_option linter.unusedVariables false
set_option linter.unusedSimpArgs false
open Go.RowKit
theorem tU32r : SlT Tryz.prog 127 24 (.int .u32 0) 1 4 := ⟨Tryz.underlying127, by kernel_rfl, rfl, by decide⟩
abbrev rtT : TypeId := 129
def flVr (r : RuN) : Value := .int .u32 r.fl
structure RtM (w : World) (tb : Nat) (l : List RuN) : Prop where
  is : ∃ (base base' sb db sn dn : Nat) (S D : Tr) (zs : List Nat) (pv fv : Value), Blk w tb [.pointer (some ⟨sb, 0, none⟩), .pointer (some ⟨db, 0, none⟩), pv, fv] rtT ∧ TabM w base sb S sn ∧ TabM w base' db D dn ∧
    TreeOf (l.map (fun r => pxOf (pSrc r))) S ∧ TreeOf (l.map (fun r => pxOf (pDst r))) D ∧ Starts l zs ∧ zs.length ≤ 129 ∧ Sl w pv zs.length 2 ((runsOf l zs).flatMap enRun) ∧ Sl w fv l.length 1 (l.flatMap fun r => [flVr r])
theorem RtM.old {w w' : World} {tb : Nat} {l : List RuN} (h : RtM w tb l) (k : Kp none' w w') : RtM w' tb l := by
  obtain ⟨base, base', sb, db, sn, dn, S, D, zs, pv, fv, h1, h2, h3, h4, h5, h6, h9, h7, h8⟩ := h.is
  exact ⟨base, base', sb, db, sn, dn, S, D, zs, pv, fv, h1.kp k (fun x => x), h2.old k, h3.old k, h4, h5, h6, h9, h7.old k, h8.old k⟩
theorem TabM.kp {F : Nat → Prop} {w w' : World} {base tb n : Nat} {T : Tr} (h : TabM w base tb T n) (k : Kp F w w') (h1 : ¬ F tb) (h2 : ∀ b ∈ T.blks, ¬ F b) : TabM w' base tb T n :=
  ⟨h.blk.kp k h1, h.mem.kp k h2, h.wf, h.nd, h.out, h.low, h.tlow, Nat.le_trans h.blow k.size, h.root⟩
structure RtB (w : World) (lo hi tb : Nat) (l : List RuN) : Prop where
  is : ∃ (base base' sb db sn dn : Nat) (S D : Tr) (zs : List Nat) (pv fv : Value), Blk w tb [.pointer (some ⟨sb, 0, none⟩), .pointer (some ⟨db, 0, none⟩), pv, fv] rtT ∧ TabM w base sb S sn ∧ TabM w base' db D dn ∧
    TreeOf (l.map (fun r => pxOf (pSrc r))) S ∧ TreeOf (l.map (fun r => pxOf (pDst r))) D ∧ Starts l zs ∧ zs.length ≤ 129 ∧ Sl w pv zs.length 2 ((runsOf l zs).flatMap enRun) ∧ Sl w fv l.length 1 (l.flatMap fun r => [flVr r]) ∧
    lo ≤ base ∧ lo ≤ base' ∧ lo ≤ tb ∧ tb < hi ∧ sb < hi ∧ db < hi ∧ (∀ b ∈ S.blks, b < hi) ∧ (∀ b ∈ D.blks, b < hi) ∧ (∀ b, pv.ownBlock = some b → lo ≤ b ∧ b < hi) ∧ (∀ b, fv.ownBlock = some b → lo ≤ b ∧ b < hi)
theorem RtB.rt {w : World} {lo hi tb : Nat} {l : List RuN} (h : RtB w lo hi tb l) : RtM w tb l := by
  obtain ⟨base, base', sb, db, sn, dn, S, D, zs, pv, fv, h1, h2, h3, h4, h5, h6, h7, h8, h9, _⟩ := h.is
  exact ⟨base, base', sb, db, sn, dn, S, D, zs, pv, fv, h1, h2, h3, h4, h5, h6, h7, h8, h9⟩
theorem RtB.kp {F : Nat → Prop} {w w' : World} {lo hi tb : Nat} {l : List RuN} (h : RtB w lo hi tb l) (k : Kp F w w') (hF : ∀ b, lo ≤ b → b < hi → ¬ F b) : RtB w' lo hi tb l := by
  obtain ⟨base, base', sb, db, sn, dn, S, D, zs, pv, fv, h1, h2, h3, h4, h5, h6, h7, h8, h9, a1, a2, a3, a4, a5, a6, a7, a8, a9, a10⟩ := h.is
  exact ⟨base, base', sb, db, sn, dn, S, D, zs, pv, fv, h1.kp k (hF _ a3 a4), h2.kp k (hF _ (Nat.le_trans a1 h2.tlow) a5) (fun b hb => hF b (Nat.le_trans a1 (h2.low b hb)) (a7 b hb)), h3.kp k (hF _ (Nat.le_trans a2 h3.tlow) a6) (fun b hb => hF b (Nat.le_trans a2 (h3.low b hb)) (a8 b hb)), h4, h5, h6, h7,
    h8.kp k (fun b _ e => hF b (a9 b e).1 (a9 b e).2), h9.kp k (fun b _ e => hF b (a10 b e).1 (a10 b e).2), a1, a2, a3, a4, a5, a6, a7, a8, a9, a10⟩
structure N3 (W3 wr : World) (tb : Nat) (a b pv : Value) (l : List RuN) (fv : Value) (j : Nat) : Prop where
  blk : Blk wr tb [a, b, pv, fv] rtT
  own : wr.ownsRow (W3.heap.size + 1) 24 1 fv j ((l.take j).map flVr)
  kp : Kp none' W3 wr
set_option maxRecDepth 100000 in
set_option maxHeartbeats 8000000 in
theorem tNewB (l : List RuN) (hok : ∀ r ∈ l, r.Ok) (hc : chkN l = 0) (h5 : l.length ≤ 5) (v : Value) (w : World) (h : Sl w v l.length 7 (l.flatMap enR7)) :
    Calls Tryz.prog 56 #[v] w fun e w' => ∃ tb, e = .returned (.tuple #[.pointer (some ⟨tb, 0, none⟩), .int .i64 0]) ∧ RtB w' w.heap.size w'.heap.size tb l ∧ Kp none' w w' := by
  have HC := Lib.hid (tCheck l hok v w h)
  rw [hc] at HC
  have hz := chk_zero.1 hc
  have hn := hz.1
  obtain ⟨ao, cap, rfl⟩ : ∃ ao cap, v = .slice ao l.length cap := by obtain ⟨ao, cap, rfl, _⟩ := h.is; exact ⟨_, _, rfl⟩
  have HS := Lib.hid h
  have HP1 := Lib.hid (fun W k => prefixesSrc l hok (fun r hr => (bad_false.1 (hz.2 r hr)).1) hn (.slice ao l.length cap) W (h.old (w' := W) k))
  have HP2 := Lib.hid (fun W k => prefixesDst l hok (fun r hr => (bad_false.1 (hz.2 r hr)).2.1) hn (.slice ao l.length cap) W (h.old (w' := W) k))
  have HRN := Lib.hid (fun W k => tRuns l hok h5 (.slice ao l.length cap) W (h.old (w' := W) k))
  clear h hc hz hok
  go_enter Tryz.func56, Tryz.ntmps56
  go_wp2_with (go_at_call 83; refine HC.out.mono ?_; rintro e w1 ⟨rfl, hk1⟩; have HK1 := Lib.hid hk1; clear hk1)
  refine (HP1.out _ HK1.out).mono ?_
  rintro e w2 ⟨sb, S, sn, rfl, hS, hSt, hk2⟩
  have HS2 := Lib.hid hS; have HST := Lib.hid hSt; have HK2 := Lib.hid (HK1.out.trans hk2)
  clear hS hSt hk2
  go_wp2_with fail
  refine (HP2.out _ HK2.out).mono ?_
  rintro e w3 ⟨db, D, dn, rfl, hD, hDt, hk3⟩
  have HS3 := Lib.hid (HS2.out.old hk3); have HD3 := Lib.hid hD; have HDT := Lib.hid hDt; have HK3 := Lib.hid (HK2.out.trans hk3)
  clear hD hDt hk3
  go_wp2_with fail
  refine (HRN.out _ HK3.out).mono ?_
  rintro e w4 ⟨rv, zs, rfl, hst, hzl, hown, hk4⟩
  have HS4 := Lib.hid (HS3.out.old hk4); have HD4 := Lib.hid (HD3.out.old hk4); have HPV := Lib.hid (own_sl hown); have HPB := Lib.hid (fun b e => own_block (b := b) hown e); have HSTZ := Lib.hid hst; have HK4 := Lib.hid (HK3.out.trans hk4)
  obtain ⟨po, pcap, rfl⟩ := own_shape hown
  clear hst hown hk4
  have HI0 : Hid (N3 w4 (w4.alloc (.cells #[.pointer (some ⟨sb, 0, none⟩), .pointer (some ⟨db, 0, none⟩), .slice po zs.length pcap, .slice none 0 0] 129)) w4.heap.size (.pointer (some ⟨sb, 0, none⟩)) (.pointer (some ⟨db, 0, none⟩)) (.slice po zs.length pcap) l (.slice none 0 0) 0) :=
    ⟨Blk.new w4 [.pointer (some ⟨sb, 0, none⟩), .pointer (some ⟨db, 0, none⟩), .slice po zs.length pcap, .slice none 0 0] _, ⟨by simp, .inl ⟨rfl, rfl⟩⟩, (Kp.refl _ _).alloc _⟩
  go_wp2_with fail
  obtain ⟨tb, htb⟩ : ∃ g, w4.heap.size = g := ⟨_, rfl⟩
  have HTB := Lib.hid htb
  have HI0 := Lib.hid HI0.out
  rw [htb] at HI0 ⊢
  clear htb
  go_loopw [23] (fun i wr => ∃ (j : Nat) (fv : Value), i = .int .i64 j ∧ j ≤ l.length ∧ Hid (N3 w4 wr tb (.pointer (some ⟨sb, 0, none⟩)) (.pointer (some ⟨db, 0, none⟩)) (.slice po zs.length pcap) l fv j)) (fun i _ => l.length - (intOf i).toNat)
  case atStart => exact ⟨0, _, rfl, Nat.zero_le _, HI0.out⟩
  case round =>
    clear HI0
    obtain ⟨j, fv, rfl, hj, HI⟩ := hrel
    by_cases hlt : j < l.length
    · obtain ⟨g, off, cap', e1, hc⟩ := (HS.out.old (HK4.out.trans HI.out.kp)).at enR7_len (by decide) j hlt
      injection e1 with e1 _ e3
      subst e1 e3
      have hji : (j : Int) < l.length := by omega
      obtain ⟨r, hrr⟩ : ∃ r, l[j] = r := ⟨_, rfl⟩
      rw [hrr] at hc
      have c0 : wr.cell? ⟨g, off + j * 7, none⟩ = some (.int .u32 r.s.1) := hc 0 _ rfl
      have c1 := hc 1 _ rfl
      have c2 := hc 2 _ rfl
      have c3 := hc 3 _ rfl
      have c4 := hc 4 _ rfl
      have c5 := hc 5 _ rfl
      have c6 := hc 6 _ rfl
      have HRR := Lib.hid hrr
      clear hc hrr
      go_wp2_with fail
      obtain ⟨fo, fcap, rfl⟩ := own_shape HI.out.own
      have hk5 : Kp none' wr (wr.alloc (.cells #[.int .u32 r.s.1, .int .i64 r.s.2, .int .u32 r.d.1, .int .i64 r.d.2, .int .u16 r.lo, .int .u16 r.hi, .int .u32 r.fl] 160)) := (Kp.refl none' wr).alloc _
      have hb5 : Blk (wr.alloc (.cells #[.int .u32 r.s.1, .int .i64 r.s.2, .int .u32 r.d.1, .int .i64 r.d.2, .int .u16 r.lo, .int .u16 r.hi, .int .u32 r.fl] 160)) wr.heap.size (enR7 r) 160 := Blk.new wr (enR7 r) _
      obtain ⟨W5, hW5⟩ : ∃ W, wr.alloc (.cells #[.int .u32 r.s.1, .int .i64 r.s.2, .int .u32 r.d.1, .int .i64 r.d.2, .int .u16 r.lo, .int .u16 r.hi, .int .u32 r.fl] 160) = W := ⟨_, rfl⟩
      obtain ⟨gr, hgr⟩ : ∃ g, wr.heap.size = g := ⟨_, rfl⟩
      rw [hW5] at hk5 hb5 ⊢
      rw [hgr] at hb5 ⊢
      have HT5 := Lib.hid (HI.out.blk.kp hk5 (fun x => x))
      have HO5 := Lib.hid (own_kp (S := none') HI.out.own hk5 (fun _ _ h => h))
      have HK5 := Lib.hid (HI.out.kp.trans hk5)
      have t3 := HT5.out.cell 3 rfl
      have y3 := HT5.out.fz 3
      have r6 := hb5.cell 6 rfl
      have hsz := HT5.out.lt
      have HB5 := Lib.hid hb5
      have htb := HTB.out
      have htbn : some tb ≠ (Value.slice fo j fcap).ownBlock := fun e => by have := (own_block HO5.out e.symm).1; omega
      have HTN := Lib.hid htbn
      rw [htb] at HO5
      clear hW5 hk5 hb5 hgr htb c0 c1 c2 c3 c4 c5 c6 htbn
      go_region_law ((refine step_app1 tU32r (.tmp 31) (.tmp 34) rfl rfl (tb + 1) (v := .slice fo j fcap) ((HO5.out.alloc _).drew) [.int .u32 r.fl] rfl rfl rfl (fr := (0, 0)) (heap_new2 _ _ _ (by simp)) rfl (by omega) (by omega) (by simp; omega) ?_); intro g6 cap6 w6 hown6 hgrow6; have hblk6 := ((HT5.out.alloc (.cells #[.int .u32 r.fl] 24)).drew).grown hgrow6 HTN.out; have t3 := hblk6.cell 3 rfl; have y3 := hblk6.fz 3)
      all_goals
        have HF : Hid (N3 w4 (w6.setCell ⟨tb, 3, none⟩ (.slice (some ⟨g6, 0, none⟩) (j + 1) cap6)) tb (.pointer (some ⟨sb, 0, none⟩)) (.pointer (some ⟨db, 0, none⟩)) (.slice po zs.length pcap) l (.slice (some ⟨g6, 0, none⟩) (j + 1) cap6) (j + 1)) := by
          have e : (l.take (j + 1)).map flVr = (l.take j).map flVr ++ [.int .u32 r.fl] := by
            rw [List.take_succ_eq_append_getElem hlt, HRR.out, List.map_append]; rfl
          refine ⟨hblk6.set 3 _, ?_, ?_⟩
          · rw [HTB.out, e]
            exact own_setNe hown6 (fun b hb e2 => by have h1 := (own_block hown6 hb).1; have e3 : b = tb := e2; omega) _
          · refine (((HK5.out.alloc _).drew).grown hgrow6 (fun k hk => .inr (by have := (own_block HO5.out hk).1; have := HTB.out; omega))).set (.inr (by show w4.heap.size ≤ tb; have := HTB.out; omega)) _
        clear hown6 hgrow6 hblk6 t3 y3 r6 HT5 HO5
        go_wp2_with fail
        go_roundw
        case rel => exact ⟨j + 1, _, by go_num, by omega, HF.out⟩
        case measure => simp [intOf]; omega
    · have hjn : j = l.length := by omega
      subst hjn
      have hown := HI.out.own
      rw [List.take_length] at hown
      have hfv := own_sl hown
      have hz : ∀ l : List RuN, l.map flVr = l.flatMap (fun r => [flVr r]) := fun l => by induction l <;> simp_all
      rw [hz] at hfv
      have HFV := Lib.hid hfv
      have HFB := Lib.hid (fun b e => own_block (b := b) hown e)
      clear hown hfv hz
      go_wp2_with fail
      go_ret2
      have e1 := HK1.out.size
      have e2 := HK2.out.size
      have e3 := HK3.out.size
      have e4 := HK4.out.size
      have e5 := HI.out.kp.size
      have e6 := HTB.out
      have hS := HS4.out.old HI.out.kp
      have hD := HD4.out.old HI.out.kp
      have hb := HI.out.blk
      exact ⟨tb, rfl, ⟨w1.heap.size, w2.heap.size, sb, db, sn, dn, S, D, zs, _, fv, hb, hS, hD, HST.out, HDT.out, HSTZ.out, hzl, HPV.out.old HI.out.kp, HFV.out,
        e1, e2, by omega, hb.lt, hS.blk.lt, hD.blk.lt, hS.mem.lt, hD.mem.lt, fun b e => by have := HPB.out b e; omega, fun b e => by have := HFB.out b e; omega⟩, HK4.out.trans HI.out.kp⟩

structure HdR where
  ds : Nat
  id : Nat
  ttl : Nat
  s : Nat
  d : Nat
  sp : Nat
  p : Nat
instance : Inhabited HdR := ⟨⟨0, 0, 0, 0, 0, 0, 0⟩⟩
def enHd (h : HdR) : List Value := [.int .u8 h.ds, .int .u16 h.id, .int .u8 h.ttl, .int .u32 h.s, .int .u32 h.d, .int .u16 h.sp, .int .u16 h.p]
structure HdR.Ok (h : HdR) : Prop where
  s : h.s < 4294967296
  d : h.d < 4294967296
  p : h.p < 65536
structure HdR.Fit (h : HdR) : Prop where
  ok : h.Ok
  ds : h.ds < 256
  id : h.id < 65536
  ttl : h.ttl < 256
  sp : h.sp < 65536

def HdR.n (h : HdR) : HdN := ⟨h.s, h.d, h.p⟩
structure HoI (w : World) (tb b0 b1 : Nat) (a b fv pv : Value) (l : List RuN) (zs : List Nat) (h : HdR) : Prop where
  box : Blk w b0 [.pointer (some ⟨tb, 0, none⟩)] 48
  hd : Blk w b1 (enHd h) 56
  blk : Blk w tb [a, b, pv, fv] rtT
  ports : Sl w pv zs.length 2 ((runsOf l zs).flatMap enRun)
theorem HoI.old {w w' : World} {tb b0 b1 : Nat} {a b fv pv : Value} {l : List RuN} {zs : List Nat} {h : HdR} (H : HoI w tb b0 b1 a b fv pv l zs h) (k : Kp none' w w') : HoI w' tb b0 b1 a b fv pv l zs h :=
  ⟨H.box.kp k (fun x => x), H.hd.kp k (fun x => x), H.blk.kp k (fun x => x), H.ports.old k⟩
theorem runs_at {l : List RuN} {zs : List Nat} {i : Nat} (h : i < zs.length) : ∃ h' : i < (runsOf l zs).length, (runsOf l zs)[i] = (zs.getD i 0, setR l (zs.getD i 0)) := by
  refine ⟨by unfold runsOf; simpa using h, ?_⟩
  unfold runsOf
  rw [List.getElem_map, getD_at _ h]
set_option maxRecDepth 100000 in
set_option maxHeartbeats 8000000 in
theorem tHoldC (w : World) (tb b0 b1 : Nat) (a b fv pv : Value) (l : List RuN) (zs : List Nat) (h : HdR) (H : HoI w tb b0 b1 a b fv pv l zs h) (i : Nat) (hi : i < zs.length) :
    Calls Tryz.prog 99 #[.int .i64 i, .pointer (some ⟨b0, 0, none⟩), .pointer (some ⟨b1, 0, none⟩)] w fun e w' => e = .returned (.bool (decide (h.p < zs.getD i 0))) ∧ Kp none' w w' := by
  have q0 := H.box.cell 0 rfl
  have q1 := H.hd.cell 6 rfl
  have q2 := H.blk.cell 2 rfl
  obtain ⟨hi', he⟩ := runs_at (l := l) hi
  obtain ⟨g, off, cap', rfl, hc⟩ := H.ports.at enRun_len (by decide) i hi'
  rw [he] at hc
  obtain ⟨z, hz⟩ : ∃ z, zs.getD i 0 = z := ⟨_, rfl⟩
  rw [hz] at hc ⊢
  have c0 : w.cell? ⟨g, off + i * 2, none⟩ = some (.int .u16 z) := hc 0 _ rfl
  have hii : (i : Int) < zs.length := by omega
  clear H hc he hz hi'
  go_enter Tryz.func99, Tryz.ntmps99
  go_wp2_with fail
  go_region
  go_wp2_with fail
  go_ret
  exact ⟨by simp, (Kp.refl _ _).drew⟩
set_option maxRecDepth 100000 in
set_option maxHeartbeats 8000000 in
theorem tSearch (w : World) (tb b0 b1 : Nat) (a b fv pv : Value) (l : List RuN) (zs : List Nat) (h : HdR) (H : HoI w tb b0 b1 a b fv pv l zs h) (hup : zs.Pairwise (· < ·)) (hn : zs.length ≤ 1000000) :
    Calls Tryz.prog 98 #[.int .i64 zs.length, .func (.func 99) #[] #[.pointer (some ⟨b0, 0, none⟩), .pointer (some ⟨b1, 0, none⟩)]] w fun e w' => e = .returned (.int .i64 (upTo zs h.p : Nat)) ∧ Kp none' w w' := by
  have hle := upTo_le zs h.p
  have hpre := upTo_pre hup h.p
  obtain ⟨c, hc⟩ : ∃ c, upTo zs h.p = c := ⟨_, rfl⟩
  rw [hc] at hle hpre ⊢
  have HH := Lib.hid H; have HP := Lib.hid hpre
  clear hc H hup hpre
  go_enter Tryz.func98, Tryz.ntmps98
  go_wp2_with fail
  go_loopw [5, 6] (fun vi vj wr => ∃ i j : Nat, vi = .int .i64 i ∧ vj = .int .i64 j ∧ i ≤ c ∧ c ≤ j ∧ j ≤ zs.length ∧ Hid (Kp none' w wr)) (fun vi vj _ => (intOf vj).toNat - (intOf vi).toNat)
  case atStart => exact ⟨0, zs.length, rfl, rfl, Nat.zero_le _, hle, Nat.le_refl _, Kp.refl _ _⟩
  case round =>
    obtain ⟨i, j, rfl, rfl, hi, hj, hjn, HK⟩ := hrel
    by_cases hij : i < j
    · obtain ⟨m, hm⟩ : ∃ m, (i + j) / 2 = m := ⟨_, rfl⟩
      have hml : m < zs.length := by omega
      have hmi : i ≤ m ∧ m < j := by omega
      have hmz : ((i : Int) + (j : Int)) / 2 = (m : Int) := by omega
      have HC := Lib.hid (fun W k => tHoldC W tb b0 b1 a b fv pv l zs h (HH.out.old (HK.out.trans (k : Kp none' wr W))) m hml)
      have hij2 : (i : Int) < j := by omega
      have hpm := HP.out m hml
      by_cases hmc : m < c
      · have hd : decide (h.p < zs.getD m 0) = false := by rw [decide_eq_false_iff_not]; have := hpm.2 hmc; omega
        rw [hd] at HC
        clear hd hpm hm
        go_wp2_with (go_at_call 99; refine (HC.out _ (by first | exact Kp.refl _ _ | exact (Kp.refl _ _).drew)).mono ?_; rintro e w2 ⟨rfl, hk2⟩; have HK2 := Lib.hid (HK.out.trans hk2); clear hk2)
        go_roundw
        case rel => exact ⟨m + 1, j, by go_num, rfl, by omega, hj, hjn, HK2.out⟩
        case measure => simp [intOf]; omega
      · have hd : decide (h.p < zs.getD m 0) = true := by
          rw [decide_eq_true_eq]
          rcases Nat.lt_or_ge h.p (zs.getD m 0) with h1 | h1
          · exact h1
          · exact absurd (hpm.1 h1) hmc
        rw [hd] at HC
        clear hd hpm hm
        go_wp2_with (go_at_call 99; refine (HC.out _ (by first | exact Kp.refl _ _ | exact (Kp.refl _ _).drew)).mono ?_; rintro e w2 ⟨rfl, hk2⟩; have HK2 := Lib.hid (HK.out.trans hk2); clear hk2)
        go_roundw
        case rel => exact ⟨i, m, rfl, by go_num, by omega, by omega, by omega, HK2.out⟩
        case measure => simp [intOf]; omega
    · have hic : i = c := by omega
      subst hic
      go_wp2_with fail
      go_ret
      exact ⟨rfl, HK.out⟩

theorem accX_opt (o : Option (Px × Nat)) : accX o = optX o := by cases o <;> rfl
set_option maxRecDepth 100000 in
set_option maxHeartbeats 8000000 in
theorem tHold (w : World) (tb : Nat) (l : List RuN) (hok : ∀ r ∈ l, r.Ok) (hc : chkN l = 0) (H : RtM w tb l) (h : HdR) (hh : h.Ok) :
    Calls Tryz.prog 70 #[.pointer (some ⟨tb, 0, none⟩), .agg #[.int .u8 h.ds, .int .u16 h.id, .int .u8 h.ttl, .int .u32 h.s, .int .u32 h.d, .int .u16 h.sp, .int .u16 h.p]] w fun e w' => e = .returned (.int .u64 (bitsOf (holdsAt l h.n) l.length : Nat)) ∧ Kp none' w w' := by
  obtain ⟨base, base', sb, db, sn, dn, S, D, zs, pv, fv, h1, h2, h3, h4, h5, h6, hz9, h7, h8⟩ := H.is
  obtain ⟨po, pcap, rfl⟩ : ∃ po pcap, pv = .slice po zs.length pcap := by obtain ⟨po, pcap, rfl, _⟩ := h7.is; exact ⟨_, _, rfl⟩
  have hz := chk_zero.1 hc
  have hb64 : ∀ (f : Nat → Bool) (k : Nat), k ≤ 64 → bitsOf f k < 18446744073709551616 := fun f k hk => Nat.lt_of_lt_of_le (bitsOf_lt f k) (show 2 ^ k ≤ 2 ^ 64 from Nat.pow_le_pow_right (by decide) hk)
  have hx1 : accX (S.best h.s none) < 18446744073709551616 := by rw [accX_opt, tree_found h4]; exact hb64 _ _ (by rw [List.length_map]; exact hz.1)
  have hx2 : accX (D.best h.d none) < 18446744073709551616 := by rw [accX_opt, tree_found h5]; exact hb64 _ _ (by rw [List.length_map]; exact hz.1)
  have hval := hold_of hok hz.2 h4 h5 h6 h.n hh.p
  have hpos := (run_of h6 hok hh.p).1
  have hup := h6.up
  have hx3 : setR l (zs.getD (upTo zs h.p - 1) 0) < 18446744073709551616 := hb64 _ _ hz.1
  obtain ⟨c, hcn⟩ : ∃ c, upTo zs h.p = c + 1 := ⟨upTo zs h.p - 1, by omega⟩
  have hcl : c < zs.length := by have := upTo_le zs h.p; omega
  have hval' : accX (S.best h.s none) &&& accX (D.best h.d none) &&& setR l (zs.getD c 0) = bitsOf (holdsAt l h.n) l.length := by
    rw [accX_opt, accX_opt]
    have e : upTo zs h.n.p - 1 = c := by show upTo zs h.p - 1 = c; omega
    rw [e] at hval
    exact hval
  rw [hcn, Nat.add_sub_cancel] at hx3
  have a12 := bits_and_u64_nat _ _ hx1 hx2
  have a3 := bits_and_u64_nat (accX (S.best h.s none) &&& accX (D.best h.d none)) _ (Nat.lt_of_le_of_lt Nat.and_le_left hx1) hx3
  rw [hval'] at a3
  obtain ⟨x3, hx3e⟩ : ∃ x, setR l (zs.getD c 0) = x := ⟨_, rfl⟩
  rw [hx3e] at a3
  obtain ⟨R, hR⟩ : ∃ R, bitsOf (holdsAt l h.n) l.length = R := ⟨_, rfl⟩
  rw [hR] at a3 ⊢
  obtain ⟨x1, hx1e⟩ : ∃ x, accX (S.best h.s none) = x := ⟨_, rfl⟩
  obtain ⟨x2, hx2e⟩ : ∃ x, accX (D.best h.d none) = x := ⟨_, rfl⟩
  rw [hx1e, hx2e] at a12 a3
  obtain ⟨x12, hx12⟩ : ∃ x, x1 &&& x2 = x := ⟨_, rfl⟩
  rw [hx12] at a12 a3
  have HX1 := Lib.hid hx1e; have HX2 := Lib.hid hx2e; have HX3 := Lib.hid hx3e; have HCN := Lib.hid hcn
  clear hval hval' hx1 hx2 hx3 hR hx1e hx2e hx3e hcn hx12 hb64
  have hzl : zs.length ≤ 1000000 := by omega
  have k0 : Kp none' w ((w.alloc (.cells #[.pointer (some ⟨tb, 0, none⟩)] 48)).alloc (.cells #[.int .u8 h.ds, .int .u16 h.id, .int .u8 h.ttl, .int .u32 h.s, .int .u32 h.d, .int .u16 h.sp, .int .u16 h.p] 56)) := ((Kp.refl none' w).alloc _).alloc _
  have hI0 : HoI ((w.alloc (.cells #[.pointer (some ⟨tb, 0, none⟩)] 48)).alloc (.cells #[.int .u8 h.ds, .int .u16 h.id, .int .u8 h.ttl, .int .u32 h.s, .int .u32 h.d, .int .u16 h.sp, .int .u16 h.p] 56)) tb w.heap.size (w.heap.size + 1) (.pointer (some ⟨sb, 0, none⟩)) (.pointer (some ⟨db, 0, none⟩)) fv (.slice po zs.length pcap) l zs h := by
    refine ⟨(Blk.new w [.pointer (some ⟨tb, 0, none⟩)] _).alloc _, ?_, h1.kp k0 (fun x => x), h7.old k0⟩
    have := Blk.new (w.alloc (.cells #[.pointer (some ⟨tb, 0, none⟩)] 48)) (enHd h) 56
    rw [World.size_alloc] at this
    exact this
  have HI0 := Lib.hid hI0
  have HSt := Lib.hid (h2.old k0); have HDt := Lib.hid (h3.old k0); have HK0 := Lib.hid k0
  have HUP := Lib.hid hup
  have b0 := hI0.box.cell 0 rfl
  have h3' := hI0.hd.cell 3 rfl
  have t0 := hI0.blk.cell 0 rfl
  clear hI0 h1 h2 h3 h4 h5 h6 h7 h8 hpos hup hz hc hok k0 H
  go_enter Tryz.func70, Tryz.ntmps70
  go_wp2_with fail
  obtain ⟨W0, hW0⟩ : ∃ W, (w.alloc (.cells #[.pointer (some ⟨tb, 0, none⟩)] 48)).alloc (.cells #[.int .u8 h.ds, .int .u16 h.id, .int .u8 h.ttl, .int .u32 h.s, .int .u32 h.d, .int .u16 h.sp, .int .u16 h.p] 56) = W := ⟨_, rfl⟩
  rw [hW0] at b0 h3' t0 HI0 HSt HDt HK0 ⊢
  clear hW0
  have HF1 := Lib.hid (fun W (k : Kp none' W0 W) => tFind W sb S sn (HSt.out.old k).blk (HSt.out.old k).mem HSt.out.wf h.s hh.s)
  simp only [HX1.out] at HF1
  have N1 := World.new_ne W0 ⟨w.heap.size, 0, none⟩ b0
  have N2 := World.new_ne W0 ⟨w.heap.size + 1, 3, none⟩ h3'
  have N3 := World.new_ne W0 ⟨tb, 0, none⟩ t0
  go_region_held3 (fun w' => w'.cell? ⟨w.heap.size, 0, none⟩ = some (.pointer (some ⟨tb, 0, none⟩)) ∧ w'.cell? ⟨w.heap.size + 1, 3, none⟩ = some (.int .u32 h.s) ∧ w'.cell? ⟨tb, 0, none⟩ = some (.pointer (some ⟨sb, 0, none⟩))) (first | exact ⟨keep2 e0 e3, keep2 e1 e4, keep2 e2 e5⟩ | go_keep)
    ((go_at_call 97; refine (HF1.out _ (by first | exact (Kp.refl none' W0).drew | exact ((Kp.refl none' W0).drew.alloc _) | exact ((Kp.refl none' W0).alloc _).drew)).mono ?_; rintro e w3 ⟨rfl, hk3⟩
      have hk4 : Kp none' W0 w3 := by first | exact (Kp.refl none' W0).drew.trans hk3 | exact ((Kp.refl none' W0).drew.alloc _).trans hk3 | exact ((Kp.refl none' W0).alloc _).drew.trans hk3
      have e0 := hk4.cell b0 (fun x => x); have e1 := hk4.cell h3' (fun x => x); have e2 := hk4.cell t0 (fun x => x)
      have e3 : (⟨w.heap.size, 0, none⟩ : Addr).block ≠ W0.heap.size := N1.symm
      have e4 : (⟨w.heap.size + 1, 3, none⟩ : Addr).block ≠ W0.heap.size := N2.symm
      have e5 : (⟨tb, 0, none⟩ : Addr).block ≠ W0.heap.size := N3.symm
      first
        | (have hb3 := (Blk.new W0.drew [.int .u32 0, .int .i64 0] 88).kp hk3 (fun x => x)
           have z0 : w3.cell? ⟨W0.heap.size, 0, none⟩ = some (.int .u32 0) := hb3.cell 0 rfl
           have z1 : w3.cell? ⟨W0.heap.size, 1, none⟩ = some (.int .i64 0) := hb3.cell 1 rfl
           have y0 : w3.frozen? ⟨W0.heap.size, 0, none⟩ = false := hb3.fz 0
           have y1 : w3.frozen? ⟨W0.heap.size, 1, none⟩ = false := hb3.fz 1
           clear hb3)
        | skip
      have HK3 := Lib.hid hk3; have HK4 := Lib.hid hk4; clear hk3 hk4))
  · have hK1 : Kp none' W0 (w3.alloc (.cells #[.int .u32 (accP (S.best h.s none)).1, .int .i64 (accP (S.best h.s none)).2] 88)) := HK4.out.alloc _
    obtain ⟨W1, hW1⟩ : ∃ W, w3.alloc (.cells #[.int .u32 (accP (S.best h.s none)).1, .int .i64 (accP (S.best h.s none)).2] 88) = W := ⟨_, rfl⟩
    rw [hW1] at hK1 ⊢
    clear hW1 b0 h3' t0 N1 N2 N3
    have HI1 := Lib.hid (HI0.out.old hK1); have HD1 := Lib.hid (HDt.out.old hK1); have HK1 := Lib.hid (HK0.out.trans hK1)
    have HF2 := Lib.hid (fun W (k : Kp none' W1 W) => tFind W db D dn (HD1.out.old k).blk (HD1.out.old k).mem HD1.out.wf h.d hh.d)
    simp only [HX2.out] at HF2
    have b0 := HI1.out.box.cell 0 rfl
    have h4 := HI1.out.hd.cell 4 rfl
    have t1 := HI1.out.blk.cell 1 rfl
    have N1 := World.new_ne W1 ⟨w.heap.size, 0, none⟩ b0
    have N2 := World.new_ne W1 ⟨w.heap.size + 1, 4, none⟩ h4
    have N3 := World.new_ne W1 ⟨tb, 1, none⟩ t1
    clear hK1
    go_wp2_with fail
    go_region_held3 (fun w' => w'.cell? ⟨w.heap.size, 0, none⟩ = some (.pointer (some ⟨tb, 0, none⟩)) ∧ w'.cell? ⟨w.heap.size + 1, 4, none⟩ = some (.int .u32 h.d) ∧ w'.cell? ⟨tb, 1, none⟩ = some (.pointer (some ⟨db, 0, none⟩))) (first | exact ⟨keep2 e0 e3, keep2 e1 e4, keep2 e2 e5⟩ | go_keep)
      ((go_at_call 97; refine (HF2.out _ (by first | exact (Kp.refl none' W1).drew | exact ((Kp.refl none' W1).drew.alloc _) | exact ((Kp.refl none' W1).alloc _).drew)).mono ?_; rintro e w3 ⟨rfl, hk3⟩
        have hk4 : Kp none' W1 w3 := by first | exact (Kp.refl none' W1).drew.trans hk3 | exact ((Kp.refl none' W1).drew.alloc _).trans hk3 | exact ((Kp.refl none' W1).alloc _).drew.trans hk3
        have e0 := hk4.cell b0 (fun x => x); have e1 := hk4.cell h4 (fun x => x); have e2 := hk4.cell t1 (fun x => x)
        have e3 : (⟨w.heap.size, 0, none⟩ : Addr).block ≠ W1.heap.size := N1.symm
        have e4 : (⟨w.heap.size + 1, 4, none⟩ : Addr).block ≠ W1.heap.size := N2.symm
        have e5 : (⟨tb, 1, none⟩ : Addr).block ≠ W1.heap.size := N3.symm
        first
          | (have hb3 := (Blk.new W1.drew [.int .u32 0, .int .i64 0] 88).kp hk3 (fun x => x)
             have z0 : w3.cell? ⟨W1.heap.size, 0, none⟩ = some (.int .u32 0) := hb3.cell 0 rfl
             have z1 : w3.cell? ⟨W1.heap.size, 1, none⟩ = some (.int .i64 0) := hb3.cell 1 rfl
             have y0 : w3.frozen? ⟨W1.heap.size, 0, none⟩ = false := hb3.fz 0
             have y1 : w3.frozen? ⟨W1.heap.size, 1, none⟩ = false := hb3.fz 1
             clear hb3)
          | skip
        have HK3 := Lib.hid hk3; have HK4 := Lib.hid hk4; clear hk3 hk4))
    · have hK2 : Kp none' W1 (w3.alloc (.cells #[.int .u32 (accP (D.best h.d none)).1, .int .i64 (accP (D.best h.d none)).2] 88)) := HK4.out.alloc _
      obtain ⟨W2, hW2⟩ : ∃ W, w3.alloc (.cells #[.int .u32 (accP (D.best h.d none)).1, .int .i64 (accP (D.best h.d none)).2] 88) = W := ⟨_, rfl⟩
      rw [hW2] at hK2 ⊢
      clear hW2
      have HI2 := Lib.hid (HI1.out.old hK2); have HK2 := Lib.hid (HK1.out.trans hK2)
      have b0 := HI2.out.box.cell 0 rfl
      have t2 := HI2.out.blk.cell 2 rfl
      have HSE := Lib.hid (tSearch W2 tb w.heap.size (w.heap.size + 1) (.pointer (some ⟨sb, 0, none⟩)) (.pointer (some ⟨db, 0, none⟩)) fv (.slice po zs.length pcap) l zs h HI2.out HUP.out hzl)
      rw [HCN.out] at HSE
      clear hK2 h4 t1
      go_wp2_with fail
      refine HSE.out.mono ?_
      rintro e w5 ⟨rfl, hk5⟩
      have HI5 := Lib.hid (HI2.out.old hk5); have HK5 := Lib.hid (HK2.out.trans hk5)
      have b0 := HI5.out.box.cell 0 rfl
      have t2 := HI5.out.blk.cell 2 rfl
      obtain ⟨hi', he⟩ := runs_at (l := l) hcl
      obtain ⟨g, off, cap', e1, hc⟩ := HI5.out.ports.at enRun_len (by decide) c hi'
      injection e1 with e1 _ e3
      subst e1 e3
      rw [he, HX3.out] at hc
      have p1 : w5.cell? ⟨g, off + c * 2 + 1, none⟩ = some (.int .u64 x3) := hc 1 _ rfl
      have hw : IntKind.i64.wrap (c : Int) = (c : Int) := by rw [IntKind.wrap_i64]; omega
      have hci : (c : Int) < zs.length := by omega
      clear hk5 hc he hi' HSE
      go_wp2_with fail
      go_ret
      exact ⟨rfl, HK5.out⟩
    · have hK2 : Kp none' W1 ((w3.setCell ⟨W1.heap.size, 0, none⟩ (.int .u32 (accP (D.best h.d none)).1)).setCell ⟨W1.heap.size, 1, none⟩ (.int .i64 (accP (D.best h.d none)).2)) := (HK4.out.set (p := ⟨W1.heap.size, 0, none⟩) (.inr (Nat.le_refl _)) _).set (p := ⟨W1.heap.size, 1, none⟩) (.inr (Nat.le_refl _)) _
      obtain ⟨W2, hW2⟩ : ∃ W, (w3.setCell ⟨W1.heap.size, 0, none⟩ (.int .u32 (accP (D.best h.d none)).1)).setCell ⟨W1.heap.size, 1, none⟩ (.int .i64 (accP (D.best h.d none)).2) = W := ⟨_, rfl⟩
      rw [hW2] at hK2 ⊢
      clear hW2
      have HI2 := Lib.hid (HI1.out.old hK2); have HK2 := Lib.hid (HK1.out.trans hK2)
      have b0 := HI2.out.box.cell 0 rfl
      have t2 := HI2.out.blk.cell 2 rfl
      have HSE := Lib.hid (tSearch W2 tb w.heap.size (w.heap.size + 1) (.pointer (some ⟨sb, 0, none⟩)) (.pointer (some ⟨db, 0, none⟩)) fv (.slice po zs.length pcap) l zs h HI2.out HUP.out hzl)
      rw [HCN.out] at HSE
      clear hK2 h4 t1
      go_wp2_with fail
      refine HSE.out.mono ?_
      rintro e w5 ⟨rfl, hk5⟩
      have HI5 := Lib.hid (HI2.out.old hk5); have HK5 := Lib.hid (HK2.out.trans hk5)
      have b0 := HI5.out.box.cell 0 rfl
      have t2 := HI5.out.blk.cell 2 rfl
      obtain ⟨hi', he⟩ := runs_at (l := l) hcl
      obtain ⟨g, off, cap', e1, hc⟩ := HI5.out.ports.at enRun_len (by decide) c hi'
      injection e1 with e1 _ e3
      subst e1 e3
      rw [he, HX3.out] at hc
      have p1 : w5.cell? ⟨g, off + c * 2 + 1, none⟩ = some (.int .u64 x3) := hc 1 _ rfl
      have hw : IntKind.i64.wrap (c : Int) = (c : Int) := by rw [IntKind.wrap_i64]; omega
      have hci : (c : Int) < zs.length := by omega
      clear hk5 hc he hi' HSE
      go_wp2_with fail
      go_ret
      exact ⟨rfl, HK5.out⟩
  · have hK1 : Kp none' W0 ((w3.setCell ⟨W0.heap.size, 0, none⟩ (.int .u32 (accP (S.best h.s none)).1)).setCell ⟨W0.heap.size, 1, none⟩ (.int .i64 (accP (S.best h.s none)).2)) := (HK4.out.set (p := ⟨W0.heap.size, 0, none⟩) (.inr (Nat.le_refl _)) _).set (p := ⟨W0.heap.size, 1, none⟩) (.inr (Nat.le_refl _)) _
    obtain ⟨W1, hW1⟩ : ∃ W, (w3.setCell ⟨W0.heap.size, 0, none⟩ (.int .u32 (accP (S.best h.s none)).1)).setCell ⟨W0.heap.size, 1, none⟩ (.int .i64 (accP (S.best h.s none)).2) = W := ⟨_, rfl⟩
    rw [hW1] at hK1 ⊢
    clear hW1 b0 h3' t0 N1 N2 N3
    have HI1 := Lib.hid (HI0.out.old hK1); have HD1 := Lib.hid (HDt.out.old hK1); have HK1 := Lib.hid (HK0.out.trans hK1)
    have HF2 := Lib.hid (fun W (k : Kp none' W1 W) => tFind W db D dn (HD1.out.old k).blk (HD1.out.old k).mem HD1.out.wf h.d hh.d)
    simp only [HX2.out] at HF2
    have b0 := HI1.out.box.cell 0 rfl
    have h4 := HI1.out.hd.cell 4 rfl
    have t1 := HI1.out.blk.cell 1 rfl
    have N1 := World.new_ne W1 ⟨w.heap.size, 0, none⟩ b0
    have N2 := World.new_ne W1 ⟨w.heap.size + 1, 4, none⟩ h4
    have N3 := World.new_ne W1 ⟨tb, 1, none⟩ t1
    clear hK1
    go_wp2_with fail
    go_region_held3 (fun w' => w'.cell? ⟨w.heap.size, 0, none⟩ = some (.pointer (some ⟨tb, 0, none⟩)) ∧ w'.cell? ⟨w.heap.size + 1, 4, none⟩ = some (.int .u32 h.d) ∧ w'.cell? ⟨tb, 1, none⟩ = some (.pointer (some ⟨db, 0, none⟩))) (first | exact ⟨keep2 e0 e3, keep2 e1 e4, keep2 e2 e5⟩ | go_keep)
      ((go_at_call 97; refine (HF2.out _ (by first | exact (Kp.refl none' W1).drew | exact ((Kp.refl none' W1).drew.alloc _) | exact ((Kp.refl none' W1).alloc _).drew)).mono ?_; rintro e w3 ⟨rfl, hk3⟩
        have hk4 : Kp none' W1 w3 := by first | exact (Kp.refl none' W1).drew.trans hk3 | exact ((Kp.refl none' W1).drew.alloc _).trans hk3 | exact ((Kp.refl none' W1).alloc _).drew.trans hk3
        have e0 := hk4.cell b0 (fun x => x); have e1 := hk4.cell h4 (fun x => x); have e2 := hk4.cell t1 (fun x => x)
        have e3 : (⟨w.heap.size, 0, none⟩ : Addr).block ≠ W1.heap.size := N1.symm
        have e4 : (⟨w.heap.size + 1, 4, none⟩ : Addr).block ≠ W1.heap.size := N2.symm
        have e5 : (⟨tb, 1, none⟩ : Addr).block ≠ W1.heap.size := N3.symm
        first
          | (have hb3 := (Blk.new W1.drew [.int .u32 0, .int .i64 0] 88).kp hk3 (fun x => x)
             have z0 : w3.cell? ⟨W1.heap.size, 0, none⟩ = some (.int .u32 0) := hb3.cell 0 rfl
             have z1 : w3.cell? ⟨W1.heap.size, 1, none⟩ = some (.int .i64 0) := hb3.cell 1 rfl
             have y0 : w3.frozen? ⟨W1.heap.size, 0, none⟩ = false := hb3.fz 0
             have y1 : w3.frozen? ⟨W1.heap.size, 1, none⟩ = false := hb3.fz 1
             clear hb3)
          | skip
        have HK3 := Lib.hid hk3; have HK4 := Lib.hid hk4; clear hk3 hk4))
    · have hK2 : Kp none' W1 (w3.alloc (.cells #[.int .u32 (accP (D.best h.d none)).1, .int .i64 (accP (D.best h.d none)).2] 88)) := HK4.out.alloc _
      obtain ⟨W2, hW2⟩ : ∃ W, w3.alloc (.cells #[.int .u32 (accP (D.best h.d none)).1, .int .i64 (accP (D.best h.d none)).2] 88) = W := ⟨_, rfl⟩
      rw [hW2] at hK2 ⊢
      clear hW2
      have HI2 := Lib.hid (HI1.out.old hK2); have HK2 := Lib.hid (HK1.out.trans hK2)
      have b0 := HI2.out.box.cell 0 rfl
      have t2 := HI2.out.blk.cell 2 rfl
      have HSE := Lib.hid (tSearch W2 tb w.heap.size (w.heap.size + 1) (.pointer (some ⟨sb, 0, none⟩)) (.pointer (some ⟨db, 0, none⟩)) fv (.slice po zs.length pcap) l zs h HI2.out HUP.out hzl)
      rw [HCN.out] at HSE
      clear hK2 h4 t1
      go_wp2_with fail
      refine HSE.out.mono ?_
      rintro e w5 ⟨rfl, hk5⟩
      have HI5 := Lib.hid (HI2.out.old hk5); have HK5 := Lib.hid (HK2.out.trans hk5)
      have b0 := HI5.out.box.cell 0 rfl
      have t2 := HI5.out.blk.cell 2 rfl
      obtain ⟨hi', he⟩ := runs_at (l := l) hcl
      obtain ⟨g, off, cap', e1, hc⟩ := HI5.out.ports.at enRun_len (by decide) c hi'
      injection e1 with e1 _ e3
      subst e1 e3
      rw [he, HX3.out] at hc
      have p1 : w5.cell? ⟨g, off + c * 2 + 1, none⟩ = some (.int .u64 x3) := hc 1 _ rfl
      have hw : IntKind.i64.wrap (c : Int) = (c : Int) := by rw [IntKind.wrap_i64]; omega
      have hci : (c : Int) < zs.length := by omega
      clear hk5 hc he hi' HSE
      go_wp2_with fail
      go_ret
      exact ⟨rfl, HK5.out⟩
    · have hK2 : Kp none' W1 ((w3.setCell ⟨W1.heap.size, 0, none⟩ (.int .u32 (accP (D.best h.d none)).1)).setCell ⟨W1.heap.size, 1, none⟩ (.int .i64 (accP (D.best h.d none)).2)) := (HK4.out.set (p := ⟨W1.heap.size, 0, none⟩) (.inr (Nat.le_refl _)) _).set (p := ⟨W1.heap.size, 1, none⟩) (.inr (Nat.le_refl _)) _
      obtain ⟨W2, hW2⟩ : ∃ W, (w3.setCell ⟨W1.heap.size, 0, none⟩ (.int .u32 (accP (D.best h.d none)).1)).setCell ⟨W1.heap.size, 1, none⟩ (.int .i64 (accP (D.best h.d none)).2) = W := ⟨_, rfl⟩
      rw [hW2] at hK2 ⊢
      clear hW2
      have HI2 := Lib.hid (HI1.out.old hK2); have HK2 := Lib.hid (HK1.out.trans hK2)
      have b0 := HI2.out.box.cell 0 rfl
      have t2 := HI2.out.blk.cell 2 rfl
      have HSE := Lib.hid (tSearch W2 tb w.heap.size (w.heap.size + 1) (.pointer (some ⟨sb, 0, none⟩)) (.pointer (some ⟨db, 0, none⟩)) fv (.slice po zs.length pcap) l zs h HI2.out HUP.out hzl)
      rw [HCN.out] at HSE
      clear hK2 h4 t1
      go_wp2_with fail
      refine HSE.out.mono ?_
      rintro e w5 ⟨rfl, hk5⟩
      have HI5 := Lib.hid (HI2.out.old hk5); have HK5 := Lib.hid (HK2.out.trans hk5)
      have b0 := HI5.out.box.cell 0 rfl
      have t2 := HI5.out.blk.cell 2 rfl
      obtain ⟨hi', he⟩ := runs_at (l := l) hcl
      obtain ⟨g, off, cap', e1, hc⟩ := HI5.out.ports.at enRun_len (by decide) c hi'
      injection e1 with e1 _ e3
      subst e1 e3
      rw [he, HX3.out] at hc
      have p1 : w5.cell? ⟨g, off + c * 2 + 1, none⟩ = some (.int .u64 x3) := hc 1 _ rfl
      have hw : IntKind.i64.wrap (c : Int) = (c : Int) := by rw [IntKind.wrap_i64]; omega
      have hci : (c : Int) < zs.length := by omega
      clear hk5 hc he hi' HSE
      go_wp2_with fail
      go_ret
      exact ⟨rfl, HK5.out⟩
end Go.Proofs.YtfckgddodjmbdaaGreatDoor
