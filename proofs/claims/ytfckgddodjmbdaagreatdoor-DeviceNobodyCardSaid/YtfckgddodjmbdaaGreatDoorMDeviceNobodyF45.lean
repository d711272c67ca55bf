/- A device's step walked (layer 37). -/
import Derived.Test.YtfckgddodjmbdaaGreatDoorMDeviceNobodyF44
import Derived.Test.YtfckgddodjmbdaaGreatDoorMDeviceNobodyF40
import Derived.Test.YtfckgddodjmbdaaGreatDoorMDeviceNobodyF41
namespace Go.Proofs.YtfckgddodjmbdaaGreatDoor
set_option linter.unusedVariables false
set_option linter.unusedSimpArgs false
open Go Go.RowKit Go.Shelf
set_option maxRecDepth 100000 in
set_option maxHeartbeats 4000000 in
theorem dStep {w : World} {d : DvR} (h : DvM w d) (hT : Tab w) (hg : 0 < d.thi) (hn : d.ls.length ≤ 8) (hb : d.batch ≤ 64) (OUT : Nat → List ByteArray → Prop) (Acc : Nat → List (Nat × ByteArray) → Prop) (h0 : Acc 0 [])
    (hacc : ∀ i l o, Acc i l → OUT i o → Acc (i + 1) (l ++ o.map fun s => (i, s))) (hlen : ∀ i l, Acc i l → l.length ≤ 64 * i)
    (hs : ∀ i l, d.ls[i]? = some l → ∀ W, LnM W d.room l → Tab W → Calls Tryz.prog 30 #[.pointer (some ⟨l.lb, 0, none⟩), .int .i64 d.batch] W fun e w' => ∃ v o f' p', e = .returned v ∧ OUT i o ∧ o.length ≤ d.batch ∧ w'.ownsRow W.heap.size 9 1 v o.length (strs o) ∧ LsI W w' l d.room (l.q.drop d.batch) f' p' ∧ (∀ b, v.ownBlock = some b → ¬ f'.all b)) :
    Calls Tryz.prog 13 #[.pointer (some ⟨d.db, 0, none⟩)] w fun e w' => ∃ v outs, e = .returned v ∧ Acc d.ls.length outs ∧ Sl w' v outs.length 2 (outs.flatMap enOt) ∧ Kp (fun x => d.thi ≤ x) w w' := by
  obtain ⟨ao, sc, hv⟩ := own_shape h.row
  have t0 : w.cell? ⟨d.db, 0, none⟩ = some d.v := h.top.cell 0 rfl
  rw [hv] at t0
  have HI0 : Hid (SpI w w d 0 (.slice none 0 0) d) := Lib.hid ⟨h, rfl, rfl, rfl, rfl, rfl, rfl, fun _ _ => rfl, Kp.refl _ _, fun b e => by cases e⟩
  have HO0 : Hid (w.ownsRow w.heap.size 99 2 (.slice none 0 0) 0 (([] : List (Nat × ByteArray)).flatMap enOt)) := Lib.hid ⟨rfl, .inl ⟨rfl, rfl⟩⟩
  have HT := Lib.hid hT
  have HG := Lib.hid hg
  have HS := Lib.hid hs
  have HACC := Lib.hid hacc
  have HLEN := Lib.hid hlen
  have HA0 := Lib.hid h0
  have HV := Lib.hid hv
  have H := Lib.hid h
  have HOB := outBuild
  have HOS := outSlice
  obtain ⟨nl, hnl⟩ : ∃ nl, d.ls.length = nl := ⟨_, rfl⟩
  obtain ⟨db, hdb⟩ : ∃ db, d.db = db := ⟨_, rfl⟩
  have HNL := Lib.hid hnl
  have HDB := Lib.hid hdb
  rw [hnl, hdb] at t0
  rw [hnl] at hn ⊢
  rw [hdb]
  clear h hT hg hs hacc hlen h0 hv hnl hdb
  refine calls_post ?_
  intro PP HP
  go_enter Tryz.func13, Tryz.ntmps13
  go_wp2_with fail
  go_loopw [15, 3] (fun i0 v0 wr => ∃ (i : Nat) (outs : List (Nat × ByteArray)), i0 = .int .i64 i ∧ i ≤ nl ∧ Hid (wr.ownsRow w.heap.size 99 2 v0 outs.length (outs.flatMap enOt)) ∧ Hid (Acc i outs) ∧ Hid (∃ d', SpI w wr d i v0 d')) (fun i0 _ _ => nl - (intOf i0).toNat)
  case atStart => exact ⟨0, [], rfl, Nat.zero_le _, HO0, HA0, Lib.hid ⟨d, HI0.out⟩⟩
  case round =>
    clear HI0 HO0 HA0 t0
    obtain ⟨i, outs, rfl, hi, HO, HAC, HEX⟩ := hrel
    obtain ⟨wo, hwo⟩ : ∃ wo : World, wo = wr := ⟨_, rfl⟩
    subst hwo
    obtain ⟨vo, vc, rfl⟩ := own_shape HO.out
    by_cases hlt : i < nl
    · have hii : (i : Int) < nl := by omega
      obtain ⟨d', hI⟩ := HEX.out
      obtain ⟨l, hl⟩ : ∃ l, d.ls[i]? = some l := ⟨_, List.getElem?_eq_getElem (by rw [HNL.out]; exact hlt)⟩
      have hl' : d'.ls[i]? = some l := by rw [hI.rest i (Nat.le_refl _)]; exact hl
      obtain ⟨g, cap, hvg, hgg⟩ := own_shape1 H.out.row (by rw [HNL.out]; omega)
      have hsl : Value.slice ao nl sc = .slice (some ⟨g, 0, none⟩) nl cap := by
        have := HV.out.symm.trans hvg
        rw [HNL.out] at this; exact this
      injection hsl with e1 _ e3
      subst e1 e3
      have hrow := hI.dv.row
      rw [hI.v_, hvg, hI.len] at hrow
      have hc := own_cell hrow i (u := .pointer (some ⟨l.lb, 0, none⟩)) (by
        have := flat_get lnP 1 lnP_len d'.ls i 0 (by decide)
        rw [Nat.mul_one, Nat.add_zero] at this
        rw [this, hl']; rfl)
      have htp : wo.cell? ⟨db, 2, none⟩ = some (.int .i64 d.batch) := by
        have := hI.dv.top.cell 2 (v := .int .i64 d'.batch) rfl
        rw [hI.db, hI.ba, HDB.out] at this; exact this
      have hln := hI.dv.ln l (List.mem_of_getElem? hl')
      rw [hI.room] at hln
      have HST := Lib.hid (HS.out i l hl wo hln (HT.out.kp hI.kp (fun e => by have := HG.out; have e2 : d.thi ≤ 0 := e; omega)))
      have HI := Lib.hid hI
      have HLI := Lib.hid hl
      obtain ⟨lb, hlb⟩ : ∃ lb, l.lb = lb := ⟨_, rfl⟩
      rw [hlb] at hc HST
      clear hI hl hl' hvg hgg hrow hln hlb HEX
      go_wp2_with fail
      refine (HST.out).mono ?_
      rintro e w2 ⟨v, o, f', p', rfl, hout, hol, hrow, hls, hnf⟩
      obtain ⟨sg, scap, rfl⟩ := own_shape hrow
      have hnx := HI.out.next HLI.out hls (fun b e => (own_block HO.out e).2)
      have ho2 := own_kp HO.out hls.kp (fun b e => hnx.2 b e)
      have hdis : ∀ b, (Value.slice sg o.length scap).ownBlock = some b → (Value.slice vo outs.length vc).ownBlock ≠ some b := fun b e e2 => by
        have := (own_block hrow e).1; have := (own_block HO.out e2).2; omega
      obtain ⟨d2, hd2⟩ : ∃ d2, SpI w w2 d (i + 1) (.slice vo outs.length vc) d2 := ⟨_, hnx.1⟩
      have hwz := hls.kp.size
      have HJ0 : Hid (SpI w w2 d (i + 1) (.slice vo outs.length vc) d2) := Lib.hid hd2
      have HR0 : Hid (w2.ownsRow wo.heap.size 9 1 (.slice sg o.length scap) o.length (strs o)) := Lib.hid hrow
      have HO2 : Hid (w2.ownsRow w.heap.size 99 2 (.slice vo outs.length vc) (outs.length + 0) ((outs ++ (o.take 0).map fun s => (i, s)).flatMap enOt)) := Lib.hid (by rw [List.take_zero, List.map_nil, List.append_nil]; exact ho2)
      have HDI0 := Lib.hid hdis
      have HOUT := Lib.hid hout
      have hol8 := HLEN.out i outs HAC.out
      have hww : w.heap.size ≤ w2.heap.size := hd2.kp.size
      have HWW := Lib.hid hww
      have HW0 : Hid (w.heap.size ≤ wo.heap.size ∧ wo.heap.size ≤ w2.heap.size) := Lib.hid ⟨HI.out.kp.size, hwz⟩
      clear hout hrow hls hnf hnx ho2 hdis hd2 HST HI HLI hc htp HO hwz hww
      go_wp2_with fail
      go_loopw [27, 3] (fun i0 v0 wr => ∃ k : Nat, i0 = .int .i64 k ∧ k ≤ o.length ∧ Hid (wr.ownsRow w.heap.size 99 2 v0 (outs.length + k) ((outs ++ (o.take k).map fun s => (i, s)).flatMap enOt)) ∧ Hid (SpI w wr d (i + 1) v0 d2) ∧ Hid (wr.ownsRow wo.heap.size 9 1 (.slice sg o.length scap) o.length (strs o)) ∧ Hid (∀ b, (Value.slice sg o.length scap).ownBlock = some b → v0.ownBlock ≠ some b)) (fun i0 _ _ => o.length - (intOf i0).toNat)
      case atStart => exact ⟨0, rfl, Nat.zero_le _, HO2, HJ0, HR0, HDI0⟩
      case round =>
        clear HJ0 HR0 HO2 HDI0
        obtain ⟨k, rfl, hk, HO, HJ, HR, HDI⟩ := hrel
        obtain ⟨wp, hwp⟩ : ∃ wp : World, wp = wr := ⟨_, rfl⟩
        subst hwp
        obtain ⟨xo, xc, rfl⟩ := own_shape HO.out
        by_cases hkl : k < o.length
        · have hki : (k : Int) < o.length := by omega
          obtain ⟨g2, cap2, e1, hg2⟩ := own_shape1 HR.out (by omega)
          injection e1 with e1 _ e3
          subst e1 e3
          have hc2 := own_cell HR.out k (u := .string o[k]) (strs_get _ _ hkl)
          have HTK : Hid (o.take (k + 1) = o.take k ++ [o[k]]) := Lib.hid (by rw [List.take_succ_eq_append_getElem hkl])
          obtain ⟨x, hx⟩ : ∃ x, o[k] = x := ⟨_, rfl⟩
          rw [hx] at hc2 HTK
          have hsz3 : w.heap.size ≤ wp.heap.size := HJ.out.kp.size
          clear hg2 hx
          go_wp2_with (at_builtin; refine wp_app1_at tOut (.tmp 31) (.tmp 35) rfl rfl w.heap.size (HO.out.alloc (.cells #[.int .i64 i, .string x] 99)) [.int .i64 i, .string x] rfl rfl rfl (heap_new _ _) rfl (by omega) (by omega) (by simp; omega) ?_)
          intro g3 cap3 w3 hown3 hgrow3 hgg
          have ka : Kp none' wp (wp.alloc (.cells #[.int .i64 i, .string x] 99)) := (Kp.refl _ _).alloc _
          have hj3 := HJ.out.grow (n := outs.length + k + 1) (cap := cap3) _ ka hgrow3 (by rw [World.size_alloc]; exact hgg)
          have k3 : Kp (fun b => (Value.slice xo (outs.length + k) xc).ownBlock = some b) _ w3 := (Kp.refl _ _).grown hgrow3 (fun b e => .inl e)
          have HR3 := Lib.hid (own_kp (own_kp HR.out ka (fun _ _ e => e)) k3 (fun b e e2 => HDI.out b e e2))
          have HDI3 : Hid (∀ b, (Value.slice (some ⟨g2, 0, none⟩) o.length scap).ownBlock = some b → (Value.slice (some ⟨g3, 0, none⟩) (outs.length + k + 1) cap3).ownBlock ≠ some b) := Lib.hid fun b e e2 => by
            have e3 : g3 = b := by simpa [Value.ownBlock] using e2
            subst e3
            rcases hgg with e4 | e4
            · exact HDI.out _ e e4
            · have := (own_block HR.out e).2; omega
          have HO3 : Hid (w3.ownsRow w.heap.size 99 2 (.slice (some ⟨g3, 0, none⟩) (outs.length + k + 1) cap3) (outs.length + k + 1) ((outs ++ (o.take (k + 1)).map fun s => (i, s)).flatMap enOt)) := by
            have e : (outs ++ (o.take (k + 1)).map fun s => (i, s)).flatMap enOt = outs.flatMap enOt ++ (((o.map fun s => (i, s)).take k).flatMap enOt ++ [.int .i64 i, .string x]) := by
              rw [HTK.out]
              simp [enOt, List.map_take]
            rw [e]
            exact Lib.hid hown3
          have HJ3 := Lib.hid hj3
          clear hown3 hgrow3 hgg hj3 k3 ka HO HJ HR HDI HTK
          go_wp2_with fail
          go_roundw
          case rel => exact ⟨k + 1, by go_num, by omega, HO3, HJ3, HR3, HDI3⟩
          case measure => simp [intOf]; omega
        · have hkk : k = o.length := by omega
          subst hkk
          have hki : ¬ (o.length : Int) < o.length := by omega
          have HOF : Hid (wp.ownsRow w.heap.size 99 2 (.slice xo (outs.length + o.length) xc) (outs ++ o.map fun s => (i, s)).length ((outs ++ o.map fun s => (i, s)).flatMap enOt)) := by
            have := HO.out
            rw [List.take_length] at this
            rw [show (outs ++ o.map fun s => (i, s)).length = outs.length + o.length by simp]
            exact Lib.hid this
          have HACF := Lib.hid (HACC.out i outs o HAC.out HOUT.out)
          have HEX2 : Hid (∃ d', SpI w wp d (i + 1) (.slice xo (outs.length + o.length) xc) d') := Lib.hid ⟨d2, HJ.out⟩
          clear HO HJ HR HDI
          go_wp2_with fail
          go_roundw
          case rel => exact ⟨i + 1, outs ++ o.map fun s => (i, s), by go_num, by omega, HOF, HACF, HEX2⟩
          case measure => simp [intOf]; omega
    · have hin : i = nl := by omega
      subst hin
      have hii : ¬ (i : Int) < i := by omega
      have HFIN := Lib.hid (HP.out _ _ ⟨_, outs, rfl, HAC.out, own_sl HO.out, by obtain ⟨d', hI⟩ := HEX.out; exact hI.kp⟩)
      clear HP HO HAC HEX
      go_wp2_with fail
      exact HFIN.out

theorem infoPt36 : (Tryz.prog.info? 80).map (·.size) = some 16 := by kernel_rfl
theorem tPts : SlT Tryz.prog 110 79 (.agg (enPt ptZ).toArray) 16 160 := ⟨Tryz.underlying110, by kernel_rfl, rfl, by decide⟩
theorem tRts : SlT Tryz.prog 111 178 (.agg #[.int .u32 0, .int .i64 0, .int .i64 0]) 3 24 := ⟨Tryz.underlying111, by kernel_rfl, rfl, by decide⟩
theorem ptSlice (c : PcR) (ao : Option Addr) (n cap : Nat) (ao' : Option Addr) (n' cap' : Nat) (W : World) : (Instr.buildSlice 110 1 #[(0, .agg (enPt ⟨c, .slice ao n cap, .slice ao' n' cap'⟩).toArray)]).run Tryz.prog W = .ok (.slice (some ⟨W.heap.size, 0, none⟩) 1 1) (W.alloc (.cells (enPt ⟨c, .slice ao n cap, .slice ao' n' cap'⟩).toArray 79)) := by
  obtain ⟨⟨rk, bk, lv, qu, pk, bt, sh, mt, rt, bu, fl⟩, rl, rate, near, far, y⟩ := c
  kernel_rfl
theorem rtSlice (a b x : Int) (W : World) : (Instr.buildSlice 111 1 #[(0, .agg #[.int .u32 a, .int .i64 b, .int .i64 x])]).run Tryz.prog W = .ok (.slice (some ⟨W.heap.size, 0, none⟩) 1 1) (W.alloc (.cells #[.int .u32 a, .int .i64 b, .int .i64 x] 178)) := by kernel_rfl
theorem wpList_bs {P : Program} {ops : Array Oper} {rest : List Oper} {op : Oper} {a : Act} {w : World} {Q : Exit → Act → World → Prop} (hgd : op.guard = none) {t : TypeId} (x : Operand) (ho : op.op = .buildSlice t 1 #[(0, x)]) {y v : Value} {w' : World}
    (hr : (Instr.buildSlice t 1 #[(0, y)]).run P w = .ok v w') (hy : a.eval x = y) (h : wpList P ops Q rest (a.put op.dst v) w') : wpList P ops Q (op :: rest) a w := wpList_plain hgd fun _ hK => by
  subst hy
  unfold Oper.wp execOp
  have e : (#[(0, x)] : Array (Nat × Operand)).map (fun (i, x) => (i, a.eval x)) = #[(0, a.eval x)] := by simp
  simp only [ho, e, Sem.run_bind, hr, Result.andThen_ok, Sem.run_pure]
  exact hK _ _ h
theorem infoDc : (Tryz.prog.info? 113).map (·.size) = some 4 := by kernel_rfl
structure CvI (w wr : World) (A : List Value) (room batch : Nat) (v1 v2 : Value) : Prop where
  kp : Kp none' w wr
  a : Blk wr w.heap.size A 107
  b : Blk wr (w.heap.size + 1) [.slice none 0 0, .slice none 0 0, .int .i64 0, .int .i64 0] 113
  c : Blk wr (w.heap.size + 2) [v1, v2, .int .i64 room, .int .i64 batch] 113
theorem CvI.kpo {T : Nat → Prop} {w wr w2 : World} {A : List Value} {room batch : Nat} {v1 v2 : Value} (h : CvI w wr A room batch v1 v2) (k : Kp T wr w2) (hT : ∀ x, T x → w.heap.size + 3 ≤ x) : CvI w w2 A room batch v1 v2 :=
  ⟨h.kp.then k (fun x hx e => by have := hT x e; omega), h.a.kp k (fun e => by have := hT _ e; omega), h.b.kp k (fun e => by have := hT _ e; omega), h.c.kp k (fun e => by have := hT _ e; omega)⟩
theorem CvI.set0 {w wr : World} {A : List Value} {room batch : Nat} {v1 v2 : Value} (h : CvI w wr A room batch v1 v2) (v : Value) : CvI w (wr.setCell ⟨w.heap.size + 2, 0, none⟩ v) A room batch v v2 :=
  ⟨h.kp.set (.inr (by show w.heap.size ≤ w.heap.size + 2; omega)) _, h.a.kp (kp_at _ _ _ _) (by omega), h.b.kp (kp_at _ _ _ _) (by omega), h.c.set 0 v⟩
theorem CvI.set1 {w wr : World} {A : List Value} {room batch : Nat} {v1 v2 : Value} (h : CvI w wr A room batch v1 v2) (v : Value) : CvI w (wr.setCell ⟨w.heap.size + 2, 1, none⟩ v) A room batch v1 v :=
  ⟨h.kp.set (.inr (by show w.heap.size ≤ w.heap.size + 2; omega)) _, h.a.kp (kp_at _ _ _ _) (by omega), h.b.kp (kp_at _ _ _ _) (by omega), h.c.set 1 v⟩
theorem CvI.sz {w wr : World} {A : List Value} {room batch : Nat} {v1 v2 : Value} (h : CvI w wr A room batch v1 v2) : w.heap.size + 3 ≤ wr.heap.size := h.c.lt
set_option maxRecDepth 100000 in
set_option maxHeartbeats 2000000 in
theorem confW (ps : List PtC) (rts : List Rt) (room batch : Nat) (w : World) (h8 : ps.length ≤ 100) (h4 : rts.length ≤ 5000) (hm : ∀ q ∈ ps, Sl w q.v q.pc.c.flows.length 5 (q.pc.c.flows.flatMap enFl) ∧ Sl w q.u q.pc.rl.length 7 (q.pc.rl.flatMap enR7)) (pv rv : Value) (hpv : Sl w pv ps.length 16 (ps.flatMap enPt)) (hrv : Sl w rv rts.length 3 (rts.flatMap enRt)) :
    Calls Tryz.prog 34 #[.agg #[pv, rv, .int .i64 room, .int .i64 batch]] w fun e w' => ∃ pv' rv', e = .returned (.agg #[pv', rv', .int .i64 room, .int .i64 batch]) ∧ Sl w' pv' ps.length 16 (ps.flatMap enPt) ∧ Sl w' rv' rts.length 3 (rts.flatMap enRt) ∧ Kp none' w w' := by
  obtain ⟨ap, cp, rfl⟩ : ∃ ap cp, pv = .slice ap ps.length cp := by obtain ⟨ao, cap, rfl, _⟩ := hpv.is; exact ⟨_, _, rfl⟩
  obtain ⟨ar, cr, rfl⟩ : ∃ ar cr, rv = .slice ar rts.length cr := by obtain ⟨ao, cap, rfl, _⟩ := hrv.is; exact ⟨_, _, rfl⟩
  have HPV := Lib.hid hpv
  have HRV := Lib.hid hrv
  have HM := Lib.hid hm
  have hci : CvI w (((w.alloc (.cells #[.slice ap ps.length cp, .slice ar rts.length cr, .int .i64 room, .int .i64 batch] 107)).alloc (.cells #[.slice none 0 0, .slice none 0 0, .int .i64 0, .int .i64 0] 113)).alloc (.cells #[.slice none 0 0, .slice none 0 0, .int .i64 room, .int .i64 batch] 113)) [.slice ap ps.length cp, .slice ar rts.length cr, .int .i64 room, .int .i64 batch] room batch (.slice none 0 0) (.slice none 0 0) := by
    have hb := (Blk.new (w.alloc (.cells #[.slice ap ps.length cp, .slice ar rts.length cr, .int .i64 room, .int .i64 batch] 107)) [.slice none 0 0, .slice none 0 0, .int .i64 0, .int .i64 0] 113).alloc (.cells #[.slice none 0 0, .slice none 0 0, .int .i64 room, .int .i64 batch] 113)
    have hc := Blk.new ((w.alloc (.cells #[.slice ap ps.length cp, .slice ar rts.length cr, .int .i64 room, .int .i64 batch] 107)).alloc (.cells #[.slice none 0 0, .slice none 0 0, .int .i64 0, .int .i64 0] 113)) [.slice none 0 0, .slice none 0 0, .int .i64 room, .int .i64 batch] 113
    rw [World.size_alloc] at hb
    rw [World.size_alloc, World.size_alloc] at hc
    exact ⟨(((Kp.refl none' w).alloc _).alloc _).alloc _, ((Blk.new w _ _).alloc _).alloc _, hb, hc⟩
  have HC0 := Lib.hid hci
  clear hci
  clear hpv hrv hm
  refine calls_post ?_
  intro PP HP
  go_enter Tryz.func34, Tryz.ntmps34
  go_wp2_with fail
  obtain ⟨w1, hw1⟩ : ∃ w1, (((w.alloc (.cells #[.slice ap ps.length cp, .slice ar rts.length cr, .int .i64 room, .int .i64 batch] 107)).alloc (.cells #[.slice none 0 0, .slice none 0 0, .int .i64 0, .int .i64 0] 113)).alloc (.cells #[.slice none 0 0, .slice none 0 0, .int .i64 room, .int .i64 batch] 113)) = w1 := ⟨_, rfl⟩
  rw [hw1] at HC0 ⊢
  have HO0 : Hid (w1.ownsRow (w.heap.size + 3) 79 16 (.slice none 0 0) 0 ((ps.take 0).flatMap enPt)) := Lib.hid ⟨rfl, .inl ⟨rfl, rfl⟩⟩
  clear hw1
  go_loopw [16] (fun i0 wr => ∃ (j : Nat) (v1 : Value), i0 = .int .i64 j ∧ j ≤ ps.length ∧ Hid (CvI w wr [.slice ap ps.length cp, .slice ar rts.length cr, .int .i64 room, .int .i64 batch] room batch v1 (.slice none 0 0)) ∧ Hid (wr.ownsRow (w.heap.size + 3) 79 16 v1 j ((ps.take j).flatMap enPt))) (fun i0 _ => ps.length - (intOf i0).toNat)
  case atStart => exact ⟨0, _, rfl, Nat.zero_le _, HC0, HO0⟩
  case round =>
    clear HC0 HO0
    obtain ⟨j, v1, rfl, hj, HC, HO⟩ := hrel
    obtain ⟨wo, hwo⟩ : ∃ wo : World, wo = wr := ⟨_, rfl⟩
    subst hwo
    obtain ⟨vo, vc, rfl⟩ := own_shape HO.out
    by_cases hlt : j < ps.length
    · obtain ⟨g, off, cap', e1, hc⟩ := (HPV.out.old HC.out.kp).at enPt_len (by decide) j hlt
      injection e1 with e1 _ e3
      subst e1 e3
      have hji : (j : Int) < ps.length := by omega
      obtain ⟨q, hqq⟩ : ∃ q, ps[j] = q := ⟨_, rfl⟩
      have hmem : q ∈ ps := by rw [← hqq]; exact List.getElem_mem hlt
      have HTK : Hid (ps.take (j + 1) = ps.take j ++ [q]) := Lib.hid (by rw [List.take_succ_eq_append_getElem hlt, hqq])
      rw [hqq] at hc
      have hq2 := HM.out q hmem
      have hone := enPt_one q hq2.1.one hq2.2.one
      obtain ⟨qc, qv, qu⟩ := q
      simp only at hq2
      obtain ⟨xo, xc, rfl⟩ : ∃ ao cap, qv = .slice ao qc.c.flows.length cap := by obtain ⟨ao, cap, rfl, _⟩ := hq2.1.is; exact ⟨_, _, rfl⟩
      obtain ⟨yo, yc, rfl⟩ : ∃ ao cap, qu = .slice ao qc.rl.length cap := by obtain ⟨ao, cap, rfl, _⟩ := hq2.2.is; exact ⟨_, _, rfl⟩
      have HQ1 := Lib.hid hone
      have hsl := ptSlice qc xo qc.c.flows.length xc yo qc.rl.length yc
      obtain ⟨Q, hQ⟩ : ∃ Q : PtC, Q = ⟨qc, .slice xo qc.c.flows.length xc, .slice yo qc.rl.length yc⟩ := ⟨_, rfl⟩
      rw [← hQ] at hsl hc HQ1 HTK
      have HSL := Lib.hid hsl
      have HCQ : Hid (wo.rangeAt g (off + j * 16) (enPt Q)) := Lib.hid hc
      have HZ := Lib.hid (Blk.new wo (enPt ptZ) 80)
      have HZK := Lib.hid ((Kp.refl none' wo).alloc (.cells (enPt ptZ).toArray 80))
      have hwz := HC.out.sz
      clear hqq hmem hq2 hone hc hQ hsl
      go_wp2_with (first
        | (refine wpList_load_mid rfl 80 (.tmp 18) rfl g (off + j * 16) rfl (enPt Q) _ HCQ.out Tryz.underlying80 rfl infoPt36 ?_)
        | (refine wp_st_blk rfl 80 (.tmp 5) (.tmp 19) rfl HZ.out (enPt Q) rfl rfl rfl infoPt36 HQ1.out ?_; intro W4 hb4 hk4; have HB4 := Lib.hid hb4; have HK4 : Hid (Kp none' wo W4) := Lib.hid (HZK.out.then hk4 (fun i h1 h2 => by omega)); have HC4 := Lib.hid (HC.out.kpo HK4.out (fun _ e => e.elim)); have HO4 := Lib.hid (own_kp HO.out HK4.out (fun _ _ e => e)); have c0 := HC4.out.c.cell 0 rfl; have z0 := HC4.out.c.fz 0; have h44 := HK4.out.size; clear hb4 hk4 HZ HZK HCQ HC HO HK4)
        | (refine wpList_load_mid rfl 80 (.tmp 5) rfl wo.heap.size 0 rfl (enPt Q) _ HB4.out.range Tryz.underlying80 rfl infoPt36 ?_)
        | (refine wpList_bs rfl (.tmp 22) rfl (HSL.out _) rfl ?_)
        | (at_builtin; refine wp_app1 tPts (.tmp 21) (.tmp 23) rfl rfl (w.heap.size + 3) (HO4.out.alloc (.cells (enPt Q).toArray 79)) (enPt Q) rfl rfl rfl (heap_new _ _) HQ1.out (by omega) (by omega) (by simp; omega) ?_))
      intro g3 cap3 w3 hown3 hgrow3
      have k3 : Kp (fun b => (Value.slice vo j vc).ownBlock = some b) _ w3 := (Kp.refl _ _).grown hgrow3 (fun b e => .inl e)
      have hc5 := (HC4.out.kpo ((Kp.refl none' W4).alloc (.cells (enPt Q).toArray 79)) (fun _ e => e.elim)).kpo k3 (fun x e => (own_block HO4.out e).1)
      have HC6 := Lib.hid (hc5.set0 (.slice (some ⟨g3, 0, none⟩) (j + 1) cap3))
      have HO6 : Hid ((w3.setCell ⟨w.heap.size + 2, 0, none⟩ (.slice (some ⟨g3, 0, none⟩) (j + 1) cap3)).ownsRow (w.heap.size + 3) 79 16 (.slice (some ⟨g3, 0, none⟩) (j + 1) cap3) (j + 1) ((ps.take (j + 1)).flatMap enPt)) := Lib.hid (by
        rw [HTK.out, List.flatMap_append]
        have e : [Q].flatMap enPt = enPt Q := by simp
        rw [e]
        exact own_kp hown3 (kp_at _ _ _ _) (fun b e1 e2 => by have := (own_block hown3 e1).1; have e3 : b = w.heap.size + 2 := e2; omega))
      have s0 := hc5.c.cell 0 rfl
      have y0 := hc5.c.fz 0
      clear hown3 hgrow3 k3 hc5 HC4 HO4 HB4 HTK c0 z0
      go_wp2_with fail
      go_roundw
      case rel => exact ⟨j + 1, _, by go_num, by omega, HC6, HO6⟩
      case measure => simp [intOf]; omega
    · have hjn : j = ps.length := by omega
      subst hjn
      have hji : ¬ (ps.length : Int) < ps.length := by omega
      have HP1 : Hid (wo.ownsRow (w.heap.size + 3) 79 16 (.slice vo ps.length vc) ps.length (ps.flatMap enPt)) := Lib.hid (by have := HO.out; rw [List.take_length] at this; exact this)
      have a1 := HC.out.a.cell 1 rfl
      have HO2 : Hid (wo.ownsRow (w.heap.size + 3) 178 3 (.slice none 0 0) 0 ((rts.take 0).flatMap enRt)) := Lib.hid ⟨rfl, .inl ⟨rfl, rfl⟩⟩
      have HD0 : Hid (∀ b, (Value.slice vo ps.length vc).ownBlock = some b → (Value.slice none 0 0).ownBlock ≠ some b) := Lib.hid (fun b _ e => by cases e)
      clear HO HPV HM
      go_wp2_with fail
      clear a1
      go_loopw [30] (fun i0 wr => ∃ (k : Nat) (v2 : Value), i0 = .int .i64 k ∧ k ≤ rts.length ∧ Hid (CvI w wr [.slice ap ps.length cp, .slice ar rts.length cr, .int .i64 room, .int .i64 batch] room batch (.slice vo ps.length vc) v2) ∧ Hid (wr.ownsRow (w.heap.size + 3) 79 16 (.slice vo ps.length vc) ps.length (ps.flatMap enPt)) ∧ Hid (wr.ownsRow (w.heap.size + 3) 178 3 v2 k ((rts.take k).flatMap enRt)) ∧ Hid (∀ b, (Value.slice vo ps.length vc).ownBlock = some b → v2.ownBlock ≠ some b)) (fun i0 _ => rts.length - (intOf i0).toNat)
      case atStart => exact ⟨0, _, rfl, Nat.zero_le _, HC, HP1, HO2, HD0⟩
      case round =>
        clear HC HP1 HO2 HD0
        obtain ⟨k, v2, rfl, hk, HC, HPR, HO, HDI⟩ := hrel
        obtain ⟨wp, hwp⟩ : ∃ wp : World, wp = wr := ⟨_, rfl⟩
        subst hwp
        obtain ⟨xo, xc, rfl⟩ := own_shape HO.out
        by_cases hlt2 : k < rts.length
        · obtain ⟨g, off, cap', e1, hc⟩ := (HRV.out.old HC.out.kp).at enRt_len (by decide) k hlt2
          injection e1 with e1 _ e3
          subst e1 e3
          have hki : (k : Int) < rts.length := by omega
          obtain ⟨r, hrr⟩ : ∃ r, rts[k] = r := ⟨_, rfl⟩
          have HTK : Hid (rts.take (k + 1) = rts.take k ++ [r]) := Lib.hid (by rw [List.take_succ_eq_append_getElem hlt2, hrr])
          rw [hrr] at hc
          obtain ⟨⟨ra, rb⟩, rx⟩ := r
          have c0 : wp.cell? ⟨g, off + k * 3, none⟩ = some (.int .u32 ra) := hc 0 _ rfl
          have c1 : wp.cell? ⟨g, off + k * 3 + 1, none⟩ = some (.int .i64 rb) := hc 1 _ rfl
          have c2 : wp.cell? ⟨g, off + k * 3 + 2, none⟩ = some (.int .i64 rx) := hc 2 _ rfl
          have hrs := rtSlice ra rb rx
          clear hrr hc
          go_upto_region 10 with fail
          have ka4 : Kp none' wp (wp.alloc (.cells #[.int .u32 ra, .int .i64 rb, .int .i64 rx] 104)) := (Kp.refl none' wp).alloc _
          have hb4 := Blk.new wp [.int .u32 ra, .int .i64 rb, .int .i64 rx] 104
          have HC4 := Lib.hid (HC.out.kpo ka4 (fun _ e => e.elim))
          have HPR4 := Lib.hid (own_kp HPR.out ka4 (fun _ _ e => e))
          have HO4 := Lib.hid (own_kp HO.out ka4 (fun _ _ e => e))
          obtain ⟨W4, hW4⟩ : ∃ W4, wp.alloc (.cells #[.int .u32 ra, .int .i64 rb, .int .i64 rx] 104) = W4 := ⟨_, rfl⟩
          obtain ⟨rb4, hrb4⟩ : ∃ rb4, wp.heap.size = rb4 := ⟨_, rfl⟩
          have hb4' : Blk W4 rb4 [.int .u32 ra, .int .i64 rb, .int .i64 rx] 104 := by rw [← hW4, ← hrb4]; exact hb4
          rw [hW4] at HC4 HPR4 HO4 ⊢
          rw [hrb4]
          have b0 := hb4'.cell 0 rfl
          have b1 := hb4'.cell 1 rfl
          have b2 := hb4'.cell 2 rfl
          have d1 := HC4.out.c.cell 1 rfl
          have hwz := HC4.out.sz
          clear ka4 hb4 hW4 hrb4 hb4' HC HPR HO c0 c1 c2
          go_wp2_with (at_builtin; refine wp_app1_at tRts (.tmp 35) (.tmp 37) rfl rfl (w.heap.size + 3) (HO4.out.alloc (.cells #[.int .u32 ra, .int .i64 rb, .int .i64 rx] 178)) [.int .u32 ra, .int .i64 rb, .int .i64 rx] rfl rfl rfl (heap_new _ _) rfl (by omega) (by omega) (by simp; omega) ?_)
          intro g3 cap3 w3 hown3 hgrow3 hgg
          have k3 : Kp (fun b => (Value.slice xo k xc).ownBlock = some b) _ w3 := (Kp.refl _ _).grown hgrow3 (fun b e => .inl e)
          have ka : Kp none' W4 (W4.alloc (.cells #[.int .u32 ra, .int .i64 rb, .int .i64 rx] 178)) := (Kp.refl none' W4).alloc _
          have hc5 := (HC4.out.kpo ka (fun _ e => e.elim)).kpo k3 (fun x e => (own_block HO4.out e).1)
          have hpr5 := own_kp (own_kp HPR4.out ka (fun _ _ e => e)) k3 (fun b e e2 => HDI.out b e e2)
          have HC6 := Lib.hid (hc5.set1 (.slice (some ⟨g3, 0, none⟩) (k + 1) cap3))
          have HPR6 := Lib.hid (own_kp hpr5 (kp_at w3 (w.heap.size + 2) 1 (.slice (some ⟨g3, 0, none⟩) (k + 1) cap3)) (fun b e1 e2 => by have := (own_block hpr5 e1).1; have e3 : b = w.heap.size + 2 := e2; omega))
          have HDI6 : Hid (∀ b, (Value.slice vo ps.length vc).ownBlock = some b → (Value.slice (some ⟨g3, 0, none⟩) (k + 1) cap3).ownBlock ≠ some b) := Lib.hid fun b e e2 => by
            have e3 : g3 = b := by simpa [Value.ownBlock] using e2
            subst e3
            rcases hgg with e4 | e4
            · exact HDI.out _ e e4
            · have := (own_block HPR4.out e).2; omega
          have HO6 : Hid ((w3.setCell ⟨w.heap.size + 2, 1, none⟩ (.slice (some ⟨g3, 0, none⟩) (k + 1) cap3)).ownsRow (w.heap.size + 3) 178 3 (.slice (some ⟨g3, 0, none⟩) (k + 1) cap3) (k + 1) ((rts.take (k + 1)).flatMap enRt)) := Lib.hid (by
            rw [HTK.out, List.flatMap_append]
            have e : [(((ra, rb), rx) : Rt)].flatMap enRt = [.int .u32 ra, .int .i64 rb, .int .i64 rx] := by simp [enRt]
            rw [e]
            exact own_kp hown3 (kp_at _ _ _ _) (fun b e1 e2 => by have := (own_block hown3 e1).1; have e3 : b = w.heap.size + 2 := e2; omega))
          have s1 := hc5.c.cell 1 rfl
          have y1 := hc5.c.fz 1
          clear hown3 hgrow3 k3 hc5 HC4 HO4 HTK b0 b1 b2 d1 ka hpr5 HPR4 HDI hgg hrs
          go_wp2_with fail
          go_roundw
          case rel => exact ⟨k + 1, _, by go_num, by omega, HC6, HPR6, HO6, HDI6⟩
          case measure => simp [intOf]; omega
        · have hkn : k = rts.length := by omega
          subst hkn
          have hki : ¬ (rts.length : Int) < rts.length := by omega
          have c0 := HC.out.c.cell 0 rfl
          have c1 := HC.out.c.cell 1 rfl
          have c2 := HC.out.c.cell 2 rfl
          have c3 := HC.out.c.cell 3 rfl
          have hw3 := HC.out.sz
          go_wp2_with (refine wp_st_blk rfl 113 (.tmp 2) (.tmp 41) rfl HC.out.b [.slice vo ps.length vc, .slice xo rts.length xc, .int .i64 room, .int .i64 batch] rfl rfl rfl infoDc rfl ?_
                       intro W5 hb5 hk5)
          refine ret_blk (by exact rfl) hb5 _ Tryz.underlying113 rfl infoDc (by exact rfl) ?_
          refine HP.out _ _ ⟨_, _, rfl, own_sl (own_kp HPR.out hk5 (fun b e e2 => by have := (own_block HPR.out e).1; omega)), ?_, HC.out.kp.then hk5 (fun x hx e => by omega)⟩
          have hro := HO.out
          rw [List.take_length] at hro
          exact own_sl (own_kp hro hk5 (fun b e e2 => by have := (own_block hro e).1; omega))
end Go.Proofs.YtfckgddodjmbdaaGreatDoor
