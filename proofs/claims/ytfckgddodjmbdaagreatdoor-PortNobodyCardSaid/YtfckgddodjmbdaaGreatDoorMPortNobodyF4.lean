/- Heaps (layer 9): Len, New, Push. -/
import Derived.Test.YtfckgddodjmbdaaGreatDoorMPortNobodyF3
import Derived.BigQuiet
import Derived.Deep.QuietTactic
import Derived.Deep.RegionHeld3
import Derived.Deep.Cut
import Derived.Test.YtfckgddodjmbdaaGreatDoorMPortNobodyF1
namespace Go.Proofs.YtfckgddodjmbdaaGreatDoor
set_option linter.unusedVariables false
set_option linter.unusedSimpArgs false
open Go Go.RowKit Go.Shelf

/-- 'append(s, x)' as one step of a region that draws its order, and where the row lies then. -/
theorem step_app1_at {P : Program} {t e : TypeId} {z : Value} {size bytes : Nat} (T : SlT P t e z size bytes) {ops : Array Oper} {o : Oper} {a : Act} {w : World} {K : Act → World → Prop} {Q : Exit → Act → World → Prop} {E : Prop} (s x : Operand)
    (hgd : o.guard = none) (ho : o.op = .call { callee := .builtin .append, args := #[s, x], argTypes := #[t, t] }) (base : Nat) {v : Value} {n : Nat} {xs : List Value} (hown : w.ownsRow base e size v n xs)
    {b c : Nat} (news : List Value) (hs : a.eval s = v) (hx : a.eval x = .slice (some ⟨b, 0, none⟩) 1 c) (hl : news.length = size) {fr : Nat × Nat} (hblk : w.heap[b]? = some (.cells news.toArray e fr)) (h1 : news.all (·.oneCell') = true)
    (hbytes : (n + 1) * bytes ≤ 140737488355328) (h63 : n < 9223372036854775807) (hbase : base ≤ w.heap.size)
    (h : ∀ g cap w', w'.ownsRow base e size (.slice (some ⟨g, 0, none⟩) (n + 1) cap) (n + 1) (xs ++ news) → w.grownBy w' v.ownBlock → (v.ownBlock = some g ∨ g = w.heap.size) → K (a.put o.dst (.slice (some ⟨g, 0, none⟩) (n + 1) cap)) w') :
    if Region.wanted o (yielded ops a.tmps) = true then Oper.wp P o a w K Q else E := by
  have hw : Region.wanted o (yielded ops a.tmps) = true := by simp [Region.wanted, hgd]
  rw [if_pos hw]
  obtain ⟨i, hi, hz0, hz1, hz2⟩ := info_parts T.info
  obtain ⟨v', w', hr, hown', hg, hnil, hat⟩ := run_append_own_at (P := P) w base t o.type e i z size bytes T.ht hi hz0 hz1 hz2 T.hz T.pos v n xs hown ⟨b, 0, none⟩ 1 c news (by simpa using hl) (by
    intro j u hu
    have e : (⟨b, 0, none⟩ : Addr).add j = ⟨b, j, none⟩ := by unfold Addr.add; split <;> simp_all
    rw [e]; simp [World.cell?, hblk, hu]) (by simpa using h1) (by unfold maxLen; omega) hbytes hbase
  unfold Oper.wp execOp
  simp only [ho, resolve, invoke, builtin, Sem.run_bind, Sem.run_pure, Result.andThen_ok, List.map_toArray, List.map_cons, List.map_nil, hs, hx, hr]
  rcases hown'.2 with ⟨_, h0⟩ | ⟨g, cap, cur, rfl, _⟩
  · omega
  · exact h g cap w' hown' hg (by rcases hat with e | e; (exact .inl (e.symm.trans rfl)); exact .inr (by simpa [Value.ownBlock] using e))

/-- A heap in memory. -/
structure HMem (w : World) (B hb : Nat) (vc : Value) (came room : Nat) (l : List (En Pk)) : Prop where
  top : Blk w hb [vc, .int .u64 came, .int .i64 room] 281
  row : w.ownsRow B 355 5 vc l.length (l.flatMap enE)
/-- Its blocks. -/
def HF (hb : Nat) (vc : Value) : Nat → Prop := fun b => b = hb ∨ vc.ownBlock = some b
theorem HMem.kp {S : Nat → Prop} {w w' : World} {B hb : Nat} {vc : Value} {came room : Nat} {l : List (En Pk)} (h : HMem w B hb vc came room l) (k : Kp S w w') (hs : ∀ b, HF hb vc b → ¬ S b) : HMem w' B hb vc came room l :=
  ⟨h.top.kp k (hs _ (.inl rfl)), own_kp h.row k (fun b hb => hs b (.inr hb))⟩
theorem HMem.old {w w' : World} {B hb : Nat} {vc : Value} {came room : Nat} {l : List (En Pk)} (h : HMem w B hb vc came room l) (k : Kp none' w w') : HMem w' B hb vc came room l := h.kp k (fun _ _ x => x)
theorem HMem.lt {w : World} {B hb : Nat} {vc : Value} {came room : Nat} {l : List (En Pk)} (h : HMem w B hb vc came room l) {b : Nat} (hb : HF hb vc b) : b < w.heap.size := by
  rcases hb with rfl | hb
  · exact h.top.lt
  · exact (own_block h.row hb).2
set_option maxHeartbeats 400000 in
theorem hLen (w : World) (B hb : Nat) (vc : Value) (came room : Nat) (l : List (En Pk)) (h : HMem w B hb vc came room l) : Calls Tryz.prog 181 #[.pointer (some ⟨hb, 0, none⟩)] w fun e w' => e = .returned (.int .i64 l.length) ∧ w = w' := by
  have c := h.top.cell 0 rfl
  obtain ⟨ao, cap, rfl⟩ := own_shape h.row
  clear h
  go_enter Tryz.func181, Tryz.ntmps181
  go_wp2
  go_ret
  exact ⟨rfl, rfl⟩
set_option maxHeartbeats 400000 in
theorem hNew (room : Nat) (h1 : 1 ≤ room) (h2 : room ≤ 4096) (w : World) : Calls Tryz.prog 110 #[.int .i64 room] w fun e w' => ∃ hb, e = .returned (.tuple #[.pointer (some ⟨hb, 0, none⟩), .int .i64 0]) ∧ HMem w' w.heap.size hb (.slice none 0 0) 0 room [] ∧ w.heap.size ≤ hb ∧ Kp none' w w' := by
  have h1' : ¬ (room : Int) < 1 := by omega
  have h2' : ¬ (room : Int) > 4096 := by omega
  go_enter Tryz.func110, Tryz.ntmps110
  go_wp2
  go_ret2
  exact ⟨_, rfl, ⟨Blk.new _ _ _, rfl, .inl ⟨rfl, rfl⟩⟩, Nat.le_refl _, (Kp.refl _ _).alloc _⟩
def zPk : Pk := ⟨0, 0, 0⟩
def zEn : En Pk := ⟨0, 0, zPk⟩
def zvEn : Value := .agg #[.int .u64 0, .int .u64 0, .int .u32 0, .int .u32 0, .int .u64 0]
theorem tEn : SlT Tryz.prog 279 355 zvEn 5 32 := ⟨Tryz.underlying279, by kernel_rfl, rfl, by decide⟩
set_option maxRecDepth 100000 in
set_option maxHeartbeats 2000000 in
theorem hPush (w : World) (B hb : Nat) (vc : Value) (came room : Nat) (l : List (En Pk)) (h : HMem w B hb vc came room l) (hB : B ≤ w.heap.size) (hl : l.length < room) (hr : room ≤ 4096) (hc : came < 9223372036854775807) (hH : HeapOk zEn l) (r : Nat) (x : Pk) :
    Calls Tryz.prog 188 #[.pointer (some ⟨hb, 0, none⟩), .int .u64 r, .agg (enP x).toArray] w fun e w' => e = .returned (.bool true) ∧ ∃ vc' l', HMem w' B hb vc' (came + 1) room l' ∧ HeapOk zEn l' ∧ l'.Perm (l ++ [⟨r, came, x⟩]) ∧
      Kp (HF hb vc) w w' ∧ (vc'.ownBlock = vc.ownBlock ∨ ∃ g, vc'.ownBlock = some g ∧ w.heap.size ≤ g) := by
  obtain ⟨fl, id, ln⟩ := x
  obtain ⟨ao, cap, rfl⟩ := own_shape h.row
  have HM := Lib.hid h
  have c0 := h.top.cell 0 rfl
  have c1 := h.top.cell 1 rfl
  have c2 := h.top.cell 2 rfl
  have HU := Lib.hid (up_first (z := zEn) (⟨r, came, ⟨fl, id, ln⟩⟩ : En Pk) hH)
  have hbl := h.top.lt
  clear h hH
  generalize hN : l.length = n at *
  have hnr : ((n : Int) ≥ room) = False := by simp; omega
  show Calls Tryz.prog _ #[.pointer (some ⟨hb, 0, none⟩), .int .u64 r, .agg #[.int .u32 (fl : Int), .int .u32 (id : Int), .int .u64 (ln : Int)]] w _
  go_enter Tryz.func188, Tryz.ntmps188
  go_wp2
  go_quiet (fail)
  go_wp2_with fail
  have HK1 := Lib.hid (((Kp.refl none' w).alloc (.cells #[.int .u32 (fl : Int), .int .u32 (id : Int), .int .u64 (ln : Int)] 65)).drewN nq)
  have HX1 := Lib.hid ((Blk.new w [.int .u32 (fl : Int), .int .u32 (id : Int), .int .u64 (ln : Int)] 65).drewN nq)
  generalize (w.alloc (.cells #[.int .u32 (fl : Int), .int .u32 (id : Int), .int .u64 (ln : Int)] 65)).drewN nq = W1 at *
  have HM1 := Lib.hid (HM.out.old HK1.out)
  have hsz1 := HK1.out.size
  have d0 := HM1.out.top.cell 0 rfl
  have d1 := HM1.out.top.cell 1 rfl
  have x0 := HX1.out.cell 0 rfl
  have x1 := HX1.out.cell 1 rfl
  have x2 := HX1.out.cell 2 rfl
  have N1 : Hid (some hb ≠ (Value.slice ao n cap).ownBlock) := fun e => own_ne_blk HM1.out.row HM1.out.top (by decide) e.symm
  have N2 : Hid (some w.heap.size ≠ (Value.slice ao n cap).ownBlock) := fun e => own_ne_blk HM1.out.row HX1.out (by decide) e.symm
  have HR1 : Hid (W1.ownsRow B 355 5 (.slice ao n cap) n (l.flatMap enE)) := by have := HM1.out.row; rw [hN] at this; exact this
  have N3 : Hid (w.heap.size ≠ hb) := by show _ ≠ _; omega
  have hbl1 : hb < W1.heap.size := by omega
  have hxl1 : w.heap.size < W1.heap.size := HX1.out.lt
  clear c0 c1 c2
  go_cut [] from 21 (fun wc => ∃ g cap2, Hid (Blk wc hb [.slice (some ⟨g, 0, none⟩) (n + 1) cap2, .int .u64 came, .int .i64 room] 281) ∧ Hid (wc.ownsRow B 355 5 (.slice (some ⟨g, 0, none⟩) (n + 1) cap2) (n + 1) ((l ++ [(⟨r, came, ⟨fl, id, ln⟩⟩ : En Pk)]).flatMap enE)) ∧ Hid (Kp (HF hb (.slice ao n cap)) w wc) ∧ Hid ((Value.slice ao n cap).ownBlock = some g ∨ w.heap.size ≤ g))
  case first =>
    go_region_law ((refine step_app1_at tEn (.tmp 25) (.tmp 33) rfl rfl B (v := .slice ao n cap) ((HR1.out.alloc _).drew) (enE ⟨r, came, ⟨fl, id, ln⟩⟩) rfl rfl rfl (fr := (0, 0)) (heap_new2 _ _ _ (by simp)) rfl (by omega) (by omega) (by simp; omega) ?_); intro g3 cap3 w3 hown hgrow hat; have HT3 := ((HM1.out.top.alloc (.cells #[.int .u64 (r : Int), .int .u64 (came : Int), .int .u32 (fl : Int), .int .u32 (id : Int), .int .u64 (ln : Int)] 355)).drew).grown hgrow N1.out; have fz3 := HT3.fz 0; have e30 := HT3.cell 0 rfl)
    all_goals
      have HO4 := own_setNe hown (a := ⟨hb, 0, none⟩) (fun b hbb e => own_ne_blk hown HT3 (by decide) (by rw [hbb, e])) (.slice (some ⟨g3, 0, none⟩) (n + 1) cap3)
      have HB4 := HT3.set 0 (.slice (some ⟨g3, 0, none⟩) (n + 1) cap3)
      have HK4 : Kp (HF hb (.slice ao n cap)) w (w3.setCell ⟨hb, 0, none⟩ (.slice (some ⟨g3, 0, none⟩) (n + 1) cap3)) := ((((HK1.out.mono (fun _ _ x => x.elim)).alloc _).drew).grown hgrow (fun k e => .inl (.inr e))).set (.inl (.inl rfl)) _
      have HG4 : (Value.slice ao n cap).ownBlock = some g3 ∨ w.heap.size ≤ g3 := hat.imp_right (fun e => by rw [e]; simp; omega)
      go_wp2_with fail
      go_meet
      case rel => exact ⟨g3, cap3, Lib.hid HB4, Lib.hid (by show World.ownsRow _ _ _ _ _ _ _; rw [List.flatMap_append]; simpa using HO4), Lib.hid HK4, Lib.hid HG4⟩
  case rest =>
    obtain ⟨g, cap2, HB, HO, HK, HG⟩ := hcut
    have b0 := HB.out.cell 0 rfl
    have b1 := HB.out.cell 1 rfl
    have fz := HB.out.fz 1
    have HW : IntKind.u64.wrap ((came : Int) + 1) = (came : Int) + 1 := by rw [IntKind.wrap_u64]; omega
    have HB5 := Lib.hid (HB.out.set 1 (.int .u64 ((came : Int) + 1)))
    have HO5 := Lib.hid (own_setNe HO.out (a := ⟨hb, 1, none⟩) (fun b hbb e => own_ne_blk HO.out HB.out (by decide) (by rw [hbb, e])) (.int .u64 ((came : Int) + 1)))
    have HK5 : Hid (Kp (HF hb (.slice ao n cap)) w (wc.setCell ⟨hb, 1, none⟩ (.int .u64 ((came : Int) + 1)))) := Lib.hid (HK.out.set (.inl (.inl rfl)) _)
    go_wp2_with fail
    refine (hUp zEn (n := n + 1) (l ++ [(⟨r, came, ⟨fl, id, ln⟩⟩ : En Pk)]) (by simp [hN]) (by omega) n HU.out (by omega) _ HB5.out HO5.out).mono ?_
    rintro e w6 ⟨rfl, l', h1, h2, h3, h4⟩
    have hne : hb ≠ g := fun e => own_ne_blk HO.out HB.out (by decide) (by rw [e]; rfl)
    have HB6 := Lib.hid (HB5.out.kp h4 (fun e => hne e))
    have HH6 := Lib.hid h1
    have HP6 := Lib.hid h2
    have HO6 := Lib.hid h3
    have HK6 : Hid (Kp (HF hb (.slice ao n cap)) w w6) := Lib.hid (HK5.out.then h4 (fun b hb2 hg => by
      subst hg
      rcases HG.out with e | e
      · exact .inr e
      · omega))
    clear h1 h2 h3 h4 b0 b1 fz
    go_wp2_with fail
    go_ret
    have hl' : l'.length = n + 1 := by rw [HP6.out.length_eq]; simp [hN]
    refine ⟨rfl, _, l', ⟨by have := HB6.out; simpa using this, by rw [hl']; exact HO6.out⟩, HH6.out, HP6.out, HK6.out, ?_⟩
    rcases HG.out with e | e
    · exact .inl e.symm
    · exact .inr ⟨g, rfl, e⟩
end Go.Proofs.YtfckgddodjmbdaaGreatDoor

namespace Go.Proofs.YtfckgddodjmbdaaGreatDoor
set_option linter.unusedVariables false
set_option linter.unusedSimpArgs false
open Go Go.RowKit Go.Shelf

theorem infoPk : (Tryz.prog.info? 65).map (·.size) = some 3 := by kernel_rfl
/-- A result in a variable of three cells between two others. -/
theorem ret_mid {P : Program} {f : Func} {s u1 u2 : Tmp} {ty : TypeId} (hf : f.results = #[.tmp u1, .cell s ty, .tmp u2]) {R : Ending → World → Prop} {W : World} {g : Nat} {cs : List Value} {t : TypeId} {T : Array Value} (hb : Blk W g cs t) (d : TypeDesc) (hu : P.underlying ty = some d) (hd : (match d with | .struct _ | .array _ _ => true | _ => false) = true)
    (hi : (P.info? ty).map (·.size) = some cs.length) (h2 : T.getD s undef = .pointer (some ⟨g, 0, none⟩)) (hR : R (.returned (.tuple #[T.getD u1 undef, .agg cs.toArray, T.getD u2 undef])) W) : bodyPost P f R Exit.ret { tmps := T, defers := [] } W := by
  refine bodyPost_ret (v := .tuple #[T.getD u1 undef, .agg cs.toArray, T.getD u2 undef]) ?_ rfl hR
  have h2' : T[s]?.getD undef = .pointer (some ⟨g, 0, none⟩) := by simpa using h2
  simp [results, hf, h2', asAddr, run_loadVar_row W g t ty cs.toArray (0, 0) d hb.is hu hd (by rw [List.size_toArray]; exact hi)]
set_option maxRecDepth 100000 in
set_option maxHeartbeats 2000000 in
theorem hPeekNone (w : World) (B hb : Nat) (vc : Value) (came room : Nat) (h : HMem w B hb vc came room []) :
    Calls Tryz.prog 186 #[.pointer (some ⟨hb, 0, none⟩)] w fun e w' => e = .returned (.tuple #[.int .u64 0, .agg (enP zPk).toArray, .bool false]) ∧ Kp none' w w' := by
  have HL := Lib.hid (fun W (k : Kp none' w W) => hLen W B hb vc came room [] (h.old k))
  clear h
  show Calls _ _ _ _ fun e w' => e = .returned (.tuple #[.int .u64 0, .agg #[.int .u32 0, .int .u32 0, .int .u64 0], .bool false]) ∧ Kp none' w w'
  go_enter Tryz.func186, Tryz.ntmps186
  go_wp2_with fail
  refine (HL.out _ (((Kp.refl none' w).alloc _).alloc _)).mono ?_
  rintro e w2 ⟨rfl, rfl⟩
  go_wp2_with fail
  go_region
  all_goals
    go_wp2_with fail
    exact ret_mid (by exact rfl) (((Blk.new w [.int .u32 0, .int .u32 0, .int .u64 0] 65).alloc _).drew) _ Tryz.underlying65 rfl infoPk (by exact rfl) ⟨rfl, (((Kp.refl none' w).alloc _).alloc _).drew⟩
set_option maxRecDepth 100000 in
set_option maxHeartbeats 2000000 in
theorem hPeekSome (w : World) (B hb : Nat) (vc : Value) (came room : Nat) (l : List (En Pk)) (h : HMem w B hb vc came room l) (h0 : 0 < l.length) (h1 : l.length ≤ 100000) :
    Calls Tryz.prog 186 #[.pointer (some ⟨hb, 0, none⟩)] w fun e w' => e = .returned (.tuple #[.int .u64 (atE zEn l 0).rank, .agg (enP (atE zEn l 0).x).toArray, .bool true]) ∧ Kp none' w w' := by
  have HL := Lib.hid (fun W (k : Kp none' w W) => hLen W B hb vc came room l (h.old k))
  obtain ⟨g, cap, rfl, hg⟩ := own_shape1 h.row h0
  rw [atE_get h0]
  have hce : ∀ k u, (enE l[0])[k]? = some u → w.cell? ⟨g, k, none⟩ = some u := fun k u hu => by
    have := own_cell h.row (i := 0 * 5 + k) (u := u) (by
      rw [flat_get enE 5 enE_len _ _ _ (by have := (List.getElem?_eq_some_iff.1 hu).1; simpa [enE, enP] using this), List.getElem?_eq_getElem h0]; exact hu)
    simpa using this
  have c0 := h.top.cell 0 rfl
  have hbl := h.top.lt
  have hgl := (own_block h.row rfl).2
  generalize l[0] = e0 at *
  obtain ⟨r, cm, ⟨fl, id, ln⟩⟩ := e0
  have e0 := hce 0 _ rfl
  have e2 := hce 2 _ rfl
  have e3 := hce 3 _ rfl
  have e4 := hce 4 _ rfl
  have hn0 : ((l.length : Int) == 0) = false := by rw [beq_eq_false_iff_ne]; omega
  have hn1 : (0 : Int) < l.length := by omega
  clear h hce
  generalize l.length = n at *
  show Calls _ _ _ _ fun e w' => e = .returned (.tuple #[.int .u64 (r : Int), .agg #[.int .u32 (fl : Int), .int .u32 (id : Int), .int .u64 (ln : Int)], .bool true]) ∧ Kp none' w w'
  go_enter Tryz.func186, Tryz.ntmps186
  go_wp2_with fail
  refine (HL.out _ (((Kp.refl none' w).alloc _).alloc _)).mono ?_
  rintro e w2 ⟨rfl, rfl⟩
  go_wp2_with fail
  go_region
  all_goals
    go_wp2_with fail
    exact ret_mid (by exact rfl) (((Blk.new w [.int .u32 (fl : Int), .int .u32 (id : Int), .int .u64 (ln : Int)] 65).alloc _).drew) _ Tryz.underlying65 rfl infoPk (by exact rfl) ⟨rfl, (((Kp.refl none' w).alloc _).alloc _).drew⟩
/-- A row cut short. -/
theorem own_cutS {w : World} {base : Nat} {e : TypeId} {size n g cap : Nat} {xs : List Value} (h : w.ownsRow base e size (.slice (some ⟨g, 0, none⟩) n cap) n xs) (k : Nat) (hk : k ≤ n) : w.ownsRow base e size (.slice (some ⟨g, 0, none⟩) k cap) k (xs.take (k * size)) := by
  have hks : k * size ≤ n * size := Nat.mul_le_mul_right _ hk
  refine ⟨by rw [List.length_take, h.1]; omega, ?_⟩
  rcases h.2 with ⟨h, _⟩ | ⟨g', cap', cur, hv, hg, hh, h1, h2, h3, h4⟩
  · cases h
  · cases hv
    refine .inr ⟨g, cap, cur, rfl, hg, hh, by omega, h2, h3, ?_⟩
    rw [← h4, List.take_take, Nat.min_eq_left hks]
theorem own_cap {w : World} {base : Nat} {e : TypeId} {size n g cap : Nat} {xs : List Value} (h : w.ownsRow base e size (.slice (some ⟨g, 0, none⟩) n cap) n xs) : n ≤ cap ∧ cap ≤ maxLen := by
  rcases h.2 with ⟨h, _⟩ | ⟨g', cap', cur, hv, hg, hh, h1, h2, h3, h4⟩
  · cases h
  · cases hv; exact ⟨h1, h2⟩
theorem flat_take {α : Type} (enc : α → List Value) (size : Nat) (hl : ∀ a, (enc a).length = size) (l : List α) (k : Nat) (hk : k ≤ l.length) : (l.flatMap enc).take (k * size) = (l.take k).flatMap enc := by
  have e : l = l.take k ++ l.drop k := (List.take_append_drop k l).symm
  have hlen : ((l.take k).flatMap enc).length = k * size := by rw [flat_len enc size hl]; rw [List.length_take]; congr 1; omega
  conv => lhs; rw [e, List.flatMap_append]
  rw [← hlen, List.take_left']
  rfl
set_option maxRecDepth 100000 in
set_option maxHeartbeats 2000000 in
theorem hPop (w : World) (B hb : Nat) (vc : Value) (came room : Nat) (l : List (En Pk)) (h : HMem w B hb vc came room l) (h0 : 0 < l.length) (h1 : l.length ≤ 100000) (hH : HeapOk zEn l) :
    Calls Tryz.prog 187 #[.pointer (some ⟨hb, 0, none⟩)] w fun e w' => e = .returned (.tuple #[.int .u64 (atE zEn l 0).rank, .agg (enP (atE zEn l 0).x).toArray, .bool true]) ∧
      ∃ vc' l', HMem w' B hb vc' came room l' ∧ HeapOk zEn l' ∧ (atE zEn l 0 :: l').Perm l ∧ Kp (HF hb vc) w w' ∧ vc'.ownBlock = vc.ownBlock := by
  have HP := Lib.hid (fun W (k : Kp none' w W) => hPeekSome W B hb vc came room l (h.old k) h0 h1)
  obtain ⟨g, cap, rfl, hg⟩ := own_shape1 h.row h0
  obtain ⟨n, hn⟩ : ∃ n, l.length = n := ⟨_, rfl⟩
  rw [hn] at h0 h1
  obtain ⟨q, hq⟩ : ∃ q, n - 1 = q := ⟨_, rfl⟩
  have hqi : (n : Int) - 1 = (q : Int) := by omega
  have hcap := own_cap h.row
  rw [hn] at hcap
  have hqc : (q : Int) ≤ cap := by omega
  have hqn : (q : Int) < n := by omega
  have hn1 : (0 : Int) < n := by omega
  have hne : g ≠ hb := fun e => own_ne_blk h.row h.top (by decide) (by rw [e]; rfl)
  have HM := Lib.hid h
  have HN := Lib.hid hn
  have HH := Lib.hid hH
  clear h hH hcap
  rw [hn] at HM
  obtain ⟨e0, he0⟩ : ∃ e0, atE zEn l 0 = e0 := ⟨_, rfl⟩
  rw [he0] at HP
  rw [he0]
  have HE0 := Lib.hid he0
  clear he0
  obtain ⟨r, cm, ⟨fl, id, ln⟩⟩ := e0
  go_enter Tryz.func187, Tryz.ntmps187
  go_wp2_with fail
  refine (HP.out _ ((Kp.refl none' w).alloc _)).mono ?_
  rintro e w2 ⟨rfl, hk2⟩
  have HX2 := Lib.hid ((Blk.new w [.int .u32 0, .int .u32 0, .int .u64 0] 65).kp hk2 (fun x => x))
  have HK2 := Lib.hid (((Kp.refl none' w).alloc (.cells #[.int .u32 0, .int .u32 0, .int .u64 0] 65)).trans hk2)
  have HM2 := Lib.hid (HM.out.old HK2.out)
  have hsz2 : w.heap.size < w2.heap.size := HX2.out.lt
  have c2 := HM2.out.top.cell 0 rfl
  have hbl2 := HM2.out.top.lt
  clear hk2
  simp only [enP]
  go_wp2_with fail
  have HK3 := Lib.hid (HK2.out.alloc (.cells #[.int .u32 (fl : Int), .int .u32 (id : Int), .int .u64 (ln : Int)] 65))
  have HM3 := Lib.hid (HM2.out.old ((Kp.refl none' w2).alloc (.cells #[.int .u32 (fl : Int), .int .u32 (id : Int), .int .u64 (ln : Int)] 65)))
  have HX3 := Lib.hid (HX2.out.alloc (.cells #[.int .u32 (fl : Int), .int .u32 (id : Int), .int .u64 (ln : Int)] 65))
  have HY3 := Lib.hid (Blk.new w2 [.int .u32 (fl : Int), .int .u32 (id : Int), .int .u64 (ln : Int)] 65)
  obtain ⟨y, hy⟩ : ∃ y, w2.heap.size = y := ⟨_, rfl⟩
  rw [hy] at HY3 hsz2 ⊢
  have hyw : w.heap.size < y := hsz2
  generalize w2.alloc (.cells #[.int .u32 (fl : Int), .int .u32 (id : Int), .int .u64 (ln : Int)] 65) = W3 at *
  have HRow3 : Hid (W3.ownsRow B 355 5 (.slice (some ⟨g, 0, none⟩) n cap) n (l.flatMap enE)) := by have := HM3.out.row; rw [HN.out] at this; exact this
  clear c2 hbl2
  have c3 := HM3.out.top.cell 0 rfl
  have L1 := Lib.hid (ent_load HRow3.out q (by omega))
  refine wp_region_kept2 [] [0, 1, 2, 3, 4, 5, 6, 7, 8, 9, 10] 11 (by kernel_rfl) (by kernel_rfl) (fun c a d u w h => by cases d <;> exact h) ?_
  simp only [pick, List.getElem?_cons_succ, List.getElem?_cons_zero, List.drop_succ_cons, List.drop_zero]
  show wpKL _ _ _ _ _ _
  repeat (first
    | (refine wpKL_op (by exact rfl) (load_at rfl rfl L1.out) ?_; simp only [Act.put, List.setIfInBounds_toArray, List.set_cons_succ, List.set_cons_zero])
    | (refine wpKL_op (by exact rfl) (by as_aux_lemma => intro W hK; have e0 := hK.cell c3 (fun x => x); go_simp; exact rfl) ?_; simp only [Act.put, List.setIfInBounds_toArray, List.set_cons_succ, List.set_cons_zero])
    | (refine wpKL_off (by exact rfl) ?_; simp only [Act.put, List.setIfInBounds_toArray, List.set_cons_succ, List.set_cons_zero]))
  show ∀ W, _ → wpList _ _ _ _ _ _
  intro W4 hK4
  have HO4 := Lib.hid (own_kp HRow3.out hK4 (fun _ _ x => x))
  have HB4 := Lib.hid (HM3.out.top.kp hK4 (fun x => x))
  have HX4 := Lib.hid (HX3.out.kp hK4 (fun x => x))
  have HY4 := Lib.hid (HY3.out.kp hK4 (fun x => x))
  have HK4 : Hid (Kp none' w W4) := Lib.hid (HK3.out.trans hK4)
  clear hK4 c3
  obtain ⟨a, ha⟩ : ∃ a, l[q]'(by omega) = a := ⟨_, rfl⟩
  rw [ha]
  have HA := Lib.hid ha
  clear ha
  go_wp2_with (first
    | (refine wp_set_ent rfl 355 (.tmp 33) (.tmp 32) rfl enE 5 enE_len l HO4.out 0 (by omega) a rfl rfl rfl (infoEn a) rfl ?_
       intro W5 ho5 hk5
       have HO5 := Lib.hid ho5
       have HB5 := Lib.hid (HB4.out.kp hk5 (fun e => hne e.symm))
       have HX5 := Lib.hid (HX4.out.kp hk5 (fun e => own_ne_blk HO4.out HX4.out (by decide) (by rw [e]; rfl)))
       have HY5 := Lib.hid (HY4.out.kp hk5 (fun e => own_ne_blk HO4.out HY4.out (by decide) (by rw [e]; rfl)))
       have HK5 : Hid (Kp (fun b => b = g) w W5) := Lib.hid ((HK4.out.mono (fun _ _ x => x.elim)).trans hk5)
       have c5 := HB5.out.cell 0 rfl
       clear ho5 hk5)
    | (refine wp_set_ent rfl 355 (.tmp 40) (.tmp 39) rfl enE 5 enE_len (l.set 0 a) HO5.out q (by rw [List.length_set]; omega) zEn rfl rfl rfl (infoEn zEn) rfl ?_
       intro W6 ho6 hk6
       have HO6 := Lib.hid ho6
       have HB6 := Lib.hid (HB5.out.kp hk6 (fun e => hne e.symm))
       have HX6 := Lib.hid (HX5.out.kp hk6 (fun e => own_ne_blk HO5.out HX5.out (by decide) (by rw [e]; rfl)))
       have HY6 := Lib.hid (HY5.out.kp hk6 (fun e => own_ne_blk HO5.out HY5.out (by decide) (by rw [e]; rfl)))
       have HK6 : Hid (Kp (fun b => b = g) w W6) := Lib.hid (HK5.out.trans hk6)
       have c6 := HB6.out.cell 0 rfl
       have fz6 := HB6.out.fz 0
       clear ho6 hk6 c5))
  have HD : Hid (DownOk zEn ((l.set 0 a).take q) 0 ∧ ((⟨r, cm, ⟨fl, id, ln⟩⟩ : En Pk) :: (l.set 0 a).take q).Perm l) := by
    show _ ∧ _
    by_cases hn2 : 1 < l.length
    · have hd := down_first HH.out hn2
      have e1 : atE zEn l (l.length - 1) = a := by
        have e2 : l.length - 1 = q := by omega
        rw [e2, atE_get (by omega)]; exact HA.out
      rw [e1, HE0.out] at hd
      have e2 : l.length - 1 = q := by omega
      rw [e2] at hd
      exact hd
    · have hq0 : q = 0 := by omega
      subst hq0
      rw [List.take_zero]
      refine ⟨⟨fun j hj => by simp at hj, fun j hj => by simp at hj⟩, ?_⟩
      obtain ⟨b, hb1⟩ := List.length_eq_one_iff.1 (show l.length = 1 by omega)
      have h3 := HE0.out
      rw [hb1] at h3 ⊢
      have h4 : b = _ := h3
      rw [h4]
  have HS : Hid (((l.set 0 a).set q zEn).take q = (l.set 0 a).take q) := by
    show _ = _
    apply List.ext_getElem?
    intro j
    by_cases hj : j < q
    · rw [List.getElem?_take_of_lt hj, List.getElem?_take_of_lt hj, List.getElem?_set_ne (by omega)]
    · rw [List.getElem?_eq_none (by rw [List.length_take]; omega), List.getElem?_eq_none (by rw [List.length_take]; omega)]
  have HO7 : Hid ((W6.setCell ⟨hb, 0, none⟩ (.slice (some ⟨g, 0, none⟩) q cap)).ownsRow B 355 5 (.slice (some ⟨g, 0, none⟩) q cap) q (((l.set 0 a).take q).flatMap enE)) := by
    show World.ownsRow _ _ _ _ _ _ _
    have h2 := own_cutS HO6.out q (by omega)
    rw [flat_take enE 5 enE_len _ _ (by simp; omega), HS.out] at h2
    exact own_setNe h2 (fun b hbb e => by cases hbb; exact hne e) _
  have HB7 := Lib.hid (HB6.out.set 0 (.slice (some ⟨g, 0, none⟩) q cap))
  have HX7 := Lib.hid (HX6.out.setNe (a := ⟨hb, 0, none⟩) (blk_ne HX6.out HB6.out (by decide)) (.slice (some ⟨g, 0, none⟩) q cap))
  have HY7 := Lib.hid (HY6.out.setNe (a := ⟨hb, 0, none⟩) (blk_ne HY6.out HB6.out (by decide)) (.slice (some ⟨g, 0, none⟩) q cap))
  have HK7 : Hid (Kp (HF hb (.slice (some ⟨g, 0, none⟩) n cap)) w (W6.setCell ⟨hb, 0, none⟩ (.slice (some ⟨g, 0, none⟩) q cap))) := Lib.hid ((HK6.out.mono (fun b _ e => .inr (by rw [e]; rfl))).set (.inl (.inl rfl)) _)
  have hlt : ((l.set 0 a).take q).length = q := by rw [List.length_take, List.length_set]; omega
  refine (hDown zEn (n := q) _ hlt (by omega) 0 HD.out.1 (by omega) _ HB7.out HO7.out).mono ?_
  rintro e w8 ⟨rfl, l', g1, g2, g3, g4⟩
  have HB8 := Lib.hid (HB7.out.kp g4 (fun e => hne e.symm))
  have HX8 := Lib.hid (HX7.out.kp g4 (fun e => own_ne_blk HO7.out HX7.out (by decide) (by rw [e]; rfl)))
  have HY8 := Lib.hid (HY7.out.kp g4 (fun e => own_ne_blk HO7.out HY7.out (by decide) (by rw [e]; rfl)))
  have HK8 : Hid (Kp (HF hb (.slice (some ⟨g, 0, none⟩) n cap)) w w8) := Lib.hid (HK7.out.trans (g4.mono (fun b _ e => .inr (by rw [e]; rfl))))
  have HH8 := Lib.hid g1
  have HP8 : Hid (((⟨r, cm, ⟨fl, id, ln⟩⟩ : En Pk) :: l').Perm l) := Lib.hid ((List.Perm.cons _ g2).trans HD.out.2)
  have HL8 : Hid (l'.length = q) := Lib.hid (by rw [g2.length_eq, hlt])
  have HO8 := Lib.hid g3
  have y0 := HY8.out.cell 0 rfl
  have y1 := HY8.out.cell 1 rfl
  have y2 := HY8.out.cell 2 rfl
  have x0 := HX8.out.cell 0 rfl
  have x1 := HX8.out.cell 1 rfl
  have x2 := HX8.out.cell 2 rfl
  have xf := fun j => HX8.out.fz j
  have hxy : w.heap.size ≠ y := by omega
  clear g1 g2 g3 g4 hlt c6 fz6
  go_wp2_with fail
  go_region
  all_goals
    go_wp2_with fail
    have hkp9 : Kp (fun b => b = w.heap.size) w8 (((w8.setCell ⟨w.heap.size, 0, none⟩ (.int .u32 (fl : Int))).setCell ⟨w.heap.size, 1, none⟩ (.int .u32 (id : Int))).setCell ⟨w.heap.size, 2, none⟩ (.int .u64 (ln : Int))).drew := ((((Kp.refl (fun b => b = w.heap.size) w8).set (p := ⟨w.heap.size, 0, none⟩) (.inl rfl) _).set (p := ⟨w.heap.size, 1, none⟩) (.inl rfl) _).set (p := ⟨w.heap.size, 2, none⟩) (.inl rfl) _).drew
    have hwg : g ≠ w.heap.size := fun e => own_ne_blk HO8.out HX8.out (by decide) (by rw [e]; rfl)
    refine ret_mid (by exact rfl) ((((HX8.out.set 0 (.int .u32 (fl : Int))).set 1 (.int .u32 (id : Int))).set 2 (.int .u64 (ln : Int))).drew) _ Tryz.underlying65 rfl infoPk (by exact rfl) ⟨rfl, .slice (some ⟨g, 0, none⟩) q cap, l', ⟨?_, ?_⟩, HH8.out, HP8.out, ?_, rfl⟩
    · exact HB8.out.kp hkp9 (blk_ne HB8.out HX8.out (by decide))
    · rw [HL8.out]; exact own_kp HO8.out hkp9 (fun b hb2 => by cases hb2; exact hwg)
    · exact HK8.out.then hkp9 (fun b hb2 e => by omega)
end Go.Proofs.YtfckgddodjmbdaaGreatDoor

namespace Go.Proofs.YtfckgddodjmbdaaGreatDoor
set_option linter.unusedVariables false
set_option linter.unusedSimpArgs false
open Go.RowKit
/-- What is F' was F, or is new since w. -/
def Nw (w : World) (F F' : Nat → Prop) : Prop := ∀ b, F' b → F b ∨ w.heap.size ≤ b
theorem Nw.refl (w : World) (F : Nat → Prop) : Nw w F F := fun _ h => .inl h
theorem Nw.trans {w w' : World} {F F' F'' : Nat → Prop} (h : Nw w F F') (h' : Nw w' F' F'') (hs : w.heap.size ≤ w'.heap.size) : Nw w F F'' := fun b hb => by
  rcases h' b hb with h1 | h1
  · exact h b h1
  · exact .inr (by omega)
theorem Nw.apart {w : World} {F F' G : Nat → Prop} (h : Nw w F F') (hG : ∀ b, G b → b < w.heap.size) (hd : ∀ b, G b → ¬ F b) : ∀ b, G b → ¬ F' b := fun b hg hf => by
  rcases h b hf with h1 | h1
  · exact hd b hg h1
  · have := hG b hg; omega
theorem Kp.steps {w w1 w2 : World} {F F' : Nat → Prop} (k : Kp F w w1) (hn : Nw w F F') (k' : Kp F' w1 w2) : Kp F w w2 :=
  k.then k' (fun b hb hf => by
    rcases hn b hf with h | h
    · exact h
    · omega)
theorem own_grownF {w w1 : World} {base : Nat} {e : TypeId} {size n : Nat} {v : Value} {row : Option Nat} {xs : List Value} (h : w.ownsRow base e size v n xs) (hg : w.grownBy w1 row) (hne : ∀ b, v.ownBlock = some b → row ≠ some b) : w1.ownsRow base e size v n xs := by
  refine ⟨h.1, ?_⟩
  rcases h.2 with ⟨rfl, rfl⟩ | ⟨g, cap, cur, rfl, hb, hh, r⟩
  · exact .inl ⟨rfl, rfl⟩
  · exact .inr ⟨g, cap, cur, rfl, hb, (hg.block g (Array.getElem?_eq_some_iff.1 hh).1 (fun e => hne g rfl e.symm)).trans hh, r⟩
end Go.Proofs.YtfckgddodjmbdaaGreatDoor

namespace Go.Proofs.YtfckgddodjmbdaaGreatDoor
set_option linter.unusedVariables false
set_option linter.unusedSimpArgs false
open Go Go.RowKit Go.Shelf

def Hp (w : World) (F : Nat → Prop) (hb room n : Nat) (S : List (En Pk)) : Prop := ∃ vc l, F = HF hb vc ∧ HMem w 0 hb vc n room l ∧ HpR zEn n l S ∧ S.length ≤ room ∧ room ≤ 4096
theorem Hp.kp {T : Nat → Prop} {w w' : World} {F : Nat → Prop} {hb room n : Nat} {S : List (En Pk)} (h : Hp w F hb room n S) (k : Kp T w w') (hT : ∀ b, F b → ¬ T b) : Hp w' F hb room n S := by
  obtain ⟨vc, l, rfl, hm, hr⟩ := h
  exact ⟨vc, l, rfl, hm.kp k hT, hr⟩
theorem Hp.old {w w' : World} {F : Nat → Prop} {hb room n : Nat} {S : List (En Pk)} (h : Hp w F hb room n S) (k : Kp none' w w') : Hp w' F hb room n S := h.kp k (fun _ _ x => x)
theorem Hp.lt {w : World} {F : Nat → Prop} {hb room n : Nat} {S : List (En Pk)} (h : Hp w F hb room n S) {b : Nat} (hF : F b) : b < w.heap.size := by
  obtain ⟨vc, l, rfl, hm, hr⟩ := h
  exact hm.lt hF
theorem hpNew (room : Nat) (h1 : 1 ≤ room) (h2 : room ≤ 4096) (w : World) : Calls Tryz.prog 110 #[.int .i64 room] w fun e w' => ∃ hb F, e = .returned (.tuple #[.pointer (some ⟨hb, 0, none⟩), .int .i64 0]) ∧ Hp w' F hb room 0 [] ∧ (∀ b, F b → w.heap.size ≤ b) ∧ Kp none' w w' := by
  refine (hNew room h1 h2 w).mono ?_
  rintro e w' ⟨hb, he, hm, hl, hk⟩
  refine ⟨hb, _, he, ⟨.slice none 0 0, [], rfl, ⟨hm.top, rfl, .inl ⟨rfl, rfl⟩⟩, HpR.nil _ _, Nat.zero_le _, h2⟩, fun b h => ?_, hk⟩
  rcases h with rfl | h
  · exact hl
  · simp [Value.ownBlock] at h
theorem hpPush {w : World} {F : Nat → Prop} {hb room n : Nat} {S : List (En Pk)} (h : Hp w F hb room n S) (hl : S.length < room) (hc : n < 9223372036854775807) (r fl id ln : Nat) :
    Calls Tryz.prog 188 #[.pointer (some ⟨hb, 0, none⟩), .int .u64 r, .agg #[.int .u32 fl, .int .u32 id, .int .u64 ln]] w fun e w' => e = .returned (.bool true) ∧ ∃ F', Hp w' F' hb room (n + 1) (insE S ⟨r, n, ⟨fl, id, ln⟩⟩) ∧ Kp F w w' ∧ Nw w F F' := by
  obtain ⟨vc, l, rfl, hm, hr, h3, h4⟩ := h
  refine (hPush w 0 hb vc n room l hm (Nat.zero_le _) (by rw [hr.len]; exact hl) h4 hc hr.heap r ⟨fl, id, ln⟩).mono ?_
  rintro e w' ⟨he, vc', l', hm', hh, hp, hk, ho⟩
  have hR := hr.push rfl hp hh
  refine ⟨he, HF hb vc', ⟨vc', l', rfl, hm', hR, ?_, h4⟩, hk, fun b hb' => ?_⟩
  · rw [(insE_perm _ S).length_eq, List.length_cons]; omega
  · rcases hb' with rfl | hb'
    · exact .inl (.inl rfl)
    · rcases ho with ho | ⟨g, hg, hgl⟩
      · exact .inl (.inr (by rw [← ho]; exact hb'))
      · rw [hg] at hb'; injection hb' with hb'; subst hb'; exact .inr hgl
def peekH (S : List (En Pk)) : En Pk × Bool := match S with | [] => (zEn, false) | s :: _ => (s, true)
theorem hpPeek {w : World} {F : Nat → Prop} {hb room n : Nat} {S : List (En Pk)} (h : Hp w F hb room n S) :
    Calls Tryz.prog 186 #[.pointer (some ⟨hb, 0, none⟩)] w fun e w' => e = .returned (.tuple #[.int .u64 (peekH S).1.rank, .agg (enP (peekH S).1.x).toArray, .bool (peekH S).2]) ∧ Kp none' w w' := by
  obtain ⟨vc, l, rfl, hm, hr, h3, h4⟩ := h
  cases S with
  | nil =>
    have hl : l = [] := List.eq_nil_of_length_eq_zero (by rw [hr.len]; rfl)
    subst hl
    exact hPeekNone w 0 hb vc n room hm
  | cons s T =>
    have h0 : 0 < l.length := by rw [hr.len, List.length_cons]; omega
    obtain ⟨T', hT⟩ := hr.head h0
    injection hT with h5 h6
    have := hPeekSome w 0 hb vc n room l hm h0 (by rw [hr.len]; omega)
    rw [← h5] at this
    exact this
theorem hpPop {w : World} {F : Nat → Prop} {hb room n : Nat} {s : En Pk} {T : List (En Pk)} (h : Hp w F hb room n (s :: T)) :
    Calls Tryz.prog 187 #[.pointer (some ⟨hb, 0, none⟩)] w fun e w' => e = .returned (.tuple #[.int .u64 s.rank, .agg (enP s.x).toArray, .bool true]) ∧ Hp w' F hb room n T ∧ Kp F w w' := by
  obtain ⟨vc, l, rfl, hm, hr, h3, h4⟩ := h
  have h0 : 0 < l.length := by rw [hr.len, List.length_cons]; omega
  obtain ⟨T', hT⟩ := hr.head h0
  have hT2 := hT
  injection hT with h5 h6
  subst h6
  refine (hPop w 0 hb vc n room l hm h0 (by rw [hr.len]; omega) hr.heap).mono ?_
  rintro e w' ⟨he, vc', l', hm', hh, hp, hk, ho⟩
  rw [← h5] at he
  refine ⟨he, ⟨vc', l', ?_, hm', hr.pop hT2 hp hh, by rw [List.length_cons] at h3; omega, h4⟩, hk⟩
  funext b; unfold HF; rw [ho]
end Go.Proofs.YtfckgddodjmbdaaGreatDoor
