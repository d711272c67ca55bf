/- Walk of layer 40: a reader reads a configuration's text and a state. -/
import Derived.Test.YtlaakhfgidjofaaGreatDoorMSnapNobodyF19
import Derived.Test.YtlaakhfgidjofaaGreatDoorMSnapNobodyF20
import Derived.Recover
import Derived.Laws.Pointers
import Derived.Deep.MidRow
import Derived.Deep.RegionHeld3
namespace Go.Proofs.YtlaakhfgidjofaaGreatDoor
set_option linter.unusedVariables false
set_option linter.unusedSimpArgs false
open Go Go.RowKit Go.Shelf
theorem setCell_same {W : World} {b : Nat} {cs : List Value} {t : TypeId} (h : Blk W b cs t) (o : Nat) {v : Value} (hv : cs[o]? = some v) : W.setCell ⟨b, o, none⟩ v = W := by
  have e : (W.setCell ⟨b, o, none⟩ v).heap = W.heap := by
    unfold World.setCell
    apply Array.ext (by simp)
    intro i h1 h2
    simp only [Array.getElem_modify]
    split
    · rename_i e
      subst e
      have hi := h.is
      rw [Array.getElem?_eq_getElem h2] at hi
      have hi := Option.some.inj hi
      rw [hi]
      show Obj.cells (cs.toArray.setIfInBounds o v) t (0, 0) = Obj.cells cs.toArray t (0, 0)
      congr 1
      apply Array.ext (by simp)
      intro j h3 h4
      simp only [List.getElem_toArray]
      by_cases hj : o = j
      · subst hj
        rw [Array.getElem_setIfInBounds_self]
        rw [List.getElem?_eq_getElem (by simpa using h4)] at hv
        exact (Option.some.inj hv).symm
      · rw [Array.getElem_setIfInBounds_ne _ hj]; rfl
    · rfl
  have e2 : W.setCell ⟨b, o, none⟩ v = { W with heap := (W.setCell ⟨b, o, none⟩ v).heap } := rfl
  rw [e2, e]
theorem setCells_same {b : Nat} {cs : List Value} {t : TypeId} : ∀ (vs : List Value) (o : Nat) {W : World}, Blk W b cs t → cs.drop o = vs → W.setCells b o vs = W
  | [], _, _, _, _ => rfl
  | v :: r, o, W, h, hd => by
    have hv : cs[o]? = some v := by
      have : (cs.drop o)[0]? = some v := by rw [hd]; rfl
      simpa using this
    show (W.setCell ⟨b, o, none⟩ v).setCells b (o + 1) r = W
    rw [setCell_same h o hv]
    exact setCells_same r (o + 1) h (by rw [← List.drop_drop, hd]; rfl)
theorem store_same {w0 : World} {ty : TypeId} {o : Oper} {x y : Operand} {a : Act} {b : Nat} {t : TypeId} {v : Value} {vs : List Value} (ho : o.op = .store ty x y) (hx : a.eval x = .pointer (some ⟨b, 0, none⟩)) (hy : a.eval y = v) (hv : v.cells.toList = vs)
    (hi : (Tryz.prog.info? ty).map (·.size) = some vs.length) (h1 : ∀ u ∈ vs, u.oneCell' = true) (hb : ∀ W, Kp none' w0 W → Blk W b vs t) : ∀ W, Kp none' w0 W → (execOp a.eval o).run Tryz.prog W = .ok .skip W := fun W hK => by
  have h := hb W hK
  have hst := run_storeCells_cells (P := Tryz.prog) b 0 vs 0 W (fun j hj => by simp only [Nat.zero_add]; rw [h.cell j (List.getElem?_eq_getElem hj)]; rfl) (fun j hj => h.fz _) h1
  rw [Nat.add_zero, setCells_same vs 0 h rfl] at hst
  have hs : (storeVar ty ⟨b, 0, none⟩ v).run Tryz.prog W = .ok () W := by
    cases hq : Tryz.prog.info? ty with
    | none => simp [hq] at hi
    | some i =>
      have hsz : v.cells.size = i.size := by
        have := congrArg List.length hv
        simp only [Array.length_toList] at this
        simp [hq] at hi; omega
      unfold storeVar
      simp [sizeOf, typeInfo, hq, hsz, hv, hst]
  unfold execOp
  simp only [ho, hx, hy, Instr.storeAt, Instr.sureAddr, Sem.run_bind, Sem.run_pure, Result.andThen_ok, hs]
theorem res3 {P : Program} {f : Func} {W : World} {T : Array Value} {a b c : Tmp} {t1 t2 t3 : TypeId} {A B C : Addr} {v1 v2 v3 : Value} (hf : f.results = #[.cell a t1, .cell b t2, .cell c t3]) (ha : T.getD a undef = .pointer (some A)) (hb : T.getD b undef = .pointer (some B)) (hc : T.getD c undef = .pointer (some C))
    (h1 : (loadVar t1 A).run P W = .ok v1 W) (h2 : (loadVar t2 B).run P W = .ok v2 W) (h3 : (loadVar t3 C).run P W = .ok v3 W) : (results f T).run P W = .ok (.tuple #[v1, v2, v3]) W := by
  have ha' : T[a]?.getD undef = .pointer (some A) := by simpa using ha
  have hb' : T[b]?.getD undef = .pointer (some B) := by simpa using hb
  have hc' : T[c]?.getD undef = .pointer (some C) := by simpa using hc
  simp [results, hf, ha', hb', hc', asAddr, h1, h2, h3]
set_option maxRecDepth 100000 in
theorem rIdle (a b c : Nat) (w : World) :
    CallsD Tryz.prog 71 #[.pointer (some ⟨a, 0, none⟩), .pointer (some ⟨b, 0, none⟩), .pointer (some ⟨c, 0, none⟩)] .returning w fun e u' w' => e = .returned (.tuple #[]) ∧ u' = .returning ∧ w' = w := by
  refine callsD_of_wpS Tryz.func71 rfl fun c₀ cs hu => ?_
  simp only [Tryz.ntmps71, List.size_toArray, List.length_cons, List.length_nil, Nat.reduceAdd, Nat.reduceSub, Array.replicate_succ, Array.replicate_zero, List.push_toArray, List.append_toArray, List.nil_append, List.cons_append]
  apply wpS_seq
  apply wpS_region
  simp [wpOpsS, go_sem, recoverD, hu, Exit.thenS]
  refine wpS_of_wp ?_
  go_wp2
  cases c₀
  simp_all [bodyPostS, results, Tryz.results71]
def FreS (B : Nat) (vt vb vq : Value) (vs : List Value) : Prop := (∀ z, vt.ownBlock = some z → B ≤ z) ∧ (∀ z, vb.ownBlock = some z → B ≤ z) ∧ (∀ z, vq.ownBlock = some z → B ≤ z) ∧ ∀ x ∈ vs, ∀ z, x.ownBlock = some z → B ≤ z
theorem QO.fre {w : World} {B : Nat} : ∀ {vs : List Value} {qs : List (List Wt)}, QO w B vs qs → ∀ x ∈ vs, ∀ z, x.ownBlock = some z → B ≤ z
  | [], [], _, x, hx, _, _ => by cases hx
  | v :: vs, q :: qs, h, x, hx, z, hz => by
    rcases List.mem_cons.1 hx with rfl | hx
    · exact (own_block h.1 hz).1
    · exact QO.fre h.2 x hx z hz
  | [], _ :: _, h, _, _, _, _ => h.elim
  | _ :: _, [], h, _, _, _, _ => h.elim
set_option maxRecDepth 100000 in
set_option maxHeartbeats 4000000 in
theorem aReadF (t : ByteArray) (ht : t.size ≤ 65535) (s : StS) (ok : s.ok) (hs : (fdB (.txt t) ++ fdsB (stF s)).length ≤ 1000000) {r : Nat} {w : World} (hr : Rd w r (fdB (.txt t) ++ fdsB (stF s))) :
    Calls Tryz.prog 30 #[.pointer (some ⟨r, 0, none⟩)] w fun e w' => ∃ vt vb vq vs, e = .returned (.tuple #[.string t, .agg (stC s.now s.tok s.virt s.ref vt vb vq).toArray, .bool true]) ∧ StM w' s vt vb vq vs ∧ FreS w.heap.size vt vb vq vs ∧ Kp (fun b => b = r) w w' := by
  have hmf : ∀ (fn : Fn) (first cap : Array Value) (w : World), (Instr.makeFunc fn first cap).run Tryz.prog w = .ok (.func fn first cap) w := fun _ _ _ _ => rfl
  have hT : ∀ W, Rd W r (fdB (.txt t) ++ fdsB (stF s)) → Calls Tryz.prog 72 #[.pointer (some ⟨r, 0, none⟩), .int .i64 6] W fun e w' => e = .returned (.agg #[.int .i64 6, .int .u64 0, .string t]) ∧ Rd w' r (fdsB (stF s)) ∧ Kp (fun b => b = r) W w' := fun W h => aFd (.txt t) ht _ hs h
  have hS := fun W (h : Rd W r (fdsB (stF s) ++ [])) => aState (w := W) s ok [] (by rw [List.append_nil]; rw [List.length_append] at hs; omega) h
  rw [List.append_nil] at hS
  have HT := Lib.hid hT; have HS := Lib.hid hS
  have hF : ∀ W, (Instr.field 59 (.agg #[.int .i64 6, .int .u64 0, .string t]) 2).run Tryz.prog W = .ok (.string t) W := fun W => fldS 6 0 t W
  have HR := Lib.hid hr
  clear hT hS hr hs ht
  go_enter_defers Tryz.func30, Tryz.ntmps30
  go_wp2_with fail
  have hB0 : Blk (((w.alloc (.cells #[.string ⟨#[]⟩] 9)).alloc (.cells #[.int .u64 0, .int .u64 0, .int .u64 0, .int .u64 0, .int .u64 0, .int .u64 0, .int .u64 0, .int .u64 0, .int .u64 0, .int .u64 0, .int .u64 0, .int .u64 0, .int .u64 0, .int .u64 0, .int .u64 0, .int .u64 0, .int .u64 0, .int .u64 0, .int .u64 0, .int .u64 0, .int .u64 0, .int .u64 0, .int .u64 0, .int .u64 0, .int .u64 0, .int .u64 0, .int .u64 0, .int .u64 0, .int .u64 0, .int .u64 0, .int .u64 0, .int .u64 0, .int .u64 0, .int .u64 0, .int .u64 0, .slice none 0 0, .slice none 0 0, .slice none 0 0] 30)).alloc (.cells #[.bool false] 4)) w.heap.size [.string ⟨#[]⟩] 9 := ((Blk.new w [.string ⟨#[]⟩] 9).alloc _).alloc _
  have hB1 : Blk (((w.alloc (.cells #[.string ⟨#[]⟩] 9)).alloc (.cells #[.int .u64 0, .int .u64 0, .int .u64 0, .int .u64 0, .int .u64 0, .int .u64 0, .int .u64 0, .int .u64 0, .int .u64 0, .int .u64 0, .int .u64 0, .int .u64 0, .int .u64 0, .int .u64 0, .int .u64 0, .int .u64 0, .int .u64 0, .int .u64 0, .int .u64 0, .int .u64 0, .int .u64 0, .int .u64 0, .int .u64 0, .int .u64 0, .int .u64 0, .int .u64 0, .int .u64 0, .int .u64 0, .int .u64 0, .int .u64 0, .int .u64 0, .int .u64 0, .int .u64 0, .int .u64 0, .int .u64 0, .slice none 0 0, .slice none 0 0, .slice none 0 0] 30)).alloc (.cells #[.bool false] 4)) (w.heap.size + 1) (stC 0 0 0 (List.replicate 32 0) (.slice none 0 0) (.slice none 0 0) (.slice none 0 0)) 30 := by
    have := (Blk.new (w.alloc (.cells #[.string ⟨#[]⟩] 9)) (stC 0 0 0 (List.replicate 32 0) (.slice none 0 0) (.slice none 0 0) (.slice none 0 0)) 30).alloc (.cells #[.bool false] 4)
    rw [World.size_alloc] at this; exact this
  have hB2 : Blk (((w.alloc (.cells #[.string ⟨#[]⟩] 9)).alloc (.cells #[.int .u64 0, .int .u64 0, .int .u64 0, .int .u64 0, .int .u64 0, .int .u64 0, .int .u64 0, .int .u64 0, .int .u64 0, .int .u64 0, .int .u64 0, .int .u64 0, .int .u64 0, .int .u64 0, .int .u64 0, .int .u64 0, .int .u64 0, .int .u64 0, .int .u64 0, .int .u64 0, .int .u64 0, .int .u64 0, .int .u64 0, .int .u64 0, .int .u64 0, .int .u64 0, .int .u64 0, .int .u64 0, .int .u64 0, .int .u64 0, .int .u64 0, .int .u64 0, .int .u64 0, .int .u64 0, .int .u64 0, .slice none 0 0, .slice none 0 0, .slice none 0 0] 30)).alloc (.cells #[.bool false] 4)) (w.heap.size + 1 + 1) [.bool false] 4 := by
    have := Blk.new ((w.alloc (.cells #[.string ⟨#[]⟩] 9)).alloc (.cells #[.int .u64 0, .int .u64 0, .int .u64 0, .int .u64 0, .int .u64 0, .int .u64 0, .int .u64 0, .int .u64 0, .int .u64 0, .int .u64 0, .int .u64 0, .int .u64 0, .int .u64 0, .int .u64 0, .int .u64 0, .int .u64 0, .int .u64 0, .int .u64 0, .int .u64 0, .int .u64 0, .int .u64 0, .int .u64 0, .int .u64 0, .int .u64 0, .int .u64 0, .int .u64 0, .int .u64 0, .int .u64 0, .int .u64 0, .int .u64 0, .int .u64 0, .int .u64 0, .int .u64 0, .int .u64 0, .int .u64 0, .slice none 0 0, .slice none 0 0, .slice none 0 0] 30)) [.bool false] 4
    rw [World.size_alloc, World.size_alloc] at this; exact this
  have hK0 : Kp none' w (((w.alloc (.cells #[.string ⟨#[]⟩] 9)).alloc (.cells #[.int .u64 0, .int .u64 0, .int .u64 0, .int .u64 0, .int .u64 0, .int .u64 0, .int .u64 0, .int .u64 0, .int .u64 0, .int .u64 0, .int .u64 0, .int .u64 0, .int .u64 0, .int .u64 0, .int .u64 0, .int .u64 0, .int .u64 0, .int .u64 0, .int .u64 0, .int .u64 0, .int .u64 0, .int .u64 0, .int .u64 0, .int .u64 0, .int .u64 0, .int .u64 0, .int .u64 0, .int .u64 0, .int .u64 0, .int .u64 0, .int .u64 0, .int .u64 0, .int .u64 0, .int .u64 0, .int .u64 0, .slice none 0 0, .slice none 0 0, .slice none 0 0] 30)).alloc (.cells #[.bool false] 4)) := (((Kp.refl none' w).alloc _).alloc _).alloc _
  generalize ((w.alloc (.cells #[.string ⟨#[]⟩] 9)).alloc (.cells #[.int .u64 0, .int .u64 0, .int .u64 0, .int .u64 0, .int .u64 0, .int .u64 0, .int .u64 0, .int .u64 0, .int .u64 0, .int .u64 0, .int .u64 0, .int .u64 0, .int .u64 0, .int .u64 0, .int .u64 0, .int .u64 0, .int .u64 0, .int .u64 0, .int .u64 0, .int .u64 0, .int .u64 0, .int .u64 0, .int .u64 0, .int .u64 0, .int .u64 0, .int .u64 0, .int .u64 0, .int .u64 0, .int .u64 0, .int .u64 0, .int .u64 0, .int .u64 0, .int .u64 0, .int .u64 0, .int .u64 0, .slice none 0 0, .slice none 0 0, .slice none 0 0] 30)).alloc (.cells #[.bool false] 4) = w0 at *
  have hR0 := HR.out.old hK0
  have hrl := Blk.lt HR.out
  obtain ⟨z, hz, hzl⟩ : ∃ z : List Nat, List.replicate 32 0 = z ∧ z.length = 32 := ⟨_, rfl, rfl⟩
  rw [hz] at hB1
  have HZ := Lib.hid hzl
  have B0 := Lib.hid hB0; have B1 := Lib.hid hB1; have B2 := Lib.hid hB2; have K0 := Lib.hid hK0; have R0 := Lib.hid hR0
  clear hB0 hB1 hB2 hK0 hR0 HR hz hzl
  refine (HT.out _ R0.out).mono ?_
  rintro e w1 ⟨rfl, r1, k1⟩
  have C0 := Lib.hid (B0.out.kp k1 (fun e => by omega)); have C1 := Lib.hid (B1.out.kp k1 (fun e => by omega)); have C2 := Lib.hid (B2.out.kp k1 (fun e => by omega))
  have K1 : Hid (Kp (fun b => b = r) w w1) := (K0.out.mono (fun _ _ x => x.elim)).trans k1
  have R1 := Lib.hid r1
  have f0 := fun j => C0.out.fz j
  have c0 := C0.out.cell 0 rfl
  clear r1 k1 B0 B1 B2 K0 R0
  go_wp2_with fail
  have D0 : Hid (Blk _ w.heap.size [.string t] 9) := C0.out.set 0 (.string t)
  have D1 := Lib.hid (C1.out.setNe (a := ⟨w.heap.size, 0, none⟩) (by show w.heap.size + 1 ≠ w.heap.size; omega) (.string t))
  have D2 := Lib.hid (C2.out.setNe (a := ⟨w.heap.size, 0, none⟩) (by show w.heap.size + 1 + 1 ≠ w.heap.size; omega) (.string t))
  have K2 : Hid (Kp (fun b => b = r) w _) := K1.out.set (p := ⟨w.heap.size, 0, none⟩) (.inr (Nat.le_refl _)) (.string t)
  have R2 : Hid (Rd _ r (fdsB (stF s))) := Blk.setNe R1.out (a := ⟨w.heap.size, 0, none⟩) (by show r ≠ w.heap.size; omega) (.string t)
  generalize w1.setCell ⟨w.heap.size, 0, none⟩ (.string t) = w2 at *
  clear C0 C1 C2 K1 R1 f0 c0
  refine (HS.out _ R2.out).mono ?_
  rintro e w3 ⟨vt, vb, vq, vs, rfl, q1, q2, q3, q4, r1, k1⟩
  have hM := StM.mk (s := s) (own_sl q1) (own_sl q2) (own_sl q3) q4.qs
  obtain ⟨a1, a1c, rfl⟩ := own_shape q1
  obtain ⟨a2, a2c, rfl⟩ := own_shape q2
  obtain ⟨a3, a3c, rfl⟩ := own_shape q3
  have E0 := Lib.hid (D0.out.kp k1 (fun e => by omega)); have E1 := Lib.hid (D1.out.kp k1 (fun e => by omega)); have E2 := Lib.hid (D2.out.kp k1 (fun e => by omega))
  have K3 : Hid (Kp (fun b => b = r) w w3) := K2.out.trans k1
  have R3 := Lib.hid r1
  have N1 : Hid (∀ b, (Value.slice a1 s.tags.length a1c).ownBlock = some b → w2.heap.size ≤ b) := fun b hb => (own_block q1 hb).1
  have HQ1 := Lib.hid q1; have HQ2 := Lib.hid q2; have HQ3 := Lib.hid q3; have HQ4 := Lib.hid q4
  have hi : Hid ((Tryz.prog.info? 30).map (·.size) = some (stC s.now s.tok s.virt s.ref (.slice a1 s.tags.length a1c) (.slice a2 s.bounds.length a2c) (.slice a3 s.qs.length a3c)).length) := by show _ = _; rw [stC_len _ _ _ _ ok.len]; exact infoSt
  have ho : Hid ((stC 0 0 0 z (.slice none 0 0) (.slice none 0 0) (.slice none 0 0)).length = (stC s.now s.tok s.virt s.ref (.slice a1 s.tags.length a1c) (.slice a2 s.bounds.length a2c) (.slice a3 s.qs.length a3c)).length) := by show _ = _; rw [stC_len _ _ _ _ ok.len, stC_len _ _ _ _ HZ.out]
  have hone : Hid (∀ u ∈ stC s.now s.tok s.virt s.ref (.slice a1 s.tags.length a1c) (.slice a2 s.bounds.length a2c) (.slice a3 s.qs.length a3c), u.oneCell' = true) := stOne _ _ _ _ rfl rfl rfl
  have hsz2 := E1.out.lt
  have hsz20 := D1.out.lt
  have hsz22 := D2.out.lt
  clear q1 q2 q3 q4 r1 k1 D0 D1 D2 K2 R2 hM
  obtain ⟨cs, hcs⟩ : ∃ cs, stC s.now s.tok s.virt s.ref (.slice a1 s.tags.length a1c) (.slice a2 s.bounds.length a2c) (.slice a3 s.qs.length a3c) = cs := ⟨_, rfl⟩
  rw [hcs] at hi ho hone
  have HCS := Lib.hid hcs
  simp only [hcs]
  clear hcs
  go_wp2_with (refine wp_set_row rfl 30 (.tmp 3) (.tmp 10) rfl E1.out cs rfl rfl hi.out ho.out hone.out ?_)
  intro w4 hb hot hK
  have k4 : Kp (fun b => b = w.heap.size + 1) w3 w4 := hK _ _ (Kp.refl _ _) (.inl rfl)
  have F0 := Lib.hid (E0.out.kp k4 (by show w.heap.size ≠ w.heap.size + 1; omega)); have F1 := Lib.hid hb; have F2 := Lib.hid (E2.out.kp k4 (by show w.heap.size + 1 + 1 ≠ w.heap.size + 1; omega))
  have G1 := Lib.hid (own_kp HQ1.out k4 (fun b hb e => by have := (own_block HQ1.out hb).1; omega))
  have G2 := Lib.hid (own_kp HQ2.out k4 (fun b hb e => by have := (own_block HQ2.out hb).1; omega))
  have G3 := Lib.hid (own_kp HQ3.out k4 (fun b hb e => by have := (own_block HQ3.out hb).1; omega))
  have G4 := Lib.hid (HQ4.out.kp k4 (fun b hb _ e => by omega))
  have K4 : Hid (Kp (fun b => b = r) w w4) := K3.out.then k4 (fun i hi e => by omega)
  have hr4 : Rd w4 r [] := Blk.kp R3.out k4 (by omega)
  clear hot hK k4 E0 E1 E2 HQ1 HQ2 HQ3 HQ4 K3 R3 hb
  have c0 := F0.out.cell 0 rfl
  have cr := Blk.cell hr4 0 rfl
  have c2 := F2.out.cell 0 rfl
  have L30 : Hid (∀ W, Kp none' w4 W → (Instr.loadAt 30 (.pointer (some ⟨w.heap.size + 1, 0, none⟩))).run Tryz.prog W = .ok (.agg cs.toArray) W) := fun W hK => run_loadAt_mid W (w.heap.size + 1) 0 30 cs _ (fun j v hv => by rw [Nat.zero_add]; exact hK.cell (F1.out.cell j hv) id) Tryz.underlying30 rfl hi.out
  have B9 : Hid (∀ W, Kp none' w4 W → Blk W w.heap.size [.string t] 9) := fun W hK => F0.out.kp hK id
  have B30 : Hid (∀ W, Kp none' w4 W → Blk W (w.heap.size + 1) cs 30) := fun W hK => F1.out.kp hK id
  have h9 : Hid (∀ u ∈ [Value.string t], u.oneCell' = true) := by intro u hu; rw [List.mem_singleton] at hu; subst hu; rfl
  have i9 : Hid ((Tryz.prog.info? 9).map (·.size) = some [Value.string t].length) := by show _ = some 1; kernel_rfl
  go_upto_region 4 with fail
  refine wp_region_noPanic ?_
  refine wp_region_kept2 [] [0, 1, 2, 3, 4, 5, 6, 7, 8] 9 (by kernel_rfl) (by kernel_rfl) (fun c a d u w h => by cases d <;> exact h) ?_
  simp only [pick, List.getElem?_cons_succ, List.getElem?_cons_zero, List.drop_succ_cons, List.drop_zero]
  show wpKL _ _ _ _ _ _
  repeat (first
    | (refine wpKL_op (by exact rfl) (load_at rfl rfl L30.out) ?_; simp only [Act.put, List.setIfInBounds_toArray, List.set_cons_succ, List.set_cons_zero])
    | (refine wpKL_skip (by exact rfl) (store_same rfl rfl rfl rfl i9.out h9.out B9.out) ?_; simp only [Act.put, List.setIfInBounds_toArray, List.set_cons_succ, List.set_cons_zero])
    | (refine wpKL_skip (by exact rfl) (store_same rfl rfl rfl rfl hi.out hone.out B30.out) ?_; simp only [Act.put, List.setIfInBounds_toArray, List.set_cons_succ, List.set_cons_zero])
    | (refine wpKL_op (by exact rfl) (by as_aux_lemma => intro W hK; have e0 := hK.cell c0 (fun x => x); have e1 := hK.cell cr (fun x => x); go_simp; exact rfl) ?_; simp only [Act.put, List.setIfInBounds_toArray, List.set_cons_succ, List.set_cons_zero])
    | (refine wpKL_off (by exact rfl) ?_; simp only [Act.put, List.setIfInBounds_toArray, List.set_cons_succ, List.set_cons_zero]))
  show ∀ W, _ → wpList _ _ _ _ _ _
  intro W hW
  have c3 := (F2.out.kp hW id).cell 0 rfl
  have f3 := fun j => (F2.out.kp hW id).fz j
  have hB0 := F0.out.kp hW id; have hB1 := F1.out.kp hW id; have hB2 := F2.out.kp hW id
  have kc : Kp (fun b => b = w.heap.size + 1 + 1) W (W.setCell ⟨w.heap.size + 1 + 1, 0, none⟩ (.bool true)) := kp_at W _ 0 _
  have HB0 := Lib.hid (hB0.kp kc (by show w.heap.size ≠ w.heap.size + 1 + 1; omega)); have HB1 := Lib.hid (hB1.kp kc (by show w.heap.size + 1 ≠ w.heap.size + 1 + 1; omega)); have HB2 : Hid (Blk _ _ [.bool true] 4) := hB2.set 0 (.bool true)
  have he : (tx []).toList.isEmpty = true := by rw [bl_nil, bl_tx]; rfl
  have GK1 := Lib.hid (own_kp (own_kp G1.out hW (fun _ _ h => h)) kc (fun b hb e => by have := (own_block G1.out hb).1; omega))
  have GK2 := Lib.hid (own_kp (own_kp G2.out hW (fun _ _ h => h)) kc (fun b hb e => by have := (own_block G2.out hb).1; omega))
  have GK3 := Lib.hid (own_kp (own_kp G3.out hW (fun _ _ h => h)) kc (fun b hb e => by have := (own_block G3.out hb).1; omega))
  have GK4 := Lib.hid ((G4.out.old hW).kp kc (fun b hb _ e => by omega))
  have GKK : Hid (Kp (fun b => b = r) w _) := (K4.out.trans (hW.mono (fun _ _ x => x.elim))).then kc (fun i hi e => by omega)
  have HW0 := Lib.hid (StM.mk (s := s) (own_sl GK1.out) (own_sl GK2.out) (own_sl GK3.out) GK4.out.qs)
  have HFre : Hid (FreS w.heap.size (.slice a1 s.tags.length a1c) (.slice a2 s.bounds.length a2c) (.slice a3 s.qs.length a3c) _) := ⟨fun z h => by have := (own_block GK1.out h).1; omega, fun z h => by have := (own_block GK2.out h).1; omega, fun z h => by have := (own_block GK3.out h).1; omega, fun x hx z h => by have := GK4.out.fre x hx z h; omega⟩
  simp only [he]
  clear hW hB0 hB1 hB2 kc he GK1 GK2 GK3 GK4 G1 G2 G3 G4 F0 F1 F2 L30 B9 B30 c0 c2 cr
  go_wp2_with fail
  refine NoPanic.normal ?_
  have x0 := HB0.out.cell 0 rfl
  have x2 := HB2.out.cell 0 rfl
  have hl := run_loadVar_row (P := Tryz.prog) _ (w.heap.size + 1) 30 30 cs.toArray (0, 0) _ HB1.out.is Tryz.underlying30 rfl (by rw [List.size_toArray]; exact hi.out)
  go_wp2_with fail
  refine leaves_cons (f := 71) (args := #[.pointer (some ⟨w.heap.size, 0, none⟩), .pointer (some ⟨w.heap.size + 1, 0, none⟩), .pointer (some ⟨w.heap.size + 1 + 1, 0, none⟩)]) (by simp) (by simp [go_sem]) ?_
  refine (rIdle _ _ _ _).mono ?_
  rintro e u' w5 ⟨rfl, rfl, rfl⟩
  have h9 : (loadVar 9 ⟨w.heap.size, 0, none⟩).run Tryz.prog (W.setCell ⟨w.heap.size + 1 + 1, 0, none⟩ (.bool true)) = .ok (.string t) (W.setCell ⟨w.heap.size + 1 + 1, 0, none⟩ (.bool true)) := by simp [loadVar, go_sem, x0]
  have h4 : (loadVar 4 ⟨w.heap.size + 1 + 1, 0, none⟩).run Tryz.prog (W.setCell ⟨w.heap.size + 1 + 1, 0, none⟩ (.bool true)) = .ok (.bool true) (W.setCell ⟨w.heap.size + 1 + 1, 0, none⟩ (.bool true)) := by simp [loadVar, go_sem, x2]
  have hcs : cs = stC s.now s.tok s.virt s.ref (.slice a1 s.tags.length a1c) (.slice a2 s.bounds.length a2c) (.slice a3 s.qs.length a3c) := HCS.out.symm
  refine ⟨_, res3 rfl rfl rfl rfl h9 hl h4, _, _, _, _, ?_, HW0.out, HFre.out, GKK.out⟩
  rw [hcs]
end Go.Proofs.YtlaakhfgidjofaaGreatDoor
