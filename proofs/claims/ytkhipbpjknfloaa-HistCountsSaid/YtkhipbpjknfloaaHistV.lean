/- Layer 38: the row in which a part ends. -/
import Derived.Test.YtkhipbpjknfloaaHistU
import Derived.Test.YtkhipbpjknfloaaRowSet
namespace Go.Proofs.Ytkhipbpjknfloaa
set_option linter.unusedVariables false
set_option linter.unusedSimpArgs false
open Go.RowKit Go.Maps Go.Shelf
attribute [local go_sem] Oper.semAt_some
/-- What is written, or read, whole, within a round. -/
theorem wpIn_plainOp {F : Fence} {n : Nat} {P : Program} {ops : Array Oper} {rest : List Oper} {o : Oper} {a : Act} {w w2 : World} {Q : Exit → Act → World → Prop} (hgd : o.guard = none) (hab : o.about P w a.eval = none) (hnc : ∀ c, o.op ≠ .defer c) (v : Value)
    (hrun : (execOp a.eval o).run P w = .ok (.value v) w2) (h : wpListIn F n P ops Q rest (a.put o.dst v) w2) : wpListIn F n P ops Q (o :: rest) a w := by
  refine wpListIn_plain hgd fun K hK => ?_
  unfold Oper.wpIn
  refine ⟨fun f hf => (by rw [hab] at hf; cases hf), ?_⟩
  rw [Oper.semAt_plain F _ _ hnc, hrun]
  exact hK _ _ h
theorem wpIn_skipOp {F : Fence} {n : Nat} {P : Program} {ops : Array Oper} {rest : List Oper} {o : Oper} {a : Act} {w w2 : World} {Q : Exit → Act → World → Prop} (hgd : o.guard = none) (hab : o.about P w a.eval = none) (hnc : ∀ c, o.op ≠ .defer c) 
    (hrun : (execOp a.eval o).run P w = .ok .skip w2) (h : wpListIn F n P ops Q rest (a.put o.dst undef) w2) : wpListIn F n P ops Q (o :: rest) a w := by
  refine wpListIn_plain hgd fun K hK => ?_
  unfold Oper.wpIn
  refine ⟨fun f hf => (by rw [hab] at hf; cases hf), ?_⟩
  rw [Oper.semAt_plain F _ _ hnc, hrun]
  exact hK _ _ h
theorem wpIn_set_row {F : Fence} {n : Nat} {P : Program} {ops : Array Oper} {rest : List Oper} {o : Oper} {a : Act} {Q : Exit → Act → World → Prop} (hgd : o.guard = none) (ty : TypeId) (x y : Operand) (ho : o.op = .store ty x y) {w : World} {g : Nat} {old : List Value} {t : TypeId} (hb : Blk w g old t) (cs : List Value)
    (hx : a.eval x = .pointer (some ⟨g, 0, none⟩)) (hy : a.eval y = .agg cs.toArray) (hi : (P.info? ty).map (·.size) = some cs.length) (hold : old.length = cs.length) (h1 : ∀ v ∈ cs, v.oneCell' = true)
    (h : ∀ W2, Blk W2 g cs t → (∀ b cs' t', Blk w b cs' t' → b ≠ g → Blk W2 b cs' t') → (∀ (S : Nat → Prop) a, Kp S a w → (S g ∨ a.heap.size ≤ g) → Kp S a W2) → KeepsOthers w W2 → wpListIn F n P ops Q rest (a.put o.dst undef) W2) : wpListIn F n P ops Q (o :: rest) a w :=
  wpIn_skipOp hgd (by simp [Oper.about, ho]) (by rw [ho]; intro c hc; cases hc)
    (by unfold execOp; simp only [ho, hx, hy, Instr.storeAt, Instr.sureAddr, Sem.run_bind, Sem.run_pure, Result.andThen_ok, run_storeVar_row w g t ty old.toArray cs.toArray hb.is (by rw [List.size_toArray]; exact hi) (by rw [List.size_toArray, List.size_toArray]; exact hold) (oneAll h1)])
    (h _ (blkSetRow hb) (fun _ _ _ k hne => blkSetRowNe k hne _) (fun _ _ k hg => kpSetRow k hg _) ⟨by rw [size_setRow]; exact Nat.le_refl _, fun k o hk ho => (setRow_other w g k _ (fun e => by subst e; rw [hb.is] at hk; cases hk; cases ho)).trans hk⟩)
theorem wpIn_get_row {F : Fence} {n : Nat} {P : Program} {ops : Array Oper} {rest : List Oper} {o : Oper} {a : Act} {w : World} {Q : Exit → Act → World → Prop} (hgd : o.guard = none) (ty : TypeId) (x : Operand) (ho : o.op = .load ty x) {g : Nat} {cs : List Value} {t : TypeId} (hb : Blk w g cs t) (d : TypeDesc)
    (hx : a.eval x = .pointer (some ⟨g, 0, none⟩)) (hu : P.underlying ty = some d) (hd : (match d with | .struct _ | .array _ _ => true | _ => false) = true) (hi : (P.info? ty).map (·.size) = some cs.length)
    (h : wpListIn F n P ops Q rest (a.put o.dst (.agg cs.toArray)) w) : wpListIn F n P ops Q (o :: rest) a w :=
  wpIn_plainOp hgd (by simp [Oper.about, ho]) (by rw [ho]; intro c hc; cases hc) (.agg cs.toArray)
    (by unfold execOp; simp only [ho, hx, Instr.loadAt, Instr.sureAddr, Sem.run_bind, Sem.run_pure, Result.andThen_ok, run_loadVar_row w g t ty cs.toArray (0, 0) d hb.is hu hd (by rw [List.size_toArray]; exact hi)]) h
/-- Two results: a variable's contents, and another value. -/
theorem results_row2 {P : Program} {f : Func} {s u : Tmp} {ty : TypeId} (hf : f.results = #[.cell s ty, .tmp u]) {W : World} {g : Nat} {cs : List Value} {t : TypeId} {T : Array Value} (hb : Blk W g cs t) (d : TypeDesc) (hu : P.underlying ty = some d) (hd : (match d with | .struct _ | .array _ _ => true | _ => false) = true)
    (hi : (P.info? ty).map (·.size) = some cs.length) (h2 : T.getD s undef = .pointer (some ⟨g, 0, none⟩)) : (results f T).run P W = .ok (.tuple #[.agg cs.toArray, T.getD u undef]) W := by
  have h2' : T[s]?.getD undef = .pointer (some ⟨g, 0, none⟩) := by simpa using h2
  simp [results, hf, h2', asAddr, run_loadVar_row W g t ty cs.toArray (0, 0) d hb.is hu hd (by rw [List.size_toArray]; exact hi)]
theorem infoRw : (Try.prog.info? 73).map (·.size) = some 3 := by kernel_rfl
def sumC (rs : List RwN) : Nat := (rs.map (·.2.2)).sum
theorem sumC_snoc (rs : List RwN) (r : RwN) : sumC (rs ++ [r]) = sumC rs + r.2.2 := by unfold sumC; rw [List.map_append, List.sum_append]; simp
def lastR (rs : List RwN) : RwN := rs.getLast?.getD (0, 0, 0)
theorem lastR_snoc (rs : List RwN) (r : RwN) : lastR (rs ++ [r]) = r := by unfold lastR; simp
/-- What the loop of Part keeps. -/
def PtI (k b9 b10 : Nat) (pre : List RwN) (F : Nat → Prop) (W : World) : Prop := Blk W b9 [.int .u64 ((k - sumC pre : Nat) : Int)] 35 ∧ Blk W b10 (enRw (lastR pre)) 73 ∧ sumC pre < k ∧ F = fun b => b = b9 ∨ b = b10
/-- Where Part leaves it. -/
def PtX (rows : List RwN) (k b10 : Nat) (c : Code) (_ : List RwN) (_ : Nat → Prop) (W : World) : Prop := c = .exit 0 ∧ ∃ pre r post, rows = pre ++ r :: post ∧ sumC pre < k ∧ k ≤ sumC pre + r.2.2 ∧ Blk W b10 (enRw r) 73
set_option maxRecDepth 100000 in
set_option maxHeartbeats 2000000 in
theorem hPart {w : World} {B0 hb f all num p : Nat} {l : List Ad} (h : Hs w B0 hb f l) (hf : f ≤ 8) (hl : l.length ≤ 1000000) (hl64 : ∀ e ∈ l, e.1 < 18446744073709551616)
    (hall : sumR (rowsN f l) = all) (hsum : sumC (rowsN f l) = all) (ha0 : 0 < all) (ha : all ≤ 200) (hn : num ≤ 255) (hp : all * num = p) :
    Calls Try.prog 35 #[.pointer (some ⟨hb, 0, none⟩), .int .u64 num, .int .u64 255] w fun e w' =>
      ∃ pre r post, rowsN f l = pre ++ r :: post ∧ sumC pre < kN all num ∧ kN all num ≤ sumC pre + r.2.2 ∧ e = .returned (.tuple #[.agg (enRw r).toArray, .bool true]) ∧ Kp none' w w' := by
  have hkall : kN all num ≤ all := by
    unfold kN
    have : all * num ≤ all * 255 := Nat.mul_le_mul (Nat.le_refl _) hn
    omega
  have hk1 : 1 ≤ kN all num := by unfold kN; omega
  have HK := Lib.hid (pRank all num p ha hn hp)
  have HC := hCount (w := w.alloc (.cells (enRw (0, 0, 0)).toArray 73)) (B0 := B0) (h.kp (S := none') ((Kp.refl none' w).alloc _) (fun _ _ x => x)) hf hl hl64
  rw [hall] at HC
  have HC := Lib.hid HC
  obtain ⟨mb, n, D, hm, _, _⟩ := h
  have hhl := hm.top.top.lt
  have hml := hm.own.lt
  have hb0 := Blk.new w (enRw (0, 0, 0)) 73
  have HM := Lib.hid hm
  obtain ⟨k0, hk0⟩ : ∃ k0, kN all num = k0 := ⟨_, rfl⟩
  rw [hk0] at hkall hk1 HK ⊢
  have hall0 : ((all : Int) == 0) = false := by rw [beq_eq_false_iff_ne]; omega
  have HSum := Lib.hid hsum
  have HROW := Lib.hid (fun r (h : r ∈ rowsN f l) => row_cnt (f := f) (l := l) h)
  clear hp hm hall hsum
  refine (callsIn_wide (n := 0)).1 ?_
  refine callsIn_of_wp_marks Try.func35 rfl trivial ?_ rfl
  simp only [Try.ntmps35, List.size_toArray, List.length_cons, List.length_nil, Nat.reduceAdd, Nat.reduceSub, Array.replicate_succ, Array.replicate_zero, List.push_toArray, List.append_toArray, List.nil_append, List.cons_append]
  gi_wp2_with fail
  refine ⟨trivial, rfl, (callsIn_wide.2 HC.out).mono ?_⟩
  rintro e w1 ⟨rfl, k1⟩
  gi_wp2_with fail
  refine ⟨trivial, rfl, (callsIn_wide.2 (HK.out w1)).mono ?_⟩
  rintro e w2 ⟨rfl, k2⟩
  have hb2 := (hb0.nc (NC.of_kp k1)).nc (NC.of_kp k2)
  have K2 := Lib.hid ((((Kp.refl none' w).alloc (.cells (enRw (0, 0, 0)).toArray 73)).trans k1).trans k2)
  clear HC HK k1 k2 hb0
  have HW := Lib.hid (hWalk (HM.out.old (((K2.out).alloc (.cells #[.int .u64 k0] 35)).alloc (.cells (enRw (0, 0, 0)).toArray 73))) hf hl hl64)
  have hz2 := K2.out.size
  have hlt6 := hb2.lt
  gi_wp2_with fail
  obtain ⟨W0, hW0⟩ : ∃ W0, (w2.alloc (.cells #[.int .u64 k0] 35)).alloc (.cells (enRw (0, 0, 0)).toArray 73) = W0 := ⟨_, rfl⟩
  have hW0' : (w2.alloc (.cells #[.int .u64 k0] 35)).alloc (.cells #[.int .u64 0, .int .u64 0, .int .u64 0] 73) = W0 := hW0
  rw [hW0] at HW
  simp only [hW0']
  have hz0 : W0.heap.size = w2.heap.size + 2 := by rw [← hW0]; simp
  have K0 : Hid (Kp none' w2 W0) := by show Kp none' w2 W0; rw [← hW0]; exact ((Kp.refl _ _).alloc _).alloc _
  have hb9 : Blk W0 w2.heap.size [.int .u64 k0] 35 := by rw [← hW0]; exact (Blk.new w2 _ _).alloc _
  have hb10 : Blk W0 (w2.heap.size + 1) (enRw (0, 0, 0)) 73 := by
    rw [← hW0]
    have := Blk.new (w2.alloc (.cells #[.int .u64 k0] 35)) (enRw (0, 0, 0)) 73
    simpa only [World.size_alloc] using this
  have hb6 : Blk W0 w.heap.size (enRw (0, 0, 0)) 73 := hb2.nc (NC.of_kp K0.out)
  clear hW0 hW0' hb2
  refine wp_rangeF (first := #[.pointer (some ⟨hb, 0, none⟩)]) (captured := #[]) rfl (enters_of Try.func56 (by kernel_rfl) rfl) HW.out (fun _ => rfl)
    (PtI k0 w2.heap.size (w2.heap.size + 1)) (PtX (rowsN f l) k0 (w2.heap.size + 1)) (fun pre F A B ⟨h1, h2, h3, h4⟩ k => ⟨h1.nc k.nc, h2.nc k.nc, h3, h4⟩) (fun c pre F A B ⟨h1, p, r, q, h2, h3, h4, h5⟩ k => ⟨h1, p, r, q, h2, h3, h4, h5.nc k.nc⟩)
    (fun b => b = w2.heap.size ∨ b = w2.heap.size + 1) (by rintro b (rfl | rfl) <;> omega) (by rintro b (rfl | rfl) <;> (constructor; omega; omega)) ⟨hb9, hb10, hk1, rfl⟩
    (fun r a1 W => ∃ p, a1 = { tmps := #[.pointer (some ⟨hb, 0, none⟩), .int .u64 num, .int .u64 255, undef, undef, undef, .pointer (some ⟨w.heap.size, 0, none⟩), .bool false, .int .u64 all, .pointer (some ⟨w2.heap.size, 0, none⟩),
      .pointer (some ⟨w2.heap.size + 1, 0, none⟩), .pointer (some ⟨p, 0, none⟩), .pointer (some ⟨hb, 0, none⟩), .int .u64 all, .int .u64 all, .bool false, .bool false, .int .u64 255, .bool false, .bool false, .bool false, .int .u64 num, .int .u64 255,
      .bool (decide ((255 : Int) < (num : Int))), .bool (decide ((255 : Int) < (num : Int))), undef, .int .u64 all, .int .u64 num, .int .u64 255, .int .u64 k0, .pointer (some ⟨hb, 0, none⟩), .func (.func 56) #[.pointer (some ⟨hb, 0, none⟩)] #[],
      .agg #[.int .u64 r.1, .int .u64 r.2.1, .int .u64 r.2.2], undef, undef, undef, undef, undef, undef, undef, undef, undef, undef], defers := [] } ∧ Blk W p (enRw r) 73 ∧ W0.heap.size ≤ p)
    (fun r a A B h k => by obtain ⟨p, h1, h2, h3⟩ := h; exact ⟨p, h1, h2.nc k.nc, h3⟩) ?assign ?body ?done ?stop
  case assign =>
    intro lp r W K hz hK
    gi_wp2
    exact hK _ _ ⟨_, rfl, Blk.new W (enRw r) _, hz⟩ ((Kp.refl _ _).alloc _)
  case body =>
    rintro lp pre F ⟨rl, rh, rc⟩ post a1 W hx ⟨hb1, hb3, hlt, rfl⟩ ⟨p, rfl, hp, hpz⟩ hkp hFs
    have hrc : rc < 18446744073709551616 := HROW.out (rl, rh, rc) (by rw [hx]; simp)
    have HB := Lib.hid hb1; have HB3 := Lib.hid hb3; have HX := Lib.hid hx
    have HP := Lib.hid hp
    obtain ⟨sc, hsc⟩ : ∃ sc, sumC pre = sc := ⟨_, rfl⟩
    obtain ⟨k, hk⟩ : ∃ k, k0 - sc = k := ⟨_, rfl⟩
    rw [hsc] at hlt
    clear hb1 hb3 hp hx hFs hkp
    have hlt10 := HB3.out.lt
    have hne1 : p ≠ w2.heap.size + 1 := by omega
    have hne2 : w2.heap.size ≠ w2.heap.size + 1 := by omega
    have hone : ∀ v ∈ enRw (rl, rh, rc), v.oneCell' = true := by intro v hv; simp [enRw] at hv; rcases hv with rfl | rfl | rfl <;> rfl
    by_cases hge : k ≤ rc
    · have hgei : (k : Int) ≤ rc := by omega
      gi_wp2_with (first
        | (refine wpIn_get_row rfl 73 (.tmp 11) rfl HP.out _ rfl Try.underlying73 rfl infoRw ?_)
        | (refine wpIn_set_row rfl 73 (.tmp 10) (.tmp 33) rfl HB3.out (enRw (rl, rh, rc)) rfl rfl infoRw rfl hone ?_
           intro W2 hB2 hO2 hK2 hKO2
           have q2 := (hO2 _ _ _ HP.out hne1).cell 2 rfl
           have HB10 := Lib.hid hB2
           have HO2 := Lib.hid hO2
           have HK2 := Lib.hid (hK2 _ _ (Kp.refl (fun b => b = w2.heap.size ∨ b = w2.heap.size + 1) W) (.inl (.inr rfl)))
           have HKO2 := Lib.hid hKO2
           have c9 := (HO2.out _ _ _ HB.out hne2).cell 0 rfl
           simp only [hsc, hk] at c9
           clear hB2 hO2 hK2 hKO2))
      refine ⟨fun b => b = w2.heap.size ∨ b = w2.heap.size + 1, ⟨rfl, pre, (rl, rh, rc), post, HX.out, by rw [hsc]; exact hlt, by rw [hsc]; show k0 ≤ sc + rc; omega, HB10.out⟩, HK2.out, fun b h => .inl h, KeepsOthers.kf HKO2.out⟩
    · have hgei : ¬ (k : Int) ≤ rc := by omega
      gi_wp2_with (first
        | (refine wpIn_get_row rfl 73 (.tmp 11) rfl HP.out _ rfl Try.underlying73 rfl infoRw ?_)
        | (refine wpIn_set_row rfl 73 (.tmp 10) (.tmp 33) rfl HB3.out (enRw (rl, rh, rc)) rfl rfl infoRw rfl hone ?_
           intro W2 hB2 hO2 hK2 hKO2
           have q2 := (hO2 _ _ _ HP.out hne1).cell 2 rfl
           have HB10 := Lib.hid hB2
           have HO2 := Lib.hid hO2
           have HK2 := Lib.hid (hK2 _ _ (Kp.refl (fun b => b = w2.heap.size ∨ b = w2.heap.size + 1) W) (.inl (.inr rfl)))
           have HKO2 := Lib.hid hKO2
           have c9 := (HO2.out _ _ _ HB.out hne2).cell 0 rfl
           have f9 := (HO2.out _ _ _ HB.out hne2).fz 0
           simp only [hsc, hk] at c9
           clear hB2 hO2 hK2 hKO2))
      have hsb := HB.out
      have hset := (HO2.out _ _ _ HB.out hne2).set 0 (.int .u64 ((k : Int) - rc))
      have hkk : ((k : Int) - rc) = ((k0 - sumC (pre ++ [(rl, rh, rc)]) : Nat) : Int) := by rw [sumC_snoc, hsc]; show _ = ((k0 - (sc + rc) : Nat) : Int); omega
      refine ⟨fun b => b = w2.heap.size ∨ b = w2.heap.size + 1, ⟨?_, ?_, ?_, rfl⟩, (HK2.out).set (p := ⟨w2.heap.size, 0, none⟩) (.inl (.inl rfl)) _, fun b h => .inl h, KeepsOthers.kf ((HKO2.out).trans (KeepsOthers.setCell _ _ _))⟩
      · rw [← hkk]; exact hset
      · rw [lastR_snoc]; exact (HB10.out).setNe (a := ⟨w2.heap.size, 0, none⟩) (by show w2.heap.size + 1 ≠ w2.heap.size; omega) _
      · rw [sumC_snoc, hsc]; show sc + rc < k0; omega
  case done =>
    rintro D F W ⟨_, _, h, _⟩
    rw [HSum.out] at h
    omega
  case stop =>
    rintro D c pre F W ⟨rfl, pre, r, post, h1, h2, h3, hr⟩ hkp hD hK
    have HR := Lib.hid hr
    have HK2 := Lib.hid hkp
    have hb6' := hb6.kp hkp (by rintro (h | h) <;> omega)
    have HB6 := Lib.hid hb6'
    have hone : ∀ v ∈ enRw r, v.oneCell' = true := by intro v hv; simp [enRw] at hv; rcases hv with rfl | rfl | rfl <;> rfl
    clear hr hkp hb6'
    gi_wp2_with (first
        | (refine wpIn_get_row rfl 73 (.tmp 10) rfl HR.out _ rfl Try.underlying73 rfl infoRw ?_)
        | (refine wpIn_set_row rfl 73 (.tmp 6) (.tmp 42) rfl HB6.out (enRw r) rfl rfl infoRw rfl hone ?_
           intro W2 hB2 hO2 hK2 hKO2))
    have hDl : D < W.heap.size := (Array.getElem?_eq_some_iff.1 hK).1
    have hKD : W2.heap[D]? = some (.deferred (some [])) := ((hK2 _ _ (Kp.refl (fun b => b = w.heap.size) W) (.inl rfl)).block D hDl (by omega)).trans hK
    refine ⟨by simp, .inl ⟨_, _, rfl, run_takeDeferred hKD, ?_⟩⟩
    refine ⟨_, results_row2 rfl (hB2.nc (NC.put _ hKD rfl)) _ Try.underlying73 rfl infoRw rfl, pre, r, post, h1, h2, h3, rfl, ?_⟩
    have hz := K0.out.size
    have k3 : Kp (fun b => w2.heap.size ≤ b) w2 W := (K0.out.mono (T := fun b => w2.heap.size ≤ b) (fun _ _ x => x.elim)).then HK2.out (fun b hb h => by rcases h with h | h <;> omega)
    have k4 : Kp (fun b => w.heap.size ≤ b) w W := (K2.out.mono (T := fun b => w.heap.size ≤ b) (fun _ _ x => x.elim)).then k3 (fun b hb h => by omega)
    have k5 := hK2 _ _ k4 (.inl (Nat.le_refl _))
    exact (k5.put (.inl (show w.heap.size ≤ D by omega)) _).mono (fun b hb h => by omega)
end Go.Proofs.Ytkhipbpjknfloaa
