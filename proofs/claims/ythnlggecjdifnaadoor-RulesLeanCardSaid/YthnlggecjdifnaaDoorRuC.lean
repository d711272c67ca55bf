/- The trie of layer 32: the longest prefix that covers two others. -/
import Derived.Test.YthnlggecjdifnaaDoorRuF
import Derived.Test.YthnlggecjdifnaaDoorShelf
import Derived.Sort.WalkA14
namespace Go.Proofs.YthnlggecjdifnaaDoor
set_option linter.unusedVariables false
set_option linter.unusedSimpArgs false
open Go.RowKit

theorem bits_xor_u32_nat (a b : Nat) (ha : a < 4294967296) (hb : b < 4294967296) : bits .xor .u32 (a : Int) (b : Int) = ((a ^^^ b : Nat) : Int) := by
  have hx : a ^^^ b < 2 ^ 32 := Nat.xor_lt_two_pow (by omega) (by omega)
  have h1 : (BitVec.ofInt 32 (a : Int)).toNat = a := by
    rw [BitVec.ofInt_natCast, BitVec.toNat_ofNat]; exact Nat.mod_eq_of_lt (by omega)
  have h2 : (BitVec.ofInt 32 (b : Int)).toNat = b := by
    rw [BitVec.ofInt_natCast, BitVec.toNat_ofNat]; exact Nat.mod_eq_of_lt (by omega)
  show IntKind.u32.wrap ((BitVec.ofInt 32 (a : Int) ^^^ BitVec.ofInt 32 (b : Int)).toNat : Int) = _
  rw [BitVec.toNat_xor, h1, h2, wrap_u32']
  omega
theorem ret_row1 {P : Program} {f : Func} {s : Tmp} {ty : TypeId} (hf : f.results = #[.cell s ty]) {R : Ending → World → Prop} {W : World} {g : Nat} {cs : List Value} {t : TypeId} {T : Array Value} (hb : Blk W g cs t) (d : TypeDesc) (hu : P.underlying ty = some d) (hd : (match d with | .struct _ | .array _ _ => true | _ => false) = true)
    (hi : (P.info? ty).map (·.size) = some cs.length) (h2 : T.getD s undef = .pointer (some ⟨g, 0, none⟩)) (hR : R (.returned (.agg cs.toArray)) W) : bodyPost P f R Exit.ret { tmps := T, defers := [] } W := by
  refine bodyPost_ret (v := .agg cs.toArray) ?_ rfl hR
  have h2' : T[s]?.getD undef = .pointer (some ⟨g, 0, none⟩) := by simpa using h2
  simp [results, hf, h2', asAddr, run_loadVar_row W g t ty cs.toArray (0, 0) d hb.is hu hd (by rw [List.size_toArray]; exact hi)]
set_option maxRecDepth 100000 in
set_option maxHeartbeats 8000000 in
theorem tCommon (w : World) (p q : Px) (hp : okP p) (hq : okP q) :
    Calls Tryd.prog 48 #[.agg #[.int .u32 p.1, .int .i64 p.2], .agg #[.int .u32 q.1, .int .i64 q.2]] w fun e w' => e = .returned (.agg #[.int .u32 (comN p q).1, .int .i64 (comN p q).2]) ∧ Kp none' w w' := by
  obtain ⟨p1, p2⟩ := p
  obtain ⟨q1, q2⟩ := q
  obtain ⟨W0, hW0⟩ : ∃ W, W = ((w.alloc (.cells #[.int .u32 p1, .int .i64 p2] 46)).alloc (.cells #[.int .u32 q1, .int .i64 q2] 46)).alloc (.cells #[.int .u32 0, .int .i64 0] 46) := ⟨_, rfl⟩
  have hk0 : Kp none' w W0 := by rw [hW0]; exact (((Kp.refl _ _).alloc _).alloc _).alloc _
  have b0 : Blk W0 w.heap.size [.int .u32 p1, .int .i64 p2] 46 := by rw [hW0]; exact ((Blk.new w [.int .u32 p1, .int .i64 p2] _).alloc _).alloc _
  have b1 : Blk W0 (w.heap.size + 1) [.int .u32 q1, .int .i64 q2] 46 := by
    rw [hW0]
    have := Blk.new (w.alloc (.cells #[.int .u32 p1, .int .i64 p2] 46)) [.int .u32 q1, .int .i64 q2] 46
    rw [World.size_alloc] at this
    exact this.alloc _
  have HW0 := Lib.hid hW0
  have hx : p1 ^^^ q1 < 4294967296 := Nat.xor_lt_two_pow (n := 32) hp.2 hq.2
  have hxor : bits .xor .u32 (p1 : Int) (q1 : Int) = ((p1 ^^^ q1 : Nat) : Int) := bits_xor_u32_nat p1 q1 hp.2 hq.2
  have HLZ := Lib.hid (fun W => Tryd.bits_LeadingZeros32 ((p1 ^^^ q1 : Nat) : Int) W (by omega) (by omega))
  obtain ⟨X, hX⟩ : ∃ X, p1 ^^^ q1 = X := ⟨_, rfl⟩
  rw [hX] at hxor HLZ
  obtain ⟨n, hn⟩ : ∃ n, comBits (p1, p2) (q1, q2) = n := ⟨_, rfl⟩
  have hle := com_le (p1, p2) (q1, q2)
  have hp32 := (right_iff.1 hp.1).1
  have hL : Lib.bitLen X = Go.Sort.bitsLen X := bitLen_eq X (by omega)
  have hL32 : Go.Sort.bitsLen X ≤ 32 := by rw [Go.Sort.bitsLen_le_iff]; omega
  have hmin : (if (q2 : Int) < if (p2 : Int) < 32 - (Lib.bitLen X : Int) then (p2 : Int) else 32 - (Lib.bitLen X : Int) then (q2 : Int) else if (p2 : Int) < 32 - (Lib.bitLen X : Int) then (p2 : Int) else 32 - (Lib.bitLen X : Int)) = (n : Int) := by
    rw [← hn, hL]
    unfold comBits
    simp only [hX]
    split <;> split <;> omega
  have hnl : n ≤ 32 := by rw [← hn]; simp only at hle hp32; omega
  have hbits := has_bits p1 hp.2 (b := (n : Int)) (by omega) (by omega)
  rw [Int.toNat_natCast] at hbits
  have hres : comN (p1, p2) (q1, q2) = (p1 / 2 ^ (32 - n) * 2 ^ (32 - n), n) := by unfold comN; rw [hn]
  have GM := Lib.hid (fun W => aMask (n : Int) W (by omega))
  rw [hres]
  obtain ⟨M, hM⟩ : ∃ M, maskN (clampN (n : Int)) = M := ⟨_, rfl⟩
  obtain ⟨Z, hZ⟩ : ∃ Z, p1 / 2 ^ (32 - n) * 2 ^ (32 - n) = Z := ⟨_, rfl⟩
  rw [hM, hZ] at hbits
  rw [hM] at GM
  rw [hZ]
  have c0 := b0.cell 0 rfl
  have c1 := b0.cell 1 rfl
  have c2 := b1.cell 0 rfl
  have c3 := b1.cell 1 rfl
  rw [hW0] at c0 c1 c2 c3
  have HMIN := Lib.hid hmin
  clear hW0 hmin hL hn hle hres hM hZ hX hL32
  go_enter Tryd.func48, Tryd.ntmps48
  go_wp2_with fail
  refine wp_region_kept2 [] [0, 1, 2, 3, 4, 5, 6, 7, 8, 9, 10] 11 (by kernel_rfl) (by kernel_rfl) (fun c a d u w h => by cases d <;> exact h) ?_
  simp only [pick, List.getElem?_cons_succ, List.getElem?_cons_zero, List.drop_succ_cons, List.drop_zero]
  show wpKL _ _ _ _ _ _
  repeat (first
    | (refine wpKL_op (by exact rfl) (by as_aux_lemma => intro W hK; have e0 := hK.cell c0 (fun x => x); have e1 := hK.cell c1 (fun x => x); have e2 := hK.cell c2 (fun x => x); have e3 := hK.cell c3 (fun x => x); go_simp; exact rfl) ?_; simp only [Act.put, List.setIfInBounds_toArray, List.set_cons_succ, List.set_cons_zero])
    | (refine wpKL_off (by exact rfl) ?_; simp only [Act.put, List.setIfInBounds_toArray, List.set_cons_succ, List.set_cons_zero])
    | (refine wpKL_call (by exact rfl) (by as_aux_lemma => intro W; go_simp; exact ⟨rfl, rfl⟩) (by intro W hK; with_reducible first | exact calls_same ((HLZ.out W).mono fun e w' h => ⟨h.1, h.2.symm⟩)) ?_; simp only [Act.put, List.setIfInBounds_toArray, List.set_cons_succ, List.set_cons_zero]))
  show ∀ W, _ → wpList _ _ _ _ _ _
  intro W2 hK2
  rw [HMIN.out]
  have hk02 := hk0
  rw [HW0.out] at hk02
  have HK2 := Lib.hid (hk02.trans hK2)
  have d0 := hK2.cell c0 (fun x => x)
  have HB2 : Hid (Blk W2 (w.heap.size + 1 + 1) [.int .u32 0, .int .i64 0] 46) := by
    have := Blk.new ((w.alloc (.cells #[.int .u32 p1, .int .i64 p2] 46)).alloc (.cells #[.int .u32 q1, .int .i64 q2] 46)) [.int .u32 0, .int .i64 0] 46
    rw [World.size_alloc, World.size_alloc] at this
    exact this.kp hK2 (fun x => x)
  clear hK2 c0 c1 c2 c3 hxor hk0 hk02 b0 b1
  go_wp2_with fail
  refine wp_region_kept2 [] [0, 1, 2, 3, 4, 5, 6] 7 (by kernel_rfl) (by kernel_rfl) (fun c a d u w h => by cases d <;> exact h) ?_
  simp only [pick, List.getElem?_cons_succ, List.getElem?_cons_zero, List.drop_succ_cons, List.drop_zero]
  show wpKL _ _ _ _ _ _
  repeat (first
    | (refine wpKL_op (by exact rfl) (by as_aux_lemma => intro W hK; have e0 := hK.cell d0 (fun x => x); go_simp; exact rfl) ?_; simp only [Act.put, List.setIfInBounds_toArray, List.set_cons_succ, List.set_cons_zero])
    | (refine wpKL_off (by exact rfl) ?_; simp only [Act.put, List.setIfInBounds_toArray, List.set_cons_succ, List.set_cons_zero])
    | (refine wpKL_call (by exact rfl) (by as_aux_lemma => intro W; go_simp; exact ⟨rfl, rfl⟩) (by intro W hK; with_reducible first | exact calls_same (GM.out W) | exact calls_same ((GM.out W).mono fun e w2 h => ⟨h.1, h.2.symm⟩)) ?_; simp only [Act.put, List.setIfInBounds_toArray, List.set_cons_succ, List.set_cons_zero]))
  show ∀ W, _ → wpList _ _ _ _ _ _
  intro W5 hK5
  refine wp_set_row rfl 46 (.tmp 4) (.tmp 23) rfl (HB2.out.kp hK5 (fun x => x)) [.int .u32 Z, .int .i64 n] rfl rfl (by kernel_rfl) rfl (by simp [Value.oneCell']) ?_
  intro W6 hB6 _ hK6
  have HB6 := Lib.hid hB6
  have HK6 := Lib.hid (hK6 _ _ (HK2.out.trans hK5) (.inr (by omega)))
  clear hB6 hK6 hK5 d0
  simp only [Act.put]
  go_wp2_with fail
  refine ret_row1 (by rfl) HB6.out _ Tryd.underlying46 rfl (by kernel_rfl) (by rfl) ?_
  exact ⟨rfl, HK6.out⟩
end Go.Proofs.YthnlggecjdifnaaDoor
