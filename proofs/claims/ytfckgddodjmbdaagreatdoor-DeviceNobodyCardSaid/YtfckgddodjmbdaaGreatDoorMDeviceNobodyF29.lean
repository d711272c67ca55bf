/- A shaper's small parts: refuse, stats, known (layer 26). -/
import Derived.Test.YtfckgddodjmbdaaGreatDoorMDeviceNobodyF18
import Derived.Deep.RegionWith
import Derived.Test.YtfckgddodjmbdaaGreatDoorMDeviceNobodyF28
namespace Go.Proofs.YtfckgddodjmbdaaGreatDoor
set_option linter.unusedVariables false
set_option linter.unusedSimpArgs false
open Go Go.RowKit Go.Shelf
theorem ref_set (s : Sh) (f : ShF) (k : Nat) (x : Value) : (shC s f).set (7 + k) x = [.pointer (some ⟨f.gb, 0, none⟩), .pointer (some ⟨f.rb, 0, none⟩), .int .u64 s.rate, .int .u64 s.burst, .int .u64 s.tok, f.v, .int .u64 s.now] ++ (s.ref.map eN8).set k x := by
  unfold shC
  rw [List.set_append_right _ _ (by simp)]
  simp
theorem ref_at (s : Sh) (f : ShF) {k : Nat} (h : k < s.ref.length) : (shC s f)[7 + k]? = some (.int .u64 (s.ref.getD k 0)) := by
  unfold shC
  rw [List.getElem?_append_right (by simp)]
  simp only [List.length_cons, List.length_nil, Nat.zero_add, Nat.add_sub_cancel_left, List.getElem?_map, List.getElem?_eq_getElem h, Option.map_some, List.getD_eq_getElem?_getD, Option.getD_some]
  rfl
theorem ref_shC (s : Sh) (f : ShF) (k : Nat) : (shC s f).set (7 + k) (.int .u64 (satN (s.ref.getD k 0) 1)) = shC (refS s k) f := by
  rw [ref_set]
  unfold shC refS
  show _ ++ (s.ref.map eN8).set k (eN8 (satN (s.ref.getD k 0) 1)) = _ ++ (s.ref.set k (satN (s.ref.getD k 0) 1)).map eN8
  rw [List.map_set]
theorem may_lt (g : Ga) (id n : Nat) : mayG g id n = ((mayG g id n).toNat : Int) ∧ (mayG g id n).toNat < 32 := by
  have h : mayG g id n = 0 ∨ mayG g id n = 12 ∨ mayG g id n = 13 ∨ mayG g id n = 14 ∨ mayG g id n = 15 ∨ mayG g id n = 16 ∨ mayG g id n = 17 := by
    have hf : fitG g id n = 0 ∨ fitG g id n = 12 ∨ fitG g id n = 13 ∨ fitG g id n = 14 ∨ fitG g id n = 15 ∨ fitG g id n = 16 := by
      unfold fitG
      split
      · omega
      · split
        · omega
        · split
          · omega
          · split
            · omega
            · split <;> omega
    unfold mayG
    split
    · omega
    · split <;> omega
  rcases h with h | h | h | h | h | h | h <;> rw [h] <;> decide
theorem run_sizeOf_elem32 (W : World) : (sizeOf (Tryz.prog.elem 31)).run Tryz.prog W = .ok 1 W := by kernel_rfl
set_option maxRecDepth 100000 in
set_option maxHeartbeats 2000000 in
theorem sRefuseR {w : World} {sb : Nat} {cs : List Value} (hb : Blk w sb cs 140) (k x : Nat) (hk : k < 32) (hc : cs[7 + k]? = some (.int .u64 x)) (hx : x < 18446744073709551616) :
    Calls Tryz.prog 50 #[.pointer (some ⟨sb, 0, none⟩), .int .i64 k] w fun e w' => e = .returned (.int .i64 k) ∧ Blk w' sb (cs.set (7 + k) (.int .u64 (satN x 1))) 140 ∧ Kp (fun b => b = sb) w w' := by
  have c0 := hb.cell (7 + k) hc
  have HB := Lib.hid hb
  have HC := Lib.hid hc
  have HS : Hid (∀ W, Calls Tryz.prog 47 #[.int .u64 x, .int .u64 1] W fun e w' => e = .returned (.int .u64 (satN x 1)) ∧ Kp none' W w') := fun W => (sAdd x 1 hx (by decide) W).mono fun e w' h => ⟨h.1, h.2 ▸ Kp.refl none' _⟩
  have hki : (k : Int) < 32 := by omega
  have hix : ∀ W, (Instr.indexAt 31 (.pointer (some ⟨sb, 7, none⟩)) (.int .i64 k)).run Tryz.prog W = .ok (.pointer (some ⟨sb, 7 + k, none⟩)) W := fun W => by
    have h := run_indexAt_array (P := Tryz.prog) (w := W) 31 ⟨sb, 7, none⟩ .i64 k (by kernel_rfl)
    rw [h, if_pos ⟨by omega, by rw [show Tryz.prog.arrayLen 31 = 32 by kernel_rfl]; exact hki⟩, run_sizeOf_elem32]
    simp [Result.andThen, Addr.add]
  clear hb hc hx
  go_enter Tryz.func50, Tryz.ntmps50
  go_wp2_with fail
  refine wp_region_kept2 [] [0, 1, 2, 3, 4, 5, 6, 7, 8, 9, 10, 11] 12 (by kernel_rfl) (by kernel_rfl) (fun c a d u w h => by cases d <;> exact h) ?_
  simp only [pick, List.getElem?_cons_succ, List.getElem?_cons_zero, List.drop_succ_cons, List.drop_zero]
  show wpKL _ _ _ _ _ _
  repeat (first
    | (refine wpKL_op (by exact rfl) (by as_aux_lemma => intro W hK; have e0 := hK.cell c0 (fun x => x); go_simp; exact rfl) ?_; simp only [Act.put, List.setIfInBounds_toArray, List.set_cons_succ, List.set_cons_zero])
    | (refine wpKL_off (by exact rfl) ?_; simp only [Act.put, List.setIfInBounds_toArray, List.set_cons_succ, List.set_cons_zero])
    | (refine wpKL_call (by exact rfl) (by as_aux_lemma => intro W; go_simp; exact ⟨rfl, rfl⟩) (by intro W hK; with_reducible first | exact HS.out W) ?_; simp only [Act.put, List.setIfInBounds_toArray, List.set_cons_succ, List.set_cons_zero]))
  show ∀ W, _ → wpList _ _ _ _ _ _
  intro W2 hK2
  have HB2 := Lib.hid (HB.out.kp hK2 (fun x => x))
  have HK2 := Lib.hid hK2
  have d0 := HB2.out.cell (7 + k) HC.out
  have dz := HB2.out.fz (7 + k)
  clear hK2
  go_wp2_with fail
  go_ret
  exact ⟨rfl, HB2.out.set _ _, ((HK2.out.mono (fun _ _ x => x.elim)) : Kp (fun b => b = sb) w W2).set (p := ⟨sb, 7 + k, none⟩) (.inl rfl) _⟩
theorem list32 (l : List Nat) (h : l.length = 32) : ∃ a0 a1 a2 a3 a4 a5 a6 a7 a8 a9 a10 a11 a12 a13 a14 a15 a16 a17 a18 a19 a20 a21 a22 a23 a24 a25 a26 a27 a28 a29 a30 a31, l = [a0, a1, a2, a3, a4, a5, a6, a7, a8, a9, a10, a11, a12, a13, a14, a15, a16, a17, a18, a19, a20, a21, a22, a23, a24, a25, a26, a27, a28, a29, a30, a31] := by
  match l, h with
  | [a0, a1, a2, a3, a4, a5, a6, a7, a8, a9, a10, a11, a12, a13, a14, a15, a16, a17, a18, a19, a20, a21, a22, a23, a24, a25, a26, a27, a28, a29, a30, a31], _ => exact ⟨a0, a1, a2, a3, a4, a5, a6, a7, a8, a9, a10, a11, a12, a13, a14, a15, a16, a17, a18, a19, a20, a21, a22, a23, a24, a25, a26, a27, a28, a29, a30, a31, rfl⟩
theorem infoSta : (Tryz.prog.info? 33).map (·.size) = some 36 := by kernel_rfl
theorem infoA32 : (Tryz.prog.info? 31).map (·.size) = some 32 := by kernel_rfl
set_option maxRecDepth 100000 in
set_option maxHeartbeats 4000000 in
theorem sStats {w : World} {f : ShF} {s : Sh} (h : ShM w f s) :
    Calls Tryz.prog 49 #[.pointer (some ⟨f.sb, 0, none⟩)] w fun e w' => e = .returned (.agg (statsC s).toArray) ∧ Kp none' w w' := by
  have HG := Lib.hid (fun W (k : Kp none' w W) => gTotal (h.gate.old k))
  obtain ⟨a0, a1, a2, a3, a4, a5, a6, a7, a8, a9, a10, a11, a12, a13, a14, a15, a16, a17, a18, a19, a20, a21, a22, a23, a24, a25, a26, a27, a28, a29, a30, a31, hl⟩ := list32 s.ref h.ok.len
  have hB := h.top
  have hst : statsC s = [.int .u64 s.now, .int .u64 s.tok, .int .i64 (sumP s.g.st), .int .u64 (sumB s.g.st), .int .u64 a0, .int .u64 a1, .int .u64 a2, .int .u64 a3, .int .u64 a4, .int .u64 a5, .int .u64 a6, .int .u64 a7, .int .u64 a8, .int .u64 a9, .int .u64 a10, .int .u64 a11, .int .u64 a12, .int .u64 a13, .int .u64 a14, .int .u64 a15, .int .u64 a16, .int .u64 a17, .int .u64 a18, .int .u64 a19, .int .u64 a20, .int .u64 a21, .int .u64 a22, .int .u64 a23, .int .u64 a24, .int .u64 a25, .int .u64 a26, .int .u64 a27, .int .u64 a28, .int .u64 a29, .int .u64 a30, .int .u64 a31] := by unfold statsC; rw [hl]; rfl
  unfold shC at hB
  rw [hl] at hB
  have HB0 : Hid (Blk w f.sb [.pointer (some ⟨f.gb, 0, none⟩), .pointer (some ⟨f.rb, 0, none⟩), .int .u64 s.rate, .int .u64 s.burst, .int .u64 s.tok, f.v, .int .u64 s.now, .int .u64 a0, .int .u64 a1, .int .u64 a2, .int .u64 a3, .int .u64 a4, .int .u64 a5, .int .u64 a6, .int .u64 a7, .int .u64 a8, .int .u64 a9, .int .u64 a10, .int .u64 a11, .int .u64 a12, .int .u64 a13, .int .u64 a14, .int .u64 a15, .int .u64 a16, .int .u64 a17, .int .u64 a18, .int .u64 a19, .int .u64 a20, .int .u64 a21, .int .u64 a22, .int .u64 a23, .int .u64 a24, .int .u64 a25, .int .u64 a26, .int .u64 a27, .int .u64 a28, .int .u64 a29, .int .u64 a30, .int .u64 a31] 140) := Lib.hid hB
  have c0 := HB0.out.cell 0 rfl
  have hsl := HB0.out.lt
  rw [hst]
  clear h hl hst hB
  generalize s.now = now at *
  generalize s.tok = tok at *
  generalize sumP s.g.st = sp at *
  generalize sumB s.g.st = sbt at *
  generalize f.sb = sb at *
  generalize f.gb = gb at *
  have hz0 := Blk.new w [.int .u64 0, .int .u64 0, .int .i64 0, .int .u64 0, .int .u64 0, .int .u64 0, .int .u64 0, .int .u64 0, .int .u64 0, .int .u64 0, .int .u64 0, .int .u64 0, .int .u64 0, .int .u64 0, .int .u64 0, .int .u64 0, .int .u64 0, .int .u64 0, .int .u64 0, .int .u64 0, .int .u64 0, .int .u64 0, .int .u64 0, .int .u64 0, .int .u64 0, .int .u64 0, .int .u64 0, .int .u64 0, .int .u64 0, .int .u64 0, .int .u64 0, .int .u64 0, .int .u64 0, .int .u64 0, .int .u64 0, .int .u64 0] 33
  have HZ0 := Lib.hid hz0
  have HK0 := Lib.hid ((Kp.refl none' w).alloc (.cells #[.int .u64 0, .int .u64 0, .int .i64 0, .int .u64 0, .int .u64 0, .int .u64 0, .int .u64 0, .int .u64 0, .int .u64 0, .int .u64 0, .int .u64 0, .int .u64 0, .int .u64 0, .int .u64 0, .int .u64 0, .int .u64 0, .int .u64 0, .int .u64 0, .int .u64 0, .int .u64 0, .int .u64 0, .int .u64 0, .int .u64 0, .int .u64 0, .int .u64 0, .int .u64 0, .int .u64 0, .int .u64 0, .int .u64 0, .int .u64 0, .int .u64 0, .int .u64 0, .int .u64 0, .int .u64 0, .int .u64 0, .int .u64 0] 33))
  clear hz0
  refine calls_post ?_
  intro PP HP
  go_enter Tryz.func49, Tryz.ntmps49
  go_wp2_with fail
  refine (HG.out _ HK0.out).mono ?_
  rintro e w2 ⟨rfl, hk2⟩
  have HB2 := Lib.hid (HB0.out.kp (HK0.out.trans hk2) (fun x => x))
  have HZ2 := Lib.hid (HZ0.out.kp hk2 (fun x => x))
  have HK2 := Lib.hid (HK0.out.trans hk2)
  have c2 := HB2.out.cell 4 rfl
  have c6 := HB2.out.cell 6 rfl
  have HLD : Hid (∀ W, Kp none' w2 W → (Instr.loadAt 31 (.pointer (some ⟨sb, 7, none⟩))).run Tryz.prog W = .ok (.agg #[.int .u64 a0, .int .u64 a1, .int .u64 a2, .int .u64 a3, .int .u64 a4, .int .u64 a5, .int .u64 a6, .int .u64 a7, .int .u64 a8, .int .u64 a9, .int .u64 a10, .int .u64 a11, .int .u64 a12, .int .u64 a13, .int .u64 a14, .int .u64 a15, .int .u64 a16, .int .u64 a17, .int .u64 a18, .int .u64 a19, .int .u64 a20, .int .u64 a21, .int .u64 a22, .int .u64 a23, .int .u64 a24, .int .u64 a25, .int .u64 a26, .int .u64 a27, .int .u64 a28, .int .u64 a29, .int .u64 a30, .int .u64 a31]) W) := fun W hK => run_loadAt_mid W sb 7 31 [.int .u64 a0, .int .u64 a1, .int .u64 a2, .int .u64 a3, .int .u64 a4, .int .u64 a5, .int .u64 a6, .int .u64 a7, .int .u64 a8, .int .u64 a9, .int .u64 a10, .int .u64 a11, .int .u64 a12, .int .u64 a13, .int .u64 a14, .int .u64 a15, .int .u64 a16, .int .u64 a17, .int .u64 a18, .int .u64 a19, .int .u64 a20, .int .u64 a21, .int .u64 a22, .int .u64 a23, .int .u64 a24, .int .u64 a25, .int .u64 a26, .int .u64 a27, .int .u64 a28, .int .u64 a29, .int .u64 a30, .int .u64 a31] _ (fun j v hv => hK.cell (HB2.out.cell (7 + j) (by rw [Nat.add_comm 7 j]; exact hv)) (fun x => x)) Tryz.underlying31 rfl infoA32
  clear hk2 HG HB0 HZ0 HK0 c0
  go_wp2_with fail
  refine wp_region_kept2 [] [0, 1, 2, 3, 4, 5, 6, 7, 8, 9, 10, 11, 12, 13, 14] 15 (by kernel_rfl) (by kernel_rfl) (fun c a d u w h => by cases d <;> exact h) ?_
  simp only [pick, List.getElem?_cons_succ, List.getElem?_cons_zero, List.drop_succ_cons, List.drop_zero]
  show wpKL _ _ _ _ _ _
  repeat (first
    | (refine wpKL_op (by exact rfl) (load_at rfl rfl HLD.out) ?_; simp only [Act.put, List.setIfInBounds_toArray, List.set_cons_succ, List.set_cons_zero])
    | (refine wpKL_op (by exact rfl) (by as_aux_lemma => intro W hK; have e0 := hK.cell c2 (fun x => x); have e1 := hK.cell c6 (fun x => x); go_simp; exact rfl) ?_; simp only [Act.put, List.setIfInBounds_toArray, List.set_cons_succ, List.set_cons_zero])
    | (refine wpKL_off (by exact rfl) ?_; simp only [Act.put, List.setIfInBounds_toArray, List.set_cons_succ, List.set_cons_zero]))
  show ∀ W, _ → wpList _ _ _ _ _ _
  intro W3 hK3
  have HZ3 := Lib.hid (HZ2.out.kp hK3 (fun x => x))
  have HK3 := Lib.hid (HK2.out.trans hK3)
  clear hK3 HB2 HZ2 HK2 c2 c6 HLD
  refine wp_built rfl 33 _ rfl (.agg #[.int .u64 now, .int .u64 tok, .int .i64 sp, .int .u64 sbt, .int .u64 a0, .int .u64 a1, .int .u64 a2, .int .u64 a3, .int .u64 a4, .int .u64 a5, .int .u64 a6, .int .u64 a7, .int .u64 a8, .int .u64 a9, .int .u64 a10, .int .u64 a11, .int .u64 a12, .int .u64 a13, .int .u64 a14, .int .u64 a15, .int .u64 a16, .int .u64 a17, .int .u64 a18, .int .u64 a19, .int .u64 a20, .int .u64 a21, .int .u64 a22, .int .u64 a23, .int .u64 a24, .int .u64 a25, .int .u64 a26, .int .u64 a27, .int .u64 a28, .int .u64 a29, .int .u64 a30, .int .u64 a31]) (run_build _ _ _ _ (by kernel_rfl)) ?_
  refine wp_store_blk rfl 33 (.tmp 2) (.tmp 28) rfl HZ3.out [.int .u64 now, .int .u64 tok, .int .i64 sp, .int .u64 sbt, .int .u64 a0, .int .u64 a1, .int .u64 a2, .int .u64 a3, .int .u64 a4, .int .u64 a5, .int .u64 a6, .int .u64 a7, .int .u64 a8, .int .u64 a9, .int .u64 a10, .int .u64 a11, .int .u64 a12, .int .u64 a13, .int .u64 a14, .int .u64 a15, .int .u64 a16, .int .u64 a17, .int .u64 a18, .int .u64 a19, .int .u64 a20, .int .u64 a21, .int .u64 a22, .int .u64 a23, .int .u64 a24, .int .u64 a25, .int .u64 a26, .int .u64 a27, .int .u64 a28, .int .u64 a29, .int .u64 a30, .int .u64 a31] rfl rfl rfl infoSta rfl ?_
  intro W4 hb4 hk4
  have HB4 := Lib.hid hb4
  have HK4 := Lib.hid hk4
  clear hb4 hk4
  go_wp2_with fail
  refine ret_blk (by exact rfl) HB4.out _ Tryz.underlying33 rfl infoSta (by exact rfl) (HP.out _ _ ⟨rfl, HK3.out.then HK4.out (fun z hz e => by omega)⟩)
def knownK (k : Int) : Int := if k < 0 ∨ 5 < k then 0 else k
theorem sKnown (k : Int) (w : World) : Calls Tryz.prog 44 #[.int .i64 k] w fun e w' => e = .returned (.int .i64 (knownK k)) ∧ w = w' := by
  by_cases h1 : k < 0
  · have e : knownK k = 0 := by unfold knownK; rw [if_pos (.inl h1)]
    rw [e]
    go_enter Tryz.func44, Tryz.ntmps44
    go_wp2
    go_ret
    exact ⟨rfl, rfl⟩
  · by_cases h2 : 5 < k
    · have e : knownK k = 0 := by unfold knownK; rw [if_pos (.inr h2)]
      rw [e]
      go_enter Tryz.func44, Tryz.ntmps44
      go_wp2
      go_ret
      exact ⟨rfl, rfl⟩
    · have e : knownK k = k := by unfold knownK; rw [if_neg (by omega)]
      rw [e]
      go_enter Tryz.func44, Tryz.ntmps44
      go_wp2
      go_ret
      exact ⟨rfl, rfl⟩

set_option maxRecDepth 100000 in
set_option maxHeartbeats 8000000 in
theorem enqNo {w : World} {f : ShF} {s : Sh} (kind : Int) (fl id ln tk : Nat) (h : ShM w f s) (hm : mayG s.g fl ln ≠ 0) (hid : fl < 4294967296) (hidd : id < 4294967296) (hln : ln < 18446744073709551616) :
    Calls Tryz.prog 45 #[.pointer (some ⟨f.sb, 0, none⟩), .agg #[.int .i64 kind, .int .u32 fl, .int .u32 id, .int .u64 ln, .int .u64 tk]] w fun e w' => e = .returned (.agg (enqS s fl id ln).1.toArray) ∧ ShTo w f (enqS s fl id ln).2 w' := by
  have HOK2 := Lib.hid (enq_ok h.ok h.gate.ok h.ranks.ok hid hidd hln)
  obtain ⟨c, hc, hc32⟩ : ∃ c : Nat, mayG s.g fl ln = c ∧ c < 32 := ⟨(mayG s.g fl ln).toNat, may_lt s.g fl ln⟩
  have hq : enqS s fl id ln = (rpC 1 c fl id ln 0 zSt, refS s c) := by unfold enqS; rw [if_neg hm, hc]; rfl
  rw [hq] at HOK2 ⊢
  clear hq
  have HOK := Lib.hid h.ok
  have hnow := h.ok.now
  have HBKH := Lib.hid h.back
  have HG := Lib.hid h.gate
  have HR := Lib.hid h.ranks
  have HB0 := Lib.hid h.top
  have hsl := h.top.lt
  have c0 := h.top.cell 0 rfl
  have HSG := Lib.hid h.sg; have HSR := Lib.hid h.sr; have HSK := Lib.hid h.sk
  have HGR := Lib.hid h.gr; have HGK := Lib.hid h.gk; have HRK := Lib.hid h.rk
  have HGL := Lib.hid (fun b hb => h.gate.lt (b := b) hb); have HRL := Lib.hid (fun b hb => h.ranks.lt (b := b) hb); have HBL := Lib.hid (fun b hb => h.back.lt (b := b) hb)
  have HIN := Lib.hid (fun W (k : GMem W f.Fg f.gb s.g) => by have := gIn k fl ln hid; rw [hc, show inG s.g fl ln = s.g by unfold inG; rw [if_neg hm]] at this; exact this)
  have hc0 : (c : Int) ≠ 0 := fun e => hm (by rw [hc]; exact e)
  have hx32 : c < s.ref.length := by rw [h.ok.len]; exact hc32
  have hrl : s.ref.getD c 0 < 18446744073709551616 := by rw [List.getD_eq_getElem?_getD, List.getElem?_eq_getElem hx32]; exact h.ok.ref _ (List.getElem_mem hx32)
  have hcc : (shC s f)[7 + c]? = some (.int .u64 (s.ref.getD c 0)) := ref_at s f hx32
  have HRF := Lib.hid (fun W (k : Blk W f.sb (shC s f) 140) => sRefuseR k c (s.ref.getD c 0) hc32 hcc hrl)
  have HRS : Hid ((shC s f).set (7 + c) (.int .u64 (satN (s.ref.getD c 0) 1)) = shC (refS s c) f) := Lib.hid (ref_shC s f c)
  have HTOP := Lib.hid h.top
  refine calls_post ?_
  intro PP HP
  clear h hm hid hidd hln hnow hc32 hx32 hrl hcc hc
  obtain ⟨sb, gb, rb, v, Fg, Fr, Fb⟩ := f
  simp only at *
  generalize hcs : shC s ⟨sb, gb, rb, v, Fg, Fr, Fb⟩ = cs at *
  have hz0 := Blk.new (w.alloc (.cells #[.int .i64 kind, .int .u32 fl, .int .u32 id, .int .u64 ln, .int .u64 tk] 70)) [.int .i64 0, .int .i64 0, .int .u32 0, .int .u32 0, .int .u64 0, .int .u64 0, .int .u64 0, .int .u64 0, .int .i64 0, .int .u64 0, .int .u64 0, .int .u64 0, .int .u64 0, .int .u64 0, .int .u64 0, .int .u64 0, .int .u64 0, .int .u64 0, .int .u64 0, .int .u64 0, .int .u64 0, .int .u64 0, .int .u64 0, .int .u64 0, .int .u64 0, .int .u64 0, .int .u64 0, .int .u64 0, .int .u64 0, .int .u64 0, .int .u64 0, .int .u64 0, .int .u64 0, .int .u64 0, .int .u64 0, .int .u64 0, .int .u64 0, .int .u64 0, .int .u64 0, .int .u64 0, .int .u64 0, .int .u64 0] 67
  have e1 : (w.alloc (.cells #[.int .i64 kind, .int .u32 fl, .int .u32 id, .int .u64 ln, .int .u64 tk] 70)).heap.size = w.heap.size + 1 := by simp
  rw [e1] at hz0
  have HZ0 := Lib.hid hz0
  have hz1 := Blk.new ((w.alloc (.cells #[.int .i64 kind, .int .u32 fl, .int .u32 id, .int .u64 ln, .int .u64 tk] 70)).alloc (.cells #[.int .i64 0, .int .i64 0, .int .u32 0, .int .u32 0, .int .u64 0, .int .u64 0, .int .u64 0, .int .u64 0, .int .i64 0, .int .u64 0, .int .u64 0, .int .u64 0, .int .u64 0, .int .u64 0, .int .u64 0, .int .u64 0, .int .u64 0, .int .u64 0, .int .u64 0, .int .u64 0, .int .u64 0, .int .u64 0, .int .u64 0, .int .u64 0, .int .u64 0, .int .u64 0, .int .u64 0, .int .u64 0, .int .u64 0, .int .u64 0, .int .u64 0, .int .u64 0, .int .u64 0, .int .u64 0, .int .u64 0, .int .u64 0, .int .u64 0, .int .u64 0, .int .u64 0, .int .u64 0, .int .u64 0, .int .u64 0] 67)) [.int .u32 fl, .int .u32 id, .int .u64 ln] 65
  have hz2 := Blk.new (((w.alloc (.cells #[.int .i64 kind, .int .u32 fl, .int .u32 id, .int .u64 ln, .int .u64 tk] 70)).alloc (.cells #[.int .i64 0, .int .i64 0, .int .u32 0, .int .u32 0, .int .u64 0, .int .u64 0, .int .u64 0, .int .u64 0, .int .i64 0, .int .u64 0, .int .u64 0, .int .u64 0, .int .u64 0, .int .u64 0, .int .u64 0, .int .u64 0, .int .u64 0, .int .u64 0, .int .u64 0, .int .u64 0, .int .u64 0, .int .u64 0, .int .u64 0, .int .u64 0, .int .u64 0, .int .u64 0, .int .u64 0, .int .u64 0, .int .u64 0, .int .u64 0, .int .u64 0, .int .u64 0, .int .u64 0, .int .u64 0, .int .u64 0, .int .u64 0, .int .u64 0, .int .u64 0, .int .u64 0, .int .u64 0, .int .u64 0, .int .u64 0] 67)).alloc (.cells #[.int .u32 fl, .int .u32 id, .int .u64 ln] 65)) [.int .i64 0, .int .i64 0, .int .u32 0, .int .u32 0, .int .u64 0, .int .u64 0, .int .u64 0, .int .u64 0, .int .i64 0, .int .u64 0, .int .u64 0, .int .u64 0, .int .u64 0, .int .u64 0, .int .u64 0, .int .u64 0, .int .u64 0, .int .u64 0, .int .u64 0, .int .u64 0, .int .u64 0, .int .u64 0, .int .u64 0, .int .u64 0, .int .u64 0, .int .u64 0, .int .u64 0, .int .u64 0, .int .u64 0, .int .u64 0, .int .u64 0, .int .u64 0, .int .u64 0, .int .u64 0, .int .u64 0, .int .u64 0, .int .u64 0, .int .u64 0, .int .u64 0, .int .u64 0, .int .u64 0, .int .u64 0] 67
  have hk0 := ((((Kp.refl none' w).alloc (.cells #[.int .i64 kind, .int .u32 fl, .int .u32 id, .int .u64 ln, .int .u64 tk] 70)).alloc (.cells #[.int .i64 0, .int .i64 0, .int .u32 0, .int .u32 0, .int .u64 0, .int .u64 0, .int .u64 0, .int .u64 0, .int .i64 0, .int .u64 0, .int .u64 0, .int .u64 0, .int .u64 0, .int .u64 0, .int .u64 0, .int .u64 0, .int .u64 0, .int .u64 0, .int .u64 0, .int .u64 0, .int .u64 0, .int .u64 0, .int .u64 0, .int .u64 0, .int .u64 0, .int .u64 0, .int .u64 0, .int .u64 0, .int .u64 0, .int .u64 0, .int .u64 0, .int .u64 0, .int .u64 0, .int .u64 0, .int .u64 0, .int .u64 0, .int .u64 0, .int .u64 0, .int .u64 0, .int .u64 0, .int .u64 0, .int .u64 0] 67)).alloc (.cells #[.int .u32 fl, .int .u32 id, .int .u64 ln] 65)).alloc (.cells #[.int .i64 0, .int .i64 0, .int .u32 0, .int .u32 0, .int .u64 0, .int .u64 0, .int .u64 0, .int .u64 0, .int .i64 0, .int .u64 0, .int .u64 0, .int .u64 0, .int .u64 0, .int .u64 0, .int .u64 0, .int .u64 0, .int .u64 0, .int .u64 0, .int .u64 0, .int .u64 0, .int .u64 0, .int .u64 0, .int .u64 0, .int .u64 0, .int .u64 0, .int .u64 0, .int .u64 0, .int .u64 0, .int .u64 0, .int .u64 0, .int .u64 0, .int .u64 0, .int .u64 0, .int .u64 0, .int .u64 0, .int .u64 0, .int .u64 0, .int .u64 0, .int .u64 0, .int .u64 0, .int .u64 0, .int .u64 0] 67)
  have e2 : ((w.alloc (.cells #[.int .i64 kind, .int .u32 fl, .int .u32 id, .int .u64 ln, .int .u64 tk] 70)).alloc (.cells #[.int .i64 0, .int .i64 0, .int .u32 0, .int .u32 0, .int .u64 0, .int .u64 0, .int .u64 0, .int .u64 0, .int .i64 0, .int .u64 0, .int .u64 0, .int .u64 0, .int .u64 0, .int .u64 0, .int .u64 0, .int .u64 0, .int .u64 0, .int .u64 0, .int .u64 0, .int .u64 0, .int .u64 0, .int .u64 0, .int .u64 0, .int .u64 0, .int .u64 0, .int .u64 0, .int .u64 0, .int .u64 0, .int .u64 0, .int .u64 0, .int .u64 0, .int .u64 0, .int .u64 0, .int .u64 0, .int .u64 0, .int .u64 0, .int .u64 0, .int .u64 0, .int .u64 0, .int .u64 0, .int .u64 0, .int .u64 0] 67)).heap.size = w.heap.size + 2 := by simp
  have e3 : (((w.alloc (.cells #[.int .i64 kind, .int .u32 fl, .int .u32 id, .int .u64 ln, .int .u64 tk] 70)).alloc (.cells #[.int .i64 0, .int .i64 0, .int .u32 0, .int .u32 0, .int .u64 0, .int .u64 0, .int .u64 0, .int .u64 0, .int .i64 0, .int .u64 0, .int .u64 0, .int .u64 0, .int .u64 0, .int .u64 0, .int .u64 0, .int .u64 0, .int .u64 0, .int .u64 0, .int .u64 0, .int .u64 0, .int .u64 0, .int .u64 0, .int .u64 0, .int .u64 0, .int .u64 0, .int .u64 0, .int .u64 0, .int .u64 0, .int .u64 0, .int .u64 0, .int .u64 0, .int .u64 0, .int .u64 0, .int .u64 0, .int .u64 0, .int .u64 0, .int .u64 0, .int .u64 0, .int .u64 0, .int .u64 0, .int .u64 0, .int .u64 0] 67)).alloc (.cells #[.int .u32 fl, .int .u32 id, .int .u64 ln] 65)).heap.size = w.heap.size + 3 := by simp
  rw [e2] at hz1
  rw [e3] at hz2
  have HZ1 := Lib.hid hz1
  have HZ2 := Lib.hid hz2
  have HK0 := Lib.hid hk0
  clear hz0 hz1 hz2 hk0 e1 e2 e3
  go_enter Tryz.func45, Tryz.ntmps45
  go_wp2_with (first
    | (refine wp_store_blk rfl 67 (.tmp 6) (.tmp 16) rfl HZ2.out [.int .i64 1, .int .i64 0, .int .u32 fl, .int .u32 id, .int .u64 ln, .int .u64 0, .int .u64 0, .int .u64 0, .int .i64 0, .int .u64 0, .int .u64 0, .int .u64 0, .int .u64 0, .int .u64 0, .int .u64 0, .int .u64 0, .int .u64 0, .int .u64 0, .int .u64 0, .int .u64 0, .int .u64 0, .int .u64 0, .int .u64 0, .int .u64 0, .int .u64 0, .int .u64 0, .int .u64 0, .int .u64 0, .int .u64 0, .int .u64 0, .int .u64 0, .int .u64 0, .int .u64 0, .int .u64 0, .int .u64 0, .int .u64 0, .int .u64 0, .int .u64 0, .int .u64 0, .int .u64 0, .int .u64 0, .int .u64 0] rfl rfl rfl infoRp rfl ?_
       intro W4 hb4 hk4
       have HB4 := Lib.hid hb4
       have HK4 := Lib.hid hk4
       clear hb4 hk4))
  have k04 : Kp none' w W4 := HK0.out.then HK4.out (fun b hb e => by omega)
  have HP4 := Lib.hid ((HZ1.out.alloc (.cells #[.int .i64 0, .int .i64 0, .int .u32 0, .int .u32 0, .int .u64 0, .int .u64 0, .int .u64 0, .int .u64 0, .int .i64 0, .int .u64 0, .int .u64 0, .int .u64 0, .int .u64 0, .int .u64 0, .int .u64 0, .int .u64 0, .int .u64 0, .int .u64 0, .int .u64 0, .int .u64 0, .int .u64 0, .int .u64 0, .int .u64 0, .int .u64 0, .int .u64 0, .int .u64 0, .int .u64 0, .int .u64 0, .int .u64 0, .int .u64 0, .int .u64 0, .int .u64 0, .int .u64 0, .int .u64 0, .int .u64 0, .int .u64 0, .int .u64 0, .int .u64 0, .int .u64 0, .int .u64 0, .int .u64 0, .int .u64 0] 67)).kp HK4.out (fun e => by omega))
  have HZ4 := Lib.hid (((HZ0.out.alloc (.cells #[.int .u32 fl, .int .u32 id, .int .u64 ln] 65)).alloc (.cells #[.int .i64 0, .int .i64 0, .int .u32 0, .int .u32 0, .int .u64 0, .int .u64 0, .int .u64 0, .int .u64 0, .int .i64 0, .int .u64 0, .int .u64 0, .int .u64 0, .int .u64 0, .int .u64 0, .int .u64 0, .int .u64 0, .int .u64 0, .int .u64 0, .int .u64 0, .int .u64 0, .int .u64 0, .int .u64 0, .int .u64 0, .int .u64 0, .int .u64 0, .int .u64 0, .int .u64 0, .int .u64 0, .int .u64 0, .int .u64 0, .int .u64 0, .int .u64 0, .int .u64 0, .int .u64 0, .int .u64 0, .int .u64 0, .int .u64 0, .int .u64 0, .int .u64 0, .int .u64 0, .int .u64 0, .int .u64 0] 67)).kp HK4.out (fun e => by omega))
  have K04 := Lib.hid k04
  have d0 := k04.cell c0 (fun x => x)
  have p0 := HP4.out.cell 0 rfl
  have p2 := HP4.out.cell 2 rfl
  clear HZ0 HZ1 HZ2 HK0 HK4 k04
  go_wp2_with fail
  refine wp_region_kept2 [] [0, 1, 2, 3, 4, 5, 6, 7] 8 (by kernel_rfl) (by kernel_rfl) (fun c a d u w h => by cases d <;> exact h) ?_
  simp only [pick, List.getElem?_cons_succ, List.getElem?_cons_zero, List.drop_succ_cons, List.drop_zero]
  show wpKL _ _ _ _ _ _
  repeat (first
    | (refine wpKL_op (by exact rfl) (by as_aux_lemma => intro W hK; have e0 := hK.cell d0 (fun x => x); have e1 := hK.cell p0 (fun x => x); have e2 := hK.cell p2 (fun x => x); go_simp; exact rfl) ?_; simp only [Act.put, List.setIfInBounds_toArray, List.set_cons_succ, List.set_cons_zero])
    | (refine wpKL_off (by exact rfl) ?_; simp only [Act.put, List.setIfInBounds_toArray, List.set_cons_succ, List.set_cons_zero]))
  show ∀ W, _ → wpList _ _ _ _ _ _
  intro W5 hK5
  have K05 := Lib.hid (K04.out.trans hK5)
  have HP5 := Lib.hid (HP4.out.kp hK5 (fun x => x))
  have HB5 := Lib.hid (HB4.out.kp hK5 (fun x => x))
  have HG5 := Lib.hid (HG.out.old K05.out)
  have HZ5 := Lib.hid (HZ4.out.kp hK5 (fun x => x))
  clear hK5 d0 p0 p2 HP4 HB4 K04
  go_wp2_with fail
  refine (HIN.out W5 HG5.out).mono ?_
  rintro e W6 ⟨rfl, hg6, hk6⟩
  have k06 : Kp Fg w W6 := (K05.out.mono (fun _ _ x => x.elim)).trans hk6
  have K06 := Lib.hid k06
  have hgl := HGL.out
  have HG6 := Lib.hid hg6
  have HB6 := Lib.hid (HB5.out.kp hk6 (fun hb => by have := hgl _ hb; omega))
  have HZ6 := Lib.hid (HZ5.out.kp hk6 (fun hb => by have := hgl _ hb; omega))
  have HT6 := Lib.hid (HTOP.out.kp k06 HSG.out)
  clear hg6 hk6 k06 hgl HIN HG HB5 HP5 K05 HG5
  go_wp2_with fail
  refine (HRF.out W6 HT6.out).mono ?_
  rintro e W7 ⟨rfl, hb7, hk7⟩
  have hsz := HB6.out.lt
  have HT7 := Lib.hid hb7
  have HK7 := Lib.hid hk7
  have HB7 := Lib.hid (HB6.out.kp hk7 (fun e => by omega))
  have HZ7 := Lib.hid (HZ6.out.kp hk7 (fun e => by omega))
  have b1 := HB7.out.cell 1 rfl
  have bz := HB7.out.fz 1
  have HB8 := Lib.hid (HB7.out.set 1 (.int .i64 c))
  have ks : Kp (fun z => z = w.heap.size + 3) W7 (W7.setCell ⟨w.heap.size + 3, 1, none⟩ (.int .i64 c)) := (Kp.refl (fun z => z = w.heap.size + 3) W7).set (p := ⟨w.heap.size + 3, 1, none⟩) (.inl rfl) _
  have HZ8 := Lib.hid (HZ7.out.kp ks (fun e => by omega))
  have KS := Lib.hid ks
  clear hb7 hk7 ks HRF HT6 HB6 HZ6
  go_wp2_with (first
    | (refine wpList_load_mid rfl 67 (.tmp 6) rfl (w.heap.size + 3) 0 rfl ([.int .i64 1, .int .i64 0, .int .u32 fl, .int .u32 id, .int .u64 ln, .int .u64 0, .int .u64 0, .int .u64 0, .int .i64 0, .int .u64 0, .int .u64 0, .int .u64 0, .int .u64 0, .int .u64 0, .int .u64 0, .int .u64 0, .int .u64 0, .int .u64 0, .int .u64 0, .int .u64 0, .int .u64 0, .int .u64 0, .int .u64 0, .int .u64 0, .int .u64 0, .int .u64 0, .int .u64 0, .int .u64 0, .int .u64 0, .int .u64 0, .int .u64 0, .int .u64 0, .int .u64 0, .int .u64 0, .int .u64 0, .int .u64 0, .int .u64 0, .int .u64 0, .int .u64 0, .int .u64 0, .int .u64 0, .int .u64 0].set 1 (.int .i64 c)) _ (fun j v hv => by rw [Nat.zero_add]; exact HB8.out.cell j hv) Tryz.underlying67 rfl infoRp ?_)
    | (refine wp_store_blk rfl 67 (.tmp 4) (.tmp 32) rfl HZ8.out ([.int .i64 1, .int .i64 0, .int .u32 fl, .int .u32 id, .int .u64 ln, .int .u64 0, .int .u64 0, .int .u64 0, .int .i64 0, .int .u64 0, .int .u64 0, .int .u64 0, .int .u64 0, .int .u64 0, .int .u64 0, .int .u64 0, .int .u64 0, .int .u64 0, .int .u64 0, .int .u64 0, .int .u64 0, .int .u64 0, .int .u64 0, .int .u64 0, .int .u64 0, .int .u64 0, .int .u64 0, .int .u64 0, .int .u64 0, .int .u64 0, .int .u64 0, .int .u64 0, .int .u64 0, .int .u64 0, .int .u64 0, .int .u64 0, .int .u64 0, .int .u64 0, .int .u64 0, .int .u64 0, .int .u64 0, .int .u64 0].set 1 (.int .i64 c)) rfl rfl rfl infoRp rfl ?_
       intro W12 hb12 hk12
       have HB12 := Lib.hid hb12
       have HK12 := Lib.hid hk12
       clear hb12 hk12))
  have hgl := HGL.out
  have hrl := HRL.out
  have hbl := HBL.out
  have k67 : Kp (fun z => z = sb ∨ w.heap.size ≤ z) W6 W12 := ((HK7.out.mono (fun z _ h => .inl h)).trans (KS.out.mono (fun z _ h => .inr (by omega)))).trans (HK12.out.mono (fun z _ h => .inr (by omega)))
  have K12 := ((K06.out.mono (fun z _ h => .inr h)) : Kp (fun z => z = sb ∨ Fg z) w W6).then k67 (fun i hi h => .inl (h.resolve_right (by omega)))
  have ht7 := HT7.out
  rw [HRS.out] at ht7
  refine ret_blk (by exact rfl) HB12.out _ Tryz.underlying67 rfl infoRp (by exact rfl) (HP.out _ _ ⟨rfl, ⟨sb, gb, rb, v, Fg, Fr, Fb⟩, ?_, ?_, Nw.refl _ _, rfl⟩)
  · exact { top := (ht7.kp KS.out (fun e => by omega)).kp HK12.out (fun e => by omega)
            gate := HG6.out.kp k67 (fun z hz h => by rcases h with h | h; (subst h; exact HSG.out hz); (have := hgl z hz; omega))
            ranks := HR.out.kp K12 (fun z hz h => by rcases h with h | h; (subst h; exact HSR.out hz); exact HGR.out z h hz)
            back := HBKH.out.kp K12 (fun z hz h => by rcases h with h | h; (subst h; exact HSK.out hz); exact HGK.out z h hz)
            sg := HSG.out
            sr := HSR.out
            sk := HSK.out
            gr := HGR.out
            gk := HGK.out
            rk := HRK.out
            ok := HOK2.out }
  · exact K12.mono (fun z _ h => by rcases h with h | h; exact .inl h; exact .inr (.inl h))
end Go.Proofs.YtfckgddodjmbdaaGreatDoor
