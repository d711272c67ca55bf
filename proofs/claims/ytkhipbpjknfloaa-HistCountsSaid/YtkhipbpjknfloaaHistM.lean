/- Layer 38: the histogram's walk: its rows, rising. -/
import Derived.Test.YtkhipbpjknfloaaHistK
import Derived.Test.YtkhipbpjknfloaaRangeX
namespace Go.Proofs.Ytkhipbpjknfloaa
set_option linter.unusedVariables false
set_option linter.unusedSimpArgs false
open Go.RowKit Go.Maps Go.Shelf
attribute [local go_sem] Oper.semAt_some
/-- A row: least number, greatest number, count. -/
abbrev RwN := Nat × Nat × Nat
def rowN (f : Nat) (l : List Ad) (b : Nat) : RwN := (lo f b, lo f (b + 1) - 1, cntN f l b)
def rowsN (f : Nat) (l : List Ad) : List RwN := (ksN f l).map (rowN f l)
def enRw (r : RwN) : List Value := [.int .u64 r.1, .int .u64 r.2.1, .int .u64 r.2.2]
theorem enRw_len (r : RwN) : (enRw r).length = 3 := rfl
theorem rgRow {f b : Nat} (hb : b ≤ bk f 18446744073709551615) (hf : f ≤ 8) : rgN f (b : Int) = .tuple #[.int .u64 (lo f b : Nat), .int .u64 (lo f (b + 1) - 1 : Nat), .bool true] := by
  have := lo_bnd hf hb
  unfold rgN
  rw [if_neg (by omega), Int.toNat_natCast, show ((lo f (b + 1) : Nat) : Int) - 1 = ((lo f (b + 1) - 1 : Nat) : Int) by omega]
theorem rowsN_get (f : Nat) (l : List Ad) (j : Nat) (h : j < (ksN f l).length) (h2 : j < (rowsN f l).length) : (rowsN f l)[j] = rowN f l (ksN f l)[j] := by simp [rowsN]
set_option maxRecDepth 100000 in
set_option maxHeartbeats 1000000 in
theorem hWalk {w : World} {hb f mb n : Nat} {D : DU} {l : List Ad} (hm : HMem w hb f mb n D l) (hf : f ≤ 8) (hl : l.length ≤ 1000000) (hl64 : ∀ e ∈ l, e.1 < 18446744073709551616) :
    TellsF Try.prog 56 (fun y => #[.pointer (some ⟨hb, 0, none⟩)] ++ #[y] ++ #[]) (fun r : RwN => #[.agg #[.int .u64 r.1, .int .u64 r.2.1, .int .u64 r.2.2]]) (rowsN f l) (fun b => b = hb ∨ b = mb) w := by
  intro lp J Jx F0 W hkp hlp hF0 hH hJ hJx hY h0
  have hmW := hm.old hkp
  have c1 := hmW.top.top.cell 1 rfl
  have KC := Lib.hid (keysCall (some mb) W)
  have SC := Lib.hid (sortedCall hmW hl)
  have HY := Lib.hid hY; have HJ := Lib.hid hJ; have HM := Lib.hid hmW; have H0 := Lib.hid h0; have HH := Lib.hid hH; have HF0 := Lib.hid hF0
  have HB := Lib.hid (fun b (h : b ∈ ksN f l) => ks_bnd hf hl64 h)
  have hkl := ks_len f l
  clear hm hmW hkp hJ hJx hY h0 hH hF0
  refine callsIn_of_wp Try.func56 rfl trivial ?_ rfl
  simp only [Try.ntmps56, List.size_toArray, List.length_cons, List.length_nil, Nat.reduceAdd, Nat.reduceSub, Array.replicate_succ, Array.replicate_zero, List.push_toArray, List.append_toArray, List.nil_append, List.cons_append]
  gi_wp2_with (refine ⟨trivial, rfl, ?_⟩; first | (gi_at_call 71; refine (callsIn_wide.2 KC.out).mono ?_; rintro e w1 ⟨rfl, rfl⟩) | (gi_at_call 70; refine (callsIn_wide.2 SC.out).mono ?_; rintro e w2 ⟨v, rfl, ho, k2⟩; obtain ⟨ao, cap, rfl⟩ := own_shape ho; have HO := Lib.hid ho; have HK2 := Lib.hid (((Kp.refl none' W).alloc _).trans k2); clear ho k2))
  have H2 := Lib.hid (HJ.out _ _ _ _ H0.out HK2.out)
  clear H0 KC SC
  gi_loopw [18] (fun i0 wr => ∃ (j : Nat) (F : Nat → Prop), i0 = .int .i64 j ∧ j ≤ (ksN f l).length ∧ Hid (J ((rowsN f l).take j) F wr ∧ Kp (fun b => F0 b ∨ b = lp) W wr ∧ wr.ownsRow W.heap.size 3 1 (.slice ao (ksN f l).length cap) (ksN f l).length ((ksN f l).map fun b : Nat => Value.int .i64 b) ∧ (∀ b, F b → F0 b ∨ w2.heap.size ≤ b) ∧ w2.heap.size ≤ wr.heap.size)) (fun i0 _ => (ksN f l).length - (Go.Proofs.intOf i0).toNat)
  case atStart => exact ⟨0, F0, rfl, by omega, by rw [List.take_zero]; exact H2.out, (HK2.out.mono fun _ _ x => x.elim), HO.out, fun b hb => .inl hb, Nat.le_refl _⟩
  case round =>
    obtain ⟨j, F, rfl, hj, hr⟩ := hrel
    have hzW : W.heap.size ≤ w2.heap.size := HK2.out.size
    by_cases hlt : j < (ksN f l).length
    · obtain ⟨b, hbj⟩ : ∃ b, (ksN f l)[j] = b := ⟨_, rfl⟩
      have hbm : b ∈ ksN f l := by rw [← hbj]; exact List.getElem_mem hlt
      obtain ⟨hb1, hb2⟩ := HB.out b hbm
      obtain ⟨q1, q2, q3, q4, q5⟩ := hr.out
      obtain ⟨g, off, cap', e1, hc⟩ : ∃ g off cap', Value.slice ao (ksN f l).length cap = .slice (some ⟨g, off, none⟩) (ksN f l).length cap' ∧ wr.cell? ⟨g, off + j, none⟩ = some (.int .i64 (b : Nat)) := by
        obtain ⟨ao', cap', e, hc⟩ := (own_sl q3).is
        obtain ⟨g, off, h1, h2⟩ := hc j (.int .i64 (b : Nat)) (by rw [List.getElem?_map, List.getElem?_eq_getElem hlt, hbj]; rfl)
        subst h1
        exact ⟨g, off, cap', by rw [e], h2⟩
      injection e1 with e1 _ e3
      subst e1 e3
      have hg1 := (own_block HO.out rfl).1
      have hg2 := (own_block HO.out rfl).2
      have hji : (j : Int) < (ksN f l).length := by omega
      have hmr := HM.out.kp q2 (fun h => by have := HH.out hb (.inl rfl); rcases h with h | h; exact this.1 h; exact this.2 h) (fun h => by have := HH.out mb (.inr rfl); rcases h with h | h; exact this.1 h; exact this.2 h)
      have RG := hRange hb f mb (b : Nat) hf wr hmr.top
      rw [rgRow hb1 hf] at RG
      have HRG := Lib.hid RG
      have HMR := Lib.hid hmr
      have Q := Lib.hid hr.out
      have hx : Hid (rowsN f l = (rowsN f l).take j ++ rowN f l b :: (rowsN f l).drop (j + 1)) := by
        have hj2 : j < (rowsN f l).length := by unfold rowsN; rw [List.length_map]; exact hlt
        have he : (rowsN f l)[j] = rowN f l b := by rw [← hbj]; exact rowsN_get f l j hlt hj2
        show _ = _
        rw [← he, List.getElem_cons_drop, List.take_append_drop]
      have hx2 : Hid ((rowsN f l).take (j + 1) = (rowsN f l).take j ++ [rowN f l b]) := by
        have hj2 : j < (rowsN f l).length := by unfold rowsN; rw [List.length_map]; exact hlt
        have he : (rowsN f l)[j] = rowN f l b := by rw [← hbj]; exact rowsN_get f l j hlt hj2
        show _ = _
        rw [List.take_succ_eq_append_getElem hj2, he]
      have c1r := hmr.top.top.cell 1 rfl
      clear hr q1 q2 q3 q4 q5 RG hmr hbj hbm c1
      gi_wp2
      refine ⟨trivial, rfl, (callsIn_wide.2 HRG.out).mono ?_⟩
      rintro e w3 ⟨rfl, k3⟩
      have K3 := Lib.hid k3
      clear k3
      have hm3 := HMR.out.old K3.out
      have d1 := hm3.top.top.cell 1 rfl
      have hkey : keyOf Try.prog 3 (.int .i64 (b : Nat)) = some (kI (b : Nat)) := keyOf_int_mk Try.underlying3 (keyWf hb2)
      have hlk : (Instr.lookup 97 (.map (some mb)) (.int .i64 (b : Nat)) false).run Try.prog w3 = .ok (.int .u64 (cntN f l b : Nat)) w3 := by
        obtain ⟨c, h1, h2, _⟩ := hm3.own.lookup_int (int_keyed Try.underlying3) Try.underlying97 Try.underlying35 (Try.zeroValue35 w3) hkey
        rw [hm3.at_ b hb2] at h2
        injection h2 with h2
        injection h2 with _ h2
        rw [h1, h2]
      have hJ3 := HJ.out _ _ _ _ Q.out.1 K3.out
      obtain ⟨f1, t1, a1, b1, hy1, hR1⟩ := HY.out _ _ _ _ w3 hx.out hJ3
      have HR := Lib.hid hR1
      clear hR1 hJ3 hm3 hkey
      unfold rowN at hy1
      dsimp only at hy1
      gi_wp2
      refine ⟨rfl, (HR.out).mono ?_⟩
      rintro e w4 ⟨F', kF, hFF, ⟨rfl, hj4⟩ | ⟨rfl, hj4⟩⟩
      · have HN : Hid (J ((rowsN f l).take (j + 1)) F' w4 ∧ Kp (fun b => F0 b ∨ b = lp) W w4 ∧ w4.ownsRow W.heap.size 3 1 (.slice (some ⟨g, off, none⟩) (ksN f l).length cap) (ksN f l).length ((ksN f l).map fun b : Nat => Value.int .i64 b) ∧ (∀ b, F' b → F0 b ∨ w2.heap.size ≤ b) ∧ w2.heap.size ≤ w4.heap.size) := by
          obtain ⟨_, q2, q3, q4, q5⟩ := Q.out
          have hz3 := K3.out.size
          have hz4 := kF.size
          have hFg : ¬ (F g ∨ g = lp) := by
            rintro (h | h)
            · rcases q4 g h with h | h
              · have := HF0.out g h; omega
              · omega
            · omega
          refine ⟨by rw [hx2.out]; exact hj4, (q2.then K3.out (fun _ _ x => x.elim)).then kF (fun i hi h => ?_), own_kp (own_kp q3 K3.out (fun _ _ h => h)) kF (fun b hb => by simp [Value.ownBlock] at hb; subst hb; exact hFg), fun i hi => ?_, by omega⟩
          · rcases h with h | h
            · rcases q4 i h with h | h
              · exact .inl h
              · omega
            · exact .inr h
          · rcases hFF i hi with h | h
            · exact q4 i h
            · exact .inr (by omega)
        clear hj4 kF hFF Q HMR HR hlk d1 c1r hy1
        gi_wp2
        go_roundw
        case rel => exact ⟨j + 1, F', by go_num, by omega, HN.out⟩
        case measure => simp [Go.Proofs.intOf]; omega
      · have HN : Hid (Jx ((rowsN f l).take j ++ [rowN f l b]) F' w4 ∧ Kp (fun b => F0 b ∨ b = lp) W w4) := by
          obtain ⟨_, q2, q3, q4, q5⟩ := Q.out
          refine ⟨hj4, (q2.then K3.out (fun _ _ x => x.elim)).then kF (fun i hi h => ?_)⟩
          rcases h with h | h
          · rcases q4 i h with h | h
            · exact .inl h
            · omega
          · exact .inr h
        clear hj4 kF hFF Q HMR HR hlk d1 c1r hy1
        gi_wp2
        (try simp only [Exit.inBlock, Exit.then]); refine bodyPost_ret (results_none rfl _ _ _) rfl ?_
        exact ⟨⟨_, rfl⟩, HN.out.2, F', .inr ⟨_, HN.out.1⟩⟩
    · obtain rfl : j = (ksN f l).length := by omega
      have HN : Hid (J (rowsN f l) F wr ∧ Kp (fun b => F0 b ∨ b = lp) W wr) := by
        obtain ⟨q1, q2, _⟩ := hr.out
        rw [List.take_of_length_le (by unfold rowsN; simp)] at q1
        exact ⟨q1, q2⟩
      clear hr
      gi_wp2
      go_end0
      exact ⟨⟨_, rfl⟩, HN.out.2, F, .inl HN.out.1⟩
end Go.Proofs.Ytkhipbpjknfloaa
