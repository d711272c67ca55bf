/- Walks of layer 39: the records of replies. -/
import Derived.Test.YthjapdjglifopaaTrOfP
import Derived.Test.YthjapdjglifopaaTrY
namespace Go.Proofs.Ythjapdjglifopaa
set_option linter.unusedVariables false
set_option linter.unusedSimpArgs false
open Go.RowKit Go.Shelf

theorem kp_setRow {S : Nat → Prop} {a w : World} (h : Kp S a w) {g : Nat} (hg : S g ∨ a.heap.size ≤ g) (cs : Array Value) : Kp S a (w.setRow g cs) :=
  ⟨h.os, h.tape, h.output, by rw [size_setRow]; exact h.size, fun i hi hs => (setRow_other w g i cs (fun e => by subst e; rcases hg with hg | hg; (exact hs hg); omega)).trans (h.block i hi hs)⟩
theorem blk_setRow {w : World} {g : Nat} {old cs : List Value} {t : TypeId} (h : Blk w g old t) : Blk (w.setRow g cs.toArray) g cs t := ⟨setRow_heap w g _ _ t _ h.is⟩
theorem Sl.range {w : World} {v : Value} {n sz : Nat} {α : Type} {enc : α → List Value} {l : List α} (h : Sl w v n sz (l.flatMap enc)) (hl : ∀ a, (enc a).length = sz) (hp : 0 < sz) (j : Nat) (hj : j < l.length) :
    ∃ b off cap, v = .slice (some ⟨b, off, none⟩) n cap ∧ w.rangeAt b (off + j * sz) (enc l[j]) := by
  obtain ⟨b, off, cap, h1, h2⟩ := h.at hl hp j hj
  exact ⟨b, off, cap, h1, fun i u hu => h2 i u hu⟩

/-- A value stored whole into a new variable. -/
theorem wp_new_row {P : Program} {ops : Array Oper} {rest : List Oper} {o : Oper} {a : Act} {Q : Exit → Act → World → Prop} (hgd : o.guard = none) (ty : TypeId) (x y : Operand) (ho : o.op = .store ty x y) {w0 : World} {old : List Value} (cs : List Value) {t : TypeId}
    (hx : a.eval x = .pointer (some ⟨w0.heap.size, 0, none⟩)) (hy : a.eval y = .agg cs.toArray) (hi : (P.info? ty).map (·.size) = some cs.length) (hold : old.length = cs.length) (h1 : ∀ v ∈ cs, v.oneCell' = true)
    (h : ∀ W2, Blk W2 w0.heap.size cs t → Kp none' w0 W2 → wpList P ops Q rest (a.put o.dst undef) W2) : wpList P ops Q (o :: rest) a (w0.alloc (.cells old.toArray t)) := by
  have hb := Blk.new w0 old t
  refine wpList_store_row hgd ty x y ho w0.heap.size cs.toArray hx hy t old.toArray hb.is (by rw [List.size_toArray]; exact hi) (by rw [List.size_toArray, List.size_toArray]; exact hold) (all_oneCell_toArray h1) (h _ (blk_setRow hb) (kp_setRow ((Kp.refl _ _).alloc _) (.inr (Nat.le_refl _)) _))
theorem infoQ (q : RpR) : (Try.prog.info? 77).map (·.size) = some (enQ q).length := by rw [enQ_len]; kernel_rfl
theorem infoQ' (q : RpR) : (Try.prog.info? 77).map (·.size) = some (enQ q).toArray.size := by rw [List.size_toArray]; exact infoQ q
/-- What the loop keeps. -/
structure Recs (x : List OpR) (l : List RpR) (B : Nat) (w wr : World) (v : Value) (n j : Nat) : Prop where
  now : n = nowF (x.take j)
  own : wr.ownsRow B 53 6 v j ((ofF x l j).flatMap enR)
  kp : Kp none' w wr
set_option maxRecDepth 100000 in
set_option maxHeartbeats 4000000 in
theorem tOf (x : List OpR) (l : List RpR) (hx : ∀ o ∈ x, o.ok) (hl : ∀ q ∈ l, q.ok) (hxn : x.length ≤ 1000) (hln : l.length ≤ 1000) (u v : Value) (w : World) (h1 : Sl w u x.length 5 (x.flatMap enO)) (h2 : Sl w v l.length 42 (l.flatMap enQ)) :
    Calls Try.prog 29 #[u, v] w fun e w' => ∃ r, e = .returned r ∧ w'.ownsRow w.heap.size 53 6 r (min x.length l.length) ((ofF x l (min x.length l.length)).flatMap enR) ∧ Kp none' w w' := by
  obtain ⟨ao, acap, rfl⟩ : ∃ ao cap, u = .slice ao x.length cap := by obtain ⟨ao, cap, rfl, _⟩ := h1.is; exact ⟨_, _, rfl⟩
  obtain ⟨bo, bcap, rfl⟩ : ∃ ao cap, v = .slice ao l.length cap := by obtain ⟨ao, cap, rfl, _⟩ := h2.is; exact ⟨_, _, rfl⟩
  have HX := Lib.hid h1; have HQ := Lib.hid h2
  obtain ⟨N, hN⟩ : ∃ N, min x.length l.length = N := ⟨_, rfl⟩
  have hNi : min (x.length : Int) (l.length : Int) = N := by omega
  have hNx : N ≤ x.length := by omega
  have hNl : N ≤ l.length := by omega
  rw [hN]
  clear h1 h2 hN
  go_enter Try.func29, Try.ntmps29
  go_wp2
  go_loopw [5, 6, 14] (fun r n0 i0 wr => ∃ (j n : Nat), i0 = .int .i64 j ∧ j ≤ N ∧ n0 = .int .u64 n ∧ n < 18446744073709551616 ∧ Hid (Recs x l w.heap.size w wr r n j)) (fun _ _ i0 _ => N - (intOf i0).toNat)
  case atStart => exact ⟨0, 0, rfl, by omega, rfl, by omega, rfl, World.ownsRow_nil _ _ _ _, Kp.refl _ _⟩
  case round =>
    obtain ⟨j, n, rfl, hj, rfl, hn, hr⟩ := hrel
    obtain ⟨ro, rcap, rfl⟩ := own_shape hr.out.own
    have hsz := hr.out.kp.size
    by_cases hlt : j < N
    · obtain ⟨gx, ox, cx, e1, hcx⟩ := (HX.out.old hr.out.kp).at enO_len (by decide) j (by omega)
      injection e1 with e1 _ e3
      subst e1 e3
      obtain ⟨gq, oq, cq, e1, hcq⟩ := (HQ.out.old hr.out.kp).range enQ_len (by decide) j (by omega)
      injection e1 with e1 _ e3
      subst e1 e3
      have hjl : j < l.length := by omega
      have hjx : j < x.length := by omega
      have hqo := hl l[j] (List.getElem_mem hjl)
      have hoo := hx x[j] (List.getElem_mem hjx)
      have hof : ofF x l (j + 1) = ofF x l j ++ [recQ n l[j]] := by rw [ofF, getD_at _ _ hjl, hr.out.now]
      have hnw : nowF (x.take (j + 1)) = nowS n x[j] := by rw [List.take_succ_eq_append_getElem hjx, nowF_snoc, hr.out.now]
      obtain ⟨q, hq⟩ : ∃ q, l[j] = q := ⟨_, rfl⟩
      obtain ⟨⟨ok, ofl, oid, oln, otk⟩, ho⟩ : ∃ o, x[j] = o := ⟨_, rfl⟩
      rw [hq] at hqo hcq hof
      rw [ho] at hoo hcx hnw
      have htk := hoo.ticks
      simp only at htk
      obtain ⟨qk, qc, qf, qi, qn, qone, _, _, _, _, _⟩ := hqo
      have HOF := Lib.hid hof; have HNW := Lib.hid hnw
      have HOWN := Lib.hid hr.out.own; have HKP := Lib.hid hr.out.kp
      have HCX := Lib.hid hcx
      have HQK := Lib.hid qk; have HQC := Lib.hid qc; have HQF := Lib.hid qf; have HQI := Lib.hid qi; have HQN := Lib.hid qn; have HQO := Lib.hid qone
      have HO := Lib.hid ho
      have HA := Lib.hid (fun W => sAdd n otk hn htk W)
      clear hof hnw hcx qk qc qf qi qn qone hq ho hr hoo HCX
      go_wp2_with (first
        | (refine wpList_load_mid rfl 77 (.tmp 19) rfl gq (oq + j * 42) rfl (enQ q) _ hcq Try.underlying77 rfl (infoQ q) ?_)
        | (refine wp_new_row rfl 77 (.tmp 8) (.tmp 20) rfl (enQ q) rfl rfl (infoQ q) (by rw [enQ_len]; rfl) HQO.out ?_
           intro W2 hB2 hK2
           have hz2 := hK2.size
           have HK2 := Lib.hid hK2
           have c0 := hB2.cell 0 HQK.out
           have c1 := hB2.cell 1 HQC.out
           have c2 := hB2.cell 2 HQF.out
           have c3 := hB2.cell 3 HQI.out
           have c4 := hB2.cell 4 HQN.out
           clear hB2 hK2)
        | (at_builtin
           refine wp_app1 tRec (.tmp 21) (.tmp 37) rfl rfl w.heap.size ((own_kp (S := none') HOWN.out HK2.out (fun _ _ h => h)).alloc _) (enR (recQ n q)) rfl rfl rfl (heap_new _ _) rfl (by omega) (by omega) (by simp; omega) ?_
           intro g3 cap3 w3 hown hgrow
           have hK3 : Kp none' w w3 := ((HKP.out.trans HK2.out).alloc _).grown hgrow (fun b hb => .inr (by have := (own_block HOWN.out hb); omega))
           have HK3 := Lib.hid hK3
           have HO3 : Hid (w3.ownsRow w.heap.size 53 6 (.slice (some ⟨g3, 0, none⟩) (j + 1) cap3) (j + 1) ((ofF x l (j + 1)).flatMap enR)) := by
             show World.ownsRow _ _ _ _ _ _ _
             rw [HOF.out, List.flatMap_append]; simpa using hown
           obtain ⟨gx', ox', cx', e1, hcx⟩ := (HX.out.old hK3).at enO_len (by decide) j hjx
           injection e1 with e1 _ e3
           injection e1 with e1
           injection e1 with e1 e2 e4
           subst e1 e2 e3
           rw [HO.out] at hcx
           have d0 := hcx 0 _ rfl
           have d4 := hcx 4 _ rfl
           simp only [Nat.add_zero] at d0
           clear hown hgrow hK3 hcx))
      · have hk3 : ok = 3 := by first | assumption | (simpa using ‹(ok == 3) = true›)
        have HL : Hid (nowF (x.take (j + 1)) = satN n otk) := by show _ = _; rw [HNW.out]; unfold nowS; rw [if_pos hk3]
        have hs := satN_lt n otk
        obtain ⟨n2, hn2⟩ : ∃ z, satN n otk = z := ⟨_, rfl⟩
        rw [hn2] at HA HL hs
        clear hn2 hk3
        refine (HA.out _).mono ?_
        rintro e w4 ⟨rfl, rfl⟩
        go_wp2_with fail
        go_roundw
        case rel => exact ⟨j + 1, n2, by go_num, by omega, rfl, hs, HL.out.symm, HO3.out, HK3.out⟩
        case measure => simp [intOf]; omega
      · have hk3 : ¬ ok = 3 := by first | assumption | (simpa using ‹(ok == 3) = false›)
        have HL : Hid (nowF (x.take (j + 1)) = n) := by show _ = _; rw [HNW.out]; unfold nowS; rw [if_neg hk3]
        clear hk3
        go_roundw
        case rel => exact ⟨j + 1, n, by go_num, by omega, rfl, hn, HL.out.symm, HO3.out, HK3.out⟩
        case measure => simp [intOf]; omega
    · have hjN : j = N := by omega
      subst hjN
      go_wp2
      go_ret
      exact ⟨_, rfl, hr.out.own, hr.out.kp⟩
end Go.Proofs.Ythjapdjglifopaa
