/- The document's pool, walked: Append, Take. -/
import Derived.Test.YtoiiofcpohoeaaaRefPool
namespace Go.Proofs.Ytoiiofcpohoeaaa
open Go.RowKit
set_option linter.unusedVariables false

theorem tI : SlT Try.prog 30 44 (.agg #[.int .i64 0, .int .i64 0]) 2 16 := ⟨Try.underlying30, by kernel_rfl, rfl, by decide⟩
theorem tP : SlT Try.prog 31 72 (.agg #[.int .i64 0, .int .i64 0]) 2 16 := ⟨Try.underlying31, by kernel_rfl, rfl, by decide⟩

/-- A call that turns the document's pool into R'. -/
def RStep (w w' : World) (B0 m : Nat) (vi vn vb : Value) (R' : RP Int) : Prop :=
  ∃ vi' vn' vb', RMem w' B0 m vi' vn' vb' R' ∧ Kp (RF m vi vn vb) w w'
theorem RMem.same {w : World} {B0 m : Nat} {vi vn vb : Value} {R : RP Int} (h : RMem w B0 m vi vn vb R) : RStep w w B0 m vi vn vb R := ⟨vi, vn, vb, h, Kp.refl _ _⟩

structure RNe (m : Nat) (vi vn vb : Value) : Prop where
  mi : vi.ownBlock ≠ some m
  mn : vn.ownBlock ≠ some m
  mb : vb.ownBlock ≠ some m
  inn : ∀ b, vi.ownBlock = some b → vn.ownBlock ≠ some b
  ib : ∀ b, vi.ownBlock = some b → vb.ownBlock ≠ some b
  nb : ∀ b, vn.ownBlock = some b → vb.ownBlock ≠ some b
theorem RMem.ne {w : World} {B0 m : Nat} {vi vn vb : Value} {R : RP Int} (h : RMem w B0 m vi vn vb R) : RNe m vi vn vb :=
  ⟨own_ne_blk h.items h.top (by decide), own_ne_blk h.inn h.top (by decide), own_ne_blk h.back h.top (by decide), own_ne_own h.items h.inn (by decide), own_ne_own h.items h.back (by decide), own_ne_own h.inn h.back (by decide)⟩

theorem own_grown {w Z w1 : World} {base : Nat} {e : TypeId} {size n : Nat} {v u : Value} {xs : List Value} (h : w.ownsRow base e size v n xs) (hz : Kp none' w Z) (hg : Z.grownBy w1 u.ownBlock) (hne : ∀ b, v.ownBlock = some b → u.ownBlock ≠ some b) : w1.ownsRow base e size v n xs :=
  own_kp (S := fun b => u.ownBlock = some b) (own_kp h hz (fun _ _ h => h)) ⟨hg.os, hg.tape, hg.output, hg.size, fun b hb hs => hg.block b hb (fun e => hs e.symm)⟩ hne

/-- A row of the document's pool grown or made anew: what holds then. -/
theorem RMem.growIn {w Z w1 : World} {B0 m : Nat} {vi vn vb v' : Value} {R : RP Int} (h : RMem w B0 m vi vn vb R) (hz : Kp none' w Z) (l' : List (Int × Int))
    (hown : w1.ownsRow B0 72 2 v' l'.length (l'.flatMap enI)) (hg : Z.grownBy w1 vn.ownBlock) :
    RMem (w1.setCell ⟨m, 3, none⟩ v') B0 m vi v' vb { R with inn := l' } := by
  have n := h.ne
  have ht := (h.top.kp hz id).grown hg (fun e => n.mn e.symm)
  have hi := own_grown h.items hz hg n.inn
  have hb := own_grown h.back hz hg (fun b e e' => n.nb b e' e)
  have hm := own_ne_blk hown ht (by decide)
  exact ⟨ht.set 3 _, own_setNe hi (fun b hb e => n.mi (by rw [hb, e])) _, own_setNe hown (fun b hb e => hm (by rw [hb, e])) _, own_setNe hb (fun b hb e => n.mb (by rw [hb, e])) _, h.b0⟩
theorem RMem.growItems {w Z w1 : World} {B0 m : Nat} {vi vn vb v' : Value} {R : RP Int} (h : RMem w B0 m vi vn vb R) (hz : Kp none' w Z) (l' : List (Int × Int))
    (hown : w1.ownsRow B0 44 2 v' l'.length (l'.flatMap enI)) (hg : Z.grownBy w1 vi.ownBlock) :
    RMem (w1.setCell ⟨m, 2, none⟩ v') B0 m v' vn vb { R with items := l' } := by
  have n := h.ne
  have ht := (h.top.kp hz id).grown hg (fun e => n.mi e.symm)
  have hi := own_grown h.inn hz hg (fun b e e' => n.inn b e' e)
  have hb := own_grown h.back hz hg (fun b e e' => n.ib b e' e)
  have hm := own_ne_blk hown ht (by decide)
  exact ⟨ht.set 2 _, own_setNe hown (fun b hb e => hm (by rw [hb, e])) _, own_setNe hi (fun b hb e => n.mn (by rw [hb, e])) _, own_setNe hb (fun b hb e => n.mb (by rw [hb, e])) _, h.b0⟩
theorem RMem.growBack {w Z w1 : World} {B0 m : Nat} {vi vn vb v' : Value} {R : RP Int} (h : RMem w B0 m vi vn vb R) (hz : Kp none' w Z) (l' : List Int)
    (hown : w1.ownsRow B0 3 1 v' l'.length (ints l')) (hg : Z.grownBy w1 vb.ownBlock) :
    RMem (w1.setCell ⟨m, 4, none⟩ v') B0 m vi vn v' { R with back := l' } := by
  have n := h.ne
  have ht := (h.top.kp hz id).grown hg (fun e => n.mb e.symm)
  have hi := own_grown h.inn hz hg n.nb
  have hb := own_grown h.items hz hg n.ib
  have hm := own_ne_blk hown ht (by decide)
  exact ⟨ht.set 4 _, own_setNe hb (fun b hb e => n.mi (by rw [hb, e])) _, own_setNe hi (fun b hb e => n.mn (by rw [hb, e])) _, own_setNe hown (fun b hb e => hm (by rw [hb, e])) _, h.b0⟩
theorem RMem.setNever {w : World} {B0 m : Nat} {vi vn vb : Value} {R : RP Int} (h : RMem w B0 m vi vn vb R) (n' : Int) : RMem (w.setCell ⟨m, 5, none⟩ (.int .i64 n')) B0 m vi vn vb { R with never := n' } := by
  have n := h.ne
  exact ⟨h.top.set 5 _, own_setNe h.items (fun b hb e => n.mi (by rw [hb, e])) _, own_setNe h.inn (fun b hb e => n.mn (by rw [hb, e])) _, own_setNe h.back (fun b hb e => n.mb (by rw [hb, e])) _, h.b0⟩
theorem RMem.cutBack {w : World} {B0 m g n cap : Nat} {vi vn : Value} {R : RP Int} (h : RMem w B0 m vi vn (.slice (some ⟨g, 0, none⟩) n cap) R) (k : Nat) (hk : k + 1 = R.back.length) : RMem (w.setCell ⟨m, 4, none⟩ (.slice (some ⟨g, 0, none⟩) k cap)) B0 m vi vn (.slice (some ⟨g, 0, none⟩) k cap) { R with back := R.back.dropLast } := by
  have nn := h.ne
  obtain ⟨_, _, e⟩ := own_shape h.back
  obtain rfl : n = R.back.length := by cases e; rfl
  have hc := own_cut h.back k (by omega)
  have e2 : (ints R.back).take k = ints R.back.dropLast := by
    rw [List.dropLast_eq_take, ← hk]; simp [ints]
  have e3 : R.back.dropLast.length = k := by simp; omega
  refine ⟨h.top.set 4 _, own_setNe h.items (fun b hb e => nn.mi (by rw [hb, e])) _, own_setNe h.inn (fun b hb e => nn.mn (by rw [hb, e])) _, ?_, h.b0⟩
  show World.ownsRow _ B0 3 1 _ R.back.dropLast.length (ints R.back.dropLast)
  rw [e3, ← e2]
  exact own_setNe hc (fun b hb e => nn.mb (hb.trans (congrArg some e))) _

theorem heap_new3 (w : World) (o : Obj) (n : Nat) (h : n = w.heap.size) : (w.alloc o).heap[n]? = some o := by subst h; exact heap_new w o
theorem find_pos {α : Type} (R : RP α) (k : Int) : R.find k = none ↔ k ∉ R.items.map (·.1) := by
  constructor
  · intro h hm
    obtain ⟨p, hp, rfl⟩ := List.mem_map.1 hm
    exact find_none h p hp rfl
  · intro h
    cases e : R.find k with
    | none => rfl
    | some x => exact absurd (List.mem_map.2 ⟨_, find_some e, rfl⟩) h

set_option maxHeartbeats 1000000 in
theorem rAppend (w : World) (B0 m : Nat) (vi vn vb : Value) (R : RP Int) (h : RMem w B0 m vi vn vb R) (q x : Int) (hl : R.items.length ≤ 1000000) (hl2 : R.inn.length ≤ 1000000) (hb : B0 ≤ w.heap.size) :
    Calls Try.prog 27 #[.pointer (some ⟨m, 0, none⟩), .int .i64 q, .int .i64 x] w fun e w' => e = .returned (.int .i64 (R.append q x).2) ∧ RStep w w' B0 m vi vn vb (R.append q x).1 := by
  have c1 := h.top.cell 1 rfl
  have c3 := h.top.cell 3 rfl
  have HF := Lib.hid (rFind w B0 m vi vn vb R h x hl)
  have HQ := Lib.hid (rQueued w B0 m vi vn vb R h x hl2)
  have HS := Lib.hid h.same
  have HM := Lib.hid h
  by_cases h1 : q < 0
  · have hS : R.append q x = (R, 6) := by unfold RP.append; rw [if_pos (by omega)]
    rw [hS]
    clear h hS
    go_enter Try.func27, Try.ntmps27
    go_wp2
    go_ret
    exact ⟨rfl, HS.out⟩
  · by_cases h2 : q < R.queues
    · by_cases h3 : x ∈ R.items.map (·.1)
      · obtain ⟨k, hk, _⟩ := posL_get h3
        rw [hk] at HF
        have hf : ∃ y, R.find x = some y := by
          cases e : R.find x with
          | none => exact absurd h3 ((find_pos R x).1 e)
          | some y => exact ⟨y, rfl⟩
        obtain ⟨y, hf⟩ := hf
        by_cases h4 : x ∈ R.inn.map (·.2)
        · obtain ⟨k2, hk2, _⟩ := posL_get h4
          rw [hk2] at HQ
          have hS : R.append q x = (R, 8) := by unfold RP.append; rw [if_neg (by omega), hf]; simp only; rw [if_pos h4]
          rw [hS]
          clear h hS h3 h4 hf
          go_enter Try.func27, Try.ntmps27
          go_wp2_with (first | (go_at_call 12; refine (HF.out).mono ?_; rintro e w' ⟨rfl, rfl⟩) | (go_at_call 33; refine (HQ.out).mono ?_; rintro e w' ⟨rfl, rfl⟩))
          go_ret
          exact ⟨rfl, HS.out⟩
        · rw [posL_no h4] at HQ
          have hS : R.append q x = ({ R with inn := R.inn ++ [(q, x)] }, 0) := by unfold RP.append; rw [if_neg (by omega), hf]; simp only; rw [if_neg h4]
          rw [hS]
          obtain ⟨ao, cap, rfl⟩ := own_shape h.inn
          have HI := Lib.hid h.inn
          have hsz := h.top.lt
          clear h hS h3 h4 hf
          go_enter Try.func27, Try.ntmps27
          go_wp2_with (first | (go_at_call 12; refine (HF.out).mono ?_; rintro e w' ⟨rfl, rfl⟩) | (go_at_call 33; refine (HQ.out).mono ?_; rintro e w' ⟨rfl, rfl⟩) | (at_builtin; refine wp_app1 tP (.tmp 29) (.tmp 33) rfl rfl B0 (HI.out.alloc _) (enI (q, x)) rfl rfl rfl (heap_new _ _) rfl (by omega) (by omega) (by simp; omega) ?_))
          intro g1 cap1 w1 hown1 hgrow
          have hz : Kp none' w (w.alloc (.cells (enI (q, x)).toArray 72)) := (Kp.refl _ _).alloc _
          have hT := (HM.out.top.kp hz id).grown hgrow (fun e => HM.out.ne.mn e.symm)
          have d3 := hT.cell 3 rfl
          have f3 := hT.fz 3
          have hst := HM.out.growIn hz (R.inn ++ [(q, x)]) (by simpa using hown1) hgrow
          have hkp : Kp (RF m vi (.slice ao R.inn.length cap) vb) w w1 := ((Kp.refl _ _).alloc _).grown hgrow (fun b e => .inl (.inr (.inr (.inl e))))
          have hkp2 := hkp.set (p := ⟨m, 3, none⟩) (.inl (.inl rfl)) (.slice (some ⟨g1, 0, none⟩) (R.inn.length + 1) cap1)
          have HST := Lib.hid hst
          have HKP := Lib.hid hkp2
          clear hst hkp hkp2 hown1 hgrow hT
          go_wp2
          go_ret
          exact ⟨rfl, _, _, _, HST.out, HKP.out⟩
      · have hf := (find_pos R x).2 h3
        rw [posL_no h3] at HF
        have hS : R.append q x = (R, 7) := by unfold RP.append; rw [if_neg (by omega), hf]
        rw [hS]
        clear h hS h3 hf
        go_enter Try.func27, Try.ntmps27
        go_wp2_with (go_at_call 12; refine (HF.out).mono ?_; rintro e w' ⟨rfl, rfl⟩)
        go_ret
        exact ⟨rfl, HS.out⟩
    · have hS : R.append q x = (R, 6) := by unfold RP.append; rw [if_pos (by omega)]
      rw [hS]
      clear h hS
      go_enter Try.func27, Try.ntmps27
      go_wp2
      go_ret
      exact ⟨rfl, HS.out⟩

set_option maxHeartbeats 1000000 in
theorem rTake (w : World) (B0 m : Nat) (vi vn vb : Value) (R : RP Int) (h : RMem w B0 m vi vn vb R) (x : Int) (hl : R.items.length ≤ 1000000) (hl2 : R.back.length ≤ 1000000) (hnv : -1000000 ≤ R.never ∧ R.never ≤ 1000000) (hb : B0 ≤ w.heap.size) :
    Calls Try.prog 25 #[.pointer (some ⟨m, 0, none⟩), .int .i64 x] w fun e w' => e = .returned (.tuple #[.int .i64 (R.take x).2.1, .bool (R.take x).2.2]) ∧ RStep w w' B0 m vi vn vb (R.take x).1 := by
  have c0 := h.top.cell 0 rfl
  have c2 := h.top.cell 2 rfl
  have c4 := h.top.cell 4 rfl
  have c5 := h.top.cell 5 rfl
  have fm := fun j => h.top.fz j
  obtain ⟨ao, cap, rfl⟩ := own_shape h.items
  obtain ⟨bo, bcap, rfl⟩ := own_shape h.back
  have HM := Lib.hid h
  unfold RP.take
  by_cases h1 : R.most ≤ R.items.length
  · rw [if_pos h1]
    clear h
    go_enter Try.func25, Try.ntmps25
    go_wp2
    go_quiet (fail)
    go_wp2
    go_ret2
    exact ⟨rfl, _, _, _, HM.out.old (kp_drewN ⟨_, rfl⟩), kp_drewN ⟨_, rfl⟩⟩
  · rw [if_neg h1]
    cases hbk : R.back.getLast? with
    | none =>
      have hbn : R.back = [] := by rw [List.getLast?_eq_none_iff] at hbk; exact hbk
      have hb0 : R.back.length = 0 := by rw [hbn]; rfl
      rw [hb0] at c4
      clear h hbn hbk hb0
      go_enter Try.func25, Try.ntmps25
      go_wp2
      go_quiet (fail)
      have hm0 : Kp none' w (w.drewN nq) := kp_drewN ⟨nq, rfl⟩
      have hm1 := Lib.hid ((HM.out.old hm0).setNever (R.never + 1))
      have hi1 : Hid (World.ownsRow ((w.drewN nq).setCell ⟨m, 5, none⟩ (.int .i64 (R.never + 1))) B0 44 2 (.slice ao R.items.length cap) R.items.length (R.items.flatMap enI)) := hm1.out.items
      have hb1 : B0 ≤ ((w.drewN nq).setCell ⟨m, 5, none⟩ (.int .i64 (R.never + 1))).heap.size := by simp [World.setCell]; exact hb
      go_wp2_with (at_builtin; refine wp_app1 tI (.tmp 64) (.tmp 68) rfl rfl B0 (hi1.out.alloc _) (enI (R.never, x)) rfl rfl rfl (fr := (0, 0)) (heap_new3 _ _ _ (by simp [World.setCell])) rfl (by omega) (by omega) (by simp only [World.size_alloc]; omega) ?_)
      intro g1 cap1 w1 hown1 hgrow
      have hst := hm1.out.growItems ((Kp.refl _ _).alloc _) (R.items ++ [(R.never, x)]) (by simpa using hown1) hgrow
      have hT := (hm1.out.top.alloc (.cells (enI (R.never, x)).toArray 44)).grown hgrow (fun e => hm1.out.ne.mi e.symm)
      have d2 := hT.cell 2 rfl
      have f2 := hT.fz 2
      have hkp : Kp (RF m (.slice ao R.items.length cap) vn (.slice bo R.back.length bcap)) w w1 := ((((Kp.refl _ _).drewN nq).set (p := ⟨m, 5, none⟩) (.inl (.inl rfl)) (.int .i64 (R.never + 1))).alloc _).grown hgrow (fun b e => .inl (.inr (.inl e)))
      have hkp2 := hkp.set (p := ⟨m, 2, none⟩) (.inl (.inl rfl)) (.slice (some ⟨g1, 0, none⟩) (R.items.length + 1) cap1)
      have HST := Lib.hid hst
      have HKP := Lib.hid hkp2
      clear hst hkp hkp2 hown1 hgrow hT hm0
      go_wp2
      go_ret2
      exact ⟨rfl, _, _, _, HST.out, HKP.out⟩
    | some y =>
      obtain ⟨k, hk⟩ : ∃ k, R.back.length = k + 1 := by
        cases e : R.back with
        | nil => rw [e] at hbk; cases hbk
        | cons a r => exact ⟨r.length, rfl⟩
      obtain ⟨bg, bcap', e, _⟩ := own_shape1 h.back (by omega)
      obtain ⟨rfl, rfl⟩ : bo = some ⟨bg, 0, none⟩ ∧ bcap = bcap' := by cases e; exact ⟨rfl, rfl⟩
      clear e
      have hy : R.back[k]? = some y := by rw [List.getLast?_eq_getElem?, hk] at hbk; exact hbk
      have cy := own_cell h.back k (by unfold ints; rw [List.getElem?_map, hy]; rfl)
      have hkc : k + 1 ≤ bcap := by
        rcases h.back.2 with ⟨e, _⟩ | ⟨g', cap', cur, hv, _, _, hle, _⟩
        · cases e
        · cases hv; omega
      rw [hk] at c4
      clear h hbk hy
      go_enter Try.func25, Try.ntmps25
      go_wp2
      go_quiet (fail)
      revert nq
      intro n1
      go_wp2
      go_quiet (fail)
      go_wp2
      go_region
      generalize hn : n1 + nq + 1 = D at *
      rw [hk] at HM
      have hm0 : Kp none' w (w.drewN D) := kp_drewN ⟨D, rfl⟩
      have hm1 := Lib.hid ((HM.out.old hm0).cutBack k hk.symm)
      have hi1 : Hid (World.ownsRow ((w.drewN D).setCell ⟨m, 4, none⟩ (.slice (some ⟨bg, 0, none⟩) k bcap)) B0 44 2 (.slice ao R.items.length cap) R.items.length (R.items.flatMap enI)) := hm1.out.items
      have hb1 : B0 ≤ ((w.drewN D).setCell ⟨m, 4, none⟩ (.slice (some ⟨bg, 0, none⟩) k bcap)).heap.size := by simp [World.setCell]; exact hb
      go_wp2_with (at_builtin; refine wp_app1 tI (.tmp 64) (.tmp 68) rfl rfl B0 (hi1.out.alloc _) (enI (y, x)) rfl rfl rfl (fr := (0, 0)) (heap_new3 _ _ _ (by simp [World.setCell])) rfl (by omega) (by omega) (by simp only [World.size_alloc]; omega) ?_)
      intro g1 cap1 w1 hown1 hgrow
      have hst := hm1.out.growItems ((Kp.refl _ _).alloc _) (R.items ++ [(y, x)]) (by simpa using hown1) hgrow
      have hT := (hm1.out.top.alloc (.cells (enI (y, x)).toArray 44)).grown hgrow (fun e => hm1.out.ne.mi e.symm)
      have d2 := hT.cell 2 rfl
      have f2 := hT.fz 2
      have hkp : Kp (RF m (.slice ao R.items.length cap) vn (.slice (some ⟨bg, 0, none⟩) (k + 1) bcap)) w w1 := ((((Kp.refl _ _).drewN D).set (p := ⟨m, 4, none⟩) (.inl (.inl rfl)) (.slice (some ⟨bg, 0, none⟩) k bcap)).alloc _).grown hgrow (fun b e => .inl (.inr (.inl e)))
      have hkp2 := hkp.set (p := ⟨m, 2, none⟩) (.inl (.inl rfl)) (.slice (some ⟨g1, 0, none⟩) (R.items.length + 1) cap1)
      have HST := Lib.hid hst
      have HKP := Lib.hid hkp2
      clear hst hkp hkp2 hown1 hgrow hT hm0 hn
      go_wp2
      go_ret2
      exact ⟨rfl, _, _, _, HST.out, HKP.out⟩

end Go.Proofs.Ytoiiofcpohoeaaa
