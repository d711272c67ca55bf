/- A step of both pools. -/
import Derived.Test.YtoiiofcpohoeaaaPoolYInt
import Derived.Test.YtoiiofcpohoeaaaPoolNInt
import Derived.Test.YtoiiofcpohoeaaaPoolB
import Derived.Test.YtoiiofcpohoeaaaRefPoolD
import Derived.Deep.RegionHeld3
import Derived.Deep.RegionWith
namespace Go.Proofs.Ytoiiofcpohoeaaa
open Go.RowKit poolInt
set_option linter.unusedVariables false

theorem sep {w : World} {B0 p bq m : Nat} {vc vi vn vb : Value} {S : PS Int} {R : RP Int} (pm : PMem w B0 p bq vc S) (rm : RMem w B0 m vi vn vb R) : ∀ b, RF m vi vn vb b → ¬ PF p bq vc b := by
  intro b hr hp
  rcases hr with rfl | hr | hr | hr <;> rcases hp with rfl | rfl | hp
  · exact blk_ne rm.top pm.top (by decide) rfl
  · exact blk_ne rm.top pm.queues (by decide) rfl
  · exact own_ne_blk pm.cells rm.top (by decide) hp
  · exact own_ne_blk rm.items pm.top (by decide) hr
  · exact own_ne_blk rm.items pm.queues (by decide) hr
  · exact own_ne_own rm.items pm.cells (by decide) b hr hp
  · exact own_ne_blk rm.inn pm.top (by decide) hr
  · exact own_ne_blk rm.inn pm.queues (by decide) hr
  · exact own_ne_own rm.inn pm.cells (by decide) b hr hp
  · exact own_ne_blk rm.back pm.top (by decide) hr
  · exact own_ne_blk rm.back pm.queues (by decide) hr
  · exact own_ne_own rm.back pm.cells (by decide) b hr hp

def BF (p bq m : Nat) (vc vi vn vb : Value) : Nat → Prop := fun b => PF p bq vc b ∨ RF m vi vn vb b
structure Both (B0 : Nat) (w : World) (p bq m : Nat) (vc vi vn vb : Value) (S : PS Int) (R : RP Int) (k : Nat) : Prop where
  pm : PMem w B0 p bq vc S
  rm : RMem w B0 m vi vn vb R
  rel : Rel S R
  qs : S.qs.length ≤ 262144
  inn : R.inn.length ≤ k
  b0 : B0 ≤ w.heap.size

theorem Both.old {B0 : Nat} {w w' : World} {p bq m : Nat} {vc vi vn vb : Value} {S : PS Int} {R : RP Int} {k : Nat} (h : Both B0 w p bq m vc vi vn vb S R k) (K : Kp none' w w') : Both B0 w' p bq m vc vi vn vb S R k :=
  ⟨h.pm.old K, h.rm.old K, h.rel, h.qs, h.inn, Nat.le_trans h.b0 K.size⟩
theorem Both.lt {B0 : Nat} {w : World} {p bq m : Nat} {vc vi vn vb : Value} {S : PS Int} {R : RP Int} {k : Nat} (h : Both B0 w p bq m vc vi vn vb S R k) {b : Nat} (hb : BF p bq m vc vi vn vb b) : B0 ≤ b ∧ b < w.heap.size := by
  rcases hb with hb | hb
  · refine ⟨h.pm.new hb, ?_⟩
    rcases hb with rfl | rfl | hb
    · exact h.pm.top.lt
    · exact h.pm.queues.lt
    · exact (own_block h.pm.cells hb).2
  · refine ⟨h.rm.new hb, ?_⟩
    rcases hb with rfl | hb | hb | hb
    · exact h.rm.top.lt
    · exact (own_block h.rm.items hb).2
    · exact (own_block h.rm.inn hb).2
    · exact (own_block h.rm.back hb).2
/-- What a step leaves. -/
def BStep (B0 : Nat) (w w2 : World) (p bq m : Nat) (vc vi vn vb : Value) (k : Nat) : Prop :=
  ∃ vc' vi' vn' vb' S' R', Both B0 w2 p bq m vc' vi' vn' vb' S' R' k ∧ Kp (BF p bq m vc vi vn vb) w w2
theorem Both.first {B0 : Nat} {w w1 : World} {p bq m : Nat} {vc vi vn vb : Value} {S S' : PS Int} {R : RP Int} {k : Nat} (h : Both B0 w p bq m vc vi vn vb S R k) (s1 : PStep w w1 B0 p bq vc S') : RMem w1 B0 m vi vn vb R ∧ Kp (BF p bq m vc vi vn vb) w w1 ∧ B0 ≤ w1.heap.size := by
  obtain ⟨vc', pm1, k1⟩ := s1
  exact ⟨h.rm.kp k1 (sep h.pm h.rm), k1.mono (fun _ _ h => .inl h), Nat.le_trans h.b0 k1.size⟩
theorem Both.join {B0 : Nat} {w w1 w2 : World} {p bq m : Nat} {vc vi vn vb : Value} {S S' : PS Int} {R R' : RP Int} {k : Nat} (h : Both B0 w p bq m vc vi vn vb S R k) (s1 : PStep w w1 B0 p bq vc S') (s2 : RStep w1 w2 B0 m vi vn vb R')
    (rel : Rel S' R') (qs : S'.qs.length = S.qs.length) (inn : R'.inn.length ≤ R.inn.length + 1) : BStep B0 w w2 p bq m vc vi vn vb (k + 1) := by
  obtain ⟨vc', pm1, k1⟩ := s1
  have rm1 := h.rm.kp k1 (sep h.pm h.rm)
  obtain ⟨vi', vn', vb', rm2, k2⟩ := s2
  refine ⟨vc', vi', vn', vb', S', R', ⟨pm1.kp k2 (fun b hb hr => sep pm1 rm1 b hr hb), rm2, rel, by rw [qs]; exact h.qs, by have := h.inn; omega, Nat.le_trans h.b0 (Nat.le_trans k1.size k2.size)⟩, ?_⟩
  exact (k1.mono (fun _ _ h => Or.inl h)).trans (k2.mono (fun _ _ h => Or.inr h))

theorem take_qs (S : PS Int) (x : Int) : (S.take x).1.qs.length = S.qs.length := by unfold PS.take; split; rfl; split <;> rfl
theorem take_inn (R : RP Int) (x : Int) : (R.take x).1.inn.length ≤ R.inn.length + 1 := by
  unfold RP.take; split
  · exact Nat.le_succ _
  · split <;> exact Nat.le_succ _
theorem give_qs (S : PS Int) (z x : Int) : (S.give z x).1.qs.length = S.qs.length := by
  unfold PS.give; split
  · rfl
  · split <;> rfl
theorem give_inn (R : RP Int) (z x : Int) : (R.give z x).1.inn.length ≤ R.inn.length + 1 := by
  unfold RP.give; split
  · exact Nat.le_succ _
  · split <;> exact Nat.le_succ _
theorem append_qs (S : PS Int) (q x : Int) : (S.append q x).1.qs.length = S.qs.length := by
  unfold PS.append; split
  · rfl
  · split
    · rfl
    · split
      · rfl
      · split
        · rfl
        · split <;> simp
theorem append_inn (R : RP Int) (q x : Int) : (R.append q x).1.inn.length ≤ R.inn.length + 1 := by
  unfold RP.append; split
  · exact Nat.le_succ _
  · split
    · exact Nat.le_succ _
    · split
      · exact Nat.le_succ _
      · simp
theorem pop_qs (S : PS Int) (q : Int) : (S.pop q).1.qs.length = S.qs.length := by
  unfold PS.pop; split
  · rfl
  · split
    · rfl
    · split
      · rfl
      · simp
theorem pop_inn (R : RP Int) (q : Int) : (R.pop q).1.inn.length ≤ R.inn.length + 1 := by
  unfold RP.pop; split
  · exact Nat.le_succ _
  · exact Nat.le_trans (List.length_filter_le _ _) (Nat.le_succ _)

structure Bnd (S : PS Int) (R : RP Int) : Prop where
  cs : S.cs.length ≤ 4096
  n : -4096 ≤ S.n ∧ S.n ≤ 4096
  most : -4096 ≤ S.most ∧ S.most ≤ 4096
  free : S.free = -1 ∨ (0 ≤ S.free ∧ S.free < S.cs.length)
  free2 : -4096 ≤ S.free ∧ S.free ≤ 4096
  items : R.items.length ≤ 1000000
  back : R.back.length ≤ 1000000
  never : -1000000 ≤ R.never ∧ R.never ≤ 1000000
theorem Rel.bnd {S : PS Int} {R : RP Int} (h : Rel S R) : Bnd S R := by
  have h1 := h.len
  have h2 := h.count
  have h3 := h.n
  have h4 := h.most1
  have h5 := h.never
  have hf : S.free = -1 ∨ (0 ≤ S.free ∧ S.free < S.cs.length) := by
    rw [h.back_last]
    cases e : R.back.getLast? with
    | none => exact .inl rfl
    | some y =>
      have := h.brange y (List.mem_of_getLast? e)
      exact .inr ⟨this.1, this.2.1⟩
  exact ⟨h1, by omega, by omega, hf, by omega, by omega, by omega, by omega⟩

def okAct7 (a : Nat × Int × Int) : Prop := a.1 < 256
abbrev actV (a : Nat × Int × Int) : Value := .agg #[.int .u8 a.1, .int .i64 a.2.1, .int .i64 a.2.2]

set_option maxHeartbeats 4000000 in
theorem sStep (B0 : Nat) (w : World) (p bq m : Nat) (vc vi vn vb : Value) (S : PS Int) (R : RP Int) (k : Nat) (h : Both B0 w p bq m vc vi vn vb S R k) (z : Nat) (q x : Int) (hz : z < 256) (hk : k ≤ 1000000) :
    Calls Try.prog 9 #[.pointer (some ⟨p, 0, none⟩), .pointer (some ⟨m, 0, none⟩), .agg #[.int .u8 z, .int .i64 q, .int .i64 x]] w fun e w' => e = .returned (.bool true) ∧ BStep B0 w w' p bq m vc vi vn vb (k + 1) := by
  have hinn : R.inn.length ≤ 1000000 := Nat.le_trans h.inn hk
  have bn := h.rel.bnd
  obtain ⟨wx, hwx⟩ : ∃ wx, wx = w.alloc (.cells #[.int .u8 z, .int .i64 q, .int .i64 x] 36) := ⟨_, rfl⟩
  have hk0 : Kp none' w wx := by rw [hwx]; exact (Kp.refl _ _).alloc _
  have hx := h.old hk0
  have hbq : Blk wx w.heap.size [.int .u8 z, .int .i64 q, .int .i64 x] 36 := by rw [hwx]; exact Blk.new _ _ _
  have hfin : ∀ w2, BStep B0 wx w2 p bq m vc vi vn vb (k + 1) → BStep B0 w w2 p bq m vc vi vn vb (k + 1) := by
    rintro w2 ⟨a1, a2, a3, a4, a5, a6, a7, a8⟩
    exact ⟨a1, a2, a3, a4, a5, a6, a7, (hk0.mono (fun _ _ h => h.elim)).trans a8⟩
  have hnq : ∀ b, BF p bq m vc vi vn vb b → b ≠ w.heap.size := fun b hb e => by have := (h.lt hb).2; omega
  have d1 := hbq.cell 1 rfl
  have d2 := hbq.cell 2 rfl
  have hr : z % 8 < 8 := Nat.mod_lt _ (by decide)
  have HX := Lib.hid hx; have HFIN := Lib.hid hfin; have HBQ := Lib.hid hbq; have HNQ := Lib.hid hnq
  have HWX := Lib.hid hwx
  have hmod : ∃ r : Nat, r < 8 ∧ ((z : Int) % 8) = r := ⟨z % 8, hr, by omega⟩
  obtain ⟨r, hr8, hmr⟩ := hmod
  clear hx hfin hbq hnq hk0 h hwx hr
  have hcase : (r = 0 ∨ r = 1 ∨ r = 2) ∨ (r = 3 ∨ r = 4) ∨ (r = 5 ∨ r = 6) ∨ r = 7 := by omega
  clear hr8
  rcases hcase with hc | hc | hc | hc
  · rcases hc with rfl | rfl | rfl
    all_goals
      have tp := pTake wx B0 p bq vc S x HX.out.pm bn.cs HX.out.b0 bn.n bn.most bn.free
      have tr := fun (w1 : World) (rm : RMem w1 B0 m vi vn vb R) (b1 : B0 ≤ w1.heap.size) => rTake w1 B0 m vi vn vb R rm x bn.items bn.back bn.never b1
      have hrel := HX.out.rel.take x
      rw [hrel.2] at tp
      have HJ := Lib.hid (fun (w1 w2 : World) s1 s2 => HFIN.out _ (HX.out.join (w1 := w1) (w2 := w2) s1 s2 hrel.1 (take_qs S x) (take_inn R x)))
      obtain ⟨⟨a, b⟩, hab⟩ : ∃ ab, (R.take x).2 = ab := ⟨_, rfl⟩
      rw [hab] at tp
      simp only [hab] at tr
      have TP := Lib.hid tp; have TR := Lib.hid tr
      clear tp tr hrel hab
      go_enter Try.func9, Try.ntmps9
      go_wp2_with fail
      rw [← HWX.out]
      refine (TP.out).mono ?_
      rintro e w1 ⟨rfl, s1⟩
      obtain ⟨rm1, kp1, b1⟩ := HX.out.first s1
      have e2 := kp1.cell d2 (fun hb => HNQ.out _ hb rfl)
      have T2 := Lib.hid (TR.out w1 rm1 b1); have S1 := Lib.hid s1
      clear rm1 kp1 b1 s1
      go_wp2_with fail
      refine (T2.out).mono ?_
      rintro e w2 ⟨rfl, s2⟩
      have HE := Lib.hid (HJ.out _ _ S1.out s2)
      clear s2
      go_wp2
      go_ret
      exact ⟨rfl, HE.out⟩
  · rcases hc with rfl | rfl
    all_goals
      have tp := pGive wx B0 p bq vc S HX.out.pm x bn.cs HX.out.b0 bn.n bn.free2
      simp only [zx] at tp
      have tr := fun (w1 : World) (rm : RMem w1 B0 m vi vn vb R) (b1 : B0 ≤ w1.heap.size) => rGive w1 B0 m vi vn vb R rm x HX.out.rel.inodup bn.items hinn bn.back b1
      have hrel := HX.out.rel.give 0 x
      rw [hrel.2] at tp
      have HJ := Lib.hid (fun (w1 w2 : World) s1 s2 => HFIN.out _ (HX.out.join (w1 := w1) (w2 := w2) s1 s2 hrel.1 (give_qs S 0 x) (give_inn R 0 x)))
      obtain ⟨⟨a, b⟩, hab⟩ : ∃ ab, (R.give 0 x).2 = ab := ⟨_, rfl⟩
      rw [hab] at tp
      simp only [hab] at tr
      have TP := Lib.hid tp; have TR := Lib.hid tr
      clear tp tr hrel hab
      go_enter Try.func9, Try.ntmps9
      go_wp2_with fail
      rw [← HWX.out]
      refine (TP.out).mono ?_
      rintro e w1 ⟨rfl, s1⟩
      obtain ⟨rm1, kp1, b1⟩ := HX.out.first s1
      have e2 := kp1.cell d2 (fun hb => HNQ.out _ hb rfl)
      have T2 := Lib.hid (TR.out w1 rm1 b1); have S1 := Lib.hid s1
      clear rm1 kp1 b1 s1
      go_wp2_with fail
      refine (T2.out).mono ?_
      rintro e w2 ⟨rfl, s2⟩
      have HE := Lib.hid (HJ.out _ _ S1.out s2)
      clear s2
      go_wp2
      go_ret
      exact ⟨rfl, HE.out⟩
  · rcases hc with rfl | rfl
    all_goals
      have tp := fun (W : World) (K : Kp none' wx W) => pAppend W B0 p bq vc S R (HX.out.old K).pm HX.out.rel q x HX.out.qs
      have tr := fun (w1 : World) (rm : RMem w1 B0 m vi vn vb R) (b1 : B0 ≤ w1.heap.size) => rAppend w1 B0 m vi vn vb R rm q x bn.items hinn b1
      have hrel := HX.out.rel.append q x
      simp only [hrel.2] at tp
      have HJ := Lib.hid (fun (W w1 w2 : World) (K : Kp none' wx W) s1 s2 => HFIN.out _ (by
        obtain ⟨a1, a2, a3, a4, a5, a6, a7, a8⟩ := (HX.out.old K).join (w1 := w1) (w2 := w2) s1 s2 hrel.1 (append_qs S q x) (append_inn R q x)
        exact ⟨a1, a2, a3, a4, a5, a6, a7, (K.mono (fun _ _ h => h.elim)).trans a8⟩))
      have HS1 := Lib.hid (fun (W w1 : World) (K : Kp none' wx W) (s1 : PStep W w1 B0 p bq vc (S.append q x).1) => (HX.out.old K).first s1)
      obtain ⟨b, hab⟩ : ∃ ab, (R.append q x).2 = ab := ⟨_, rfl⟩
      simp only [hab] at tp tr
      have TP := Lib.hid tp; have TR := Lib.hid tr
      clear tp tr hrel hab
      go_enter Try.func9, Try.ntmps9
      go_wp2_with fail
      rw [← HWX.out]
      go_region_held3 (fun w' => w'.cell? ⟨w.heap.size, 1, none⟩ = some (.int .i64 q) ∧ w'.cell? ⟨w.heap.size, 2, none⟩ = some (.int .i64 x)) (go_keep)
        (first
          | (go_at_call 19; refine (TP.out _ (by first | exact Kp.refl _ _ | exact (Kp.refl _ _).drew | exact (Kp.refl _ _).drewN _)).mono ?_; rintro e w1 ⟨rfl, s1⟩; obtain ⟨rm1, kp1, b1⟩ := HS1.out _ _ (by first | exact Kp.refl _ _ | exact (Kp.refl _ _).drew | exact (Kp.refl _ _).drewN _) s1; have e1 := kp1.cell (a := ⟨w.heap.size, 1, none⟩) d1 (fun hb => HNQ.out _ hb rfl); have e2 := kp1.cell (a := ⟨w.heap.size, 2, none⟩) d2 (fun hb => HNQ.out _ hb rfl); have S1 := Lib.hid s1; have RM1 := Lib.hid rm1; have B1 := Lib.hid b1; clear s1 rm1 b1 kp1)
          | (go_at_call 27; refine (TR.out _ RM1.out B1.out).mono ?_; rintro e w2 ⟨rfl, s2⟩; have S2 := Lib.hid s2; obtain ⟨_, _, _, _, k2⟩ := s2; have f1 := k2.cell (a := ⟨w.heap.size, 1, none⟩) e1 (fun hb => HNQ.out _ (.inr hb) rfl); have f2 := k2.cell (a := ⟨w.heap.size, 2, none⟩) e2 (fun hb => HNQ.out _ (.inr hb) rfl); clear k2))
      have HE := Lib.hid (HJ.out _ _ _ (Kp.refl _ _).drew S1.out S2.out)
      go_wp2
      go_ret
      exact ⟨rfl, HE.out⟩
  · subst hc
    have tp := pPop wx B0 p bq vc S R HX.out.pm HX.out.rel q HX.out.qs
    have tr := fun (w1 : World) (rm : RMem w1 B0 m vi vn vb R) (b1 : B0 ≤ w1.heap.size) => rPop w1 B0 m vi vn vb R rm q (HX.out.rel.qnodup) hinn b1
    have hrel := HX.out.rel.pop q
    rw [hrel.2] at tp
    have HJ := Lib.hid (fun (w1 w2 : World) s1 s2 => HFIN.out _ (HX.out.join (w1 := w1) (w2 := w2) s1 s2 hrel.1 (pop_qs S q) (pop_inn R q)))
    obtain ⟨⟨a, b⟩, hab⟩ : ∃ ab, (R.pop q).2 = ab := ⟨_, rfl⟩
    rw [hab] at tp
    simp only [hab] at tr
    have TP := Lib.hid tp; have TR := Lib.hid tr
    clear tp tr hrel hab
    go_enter Try.func9, Try.ntmps9
    go_wp2_with fail
    rw [← HWX.out]
    refine (TP.out).mono ?_
    rintro e w1 ⟨rfl, s1⟩
    obtain ⟨rm1, kp1, b1⟩ := HX.out.first s1
    have e2 := kp1.cell d1 (fun hb => HNQ.out _ hb rfl)
    have T2 := Lib.hid (TR.out w1 rm1 b1); have S1 := Lib.hid s1
    clear rm1 kp1 b1 s1
    go_wp2_with fail
    refine (T2.out).mono ?_
    rintro e w2 ⟨rfl, s2⟩
    have HE := Lib.hid (HJ.out _ _ S1.out s2)
    clear s2
    go_wp2
    go_ret
    exact ⟨rfl, HE.out⟩

end Go.Proofs.Ytoiiofcpohoeaaa
