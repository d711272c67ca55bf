/- The law PoolKeeps, walked (begun). -/
import Derived.Test.YtoiiofcpohoeaaaPoolYInt
import Derived.Test.YtoiiofcpohoeaaaPoolNInt
import Derived.Test.YtoiiofcpohoeaaaPoolB
import Derived.Test.YtoiiofcpohoeaaaPoolK
import Derived.Test.YtoiiofcpohoeaaaKeepsN
namespace Go.Proofs.Ytoiiofcpohoeaaa
open Go.RowKit poolInt
set_option linter.unusedVariables false

/-- Queue of a pool whose lists are known. -/
theorem kQueue {B0 : Nat} {w : World} {p bq : Nat} {vc : Value} {S : PS Int} {R : RP Int} (pm : PMem w B0 p bq vc S) (rel : Rel S R) (qs : S.qs.length ≤ 262144) (hl : R.inn.length ≤ 1000000) (q : Int) :
    Calls Try.prog 16 #[.pointer (some ⟨p, 0, none⟩), .int .i64 q] w fun e w' => ∃ v, e = .returned v ∧ w'.ownsRow w.heap.size 3 1 v (R.q q).length (ints (R.q q)) ∧ Kp none' w w' := by
  have hlen : (R.q q).length ≤ 1000000 := by
    unfold RP.q; rw [List.length_map]
    have := List.length_filter_le (fun p : Int × Int => p.1 == q) R.inn
    omega
  have hlt : ∀ b, PF p bq vc b → b < w.heap.size := fun b hb => by
    rcases hb with rfl | rfl | hb
    · exact pm.top.lt
    · exact pm.queues.lt
    · exact (own_block pm.cells hb).2
  by_cases h1 : 0 ≤ q ∧ q < S.qs.length
  · obtain ⟨j, rfl⟩ : ∃ j : Nat, q = j := ⟨q.toNat, by omega⟩
    exact pQueue _ _ _ _ hlen (wWalk w B0 p bq vc S R pm rel j (by omega) qs)
  · have e := rel.q_out h1
    rw [e]
    refine pQueue _ _ _ _ (by simp) (wNone _ _ _ (fun W hk => ?_))
    have hold : Kp none' w (qw w (some ⟨p, 0, none⟩) q) := (((Kp.refl _ _).alloc _).alloc _).alloc _
    have hpm : PMem W B0 p bq vc S := (pm.old hold).kp hk (fun b hb hs => by have := hlt b hb; rcases hs with hs | hs <;> omega)
    have hh := pHas W B0 p bq vc S hpm q qs
    have ht : hasq S.qs.length q = false := by simp [hasq]; omega
    rw [ht] at hh
    exact hh

/-- The cells of a list of yes and no. -/
def bools (l : List Bool) : List Value := l.map Value.bool

/-- What the outer loop holds: the pool, what was put under each handle, and which are had. -/
structure Keeps (B0 : Nat) (w : World) (p bq hb ib : Nat) (vc : Value) (S : PS Int) (R : RP Int) (H : List Int) (I : List Bool) (n k : Nat) : Prop where
  pm : PMem w B0 p bq vc S
  rel : Rel S R
  qs : S.qs.length = 3
  most : S.most = n
  hs : Blk w hb (ints H) 3
  is : Blk w ib (bools I) 4
  hl : H.length = n
  il : I.length = n
  had : ∀ h : Nat, h < n → had S h = if I.getD h false then some (H.getD h 0) else none
  lo : B0 ≤ hb ∧ B0 ≤ ib
  inn : R.inn.length ≤ k

theorem Keeps.ne {B0 : Nat} {w : World} {p bq hb ib : Nat} {vc : Value} {S : PS Int} {R : RP Int} {H : List Int} {I : List Bool} {n k : Nat} (h : Keeps B0 w p bq hb ib vc S R H I n k) : hb ≠ ib ∧ ¬ PF p bq vc hb ∧ ¬ PF p bq vc ib := by
  refine ⟨blk_ne h.hs h.is (by decide), fun hp => ?_, fun hp => ?_⟩
  · rcases hp with e | e | hp
    · exact blk_ne h.hs h.pm.top (by decide) e
    · exact blk_ne h.hs h.pm.queues (by decide) e
    · exact own_ne_blk h.pm.cells h.hs (by decide) hp
  · rcases hp with e | e | hp
    · exact blk_ne h.is h.pm.top (by decide) e
    · exact blk_ne h.is h.pm.queues (by decide) e
    · exact own_ne_blk h.pm.cells h.is (by decide) hp
theorem Keeps.old {B0 : Nat} {w w' : World} {p bq hb ib : Nat} {vc : Value} {S : PS Int} {R : RP Int} {H : List Int} {I : List Bool} {n k : Nat} (h : Keeps B0 w p bq hb ib vc S R H I n k) (K : Kp none' w w') : Keeps B0 w' p bq hb ib vc S R H I n k :=
  { h with pm := h.pm.old K, hs := h.hs.kp K id, is := h.is.kp K id }
/-- A step of the pool that leaves what is had as it was. -/
theorem Keeps.step {B0 : Nat} {w w1 : World} {p bq hb ib : Nat} {vc : Value} {S S' : PS Int} {R R' : RP Int} {H : List Int} {I : List Bool} {n k : Nat} (h : Keeps B0 w p bq hb ib vc S R H I n k) (s : PStep w w1 B0 p bq vc S')
    (rel : Rel S' R') (qs : S'.qs.length = S.qs.length) (mo : S'.most = S.most) (inn : R'.inn.length ≤ R.inn.length + 1) (hd : ∀ i, Go.Proofs.Ytoiiofcpohoeaaa.had S' i = Go.Proofs.Ytoiiofcpohoeaaa.had S i) :
    ∃ vc', Keeps B0 w1 p bq hb ib vc' S' R' H I n (k + 1) ∧ Kp (PF p bq vc) w w1 := by
  obtain ⟨vc', pm', K⟩ := s
  obtain ⟨_, n2, n3⟩ := h.ne
  exact ⟨vc', ⟨pm', rel, qs.trans h.qs, mo.trans h.most, h.hs.kp K n2, h.is.kp K n3, h.hl, h.il, fun i hi => by rw [hd]; exact h.had i hi, h.lo, by have := h.inn; omega⟩, K⟩

theorem bools_set (l : List Bool) (i : Nat) (b : Bool) : bools (l.set i b) = (bools l).set i (.bool b) := by simp [bools, List.map_set]
theorem ints_set (l : List Int) (i : Nat) (b : Int) : ints (l.set i b) = (ints l).set i (.int .i64 b) := by simp [ints, List.map_set]
theorem getD_set' {α : Type} (l : List α) (i j : Nat) (a d : α) (hi : i < l.length) : (l.set i a).getD j d = if j = i then a else l.getD j d := by
  by_cases e : j = i
  · subst e; simp [hi]
  · simp [List.getD, List.getElem?_set_ne (fun z => e z.symm), e]
/-- A thing was put under a handle, and both lists say so. -/
theorem Keeps.take {B0 : Nat} {w w1 : World} {p bq hb ib : Nat} {vc : Value} {S S' : PS Int} {R R' : RP Int} {H : List Int} {I : List Bool} {n k : Nat} (h : Keeps B0 w p bq hb ib vc S R H I n k) (s : PStep w w1 B0 p bq vc S')
    (rel : Rel S' R') (qs : S'.qs.length = S.qs.length) (mo : S'.most = S.most) (inn : R'.inn.length ≤ R.inn.length + 1) (i : Nat) (x : Int) (hi : i < n) (hd : ∀ j : Int, Go.Proofs.Ytoiiofcpohoeaaa.had S' j = if j = i then some x else Go.Proofs.Ytoiiofcpohoeaaa.had S j) :
    ∃ vc', Keeps B0 ((w1.setCell ⟨hb, i, none⟩ (.int .i64 x)).setCell ⟨ib, i, none⟩ (.bool true)) p bq hb ib vc' S' R' (H.set i x) (I.set i true) n (k + 1) ∧ Kp (PF p bq vc) w w1 := by
  obtain ⟨vc', pm', K⟩ := s
  obtain ⟨n1, n2, n3⟩ := h.ne
  have hs1 := h.hs.kp K n2
  have is1 := h.is.kp K n3
  have hk : Kp (fun b => b = hb ∨ b = ib) w1 ((w1.setCell ⟨hb, i, none⟩ (.int .i64 x)).setCell ⟨ib, i, none⟩ (.bool true)) := ((Kp.refl _ _).set (.inl (.inl rfl)) _).set (.inl (.inr rfl)) _
  have hne : ∀ b, PF p bq vc' b → ¬ (b = hb ∨ b = ib) := fun b hb' e => by
    rcases e with e | e <;> subst e
    · rcases hb' with e | e | hp
      · exact blk_ne hs1 pm'.top (by decide) e
      · exact blk_ne hs1 pm'.queues (by decide) e
      · exact own_ne_blk pm'.cells hs1 (by decide) hp
    · rcases hb' with e | e | hp
      · exact blk_ne is1 pm'.top (by decide) e
      · exact blk_ne is1 pm'.queues (by decide) e
      · exact own_ne_blk pm'.cells is1 (by decide) hp
  refine ⟨vc', ⟨pm'.kp hk hne, rel, qs.trans h.qs, mo.trans h.most, ?_, ?_, by simp [h.hl], by simp [h.il], fun j hj => ?_, h.lo, by have := h.inn; omega⟩, K⟩
  · rw [ints_set]; exact (hs1.set i _).setNe n1 _
  · rw [bools_set]; exact (is1.setNe n1.symm _).set i _
  · rw [hd, getD_set' _ _ _ _ _ (by rw [h.il]; exact hi), getD_set' _ _ _ _ _ (by rw [h.hl]; exact hi)]
    by_cases e : j = i
    · subst e; simp
    · rw [if_neg (by omega), if_neg e, if_neg e]; exact h.had j hj

/-- A handle was given back, and the list says so. -/
theorem Keeps.give {B0 : Nat} {w w1 : World} {p bq hb ib : Nat} {vc : Value} {S S' : PS Int} {R R' : RP Int} {H : List Int} {I : List Bool} {n k : Nat} (h : Keeps B0 w p bq hb ib vc S R H I n k) (s : PStep w w1 B0 p bq vc S')
    (rel : Rel S' R') (qs : S'.qs.length = S.qs.length) (mo : S'.most = S.most) (inn : R'.inn.length ≤ R.inn.length + 1) (i : Nat) (hi : i < n) (hd : ∀ j : Int, Go.Proofs.Ytoiiofcpohoeaaa.had S' j = if j = i then none else Go.Proofs.Ytoiiofcpohoeaaa.had S j) :
    ∃ vc', Keeps B0 (w1.setCell ⟨ib, i, none⟩ (.bool false)) p bq hb ib vc' S' R' H (I.set i false) n (k + 1) ∧ Kp (PF p bq vc) w w1 := by
  obtain ⟨vc', pm', K⟩ := s
  obtain ⟨n1, n2, n3⟩ := h.ne
  have hs1 := h.hs.kp K n2
  have is1 := h.is.kp K n3
  have hk : Kp (fun b => b = ib) w1 (w1.setCell ⟨ib, i, none⟩ (.bool false)) := Kp.set (S := fun b => b = ib) (Kp.refl _ _) (p := ⟨ib, i, none⟩) (.inl rfl) _
  have hne : ∀ b, PF p bq vc' b → ¬ (b = ib) := fun b hb' e => by
    subst e
    rcases hb' with e | e | hp
    · exact blk_ne is1 pm'.top (by decide) e
    · exact blk_ne is1 pm'.queues (by decide) e
    · exact own_ne_blk pm'.cells is1 (by decide) hp
  refine ⟨vc', ⟨pm'.kp hk hne, rel, qs.trans h.qs, mo.trans h.most, hs1.setNe n1 _, ?_, h.hl, by simp [h.il], fun j hj => ?_, h.lo, by have := h.inn; omega⟩, K⟩
  · rw [bools_set]; exact is1.set i _
  · rw [hd, getD_set' _ _ _ _ _ (by rw [h.il]; exact hi)]
    by_cases e : j = i
    · subst e; simp
    · rw [if_neg (by omega), if_neg e]; exact h.had j hj

theorem take_most (S : PS Int) (x : Int) : (S.take x).1.most = S.most := by unfold PS.take; split; rfl; split <;> rfl
theorem give_most (S : PS Int) (z x : Int) : (S.give z x).1.most = S.most := by
  unfold PS.give; split
  · rfl
  · split <;> rfl
theorem append_most (S : PS Int) (q x : Int) : (S.append q x).1.most = S.most := by
  unfold PS.append; split
  · rfl
  · split
    · rfl
    · split
      · rfl
      · split
        · rfl
        · split <;> rfl
theorem pop_most (S : PS Int) (q : Int) : (S.pop q).1.most = S.most := by
  unfold PS.pop; split
  · rfl
  · split
    · rfl
    · split <;> rfl

theorem take_no (S : PS Int) (x : Int) (h : (S.take x).2.2 = false) : (S.take x).1 = S := by
  unfold PS.take at h ⊢
  split
  · rfl
  · rename_i h1
    rw [if_neg h1] at h
    split at h <;> cases h
theorem give_no (S : PS Int) (x : Int) (h : (S.give 0 x).2.2 ≠ 0) : (S.give 0 x).1 = S := by
  unfold PS.give at h ⊢
  split
  · rfl
  · rename_i c hc
    rw [hc] at h
    simp only at h
    split
    · rfl
    · rename_i h1
      rw [if_neg h1] at h
      simp at h
/-- Whatever stands in a queue is a number below n, and had. -/
theorem Keeps.queue {B0 : Nat} {w : World} {p bq hb ib : Nat} {vc : Value} {S : PS Int} {R : RP Int} {H : List Int} {I : List Bool} {n k : Nat} (h : Keeps B0 w p bq hb ib vc S R H I n k) :
    (R.q 0 ++ R.q 1 ++ R.q 2).Nodup ∧ ∀ z ∈ R.q 0 ++ R.q 1 ++ R.q 2, ∃ i : Nat, z = i ∧ i < n ∧ I.getD i false = true := by
  refine ⟨three_nodup h.rel.qnodup (fun p hp => by have := h.rel.qrange p hp; have := h.qs; omega), fun z hz => ?_⟩
  have hin : z ∈ R.inn.map (·.2) := by
    have hs : ∀ q, z ∈ R.q q → z ∈ R.inn.map (·.2) := fun q hq => by
      unfold RP.q at hq
      obtain ⟨a, ha, ea⟩ := List.mem_map.1 hq
      exact List.mem_map.2 ⟨a, (List.mem_filter.1 ha).1, ea⟩
    rcases List.mem_append.1 hz with hz | hz
    · rcases List.mem_append.1 hz with hz | hz
      · exact hs _ hz
      · exact hs _ hz
    · exact hs _ hz
  obtain ⟨c, hc⟩ := Option.isSome_iff_exists.1 (h.rel.qtaken z hin)
  obtain ⟨z0, z1, _, _⟩ := tk_some hc
  have hr := h.rel.room
  have hm := h.most
  refine ⟨z.toNat, by omega, by omega, ?_⟩
  have e := h.had z.toNat (by omega)
  rw [show ((z.toNat : Nat) : Int) = z from by omega] at e
  unfold Go.Proofs.Ytoiiofcpohoeaaa.had at e
  rw [hc] at e
  cases e2 : I.getD z.toNat false with
  | true => rfl
  | false => rw [e2] at e; simp at e

/-- What the second loop has marked. -/
def Seen (L : List Bool) (n : Nat) (l : List Int) : Prop := L.length = n ∧ ∀ i : Nat, L.getD i false = true → (i : Int) ∈ l
theorem Seen.zero (n : Nat) : Seen (List.replicate n false) n [] := by
  refine ⟨by simp, fun i hi => ?_⟩
  simp [List.getD, List.getElem?_replicate] at hi
  split at hi <;> simp at hi
theorem Seen.next {L : List Bool} {n : Nat} {l : List Int} (h : Seen L n l) (i : Nat) (hi : i < n) : Seen (L.set i true) n (l ++ [(i : Int)]) := by
  refine ⟨by simp [h.1], fun j hj => ?_⟩
  rw [getD_set' _ _ _ _ _ (by rw [h.1]; exact hi)] at hj
  by_cases e : j = i
  · subst e; simp
  · rw [if_neg e] at hj
    exact List.mem_append.2 (.inl (h.2 j hj))
theorem Seen.not {L : List Bool} {n : Nat} {l : List Int} (h : Seen L n l) (i : Nat) (hi : (i : Int) ∉ l) : L.getD i false = false := by
  cases e : L.getD i false with
  | false => rfl
  | true => exact absurd (h.2 i e) hi
theorem bools_cell {L : List Bool} {n i : Nat} (hl : L.length = n) (hi : i < n) : (bools L)[i]? = some (.bool (L.getD i false)) := by
  subst hl
  simp [bools, List.getD, hi]
theorem ints_cell {L : List Int} {n i : Nat} (hl : L.length = n) (hi : i < n) : (ints L)[i]? = some (.int .i64 (L.getD i 0)) := by
  subst hl
  simp [ints, List.getD, hi]
theorem q_le {R : RP Int} {k : Nat} (h : R.inn.length ≤ k) (q : Int) : (R.q q).length ≤ k := by
  unfold RP.q; rw [List.length_map]
  have := List.length_filter_le (fun p : Int × Int => p.1 == q) R.inn
  omega
theorem ints_app (a b : List Int) : ints (a ++ b) = ints a ++ ints b := by simp [ints]
theorem ints_one (l : List Int) : ∀ u ∈ ints l, u.oneCell' = true := by
  intro u hu
  obtain ⟨x, _, rfl⟩ := List.mem_map.1 hu
  rfl
theorem Keeps.kp {B0 : Nat} {w w' : World} {p bq hb ib : Nat} {vc : Value} {S : PS Int} {R : RP Int} {H : List Int} {I : List Bool} {n k : Nat} (h : Keeps B0 w p bq hb ib vc S R H I n k) {T : Nat → Prop} (K : Kp T w w') (hs : ∀ b, (PF p bq vc b ∨ b = hb ∨ b = ib) → ¬ T b) : Keeps B0 w' p bq hb ib vc S R H I n k :=
  { h with pm := h.pm.kp K (fun b hb => hs b (.inl hb)), hs := h.hs.kp K (hs _ (.inr (.inl rfl))), is := h.is.kp K (hs _ (.inr (.inr rfl))) }
theorem Keeps.lt {B0 : Nat} {w : World} {p bq hb ib : Nat} {vc : Value} {S : PS Int} {R : RP Int} {H : List Int} {I : List Bool} {n k : Nat} (h : Keeps B0 w p bq hb ib vc S R H I n k) (b : Nat) (hb : PF p bq vc b ∨ b = hb ∨ b = ib) : b < w.heap.size := by
  rcases hb with (rfl | rfl | hf) | rfl | rfl
  · exact h.pm.top.lt
  · exact h.pm.queues.lt
  · exact (own_block h.pm.cells hf).2
  · exact h.hs.lt
  · exact h.is.lt
theorem nodup_take {l : List Int} (h : l.Nodup) (i : Nat) (hi : i < l.length) : l[i] ∉ l.take i := by
  have e : l.take (i + 1) = l.take i ++ [l[i]] := List.take_succ_eq_append_getElem hi
  have h1 : (l.take i ++ [l[i]]).Nodup := by rw [← e]; exact (List.take_sublist _ _).nodup h
  intro hm
  rw [List.nodup_append] at h1
  exact h1.2.2 _ hm _ (by simp) rfl
/-- What Get answers. -/
theorem Keeps.get {B0 : Nat} {w : World} {p bq hb ib : Nat} {vc : Value} {S : PS Int} {R : RP Int} {H : List Int} {I : List Bool} {n k : Nat} (h : Keeps B0 w p bq hb ib vc S R H I n k) (i : Nat) (hi : i < n) :
    Calls Try.prog 11 #[.pointer (some ⟨p, 0, none⟩), .int .i64 i] w fun e w' => e = .returned (.tuple #[.int .i64 (if I.getD i false then H.getD i 0 else 0), .bool (I.getD i false)]) ∧ w = w' := by
  have hg := pGet w B0 p bq vc S h.pm i h.rel.len
  have e := h.had i hi
  unfold Go.Proofs.Ytoiiofcpohoeaaa.had at e
  cases ht : tk S i with
  | none =>
    rw [ht] at e hg
    cases e2 : I.getD i false with
    | true => rw [e2] at e; simp at e
    | false => exact hg
  | some c =>
    rw [ht] at e hg
    cases e2 : I.getD i false with
    | false => rw [e2] at e; simp at e
    | true =>
      rw [e2] at e
      simp only [Option.map_some, if_true, Option.some.injEq] at e
      simp only [Option.map_some, Option.getD_some, Option.isSome_some, e] at hg
      exact hg
theorem tInt : SlT Try.prog 32 3 (.int .i64 0) 1 8 := ⟨Try.underlying32, by kernel_rfl, rfl, by decide⟩

end Go.Proofs.Ytoiiofcpohoeaaa
