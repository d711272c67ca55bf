/- The document's pool, walked: May, Find, Queued, Queue, Append. -/
import Derived.Test.YtoiiofcpohoeaaaRefSame
import Derived.Test.YtoiiofcpohoeaaaOwn
import Derived.Test.YtoiiofcpohoeaaaPoolQ
namespace Go.Proofs.Ytoiiofcpohoeaaa
open Go.RowKit

def enI (p : Int × Int) : List Value := [.int .i64 p.1, .int .i64 p.2]
theorem enI_len (p : Int × Int) : (enI p).length = 2 := rfl

structure RMem (w : World) (B0 m : Nat) (vi vn vb : Value) (R : RP Int) : Prop where
  top : Blk w m [.int .i64 R.most, .int .i64 R.queues, vi, vn, vb, .int .i64 R.never] 34
  items : w.ownsRow B0 44 2 vi R.items.length (R.items.flatMap enI)
  inn : w.ownsRow B0 72 2 vn R.inn.length (R.inn.flatMap enI)
  back : w.ownsRow B0 3 1 vb R.back.length (ints R.back)
  b0 : B0 ≤ m

def RF (m : Nat) (vi vn vb : Value) : Nat → Prop := fun b => b = m ∨ vi.ownBlock = some b ∨ vn.ownBlock = some b ∨ vb.ownBlock = some b
theorem RMem.kp {S' : Nat → Prop} {w w' : World} {B0 m : Nat} {vi vn vb : Value} {R : RP Int} (h : RMem w B0 m vi vn vb R) (K : Kp S' w w') (hs : ∀ b, RF m vi vn vb b → ¬ S' b) : RMem w' B0 m vi vn vb R :=
  ⟨h.top.kp K (hs _ (.inl rfl)), own_kp h.items K (fun b hb => hs b (.inr (.inl hb))), own_kp h.inn K (fun b hb => hs b (.inr (.inr (.inl hb)))), own_kp h.back K (fun b hb => hs b (.inr (.inr (.inr hb)))), h.b0⟩
theorem RMem.old {w w' : World} {B0 m : Nat} {vi vn vb : Value} {R : RP Int} (h : RMem w B0 m vi vn vb R) (K : Kp none' w w') : RMem w' B0 m vi vn vb R := h.kp K (fun _ _ h => h)
theorem RMem.new {w : World} {B0 m : Nat} {vi vn vb : Value} {R : RP Int} (h : RMem w B0 m vi vn vb R) {b : Nat} (hb : RF m vi vn vb b) : B0 ≤ b := by
  rcases hb with rfl | hb | hb | hb
  · exact h.b0
  · exact (own_block h.items hb).1
  · exact (own_block h.inn hb).1
  · exact (own_block h.back hb).1

/-- Where x stands; -1: nowhere. -/
def posL (l : List Int) (x : Int) : Int := if x ∈ l then l.idxOf x else -1
theorem posL_no {l : List Int} {x : Int} (h : x ∉ l) : posL l x = -1 := by unfold posL; rw [if_neg h]
theorem posL_at {l : List Int} {x : Int} (k : Nat) (hk : k < l.length) (h : l[k] = x) (hn : x ∉ l.take k) : posL l x = k := by
  have hm : x ∈ l := h ▸ List.getElem_mem hk
  unfold posL
  rw [if_pos hm]
  congr 1
  have e : l = l.take k ++ l.drop k := (List.take_append_drop k l).symm
  rw [e, List.idxOf_append, if_neg hn]
  have : l.drop k = x :: l.drop (k + 1) := by rw [List.drop_eq_getElem_cons hk, h]
  rw [this]; simp; omega
theorem posL_get {l : List Int} {x : Int} (h : x ∈ l) : ∃ k : Nat, posL l x = k ∧ ∃ hk : k < l.length, l[k] = x := by
  refine ⟨l.idxOf x, ?_, List.idxOf_lt_length_iff.2 h, List.getElem_idxOf _⟩
  unfold posL; rw [if_pos h]

theorem rMay (most queues : Int) (w : World) : Calls Try.prog 8 #[.int .i64 most, .int .i64 queues] w fun e w' => e = .returned (.bool (decide (1 ≤ most ∧ most ≤ 4096 ∧ 0 ≤ queues ∧ queues ≤ 262144))) ∧ w = w' := by
  generalize hb : decide (1 ≤ most ∧ most ≤ 4096 ∧ 0 ≤ queues ∧ queues ≤ 262144) = b
  have HB := Lib.hid hb
  clear hb
  by_cases h1 : most < 1
  · go_enter Try.func8, Try.ntmps8
    go_wp2
    go_ret
    exact ⟨ret_bool (by rw [← HB.out]; simp; omega), rfl⟩
  · by_cases h2 : 4096 < most
    · go_enter Try.func8, Try.ntmps8
      go_wp2
      go_ret
      exact ⟨ret_bool (by rw [← HB.out]; simp; omega), rfl⟩
    · by_cases h3 : queues < 0
      · go_enter Try.func8, Try.ntmps8
        go_wp2
        go_ret
        exact ⟨ret_bool (by rw [← HB.out]; simp; omega), rfl⟩
      · by_cases h4 : queues ≤ 262144
        · go_enter Try.func8, Try.ntmps8
          go_wp2
          go_ret
          exact ⟨ret_bool (by rw [← HB.out]; simp; omega), rfl⟩
        · go_enter Try.func8, Try.ntmps8
          go_wp2
          go_ret
          exact ⟨ret_bool (by rw [← HB.out]; simp; omega), rfl⟩

/-- One pair's cells. -/
theorem pair_get {w : World} {B0 : Nat} {t : TypeId} {v : Value} {l : List (Int × Int)} (h : w.ownsRow B0 t 2 v l.length (l.flatMap enI)) (i : Nat) (p : Int × Int) (hp : l[i]? = some p) :
    ∃ g cap, v = .slice (some ⟨g, 0, none⟩) l.length cap ∧ w.cell? ⟨g, i * 2, none⟩ = some (.int .i64 p.1) ∧ w.cell? ⟨g, i * 2 + 1, none⟩ = some (.int .i64 p.2) := by
  have hi := (List.getElem?_eq_some_iff.1 hp).1
  obtain ⟨g, cap, rfl, _⟩ := own_shape1 h (by omega)
  have hh : ∀ k u, k < 2 → (enI p)[k]? = some u → w.cell? ⟨g, i * 2 + k, none⟩ = some u := fun k u hk hu => by
    refine own_cell h _ ?_
    rw [flat_get enI 2 enI_len _ _ _ hk, hp]; exact hu
  exact ⟨g, cap, rfl, hh 0 _ (by omega) rfl, hh 1 _ (by omega) rfl⟩

set_option maxHeartbeats 1000000 in
theorem rFind (w : World) (B0 m : Nat) (vi vn vb : Value) (R : RP Int) (h : RMem w B0 m vi vn vb R) (x : Int) (hl : R.items.length ≤ 1000000) :
    Calls Try.prog 12 #[.pointer (some ⟨m, 0, none⟩), .int .i64 x] w fun e w' => e = .returned (.int .i64 (posL (R.items.map (·.1)) x)) ∧ w = w' := by
  have c2 := h.top.cell 2 rfl
  have hcell := fun i p (hp : R.items[i]? = some p) => pair_get h.items i p hp
  obtain ⟨ao, cap, rfl⟩ := own_shape h.items
  have HC := Lib.hid hcell
  clear hcell h
  generalize R.items = l at *
  go_enter Try.func12, Try.ntmps12
  go_wp2
  go_loop [5] (fun s5 => ∃ k : Nat, k ≤ l.length ∧ s5 = .int .i64 k ∧ Hid (x ∉ (l.map (·.1)).take k)) (fun s5 => l.length - (intOf s5).toNat)
  case atStart => exact ⟨0, Nat.zero_le _, rfl, by simp [Hid]⟩
  case round =>
    obtain ⟨k, hk, rfl, hno⟩ := hrel
    by_cases hlt : k < l.length
    · obtain ⟨y, hy⟩ : ∃ y, l[k]? = some y := ⟨_, List.getElem?_eq_some_iff.2 ⟨hlt, rfl⟩⟩
      obtain ⟨g, cap', e, ce0, ce1⟩ := HC.out k y hy
      obtain rfl : ao = some ⟨g, 0, none⟩ := by cases e; rfl
      clear e
      have hy1 : (l.map (·.1))[k]'(by simpa using hlt) = y.1 := by
        have := (List.getElem?_eq_some_iff.1 hy).2
        simp [this]
      have HY := Lib.hid hy1
      clear hy hy1
      by_cases hx : y.1 = x
      · have hx' : (y.1 == x) = true := by simpa using hx
        have HX := Lib.hid hx; clear hx
        go_wp2
        go_ret
        exact ⟨ret_int (posL_at k (by simpa using hlt) (HY.out.trans HX.out) hno.out).symm, rfl⟩
      · have hx' : (y.1 == x) = false := by simpa using hx
        have HX := Lib.hid hx; clear hx
        go_wp2
        go_round
        case rel =>
          refine ⟨k + 1, by omega, by go_num, ?_⟩
          unfold Hid
          rw [take_snoc' _ k (by simpa using hlt) HY.out]
          intro hm
          rcases List.mem_append.1 hm with hm | hm
          · exact hno.out hm
          · simp at hm; exact HX.out hm.symm
        case measure => simp [intOf]; omega
    · go_wp2
      go_ret
      exact ⟨ret_int (posL_no (by have := hno.out; rw [List.take_of_length_le (by simp; omega)] at this; exact this)).symm, rfl⟩

set_option maxHeartbeats 1000000 in
theorem rQueued (w : World) (B0 m : Nat) (vi vn vb : Value) (R : RP Int) (h : RMem w B0 m vi vn vb R) (x : Int) (hl : R.inn.length ≤ 1000000) :
    Calls Try.prog 33 #[.pointer (some ⟨m, 0, none⟩), .int .i64 x] w fun e w' => e = .returned (.int .i64 (posL (R.inn.map (·.2)) x)) ∧ w = w' := by
  have c3 := h.top.cell 3 rfl
  have hcell := fun i p (hp : R.inn[i]? = some p) => pair_get h.inn i p hp
  obtain ⟨ao, cap, rfl⟩ := own_shape h.inn
  have HC := Lib.hid hcell
  clear hcell h
  generalize R.inn = l at *
  go_enter Try.func33, Try.ntmps33
  go_wp2
  go_loop [5] (fun s5 => ∃ k : Nat, k ≤ l.length ∧ s5 = .int .i64 k ∧ Hid (x ∉ (l.map (·.2)).take k)) (fun s5 => l.length - (intOf s5).toNat)
  case atStart => exact ⟨0, Nat.zero_le _, rfl, by simp [Hid]⟩
  case round =>
    obtain ⟨k, hk, rfl, hno⟩ := hrel
    by_cases hlt : k < l.length
    · obtain ⟨y, hy⟩ : ∃ y, l[k]? = some y := ⟨_, List.getElem?_eq_some_iff.2 ⟨hlt, rfl⟩⟩
      obtain ⟨g, cap', e, ce0, ce1⟩ := HC.out k y hy
      obtain rfl : ao = some ⟨g, 0, none⟩ := by cases e; rfl
      clear e
      have hy1 : (l.map (·.2))[k]'(by simpa using hlt) = y.2 := by
        have := (List.getElem?_eq_some_iff.1 hy).2
        simp [this]
      have HY := Lib.hid hy1
      clear hy hy1
      by_cases hx : y.2 = x
      · have hx' : (y.2 == x) = true := by simpa using hx
        have HX := Lib.hid hx; clear hx
        go_wp2
        go_ret
        exact ⟨ret_int (posL_at k (by simpa using hlt) (HY.out.trans HX.out) hno.out).symm, rfl⟩
      · have hx' : (y.2 == x) = false := by simpa using hx
        have HX := Lib.hid hx; clear hx
        go_wp2
        go_round
        case rel =>
          refine ⟨k + 1, by omega, by go_num, ?_⟩
          unfold Hid
          rw [take_snoc' _ k (by simpa using hlt) HY.out]
          intro hm
          rcases List.mem_append.1 hm with hm | hm
          · exact hno.out hm
          · simp at hm; exact HX.out hm.symm
        case measure => simp [intOf]; omega
    · go_wp2
      go_ret
      exact ⟨ret_int (posL_no (by have := hno.out; rw [List.take_of_length_le (by simp; omega)] at this; exact this)).symm, rfl⟩

theorem q_snoc1 (l : List (Int × Int)) (p : Int × Int) (q : Int) : ((l ++ [p]).filter (fun p => p.1 == q)).map (·.2) = (l.filter (fun p => p.1 == q)).map (·.2) ++ if p.1 == q then [p.2] else [] := by
  simp only [List.filter_append, List.map_append]
  congr 1
  by_cases h : (p.1 == q) = true <;> simp [List.filter_cons, h]

set_option maxHeartbeats 1000000 in
theorem rQueue (w : World) (B0 m : Nat) (vi vn vb : Value) (R : RP Int) (h : RMem w B0 m vi vn vb R) (q : Int) (hl : R.inn.length ≤ 1000000) :
    Calls Try.prog 13 #[.pointer (some ⟨m, 0, none⟩), .int .i64 q] w fun e w' => ∃ v, e = .returned v ∧ w'.ownsRow w.heap.size 3 1 v (R.q q).length (ints (R.q q)) ∧ Kp none' w w' := by
  have c3 := h.top.cell 3 rfl
  have hcell := fun i p (hp : R.inn[i]? = some p) => pair_get h.inn i p hp
  obtain ⟨ao, cap, rfl⟩ := own_shape h.inn
  have HC := Lib.hid hcell
  unfold RP.q
  clear hcell h
  generalize R.inn = l at *
  obtain ⟨F, hF⟩ : ∃ F : List (Int × Int) → List Int, F = fun l => (l.filter (fun p => p.1 == q)).map (·.2) := ⟨_, rfl⟩
  have hFl : ∀ i, (F (l.take i)).length ≤ 1000000 := fun i => by
    rw [hF]; simp only [List.length_map]
    exact Nat.le_trans (List.length_filter_le _ _) (by simp; omega)
  have hF1 : ∀ l p, F (l ++ [p]) = F l ++ if p.1 == q then [p.2] else [] := fun l p => by rw [hF]; exact q_snoc1 l p q
  have e0 : (List.map (fun x => x.2) (List.filter (fun p => p.1 == q) l)) = F l := by rw [hF]
  rw [e0]
  have hF0 : F [] = [] := by rw [hF]; rfl
  have HF1 := Lib.hid hF1; have HFL := Lib.hid hFl; have HF0 := Lib.hid hF0
  clear hF e0 hF1 hFl hF0
  go_enter Try.func13, Try.ntmps13
  go_wp2
  go_loopw [5, 6] (fun o s6 wr => ∃ k : Nat, k ≤ l.length ∧ s6 = .int .i64 k ∧ Hid (wr.ownsRow w.heap.size 3 1 o (F (l.take k)).length (ints (F (l.take k))) ∧ Kp none' w wr)) (fun _ s6 _ => l.length - (intOf s6).toNat)
  case atStart => exact ⟨0, Nat.zero_le _, rfl, by simp only [List.take_zero, HF0.out]; exact ⟨World.ownsRow_nil _ _ _ _, Kp.refl _ _⟩⟩
  case round =>
    obtain ⟨k, hk, rfl, hh⟩ := hrel
    have c3' := hh.out.2.cell c3 id
    by_cases hlt : k < l.length
    · obtain ⟨y, hy⟩ : ∃ y, l[k]? = some y := ⟨_, List.getElem?_eq_some_iff.2 ⟨hlt, rfl⟩⟩
      obtain ⟨g, cap', e, ce0, ce1⟩ := HC.out k y hy
      obtain rfl : ao = some ⟨g, 0, none⟩ := by cases e; rfl
      clear e
      have d0 := hh.out.2.cell ce0 id
      have d1 := hh.out.2.cell ce1 id
      have hy1 : l.take (k + 1) = l.take k ++ [y] := take_snoc' l k hlt ((List.getElem?_eq_some_iff.1 hy).2)
      have HY := Lib.hid hy1
      clear hy hy1 ce0 ce1 c3
      by_cases hx : y.1 = q
      · have hx' : (y.1 == q) = true := by simpa using hx
        have hFs := HF1.out (l.take k) y
        rw [if_pos hx'] at hFs
        have HX := Lib.hid hFs; clear hx hFs
        obtain ⟨hown, hkp⟩ := hh.out
        have hb := HFL.out k
        have hsz := hkp.size
        go_wp2_with (at_builtin; refine wp_app1 ti7 (.tmp 26) (.tmp 35) rfl rfl w.heap.size (hown.alloc _) [.int .i64 y.2] rfl rfl rfl (heap_new _ _) rfl (by omega) (by omega) (by simp; omega) ?_)
        intro g1 cap1 w1 hown1 hgrow
        have hk1 : Kp none' w w1 := (hkp.alloc _).grown hgrow (fun k hk => .inr (own_block hown hk).1)
        go_wp2
        go_roundw
        case rel => exact ⟨k + 1, by omega, by go_num, by rw [HY.out, HX.out, ints_snoc]; simpa using hown1, hk1⟩
        case measure => simp [intOf]; omega
      · have hx' : (y.1 == q) = false := by simpa using hx
        have hFs := HF1.out (l.take k) y
        rw [if_neg (by simpa using hx), List.append_nil] at hFs
        have HX := Lib.hid hFs; clear hx hFs
        go_wp2
        go_roundw
        case rel => exact ⟨k + 1, by omega, by go_num, by rw [HY.out, HX.out]; exact hh.out⟩
        case measure => simp [intOf]; omega
    · go_wp2
      go_ret
      exact ⟨_, rfl, by have := hh.out.1; rw [List.take_of_length_le (by omega)] at this; exact this, hh.out.2⟩

end Go.Proofs.Ytoiiofcpohoeaaa
