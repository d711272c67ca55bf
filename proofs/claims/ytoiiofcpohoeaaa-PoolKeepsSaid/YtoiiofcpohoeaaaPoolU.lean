/- A pool that nobody made; the range over a queue. -/
import Derived.Test.YtoiiofcpohoeaaaPoolL
import Derived.Test.YtoiiofcpohoeaaaPoolZInt
import Derived.Test.YtoiiofcpohoeaaaRange
import Derived.Test.YtoiiofcpohoeaaaRefSame
namespace Go.Proofs.Ytoiiofcpohoeaaa
open Go.RowKit Go.Shelf
attribute [local go_sem] Oper.semAt_some

set_option maxHeartbeats 400000 in
theorem nTake (x : Int) (w : World) : Calls Try.prog 17 #[.pointer none, .int .i64 x] w fun e w' => e = .returned (.tuple #[.int .i64 0, .bool false]) ∧ Kp none' w w' := by
  go_enter Try.func17, Try.ntmps17
  go_wp2
  go_quiet (fail)
  go_wp2
  go_ret2
  exact ⟨rfl, kp_drewN ⟨_, rfl⟩⟩
set_option maxHeartbeats 400000 in
theorem nTaken (x : Int) (w : World) : Calls Try.prog 29 #[.pointer none, .int .i64 x] w fun e w' => e = .returned (.bool false) ∧ w = w' := by
  go_enter Try.func29, Try.ntmps29
  go_wp2
  go_ret
  exact ⟨rfl, rfl⟩
set_option maxHeartbeats 400000 in
theorem nHas7 (x : Int) (w : World) : Calls Try.prog 30 #[.pointer none, .int .i64 x] w fun e w' => e = .returned (.bool false) ∧ w = w' := by
  go_enter Try.func30, Try.ntmps30
  go_wp2
  go_ret
  exact ⟨rfl, rfl⟩
set_option maxHeartbeats 400000 in
theorem nGet (x : Int) (w : World) : Calls Try.prog 11 #[.pointer none, .int .i64 x] w fun e w' => e = .returned (.tuple #[.int .i64 0, .bool false]) ∧ w = w' := by
  go_enter Try.func11, Try.ntmps11
  go_wp2_with (go_at_call 29; refine (nTaken _ _).mono ?_; rintro e w' ⟨rfl, rfl⟩)
  go_ret2
  exact ⟨rfl, rfl⟩
set_option maxHeartbeats 400000 in
theorem nGive (x : Int) (w : World) : Calls Try.prog 18 #[.pointer none, .int .i64 x] w fun e w' => e = .returned (.tuple #[.int .i64 0, .int .i64 10]) ∧ w = w' := by
  go_enter Try.func18, Try.ntmps18
  go_wp2
  go_ret2
  exact ⟨rfl, rfl⟩
set_option maxHeartbeats 400000 in
theorem nHead (x : Int) (w : World) : Calls Try.prog 14 #[.pointer none, .int .i64 x] w fun e w' => e = .returned (.tuple #[.int .i64 0, .bool false]) ∧ w = w' := by
  go_enter Try.func14, Try.ntmps14
  go_wp2_with (go_at_call 30; refine (nHas7 _ _).mono ?_; rintro e w' ⟨rfl, rfl⟩)
  go_ret2
  exact ⟨rfl, rfl⟩
set_option maxHeartbeats 400000 in
theorem nPop (x : Int) (w : World) : Calls Try.prog 20 #[.pointer none, .int .i64 x] w fun e w' => e = .returned (.tuple #[.int .i64 0, .bool false]) ∧ w = w' := by
  go_enter Try.func20, Try.ntmps20
  go_wp2_with (go_at_call 14; refine (nHead _ _).mono ?_; rintro e w' ⟨rfl, rfl⟩)
  go_ret2
  exact ⟨rfl, rfl⟩
set_option maxHeartbeats 400000 in
theorem nAppend (q x : Int) (w : World) : Calls Try.prog 19 #[.pointer none, .int .i64 q, .int .i64 x] w fun e w' => e = .returned (.int .i64 10) ∧ w = w' := by
  go_enter Try.func19, Try.ntmps19
  go_wp2
  go_ret
  exact ⟨rfl, rfl⟩
set_option maxHeartbeats 400000 in
theorem nLen (w : World) : Calls Try.prog 10 #[.pointer none] w fun e w' => e = .returned (.int .i64 0) ∧ w = w' := by
  go_enter Try.func10, Try.ntmps10
  go_wp2
  go_ret
  exact ⟨rfl, rfl⟩

/-- The world in which a queue's walk stands ready. -/
abbrev wkW (w : World) (v : Value) (q : Int) : World := (w.alloc (.cells #[v] 24)).alloc (.cells #[.int .i64 q] 3)
set_option maxHeartbeats 400000 in
theorem mkWalk (a : Option Addr) (q : Int) (w : World) : Calls Try.prog 31 #[.pointer a, .int .i64 q] w fun e w' => e = .returned (.func (.func 34) #[] #[.pointer (some ⟨w.heap.size, 0, none⟩), .pointer (some ⟨w.heap.size + 1, 0, none⟩)]) ∧ w' = wkW w (.pointer a) q := by
  go_enter Try.func31, Try.ntmps31
  go_wp2
  go_ret
  exact ⟨rfl, rfl⟩

def QI (w : World) (pre : List Int) (W : World) : Prop := ∃ v, Blk W w.heap.size [v] 32 ∧ W.ownsRow (w.heap.size + 3) 3 1 v pre.length (ints pre)
def QS (w : World) : Nat → Prop := fun b => b = w.heap.size ∨ w.heap.size + 3 ≤ b
abbrev qw (w : World) (a : Option Addr) (q : Int) : World := wkW (w.alloc (.cells #[.slice none 0 0] 32)) (.pointer a) q

set_option maxRecDepth 100000 in
set_option maxHeartbeats 2000000 in
theorem pQueue (a : Option Addr) (q : Int) (l : List Int) (w : World) (hl : l.length ≤ 1000000)
    (hT : Tells Try.prog 34 (fun y => #[] ++ #[y] ++ #[.pointer (some ⟨w.heap.size + 1, 0, none⟩), .pointer (some ⟨w.heap.size + 2, 0, none⟩)]) (fun x : Int => #[.int .i64 x]) l (QS w) (qw w a q)) :
    Calls Try.prog 16 #[.pointer a, .int .i64 q] w fun e w' => ∃ v, e = .returned v ∧ w'.ownsRow w.heap.size 3 1 v l.length (ints l) ∧ Kp none' w w' := by
  refine (callsIn_wide (n := 0)).1 ?_
  refine callsIn_of_wp_marks Try.func16 rfl trivial ?_ rfl
  simp only [Try.ntmps16, List.size_toArray, List.length_cons, List.length_nil, Nat.reduceAdd, Nat.reduceSub, Array.replicate_succ, Array.replicate_zero, List.push_toArray, List.append_toArray, List.nil_append, List.cons_append]
  have HT := Lib.hid hT
  clear hT
  gi_wp2_with (refine ⟨trivial, rfl, ?_⟩; gi_at_call 31; refine (callsIn_wide.2 (mkWalk _ _ _)).mono ?_; rintro e w' ⟨rfl, rfl⟩)
  refine wp_range (first := #[]) (captured := #[.pointer (some ⟨w.heap.size + 1, 0, none⟩), .pointer (some ⟨w.heap.size + 2, 0, none⟩)]) rfl (enters_of Try.func34 (by kernel_rfl) rfl) (fun b hb => by simp [World.size_alloc] at hb; exact .inr (by omega)) HT.out (fun _ => rfl)
    (QI w) (fun pre A B ⟨v, h1, h2⟩ k => ⟨v, h1.nc k, own_nc h2 k⟩) ⟨_, ((Blk.new _ [_] _).alloc _).alloc _, World.ownsRow_nil _ _ _ _⟩ (fun x => { tmps := #[.pointer a, .int .i64 q, undef, undef, .slice none 0 0, .pointer (some ⟨w.heap.size, 0, none⟩), .int .i64 x, .pointer a, .int .i64 q, .func (.func 34) #[] #[.pointer (some ⟨w.heap.size + 1, 0, none⟩), .pointer (some ⟨w.heap.size + 2, 0, none⟩)], .int .i64 x, undef, undef, undef, undef, undef], defers := [] }) ?assign ?body ?done
  case assign =>
    intro l x W K hK
    gi_wp2
    exact hK
  case body =>
    rintro lp pre x post W hmm ⟨v, hblk, hown⟩ hkp
    have hlen : pre.length < 1000000 := by
      have := congrArg List.length hmm; simp at this; omega
    have c0 := hblk.cell 0 rfl
    have hlt := hblk.lt
    have hsz := hkp.size
    simp [World.size_alloc] at hsz
    have HM := Lib.hid hmm; clear hmm
    gi_wp2_with (gi_at_builtin; refine wpIn_app1 ti7 (.tmp 11) (.tmp 13) rfl rfl (w.heap.size + 3) (hown.alloc _) [.int .i64 x] rfl rfl rfl (heap_new _ _) rfl (by omega) (by omega) (by simp; omega) ?_)
    intro g cap w1 hown1 hgrow
    have hblk1 := (hblk.alloc (.cells #[.int .i64 x] 3)).grown hgrow (fun e => by have := (own_block hown e.symm).1; omega)
    have d0 := hblk1.cell 0 rfl
    have f0 := hblk1.fz 0
    have hko := (KeepsOthers.alloc W (.cells #[.int .i64 x] 3)).trans (own_cells (hown.alloc (.cells #[.int .i64 x] 3)) hgrow)
    have hkp1 := (hkp.alloc (.cells #[.int .i64 x] 3)).grown hgrow (fun b e => .inl (.inr (own_block hown e).1))
    gi_wp2
    refine ⟨⟨_, hblk1.set 0 _, ?_⟩, hkp1.set (p := ⟨w.heap.size, 0, none⟩) (.inl (.inl rfl)) _, hko.trans (KeepsOthers.setCell _ _ _)⟩
    have h2 := ownsRow_setCell_below hown1 (a := ⟨w.heap.size, 0, none⟩) (show w.heap.size < w.heap.size + 3 by omega) (.slice (some ⟨g, 0, none⟩) (pre.length + 1) cap)
    rw [ints_snoc]
    simpa using h2
  case done =>
    rintro D W ⟨v, hblk, hown⟩ hkp hD hK
    have c0 := hblk.cell 0 rfl
    gi_wp2
    refine ⟨by simp, .inl ⟨_, _, rfl, run_takeDeferred hK, ?_⟩⟩
    refine ⟨_, results_tmp rfl _ _ _, ?_⟩
    refine ⟨v, rfl, own_nc (own_base hown (by omega)) (NC.put _ hK rfl), ?_⟩
    have hk2 : Kp (fun b => w.heap.size ≤ b) w (W.putObj D (.deferred none)) := (((((Kp.refl _ _).alloc _).alloc _).alloc _).then hkp (fun b hb h => by rcases h with rfl | h <;> omega)).put (.inl (by simp [World.size_alloc] at hD; omega)) _
    exact hk2.mono (fun b hb h => by omega)



set_option maxRecDepth 100000 in
set_option maxHeartbeats 2000000 in
theorem wNone (a : Option Addr) (q : Int) (w : World) (hh : ∀ W, Kp (QS w) (qw w a q) W → Calls Try.prog 30 #[.pointer a, .int .i64 q] W fun e w' => e = .returned (.bool false) ∧ W = w') :
    Tells Try.prog 34 (fun y => #[] ++ #[y] ++ #[.pointer (some ⟨w.heap.size + 1, 0, none⟩), .pointer (some ⟨w.heap.size + 2, 0, none⟩)]) (fun x : Int => #[.int .i64 x]) [] (QS w) (qw w a q) := by
  intro l J W hkp hJ hY h0
  have b1 : Blk W (w.heap.size + 1) [.pointer a] 24 := by
    have h1 := (Blk.new (w.alloc (.cells #[.slice none 0 0] 32)) [.pointer a] 24).alloc (.cells #[.int .i64 q] 3)
    simp only [World.size_alloc] at h1
    exact h1.kp hkp (fun h => by rcases h with h | h <;> omega)
  have b2 : Blk W (w.heap.size + 2) [.int .i64 q] 3 := by
    have h1 := Blk.new ((w.alloc (.cells #[.slice none 0 0] 32)).alloc (.cells #[.pointer a] 24)) [.int .i64 q] 3
    simp only [World.size_alloc] at h1
    exact h1.kp hkp (fun h => by rcases h with h | h <;> omega)
  have c1 := b1.cell 0 rfl
  have c2 := b2.cell 0 rfl
  have HH := Lib.hid (hh W hkp)
  clear b1 b2 hh
  refine callsIn_of_wp Try.func34 rfl trivial ?_ rfl
  simp only [Try.ntmps34, List.size_toArray, List.length_cons, List.length_nil, Nat.reduceAdd, Nat.reduceSub, Array.replicate_succ, Array.replicate_zero, List.push_toArray, List.append_toArray, List.nil_append, List.cons_append]
  gi_wp2_with (refine ⟨trivial, rfl, ?_⟩; gi_at_call 30; refine (callsIn_wide.2 HH.out).mono ?_; rintro e w' ⟨rfl, rfl⟩)
  refine bodyPost_ret (results_none rfl _ _ _) rfl ?_
  exact ⟨⟨_, rfl⟩, h0, hkp⟩

theorem nQueue (q : Int) (w : World) : Calls Try.prog 16 #[.pointer none, .int .i64 q] w fun e w' => ∃ ao cap, e = .returned (.slice ao 0 cap) ∧ Kp none' w w' :=
  (pQueue none q [] w (by simp) (wNone none q w (fun W _ => nHas7 q W))).mono fun e w' ⟨v, h1, h2, h3⟩ => by
    obtain ⟨ao, cap, rfl⟩ := own_shape h2
    exact ⟨ao, cap, h1, h3⟩

set_option maxHeartbeats 2000000 in
theorem nobody07 (q h : Int) (w : World) : Calls Try.prog 5 #[.int .i64 q, .int .i64 h] w fun e w' => e = .returned (.bool true) ∧ Kp none' w w' := by
  go_enter Try.func5, Try.ntmps5
  go_wp2_with fail
  refine (nTake h w).mono ?_
  rintro e w1 ⟨rfl, k1⟩
  go_wp2_with fail
  refine (nGet h w1).mono ?_
  rintro e w' ⟨rfl, rfl⟩
  go_wp2_with fail
  refine (nGive h w1).mono ?_
  rintro e w' ⟨rfl, rfl⟩
  go_wp2_with fail
  refine (nPop q w1).mono ?_
  rintro e w' ⟨rfl, rfl⟩
  go_wp2_with fail
  refine (nHead q w1).mono ?_
  rintro e w' ⟨rfl, rfl⟩
  go_wp2_with fail
  refine (nAppend q h w1).mono ?_
  rintro e w' ⟨rfl, rfl⟩
  go_wp2_with fail
  refine (nLen w1).mono ?_
  rintro e w' ⟨rfl, rfl⟩
  go_wp2_with fail
  refine (nQueue q w1).mono ?_
  rintro e w2 ⟨ao, cap, rfl, k2⟩
  go_wp2_with fail
  refine (pLives w2).mono ?_
  rintro e w3 ⟨rfl, k3⟩
  go_wp2
  go_ret
  exact ⟨rfl, (k1.trans k2).trans k3⟩

end Go.Proofs.Ytoiiofcpohoeaaa
