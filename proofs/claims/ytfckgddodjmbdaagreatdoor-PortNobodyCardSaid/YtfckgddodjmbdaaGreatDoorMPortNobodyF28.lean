/- slices.Sort of unsigned numbers of 16 bits: the library's pdqsort, function by function, computes the kit's plain one; a row of the caller's own is sorted by it, whatever its length. -/
import Derived.Test.YtfckgddodjmbdaaGreatDoorMPortNobodyF0
import Derived.Sort.AssemblyPlain
import Derived.Sort.Walk13a
import Derived.Sort.WalkA
import Derived.BigGuard
import Derived.BigCall
import Derived.CellFam
import Derived.Deep.Draws
import Derived.Deep.QuietTactic
import Derived.BigQuiet
import Derived.Test.YtfckgddodjmbdaaGreatDoorProg
import Derived.Test.YtfckgddodjmbdaaGreatDoorShelf
import Derived.Deep.LoopGhost
import Derived.Sort.WalkA14
import Derived.Sort.WalkB2
import Derived.Test.YtfckgddodjmbdaaGreatDoorMPortNobodyF2
import Derived.Sort.WalkA6
import Derived.Sort.WalkC4
import Derived.Sort.WalkC
import Derived.Sort.Walk7
import Derived.Deep.Cut
namespace Go.Proofs.YtfckgddodjmbdaaGreatDoor.sortUint16
set_option linter.unusedVariables false
set_option linter.unusedSimpArgs false
open Go.RowKit Go.Sort Go.Proofs.YtfckgddodjmbdaaGreatDoor
abbrev en (x : Nat) : Value := .int .u16 x
def ltn (x y : Nat) : Bool := decide (x < y)
theorem ltn_swo : SWO ltn := ⟨fun x => by simp [ltn], fun x y z => by simp only [ltn, decide_eq_true_eq]; omega, fun x y z => by simp only [ltn, decide_eq_false_iff_not]; omega⟩
set_option maxHeartbeats 1000000 in
theorem isNaN (x : Nat) (w : World) : Calls Tryz.prog 161 #[en x] w fun e w' => e = .returned (.bool false) ∧ w' = w := by
  go_enter Tryz.func161, Tryz.ntmps161
  go_wp2
  go_ret
  exact ⟨by simp, rfl⟩
set_option maxHeartbeats 1000000 in
theorem less (x y : Nat) (w : World) : Calls Tryz.prog 151 #[en x, en y] w fun e w' => e = .returned (.bool (ltn x y)) ∧ w' = w := by
  go_enter Tryz.func151, Tryz.ntmps151
  go_wp2_with (go_at_call 161; refine (isNaN _ _).mono ?_; rintro e w' ⟨rfl, rfl⟩)
  go_ret
  exact ⟨rfl, rfl⟩
def intO : Value → Int | .int _ q => q | _ => 0

set_option maxRecDepth 100000 in
set_option maxHeartbeats 8000000 in
theorem insertion (blk off cap a b : Nat) (d : Array Nat) (w : World) (hH : Holds en w blk off d) (hab : a ≤ b) (hb : b ≤ d.size) (hsz : d.size < 4611686018427387904) :
    Calls Tryz.prog 145 #[.slice (some ⟨blk, off, none⟩) d.size cap, .int .i64 a, .int .i64 b] w fun e w' => e = .returned (.tuple #[]) ∧ ∃ n, w' = putRow en (Sort.ahead w n) blk off (Sort.insertionSort ltn d a b) := by
  go_enter Tryz.func145, Tryz.ntmps145
  go_wp2
  go_loopw [6] (fun vi wr => ∃ (i n : Nat) (D : Array Nat), vi = .int .i64 i ∧ a < i ∧ i ≤ b + 1 ∧ D.size = d.size ∧ wr = putRow en (Sort.ahead w n) blk off D ∧ Hid (insOuter ltn a b i D = insOuter ltn a b (a + 1) d)) (fun vi _ => b + 1 - (intO vi).toNat)
  case atStart => exact ⟨a + 1, 0, d, by go_num, by omega, by omega, rfl, (putRow_self _ _ _ _ _ hH).symm, rfl⟩
  case round =>
    obtain ⟨i, n, D, rfl, hai, hib, hDs, hwr, hO⟩ := hrel
    go_wp2
    · have hlt : i < b := by assumption
      go_loopw [7] (fun vj wr2 => ∃ (j m : Nat) (E : Array Nat), vj = .int .i64 j ∧ a ≤ j ∧ j ≤ i ∧ E.size = d.size ∧ wr2 = putRow en (Sort.ahead w m) blk off E ∧ Hid (insInner ltn a j E = insInner ltn a i D)) (fun vj _ => (intO vj).toNat)
      case atStart => exact ⟨i, n, D, rfl, by omega, Nat.le_refl _, hDs, rfl, rfl⟩
      case round =>
        obtain ⟨j, m, E, rfl, haj, hji, hEs, hw2, hI⟩ := hrel
        obtain ⟨G, hG⟩ : ∃ G : Nat → Nat, ∀ t, G t = E[t]! := ⟨fun t => E[t]!, fun _ => rfl⟩
        have hcw : ∀ t, t < d.size → wr.cell? ⟨blk, off + t, none⟩ = some (en (G t)) := fun t ht => by
          rw [hw2, hG]; exact cell?_putRow _ _ _ _ d E (holds_ahead _ _ _ _ _ _ hH) hEs t (by omega)
        have hfw : ∀ t, t < d.size → wr.frozen? ⟨blk, off + t, none⟩ = false := fun t ht => by
          rw [hw2, frozen?_putRow]; exact ((holds_ahead _ _ m _ _ _ hH) t ht).2
        have HW := Lib.hid hw2
        have HG := Lib.hid hG
        clear hw2 hG hH hwr
        have out : (j ≤ a ∨ ltn E[j]! E[j - 1]! = false) → ∀ q, ∃ i' n' E', Value.int .i64 ((i : Int) + 1) = .int .i64 (i' : Nat) ∧ a < i' ∧ i' ≤ b + 1 ∧ E'.size = d.size ∧
            wr.drewN q = putRow en (Sort.ahead w n') blk off E' ∧ Hid (insOuter ltn a b i' E' = insOuter ltn a b (a + 1) d) := fun hs q =>
          ⟨i + 1, m + q, E, by go_num, by omega, by omega, hEs, by rw [HW.out]; exact putRow_drewN _ _ _ _ _ _ _,
            by show _ = _; rw [← hO.out, insOuter_go _ _ _ _ _ hlt, ← hI.out, insInner_stop _ _ _ _ hs]⟩
        have OUT := Lib.hid out
        clear out
        go_wp2
        by_cases hja : a < j
        · go_quiet (first | (go_at_call 151; refine Calls.quiet_of_same (less _ _ _)))
          go_wp2
          · have hl : ltn (G j) (G (j - 1)) = true := by assumption
            go_region
            all_goals go_wp2
            go_roundw
            case rel =>
              refine ⟨j - 1, m + (nq + 1), Sort.swp E j (j - 1), by congr 1; omega, by omega, by omega, by rw [size_swp]; exact hEs, ?_, ?_⟩
              · rw [HW.out, HG.out, HG.out]
                exact swap_worldA _ w m (nq + 1) blk off E j (j - 1) (by omega) (by omega)
              · show _ = _; rw [← hI.out, insInner_go ltn a j E hja (by rw [← HG.out, ← HG.out]; exact hl)]
            case measure => simp [intO]; omega
          · have hl : ltn (G j) (G (j - 1)) = false := by assumption
            go_roundw
            case rel => exact OUT.out (Or.inr (by rw [← HG.out, ← HG.out]; exact hl)) nq
            case measure => simp [intO]; omega
        · go_quiet (first | (go_at_call 151; refine Calls.quiet_of_same (less _ _ _)))
          go_wp2
          go_roundw
          case rel => exact OUT.out (Or.inl (by omega)) nq
          case measure => simp [intO]; omega
    · have hge : ¬ i < b := by assumption
      go_end0
      exact ⟨rfl, n, by unfold Sort.insertionSort; rw [← hO.out, insOuter_stop _ _ _ _ _ hge]⟩
end Go.Proofs.YtfckgddodjmbdaaGreatDoor.sortUint16
namespace Go.Proofs.YtfckgddodjmbdaaGreatDoor.sortUint16
set_option linter.unusedVariables false
set_option linter.unusedSimpArgs false
open Go.RowKit Go.Sort Go.Proofs.YtfckgddodjmbdaaGreatDoor

end Go.Proofs.YtfckgddodjmbdaaGreatDoor.sortUint16
namespace Go.Proofs.YtfckgddodjmbdaaGreatDoor.sortUint16
set_option linter.unusedVariables false
set_option linter.unusedSimpArgs false
open Go.RowKit Go.Sort Go.Proofs.YtfckgddodjmbdaaGreatDoor
theorem heap_putRow (w : World) (blk off : Nat) (d : Array Nat) : (putRow en w blk off d).heap[blk]? = (w.heap[blk]?).map (onCells (putCells en off d)) := by
  simp [putRow, mapBlock, Array.getElem?_modify]
theorem holds_block {w w' : World} {blk off : Nat} {d : Array Nat} (h : Holds en w blk off d) (e : w'.heap[blk]? = w.heap[blk]?) : Holds en w' blk off d := by
  intro j hj
  obtain ⟨h1, h2⟩ := h j hj
  exact ⟨by simp only [World.cell?] at h1 ⊢; rw [e]; exact h1, by simp only [World.frozen?] at h2 ⊢; rw [e]; exact h2⟩
structure Rw (w : World) (blk off : Nat) (d : Array Nat) (W : World) : Prop where
  lt : blk < w.heap.size
  row : W.heap[blk]? = (putRow en w blk off d).heap[blk]?
  kp : Kp (fun b => b = blk) w W
theorem Rw.refl {w : World} {blk off : Nat} {d : Array Nat} (h : Holds en w blk off d) (hb : blk < w.heap.size) : Rw w blk off d w :=
  ⟨hb, by rw [putRow_self _ _ _ _ _ h], Kp.refl _ _⟩
theorem Rw.old {w W W' : World} {blk off : Nat} {d : Array Nat} (h : Rw w blk off d W) (k : Kp none' W W') : Rw w blk off d W' :=
  ⟨h.lt, (k.block blk (Nat.lt_of_lt_of_le h.lt h.kp.size) id).trans h.row, h.kp.then k (fun _ _ x => x.elim)⟩
theorem Rw.holds {w W : World} {blk off : Nat} {d d0 : Array Nat} (h : Rw w blk off d W) (h0 : Holds en w blk off d0) (hs : d.size = d0.size) : Holds en W blk off d :=
  holds_block (holds_putRow en w blk off d0 d h0 hs) h.row
theorem Rw.blk {w W : World} {blk off : Nat} {d : Array Nat} (h : Rw w blk off d W) : blk < W.heap.size := Nat.lt_of_lt_of_le h.lt h.kp.size
theorem kp_putRow (w : World) (blk off n : Nat) (d : Array Nat) : Kp (fun b => b = blk) w (putRow en (Sort.ahead w n) blk off d) := by
  refine ⟨rfl, rfl, rfl, by simp [putRow, mapBlock, Sort.ahead], fun k hk hne => ?_⟩
  have : blk ≠ k := fun e => hne e.symm
  simp [putRow, mapBlock, Sort.ahead, Array.getElem?_modify, this]
theorem Rw.put {w W W' : World} {blk off : Nat} {d d' : Array Nat} (h : Rw w blk off d W) (hs : d'.size = d.size) (e : ∃ n, W' = putRow en (Sort.ahead W n) blk off d') : Rw w blk off d' W' := by
  obtain ⟨n, rfl⟩ := e
  refine ⟨h.lt, ?_, h.kp.then (kp_putRow W blk off n d') (fun i _ x => x)⟩
  have e1 : (putRow en (Sort.ahead W n) blk off d').heap[blk]? = (W.heap[blk]?).map (onCells (putCells en off d')) := heap_putRow _ _ _ _
  have e2 : (putRow en (putRow en w blk off d) blk off d').heap[blk]? = ((putRow en w blk off d).heap[blk]?).map (onCells (putCells en off d')) := heap_putRow _ _ _ _
  rw [e1, h.row, ← e2]
  have := putRow_ahead_putRow en w 0 0 blk off d d' hs
  rw [ahead_zero, ahead_zero] at this
  rw [this]
theorem Rw.of_at {w W : World} {blk off : Nat} {d : Array Nat} (hb : blk < w.heap.size) (h : At en w blk off d W) : Rw w blk off d W := by
  obtain ⟨n, os, rfl⟩ := h
  have hb2 : blk < (putRow en (Sort.ahead w n) blk off d).heap.size := by simpa [putRow, mapBlock, Sort.ahead] using hb
  refine ⟨hb, ?_, ?_⟩
  · rw [heap_grow_old _ _ hb2, heap_putRow, heap_putRow]; rfl
  · refine ⟨rfl, rfl, rfl, by simp [grow, putRow, mapBlock, Sort.ahead], fun k hk hne => ?_⟩
    rw [heap_grow_old _ _ (by simpa [putRow, mapBlock, Sort.ahead] using hk)]
    exact (kp_putRow w blk off n d).block k hk hne
theorem Rw.trans {w W W' : World} {blk off : Nat} {d d' : Array Nat} (h : Rw w blk off d W) (hs : d'.size = d.size) (k : Rw W blk off d' W') : Rw w blk off d' W' := by
  refine ⟨h.lt, ?_, h.kp.then k.kp (fun i _ x => x)⟩
  have := (h.put hs ⟨0, rfl⟩).row
  rw [ahead_zero] at this
  rw [k.row, this]
end Go.Proofs.YtfckgddodjmbdaaGreatDoor.sortUint16
namespace Go.Proofs.YtfckgddodjmbdaaGreatDoor.sortUint16
set_option linter.unusedVariables false
set_option linter.unusedSimpArgs false
open Go.RowKit Go.Sort Go.Proofs.YtfckgddodjmbdaaGreatDoor

theorem holdsRow {w : World} {g : Nat} {cur : Array Value} {e : TypeId} {xs : List Nat} (hb : w.heap[g]? = some (.cells cur e (0, 0))) (ht : cur.toList.take xs.length = xs.map en) : Holds en w g 0 xs.toArray := by
  intro j hj
  have hj' : j < xs.length := by simpa using hj
  refine ⟨?_, by simp [World.frozen?, hb]⟩
  have h1 : (cur.toList.take xs.length)[j]? = (xs.map en)[j]? := by rw [ht]
  rw [List.getElem?_take_of_lt hj'] at h1
  simp only [World.cell?, hb, Nat.zero_add, Option.isSome_none, Bool.false_eq_true, if_false]
  rw [← Array.getElem?_toList, h1]
  simp [hj']
theorem rowBlock {w w' : World} {g : Nat} {d : Array Nat} {cur : Array Value} {e : TypeId} {fr : Nat × Nat} (h : Rw w g 0 d w') (hb : w.heap[g]? = some (.cells cur e fr)) : w'.heap[g]? = some (.cells (putCells en 0 d cur) e fr) := by
  rw [h.row, heap_putRow, hb]; rfl
theorem takeRow (cur : Array Value) (ts : List Nat) (h : ts.length ≤ cur.size) : (putCells en 0 ts.toArray cur).toList.take ts.length = ts.map en := by
  apply List.ext_getElem?
  intro j
  by_cases hj : j < ts.length
  · rw [List.getElem?_take_of_lt hj, Array.getElem?_toList]
    simp [putCells, hj, show j < cur.size by omega]
  · rw [List.getElem?_take_eq_none (by omega), List.getElem?_eq_none (by simp; omega)]
/-- What a sorted row is. -/
structure Rising (xs ys : List Nat) : Prop where
  perm : ys.Perm xs
  up : ys.Pairwise (· ≤ ·)
theorem pdq_rises (xs : List Nat) (lim : Nat) : Rising xs (pdq ltn xs.toArray 0 xs.length lim true true).toList := by
  obtain ⟨h1, h2⟩ := pdq_sorts ltn ltn_swo xs.toArray 0 xs.length lim true true (Nat.zero_le _) (by simp) (.inl rfl)
  have hs : (pdq ltn xs.toArray 0 xs.length lim true true).size = xs.length := by simpa using h1.1
  refine ⟨?_, ?_⟩
  · have := h1.2.2
    rw [Array.extract_eq_self_of_le (by omega)] at this
    simpa using this
  · rw [List.pairwise_iff_getElem]
    intro i j hi hj hij
    simp only [Array.length_toList] at hi hj
    have := h2 i j (Nat.zero_le _) hij (by omega)
    rw [getElem!_pos (pdq ltn xs.toArray 0 xs.length lim true true) i hi, getElem!_pos (pdq ltn xs.toArray 0 xs.length lim true true) j hj] at this
    simp only [ltn, decide_eq_false_iff_not] at this
    simp only [Array.getElem_toList]
    omega

/-- What is asked of pdqsort, of at most so many things. -/
def PdqAt (most : Nat) : Prop := ∀ (blk cap limit : Nat) (d : Array Nat) (w : World), Holds en w blk 0 d → blk < w.heap.size → d.size ≤ most → limit < 4611686018427387904 →
    Calls Tryz.prog 138 #[.slice (some ⟨blk, 0, none⟩) d.size cap, .int .i64 0, .int .i64 d.size, .int .i64 limit] w fun e w' => e = .returned (.tuple #[]) ∧ Rw w blk 0 (pdq ltn d 0 d.size limit true true) w'
theorem bitLen_lt (n : Nat) (h : n < 4611686018427387904) : Lib.bitLen n < 4611686018427387904 := by
  rw [bitLen_eq n (by omega)]
  have := (bitsLen_le_iff n 62).2 (by omega)
  omega
set_option maxRecDepth 100000 in
set_option maxHeartbeats 4000000 in
theorem sortNone (w : World) : Calls Tryz.prog 120 #[.slice none 0 0] w fun e w' => e = .returned (.tuple #[]) ∧ w' = w := by
  have hl := Lib.hid (Tryz.bits_Len 0 w (by omega) (by omega))
  have hi : Calls Tryz.prog 145 #[.slice none 0 0, .int .i64 0, .int .i64 0] w fun e w' => e = .returned (.tuple #[]) ∧ w' = w := by
    go_enter Tryz.func145, Tryz.ntmps145
    go_wp2
    go_loopw [6] (fun vi wr => vi = .int .i64 1 ∧ wr = w) (fun _ _ => 0)
    case atStart => exact ⟨rfl, rfl⟩
    case round =>
      obtain ⟨rfl, rfl⟩ := hrel
      go_wp2
      go_end0
      exact ⟨rfl, rfl⟩
  have HI := Lib.hid hi
  have hp : Calls Tryz.prog 138 #[.slice none 0 0, .int .i64 0, .int .i64 0, .int .i64 (Lib.bitLen (Int.toNat 0) : Nat)] w fun e w' => e = .returned (.tuple #[]) ∧ w' = w := by
    clear hi
    go_enter Tryz.func138, Tryz.ntmps138
    go_wp2
    go_loopg [1, 2, 3, 8, 9] 0 (fun k s1 s2 s3 s8 s9 wr => s1 = .int .i64 0 ∧ s2 = .int .i64 0 ∧ wr = w)
    case atStart => exact ⟨rfl, rfl, rfl⟩
    case round =>
      obtain ⟨rfl, rfl, rfl⟩ := hrel
      go_wp2_with (go_at_call 145; refine HI.out.mono ?_; rintro e w1 ⟨rfl, hw1⟩)
      (try simp only [Exit.inBlock, Exit.then]); refine bodyPost_ret (results_none rfl _ _ _) rfl ?_
      exact ⟨rfl, by first | exact hw1 | rfl⟩
  have HP := Lib.hid hp
  clear hi hp HI
  go_enter Tryz.func120, Tryz.ntmps120
  go_wp2_with (first | (go_at_call 139; refine hl.out.mono ?_; rintro e w' ⟨rfl, rfl⟩) | (go_at_call 138; refine HP.out.mono ?_; rintro e w' ⟨rfl, rfl⟩))
  go_end0
  exact ⟨rfl, rfl⟩
set_option maxRecDepth 100000 in
set_option maxHeartbeats 4000000 in
theorem sortOf {most : Nat} (HP0 : PdqAt most) (hmost : most < 4611686018427387904) (w : World) (base : Nat) (e0 : TypeId) (v : Value) (xs : List Nat) (own : w.ownsRow base e0 1 v xs.length (xs.map en)) (hm : xs.length ≤ most) :
    Calls Tryz.prog 120 #[v] w fun e w' => e = .returned (.tuple #[]) ∧ ∃ ys, Rising xs ys ∧ w'.ownsRow base e0 1 v ys.length (ys.map en) ∧ Kp (fun b => v.ownBlock = some b) w w' := by
  rcases own.2 with ⟨rfl, hn⟩ | ⟨g, cap, cur, rfl, hg, hb, h1, h2, h3, h4⟩
  · have hx : xs = [] := List.eq_nil_of_length_eq_zero hn
    subst hx
    refine (sortNone w).mono fun e w' h => ⟨h.1, [], ⟨List.Perm.refl _, List.Pairwise.nil⟩, ?_, ?_⟩
    · rw [h.2]; exact own
    · rw [h.2]; exact Kp.refl _ _
  · rw [Nat.mul_one] at h3 h4
    have hH := holdsRow hb h4
    have hsz : xs.toArray.size = xs.length := by simp
    have hl := Lib.hid (Tryz.bits_Len (xs.length : Nat) w (by omega) (by omega))
    have hp := fun lim (hlim : lim < 4611686018427387904) => HP0 g cap lim xs.toArray w hH (Array.getElem?_eq_some_iff.1 hb).1 (by omega) hlim
    rw [hsz] at hp
    rw [Int.toNat_natCast] at hl
    have HP := Lib.hid (hp _ (bitLen_lt xs.length (by omega)))
    clear hp HP0 own hH
    go_enter Tryz.func120, Tryz.ntmps120
    go_wp2_with (first | (go_at_call 139; refine hl.out.mono ?_; rintro e w' ⟨rfl, rfl⟩) | (go_at_call 138; refine HP.out.mono ?_; rintro e w2 ⟨rfl, hAt⟩))
    go_end0
    have hr := pdq_rises xs (Lib.bitLen xs.length)
    have hyl := hr.perm.length_eq
    refine ⟨rfl, _, hr, ?_, ?_⟩
    · refine ⟨by simp, .inr ⟨g, cap, _, by rw [hyl], hg, rowBlock hAt hb, by omega, h2, by simp [putCells, h3], ?_⟩⟩
      rw [Nat.mul_one]
      exact takeRow cur _ (by omega)
    · refine hAt.kp.mono fun b _ hbg => ?_
      subst hbg; rfl
end Go.Proofs.YtfckgddodjmbdaaGreatDoor.sortUint16
namespace Go.Proofs.YtfckgddodjmbdaaGreatDoor.sortUint16
set_option linter.unusedVariables false
set_option linter.unusedSimpArgs false
open Go.RowKit Go.Sort Go.Proofs.YtfckgddodjmbdaaGreatDoor
theorem rev_go (i j : Nat) (d : Array Nat) (h : i < j) : reverseLoop i j d = reverseLoop (i + 1) (j - 1) (Sort.swp d i j) := by rw [reverseLoop, if_pos h]
theorem rev_stop (i j : Nat) (d : Array Nat) (h : ¬ i < j) : reverseLoop i j d = d := by rw [reverseLoop, if_neg h]
set_option maxRecDepth 100000 in
set_option maxHeartbeats 8000000 in
theorem reverseR (blk off cap a b : Nat) (d : Array Nat) (w : World) (hH : Holds en w blk off d) (hab : a ≤ b) (hb : b ≤ d.size) (hsz : d.size < 4611686018427387904) :
    Calls Tryz.prog 149 #[.slice (some ⟨blk, off, none⟩) d.size cap, .int .i64 a, .int .i64 b] w fun e w' => e = .returned (.tuple #[]) ∧ ∃ n, w' = putRow en (Sort.ahead w n) blk off (Sort.reverseRange d a b) := by
  go_enter Tryz.func149, Tryz.ntmps149
  go_wp2
  go_loopw [6, 7] (fun vi vj wr => ∃ (i j n : Nat) (D : Array Nat), vi = .int .i64 i ∧ vj = .int .i64 ((j : Int) - 1) ∧ i ≤ d.size ∧ j ≤ d.size ∧ D.size = d.size ∧ wr = putRow en (Sort.ahead w n) blk off D ∧ Hid (reverseLoop i (j - 1) D = Sort.reverseRange d a b)) (fun _ vj _ => (intO vj).toNat)
  case atStart => exact ⟨a, b, 0, d, rfl, rfl, by omega, hb, rfl, (putRow_self _ _ _ _ _ hH).symm, rfl⟩
  case round =>
    obtain ⟨i, j, n, D, rfl, rfl, hi, hj, hDs, hwr, hO⟩ := hrel
    by_cases hlt : i < j - 1
    · obtain ⟨k, hk⟩ : ∃ k, j - 1 = k := ⟨_, rfl⟩
      have hjk : (j : Int) - 1 = (k : Int) := by omega
      rw [hk] at hlt hO
      have hkd : k < d.size := by omega
      have hlti : (i : Int) < k := by omega
      have hid : i < d.size := by omega
      simp only [hjk]
      obtain ⟨G, hG⟩ : ∃ G : Nat → Nat, ∀ t, G t = D[t]! := ⟨fun t => D[t]!, fun _ => rfl⟩
      have hcw : ∀ t, t < d.size → wr.cell? ⟨blk, off + t, none⟩ = some (en (G t)) := fun t ht => by
        rw [hwr, hG]; exact cell?_putRow _ _ _ _ d D (holds_ahead _ _ _ _ _ _ hH) hDs t (by omega)
      have hfw : ∀ t, t < d.size → wr.frozen? ⟨blk, off + t, none⟩ = false := fun t ht => by
        rw [hwr, frozen?_putRow]; exact ((holds_ahead _ _ n _ _ _ hH) t ht).2
      have HW := Lib.hid hwr
      have HG := Lib.hid hG
      have hk1 : Hid ((k : Int) - 1 = (((k : Nat) : Int)) - 1) := rfl
      clear hwr hG hH hk hjk hj
      go_wp2
      go_region
      all_goals go_wp2
      go_roundw
      case rel =>
        refine ⟨i + 1, k, n + 1, Sort.swp D i k, by go_num, rfl, by omega, by omega, by rw [size_swp]; exact hDs, ?_, ?_⟩
        · rw [HW.out, HG.out, HG.out]
          exact swap_worldA _ w n 1 blk off D i k (by omega) (by omega)
        · show _ = _
          rw [← hO.out, rev_go _ _ _ hlt]
      case measure => first | (simp [intO]; done) | (simp [intO]; omega)
    · have hlti : ¬ (i : Int) < (j : Int) - 1 := by omega
      have hO2 := hO.out
      rw [rev_stop _ _ _ hlt] at hO2
      have HO2 := Lib.hid hO2
      clear hO2 hO
      go_wp2
      go_end0
      exact ⟨rfl, n, by first | (rw [← HO2.out]; done) | (rw [← HO2.out]; exact hwr)⟩
end Go.Proofs.YtfckgddodjmbdaaGreatDoor.sortUint16
namespace Go.Proofs.YtfckgddodjmbdaaGreatDoor.sortUint16
set_option linter.unusedVariables false
set_option linter.unusedSimpArgs false
open Go.RowKit Go.Sort Go.Proofs.YtfckgddodjmbdaaGreatDoor
set_option maxRecDepth 100000 in
set_option maxHeartbeats 8000000 in
theorem siftDownU (blk off cap lo H F : Nat) (d : Array Nat) (w : World) (hH : Holds en w blk off d) (hlo : lo ≤ H) (hb : F + H ≤ d.size) (hsz : d.size < 2305843009213693952) :
    Calls Tryz.prog 156 #[.slice (some ⟨blk, off, none⟩) d.size cap, .int .i64 lo, .int .i64 H, .int .i64 F] w fun e w' => e = .returned (.tuple #[]) ∧ ∃ n, w' = putRow en (Sort.ahead w n) blk off (Sort.siftDown ltn H F lo d) := by
  go_enter Tryz.func156, Tryz.ntmps156
  go_wp2
  go_loopw [8] (fun vr wr => ∃ (r n : Nat) (D : Array Nat), vr = .int .i64 r ∧ r ≤ H ∧ D.size = d.size ∧ wr = putRow en (Sort.ahead w n) blk off D ∧ Hid (siftDown ltn H F r D = siftDown ltn H F lo d)) (fun vr _ => H - (intO vr).toNat)
  case atStart => exact ⟨lo, 0, d, rfl, hlo, rfl, (putRow_self _ _ _ _ _ hH).symm, rfl⟩
  case round =>
    obtain ⟨r, n, D, rfl, hr, hDs, hwr, hO⟩ := hrel
    by_cases he : H ≤ 2 * r + 1
    · have hei : (H : Int) ≤ 2 * (r : Int) + 1 := by omega
      have hO2 := hO.out
      rw [sd_end ltn D he] at hO2
      have HO2 := Lib.hid hO2
      clear hO2 hO
      go_wp2
      go_end0
      exact ⟨rfl, n, by first | (rw [← HO2.out]; done) | (rw [← HO2.out]; exact hwr)⟩
    · have hei : ¬ (H : Int) ≤ 2 * (r : Int) + 1 := by omega
      obtain ⟨c, hc⟩ : ∃ c, 2 * r + 1 = c := ⟨_, rfl⟩
      have hcI : 2 * (r : Int) + 1 = (c : Int) := by omega
      have hcH : c < H := by omega
      obtain ⟨G, hG⟩ : ∃ G : Nat → Nat, ∀ t, G t = D[t]! := ⟨fun t => D[t]!, fun _ => rfl⟩
      have hcw : ∀ t, t < d.size → wr.cell? ⟨blk, off + t, none⟩ = some (en (G t)) := fun t ht => by
        rw [hwr, hG]; exact cell?_putRow _ _ _ _ d D (holds_ahead _ _ _ _ _ _ hH) hDs t (by omega)
      have hfw : ∀ t, t < d.size → wr.frozen? ⟨blk, off + t, none⟩ = false := fun t ht => by
        rw [hwr, frozen?_putRow]; exact ((holds_ahead _ _ n _ _ _ hH) t ht).2
      have HW := Lib.hid hwr
      have HG := Lib.hid hG
      clear hwr hG hH
      by_cases hcc : c + 1 < H
      · obtain ⟨e, hce⟩ : ∃ e, c + 1 = e := ⟨_, rfl⟩
        have hceI : (c : Int) + 1 = (e : Int) := by omega
        have hcci : (e : Int) < H := by omega
        have hdec : decide ((e : Int) < (H : Int)) = true := decide_eq_true hcci
        go_wp2_with fail
        go_quiet (first | (go_at_call 151; refine Calls.quiet_of_same (less _ _ _)))
        obtain ⟨n1, rfl⟩ : ∃ n1, n1 = nq := ⟨_, rfl⟩
        have hcw2 : ∀ t, t < d.size → (wr.drewN n1).cell? ⟨blk, off + t, none⟩ = some (en (G t)) := hcw
        have hfw2 : ∀ t, t < d.size → (wr.drewN n1).frozen? ⟨blk, off + t, none⟩ = false := hfw
        have HW2 : Hid (wr.drewN n1 = putRow en (Sort.ahead w (n + n1)) blk off D) := by show _ = _; rw [HW.out]; exact putRow_drewN _ _ _ _ _ _ _
        clear hcw hfw HW
        generalize wr.drewN n1 = wr2 at hcw2 hfw2 HW2 ⊢
        have hFr : (F : Int) + (r : Int) < 2305843009213693952 := by omega
        have hFr2 : F + r < d.size := by omega
        have hGe : G (F + c + 1) = G (F + e) := by rw [← hce]; rfl
        by_cases hl : ltn (G (F + c)) (G (F + c + 1)) = true
        · have hl2 : ltn D[F + (2 * r + 1)]! D[F + (2 * r + 2)]! = true := by rw [← HG.out, ← HG.out, hc, show F + (2 * r + 2) = F + c + 1 by omega]; exact hl
          have he2 : Hid (2 * r + 2 = e) := by show _ = _; omega
          have hre : r < e := by omega
          have hFe : F + e < d.size := by omega
          have hFeI : (F : Int) + (e : Int) < 2305843009213693952 := by omega
          have heH : e < H := by omega
          have hd1 : 2 * r + 1 < H ∧ 2 * r + 2 < H := by omega
          have HL2 := Lib.hid hl2
          have HD1 := Lib.hid hd1
          clear hGe hce hcI hc hei he hdec hl2 hd1 hcc
          simp only [hl]
          clear hl
          by_cases h3 : ltn (G (F + r)) (G (F + e)) = true
          · go_wp2_with fail
            go_quiet (first | (go_at_call 151; refine Calls.quiet_of_same (less _ _ _)))
            go_wp2_with fail
            go_region
            all_goals go_wp2
            go_roundw
            case rel =>
              refine ⟨e, n + n1 + (nq + 1), Sort.swp D (F + r) (F + e), rfl, by omega, by rw [size_swp]; exact hDs, ?_, ?_⟩
              rotate_left
              · show _ = _
                rw [← hO.out, sd_right_go ltn D HD1.out.2 HL2.out (by rw [he2.out, ← HG.out, ← HG.out]; exact h3), he2.out]
              · rw [HW2.out, HG.out, HG.out]
                exact swap_worldA _ w (n + n1) _ blk off D (F + r) (F + e) (by omega) (by omega)
            case measure => first | (simp [intO]; done) | (simp [intO]; omega)
          · have h3' : ltn (G (F + r)) (G (F + e)) = false := by simpa using h3
            have hO2 := hO.out
            rw [sd_right_stop ltn D HD1.out.2 HL2.out (by rw [he2.out, ← HG.out, ← HG.out]; exact h3')] at hO2
            have HO2 := Lib.hid hO2
            clear hO2 hO h3
            go_wp2_with fail
            go_quiet (first | (go_at_call 151; refine Calls.quiet_of_same (less _ _ _)))
            go_wp2
            (try simp only [Exit.inBlock, Exit.then]); refine bodyPost_ret (results_none rfl _ _ _) rfl ?_
            exact ⟨rfl, _, by rw [HW2.out, ← HO2.out]; exact putRow_drewN _ _ _ _ _ _ _⟩
        · have hl0 : ltn (G (F + c)) (G (F + c + 1)) = false := by simpa using hl
          have hl2 : ltn D[F + (2 * r + 1)]! D[F + (2 * r + 2)]! = false := by rw [← HG.out, ← HG.out, hc, show F + (2 * r + 2) = F + c + 1 by omega]; exact hl0
          have HL2 := Lib.hid hl2
          have hd1 : 2 * r + 1 < H := by omega
          have HD1 := Lib.hid hd1
          have hc2 : Hid (2 * r + 1 = c) := hc
          have hre : r < c := by omega
          clear hGe hl hce hceI hcI hc hei he hdec hl2 hd1 hcc hcci
          simp only [hl0]
          clear hl0
          by_cases h3 : ltn (G (F + r)) (G (F + c)) = true
          · go_wp2_with fail
            go_quiet (first | (go_at_call 151; refine Calls.quiet_of_same (less _ _ _)))
            go_wp2_with fail
            go_region
            all_goals go_wp2
            go_roundw
            case rel =>
              refine ⟨c, n + n1 + (nq + 1), Sort.swp D (F + r) (F + c), rfl, by omega, by rw [size_swp]; exact hDs, ?_, ?_⟩
              rotate_left
              · show _ = _
                rw [← hO.out, sd_left_go ltn D HD1.out (fun _ => HL2.out) (by rw [hc2.out, ← HG.out, ← HG.out]; exact h3), hc2.out]
              · rw [HW2.out, HG.out, HG.out]
                exact swap_worldA _ w (n + n1) _ blk off D (F + r) (F + c) (by omega) (by omega)
            case measure => first | (simp [intO]; done) | (simp [intO]; omega)
          · have h3' : ltn (G (F + r)) (G (F + c)) = false := by simpa using h3
            have hO2 := hO.out
            rw [sd_left_stop ltn D HD1.out (fun _ => HL2.out) (by rw [hc2.out, ← HG.out, ← HG.out]; exact h3')] at hO2
            have HO2 := Lib.hid hO2
            clear hO2 hO h3
            go_wp2_with fail
            go_quiet (first | (go_at_call 151; refine Calls.quiet_of_same (less _ _ _)))
            go_wp2
            (try simp only [Exit.inBlock, Exit.then]); refine bodyPost_ret (results_none rfl _ _ _) rfl ?_
            exact ⟨rfl, _, by rw [HW2.out, ← HO2.out]; exact putRow_drewN _ _ _ _ _ _ _⟩
      · have hcci : ¬ (c : Int) + 1 < H := by omega
        have hdec : decide ((c : Int) + 1 < (H : Int)) = false := decide_eq_false hcci
        go_wp2_with fail
        go_quiet (first | (go_at_call 151; refine Calls.quiet_of_same (less _ _ _)))
        obtain ⟨n1, rfl⟩ : ∃ n1, n1 = nq := ⟨_, rfl⟩
        have hcw2 : ∀ t, t < d.size → (wr.drewN n1).cell? ⟨blk, off + t, none⟩ = some (en (G t)) := hcw
        have hfw2 : ∀ t, t < d.size → (wr.drewN n1).frozen? ⟨blk, off + t, none⟩ = false := hfw
        have HW2 : Hid (wr.drewN n1 = putRow en (Sort.ahead w (n + n1)) blk off D) := by show _ = _; rw [HW.out]; exact putRow_drewN _ _ _ _ _ _ _
        clear hcw hfw HW
        generalize wr.drewN n1 = wr2 at hcw2 hfw2 HW2 ⊢
        have hFr : (F : Int) + (r : Int) < 2305843009213693952 := by omega
        have hFr2 : F + r < d.size := by omega
        by_cases h3 : ltn (G (F + r)) (G (F + c)) = true
        · go_wp2_with fail
          go_quiet (first | (go_at_call 151; refine Calls.quiet_of_same (less _ _ _)))
          go_wp2_with fail
          go_region
          all_goals go_wp2
          go_roundw
          case rel =>
            refine ⟨c, n + n1 + (nq + 1), Sort.swp D (F + r) (F + c), rfl, by omega, by rw [size_swp]; exact hDs, ?_, ?_⟩
            rotate_left
            · show _ = _
              rw [← hO.out, sd_left_go ltn D (by omega) (fun h => absurd h (by omega)) (by rw [hc, ← HG.out, ← HG.out]; exact h3), hc]
            · rw [HW2.out, HG.out, HG.out]
              exact swap_worldA _ w (n + n1) _ blk off D (F + r) (F + c) (by omega) (by omega)
          case measure => first | (simp [intO]; done) | (simp [intO]; omega)
        · have h3' : ltn (G (F + r)) (G (F + c)) = false := by simpa using h3
          have hO2 := hO.out
          rw [sd_left_stop ltn D (by omega) (fun h => absurd h (by omega)) (by rw [hc, ← HG.out, ← HG.out]; exact h3')] at hO2
          have HO2 := Lib.hid hO2
          clear hO2 hO h3
          go_wp2_with fail
          go_quiet (first | (go_at_call 151; refine Calls.quiet_of_same (less _ _ _)))
          go_wp2
          (try simp only [Exit.inBlock, Exit.then]); refine bodyPost_ret (results_none rfl _ _ _) rfl ?_
          exact ⟨rfl, _, by rw [HW2.out, ← HO2.out]; exact putRow_drewN _ _ _ _ _ _ _⟩
end Go.Proofs.YtfckgddodjmbdaaGreatDoor.sortUint16
namespace Go.Proofs.YtfckgddodjmbdaaGreatDoor.sortUint16
set_option linter.unusedVariables false
set_option linter.unusedSimpArgs false
open Go.RowKit Go.Sort Go.Proofs.YtfckgddodjmbdaaGreatDoor
theorem sd_size (H F : Nat) : ∀ (m r : Nat) (d : Array Nat), H - r ≤ m → (siftDown ltn H F r d).size = d.size := by
  intro m
  induction m with
  | zero => intro r d h; rw [sd_end ltn d (by omega)]
  | succ m ih =>
    intro r d h
    by_cases h0 : H ≤ 2 * r + 1
    · rw [sd_end ltn d h0]
    · by_cases hr : 2 * r + 2 < H ∧ ltn d[F + (2 * r + 1)]! d[F + (2 * r + 2)]! = true
      · cases h3 : ltn d[F + r]! d[F + (2 * r + 2)]! with
        | false => rw [sd_right_stop ltn d hr.1 hr.2 h3]
        | true => rw [sd_right_go ltn d hr.1 hr.2 h3, ih _ _ (by omega), size_swp]
      · have hl : 2 * r + 2 < H → ltn d[F + (2 * r + 1)]! d[F + (2 * r + 2)]! = false := fun h => by
          cases h4 : ltn d[F + (2 * r + 1)]! d[F + (2 * r + 2)]! with
          | false => rfl
          | true => exact absurd ⟨h, h4⟩ hr
        cases h3 : ltn d[F + r]! d[F + (2 * r + 1)]! with
        | false => rw [sd_left_stop ltn d (by omega) hl h3]
        | true => rw [sd_left_go ltn d (by omega) hl h3, ih _ _ (by omega), size_swp]
end Go.Proofs.YtfckgddodjmbdaaGreatDoor.sortUint16
namespace Go.Proofs.YtfckgddodjmbdaaGreatDoor.sortUint16
set_option linter.unusedVariables false
set_option linter.unusedSimpArgs false
open Go.RowKit Go.Sort Go.Proofs.YtfckgddodjmbdaaGreatDoor
set_option maxRecDepth 100000 in
set_option maxHeartbeats 8000000 in
theorem heapU (blk off cap a b : Nat) (d : Array Nat) (w : World) (hH : Holds en w blk off d) (hab : a ≤ b) (hb : b ≤ d.size) (hsz : d.size < 2305843009213693952) :
    Calls Tryz.prog 146 #[.slice (some ⟨blk, off, none⟩) d.size cap, .int .i64 a, .int .i64 b] w fun e w' => e = .returned (.tuple #[]) ∧ ∃ n, w' = putRow en (Sort.ahead w n) blk off (Sort.heapSort ltn d a b) := by
  obtain ⟨h, hh⟩ : ∃ h, b - a = h := ⟨_, rfl⟩
  have hhI : (b : Int) - (a : Int) = (h : Int) := by omega
  obtain ⟨k0, hk0⟩ : ∃ k, (h - 1) / 2 + 1 = k := ⟨_, rfl⟩
  have hq : ((h : Int) - 1).tdiv 2 = (k0 : Int) - 1 := by
    by_cases h0 : h = 0
    · subst h0; subst hk0; rfl
    · rw [Int.tdiv_eq_ediv_of_nonneg (by omega)]; omega
  have hFH : a + h ≤ d.size := by omega
  have HS : Hid (heapPop ltn a h (heapBuild ltn h a k0 d) = Sort.heapSort ltn d a b) := by show _ = _; unfold Sort.heapSort; rw [hh, hk0]
  have hk0b : k0 ≤ h + 1 := by omega
  have HD := Lib.hid (fun (lo hi : Nat) (D : Array Nat) (W : World) (h1 : Holds en W blk off D) (h2 : lo ≤ hi) (h3 : a + hi ≤ D.size) (h4 : D.size = d.size) => (by have := siftDownU blk off cap lo hi a D W h1 h2 h3 (by omega); rw [h4] at this; exact this : Calls Tryz.prog 156 #[.slice (some ⟨blk, off, none⟩) d.size cap, .int .i64 lo, .int .i64 hi, .int .i64 a] W fun e w' => e = .returned (.tuple #[]) ∧ ∃ n, w' = putRow en (Sort.ahead W n) blk off (Sort.siftDown ltn hi a lo D)))
  have HH := Lib.hid hH
  clear hh hk0 hH
  go_enter Tryz.func146, Tryz.ntmps146
  go_wp2_with fail
  go_loopw [9] (fun v wr => ∃ (k n : Nat) (D : Array Nat), v = .int .i64 ((k : Int) - 1) ∧ k ≤ k0 ∧ D.size = d.size ∧ wr = putRow en (Sort.ahead w n) blk off D ∧ Hid (heapBuild ltn h a k D = heapBuild ltn h a k0 d)) (fun v _ => (intO v + 1).toNat)
  case atStart => exact ⟨k0, 0, d, rfl, by omega, rfl, (putRow_self _ _ _ _ _ HH.out).symm, rfl⟩
  case round =>
    obtain ⟨k, n, D, rfl, hk, hDs, hwr, hO⟩ := hrel
    have hHr : Holds en wr blk off D := by rw [hwr]; exact holds_putRow _ _ _ _ d D (holds_ahead _ _ _ _ _ _ HH.out) hDs
    have HW := Lib.hid hwr
    cases k with
    | succ j =>
      have hjI : ((j + 1 : Nat) : Int) - 1 = (j : Int) := by omega
      simp only [hjI]
      have T := Lib.hid (HD.out j h D wr hHr (by omega) (by omega) hDs)
      clear hjI hwr hHr
      go_wp2_with fail
      refine T.out.mono ?_
      rintro e w5 ⟨rfl, m, rfl⟩
      have hs : (siftDown ltn h a j D).size = D.size := sd_size h a _ j D (Nat.le_refl _)
      have HS5 := Lib.hid hs
      go_wp2_with fail
      go_roundw
      case rel => exact ⟨j, n + m, siftDown ltn h a j D, rfl, by omega, by rw [HS5.out]; exact hDs, by rw [HW.out]; exact putRow_ahead_putRow _ _ _ _ _ _ _ _ HS5.out, hO.out⟩
      case measure => first | (simp [intO]; done) | (simp [intO]; omega)
    | zero =>
      have hO2 : D = heapBuild ltn h a k0 d := hO.out
      have HO2 := Lib.hid hO2
      clear hO2 hO hwr hHr
      have h01 : ((0 : Nat) : Int) - 1 = -1 := rfl
      simp only [h01]
      go_wp2_with fail
      go_loopw [10] (fun v wr => ∃ (k n : Nat) (E : Array Nat), v = .int .i64 ((k : Int) - 1) ∧ k ≤ h ∧ E.size = d.size ∧ wr = putRow en (Sort.ahead w n) blk off E ∧ Hid (heapPop ltn a k E = heapPop ltn a h D)) (fun v _ => (intO v + 1).toNat)
      case atStart => exact ⟨h, n, D, rfl, by omega, hDs, HW.out, rfl⟩
      case round =>
        obtain ⟨k, n2, E, rfl, hk, hEs, hwr, hO⟩ := hrel
        cases k with
        | zero =>
          have hO2 : E = heapPop ltn a h D := hO.out
          have HO3 := Lib.hid hO2
          have HW3 := Lib.hid hwr
          clear hO2 hO hwr
          go_wp2
          go_end0
          exact ⟨rfl, n2, by rw [HW3.out, HO3.out, HO2.out, HS.out]⟩
        | succ j =>
          have hjI : ((j + 1 : Nat) : Int) - 1 = (j : Int) := by omega
          simp only [hjI]
          obtain ⟨G, hG⟩ : ∃ G : Nat → Nat, ∀ t, G t = E[t]! := ⟨fun t => E[t]!, fun _ => rfl⟩
          have hcw : ∀ t, t < d.size → wr.cell? ⟨blk, off + t, none⟩ = some (en (G t)) := fun t ht => by
            rw [hwr, hG]; exact cell?_putRow _ _ _ _ d E (holds_ahead _ _ _ _ _ _ HH.out) hEs t (by omega)
          have hfw : ∀ t, t < d.size → wr.frozen? ⟨blk, off + t, none⟩ = false := fun t ht => by
            rw [hwr, frozen?_putRow]; exact ((holds_ahead _ _ n2 _ _ _ HH.out) t ht).2
          have hws : ((wr.drewN 1).setCell ⟨blk, off + a, none⟩ (en (G (a + j)))).setCell ⟨blk, off + (a + j), none⟩ (en (G a)) = putRow en (Sort.ahead w (n2 + 1)) blk off (Sort.swp E a (a + j)) := by
            rw [hwr, hG, hG]; exact swap_worldA _ w n2 1 blk off E a (a + j) (by omega) (by omega)
          have hH5 : Holds en (putRow en (Sort.ahead w (n2 + 1)) blk off (Sort.swp E a (a + j))) blk off (Sort.swp E a (a + j)) := holds_putRow _ _ _ _ d _ (holds_ahead _ _ _ _ _ _ HH.out) (by rw [size_swp]; exact hEs)
          have T := HD.out 0 j (Sort.swp E a (a + j)) _ hH5 (Nat.zero_le _) (by rw [size_swp]; omega) (by rw [size_swp]; exact hEs)
          rw [← hws] at T
          have HWS := Lib.hid hws
          have HT := Lib.hid T
          have hajd : a + j < d.size := by omega
          clear hjI T hws hH5 hwr hG HW
          rcases Nat.eq_zero_or_pos j with rfl | hj1
          · go_wp2_with fail
            go_region
            all_goals go_wp2_with fail
            refine HT.out.mono ?_
            rintro e w5 ⟨rfl, m, hw5⟩
            rw [HWS.out] at hw5
            have HW5 := Lib.hid hw5
            have hs : (siftDown ltn 0 a 0 (Sort.swp E a (a + 0))).size = E.size := by rw [sd_size 0 a _ 0 _ (Nat.le_refl _), size_swp]
            have HS5 := Lib.hid hs
            clear hw5 hs hcw hfw
            go_wp2_with fail
            go_roundw
            case rel => exact ⟨0, n2 + 1 + m, siftDown ltn 0 a 0 (Sort.swp E a (a + 0)), rfl, by omega, by rw [HS5.out]; exact hEs, by rw [HW5.out]; exact putRow_ahead_putRow _ _ _ _ _ _ _ _ (by rw [HS5.out, size_swp]), hO.out⟩
            case measure => first | (simp [intO]; done) | (simp [intO]; omega)
          · go_wp2_with fail
            go_region
            all_goals go_wp2_with fail
            refine HT.out.mono ?_
            rintro e w5 ⟨rfl, m, hw5⟩
            rw [HWS.out] at hw5
            have HW5 := Lib.hid hw5
            have hs : (siftDown ltn j a 0 (Sort.swp E a (a + j))).size = E.size := by rw [sd_size j a _ 0 _ (Nat.le_refl _), size_swp]
            have HS5 := Lib.hid hs
            clear hw5 hs hcw hfw
            go_wp2_with fail
            go_roundw
            case rel => exact ⟨j, n2 + 1 + m, _, rfl, by omega, by rw [HS5.out]; exact hEs, by rw [HW5.out]; exact putRow_ahead_putRow _ _ _ _ _ _ _ _ (by rw [HS5.out, size_swp]), hO.out⟩
            case measure => first | (simp [intO]; done) | (simp [intO]; omega)
end Go.Proofs.YtfckgddodjmbdaaGreatDoor.sortUint16
namespace Go.Proofs.YtfckgddodjmbdaaGreatDoor.sortUint16
set_option linter.unusedVariables false
set_option linter.unusedSimpArgs false
open Go.RowKit Go.Sort Go.Proofs.YtfckgddodjmbdaaGreatDoor
theorem lessK (x y : Nat) (W : World) : Calls Tryz.prog 151 #[en x, en y] W fun e w' => e = .returned (.bool (ltn x y)) ∧ Kp none' W w' :=
  (less x y W).mono fun e w' ⟨h1, h2⟩ => ⟨h1, h2 ▸ Kp.refl _ _⟩
/-- The row stands, and the count of swaps lies in sb. -/
structure Sw (blk off : Nat) (d : Array Nat) (sb s : Nat) (w W : World) : Prop where
  row : Holds en W blk off d
  cnt : Blk W sb [.int .i64 (s : Int)] 3
  kp : Kp (fun b => b = sb) w W
theorem Sw.next {blk off sb s s' : Nat} {d : Array Nat} {w W W' : World} (h : Sw blk off d sb s w W) (k : Sw blk off d sb s' W W') : Sw blk off d sb s' w W' := ⟨k.row, k.cnt, h.kp.trans k.kp⟩
set_option maxRecDepth 100000 in
set_option maxHeartbeats 4000000 in
theorem order2U (blk off cap a b sb s : Nat) (d : Array Nat) (w W : World) (h : Sw blk off d sb s w W) (hne : sb ≠ blk) (hbl : blk < W.heap.size) (ha : a < d.size) (hb : b < d.size) (hsz : d.size < 2305843009213693952) (hs : s < 1000) :
    Calls Tryz.prog 162 #[.slice (some ⟨blk, off, none⟩) d.size cap, .int .i64 a, .int .i64 b, .pointer (some ⟨sb, 0, none⟩)] W fun e w' =>
      e = .returned (.tuple #[.int .i64 ((order2 ltn d a b s).1 : Nat), .int .i64 ((order2 ltn d a b s).2.1 : Nat)]) ∧ Sw blk off d sb (order2 ltn d a b s).2.2 W w' := by
  obtain ⟨G, hG⟩ : ∃ G : Nat → Nat, ∀ t, G t = d[t]! := ⟨fun t => d[t]!, fun _ => rfl⟩
  have x0 : W.cell? ⟨blk, off + a, none⟩ = some (en (G a)) := by rw [hG]; exact (h.row a ha).1
  have x1 : W.cell? ⟨blk, off + b, none⟩ = some (en (G b)) := by rw [hG]; exact (h.row b hb).1
  have c0 := h.cnt.cell 0 rfl
  have f0 := h.cnt.fz 0
  have HS := Lib.hid h
  have HL := Lib.hid (fun W => lessK (G b) (G a) W)
  have hai : (a : Int) < d.size := by omega
  have hbi : (b : Int) < d.size := by omega
  have ho : order2 ltn d a b s = if ltn (G b) (G a) then (b, a, s + 1) else (a, b, s) := by unfold order2; rw [hG, hG]
  rw [ho]
  clear h hG ho
  cases hl : ltn (G b) (G a) with
  | true =>
    rw [hl] at HL
    simp only [if_true]
    clear hl
    go_enter Tryz.func162, Tryz.ntmps162
    go_wp2_with fail
    refine wp_region_kept2 [] [0, 1, 2, 3, 4, 5, 6, 7] 8 (by kernel_rfl) (by kernel_rfl) (fun c a d u w h => by cases d <;> exact h) ?_
    simp only [pick, List.getElem?_cons_succ, List.getElem?_cons_zero, List.drop_succ_cons, List.drop_zero]
    show wpKL _ _ _ _ _ _
    repeat (first
      | (refine wpKL_op (by exact rfl) (by as_aux_lemma => intro W hK; have e0 := hK.cell x0 (fun x => x); have e1 := hK.cell x1 (fun x => x); go_simp; exact rfl) ?_; simp only [Act.put, List.setIfInBounds_toArray, List.set_cons_succ, List.set_cons_zero])
      | (refine wpKL_off (by exact rfl) ?_; simp only [Act.put, List.setIfInBounds_toArray, List.set_cons_succ, List.set_cons_zero])
      | (refine wpKL_call (by exact rfl) (by as_aux_lemma => intro W; go_simp; exact ⟨rfl, rfl⟩) (by intro W hK; with_reducible first | exact HL.out W) ?_; simp only [Act.put, List.setIfInBounds_toArray, List.set_cons_succ, List.set_cons_zero]))
    show ∀ W, _ → wpList _ _ _ _ _ _
    intro W2 hK2
    have HK2 := Lib.hid hK2
    clear hK2
    go_wp2_with fail
    refine (HL.out W2).mono ?_
    rintro e w3 ⟨rfl, k3⟩
    have k4 := HK2.out.trans k3
    have hb3 := HS.out.cnt.kp k4 id
    have e0 := hb3.cell 0 rfl
    have g0 := hb3.fz 0
    have HB3 := Lib.hid hb3
    have HK4 := Lib.hid k4
    clear k3 k4 hb3 x0 x1 c0 f0
    go_wp2_with fail
    go_ret2
    refine ⟨rfl, holds_block HS.out.row ?_, ?_, (HK4.out.mono (T := fun b => b = sb) (fun _ _ x => x.elim)).set (p := ⟨sb, 0, none⟩) (.inl rfl) _⟩
    · exact (Below.heap_setCell _ _ _ _ (fun e => hne e.symm)).trans (HK4.out.block blk hbl id)
    · exact HB3.out.set 0 _
  | false =>
    rw [hl] at HL
    simp only [Bool.false_eq_true, if_false]
    clear hl
    go_enter Tryz.func162, Tryz.ntmps162
    go_wp2_with fail
    refine wp_region_kept2 [] [0, 1, 2, 3, 4, 5, 6, 7] 8 (by kernel_rfl) (by kernel_rfl) (fun c a d u w h => by cases d <;> exact h) ?_
    simp only [pick, List.getElem?_cons_succ, List.getElem?_cons_zero, List.drop_succ_cons, List.drop_zero]
    show wpKL _ _ _ _ _ _
    repeat (first
      | (refine wpKL_op (by exact rfl) (by as_aux_lemma => intro W hK; have e0 := hK.cell x0 (fun x => x); have e1 := hK.cell x1 (fun x => x); go_simp; exact rfl) ?_; simp only [Act.put, List.setIfInBounds_toArray, List.set_cons_succ, List.set_cons_zero])
      | (refine wpKL_off (by exact rfl) ?_; simp only [Act.put, List.setIfInBounds_toArray, List.set_cons_succ, List.set_cons_zero])
      | (refine wpKL_call (by exact rfl) (by as_aux_lemma => intro W; go_simp; exact ⟨rfl, rfl⟩) (by intro W hK; with_reducible first | exact HL.out W) ?_; simp only [Act.put, List.setIfInBounds_toArray, List.set_cons_succ, List.set_cons_zero]))
    show ∀ W, _ → wpList _ _ _ _ _ _
    intro W2 hK2
    have HK2 := Lib.hid hK2
    clear hK2
    go_wp2_with fail
    refine (HL.out W2).mono ?_
    rintro e w3 ⟨rfl, k3⟩
    have k4 := HK2.out.trans k3
    have HK4 := Lib.hid k4
    clear k3 k4 x0 x1 c0 f0
    go_wp2_with fail
    go_ret2
    exact ⟨rfl, holds_block HS.out.row (HK4.out.block blk hbl id), HS.out.cnt.kp HK4.out id, HK4.out.mono (fun _ _ x => x.elim)⟩
theorem order2_lt {d : Array Nat} {a b s n : Nat} (ha : a < n) (hb : b < n) : (order2 ltn d a b s).1 < n ∧ (order2 ltn d a b s).2.1 < n ∧ (order2 ltn d a b s).2.2 ≤ s + 1 := by
  unfold order2; split <;> simp only <;> omega
set_option maxRecDepth 100000 in
set_option maxHeartbeats 4000000 in
theorem medianU (blk off cap a b c sb s : Nat) (d : Array Nat) (w W : World) (h : Sw blk off d sb s w W) (hne : sb ≠ blk) (hbl : blk < W.heap.size) (ha : a < d.size) (hb : b < d.size) (hc : c < d.size) (hsz : d.size < 2305843009213693952) (hs : s < 900) :
    Calls Tryz.prog 160 #[.slice (some ⟨blk, off, none⟩) d.size cap, .int .i64 a, .int .i64 b, .int .i64 c, .pointer (some ⟨sb, 0, none⟩)] W fun e w' =>
      e = .returned (.int .i64 ((median ltn d a b c s).1 : Nat)) ∧ Sw blk off d sb (median ltn d a b c s).2 W w' := by
  obtain ⟨⟨a1, b1, s1⟩, h1⟩ : ∃ r, order2 ltn d a b s = r := ⟨_, rfl⟩
  have l1 := order2_lt (d := d) (s := s) ha hb
  obtain ⟨⟨b2, c2, s2⟩, h2⟩ : ∃ r, order2 ltn d b1 c s1 = r := ⟨_, rfl⟩
  rw [h1] at l1
  simp only at l1
  have l2 := order2_lt (d := d) (s := s1) l1.2.1 hc
  obtain ⟨⟨a3, b3, s3⟩, h3⟩ : ∃ r, order2 ltn d a1 b2 s2 = r := ⟨_, rfl⟩
  rw [h2] at l2
  simp only at l2
  have l3 := order2_lt (d := d) (s := s2) l1.1 l2.1
  rw [h3] at l3
  simp only at l3
  have hm : median ltn d a b c s = (b3, s3) := by unfold median; simp only [h1, h2, h3]
  rw [hm]
  have C1 := order2U blk off cap a b sb s d w W h hne hbl ha hb hsz (by omega)
  rw [h1] at C1
  have C2 := fun W' (hS : Sw blk off d sb s1 W W') => order2U blk off cap b1 c sb s1 d W W' hS hne (Nat.lt_of_lt_of_le hbl hS.kp.size) l1.2.1 hc hsz (by omega)
  simp only [h2] at C2
  have C3 := fun W' (hS : Sw blk off d sb s2 W W') => order2U blk off cap a1 b2 sb s2 d W W' hS hne (Nat.lt_of_lt_of_le hbl hS.kp.size) l1.1 l2.1 hsz (by omega)
  simp only [h3] at C3
  have HC1 := Lib.hid C1; have HC2 := Lib.hid C2; have HC3 := Lib.hid C3
  clear h1 h2 h3 hm C1 C2 C3 h l1 l2 l3
  go_enter Tryz.func160, Tryz.ntmps160
  go_wp2_with fail
  refine (HC1.out).mono ?_
  rintro e w1 ⟨rfl, q1⟩
  have Q1 := Lib.hid q1
  clear q1
  go_wp2_with fail
  refine (HC2.out _ Q1.out).mono ?_
  rintro e w2 ⟨rfl, q2⟩
  have Q2 := Lib.hid (Q1.out.next q2)
  clear q2
  go_wp2_with fail
  refine (HC3.out _ Q2.out).mono ?_
  rintro e w3 ⟨rfl, q3⟩
  have Q3 := Lib.hid (Q2.out.next q3)
  clear q3
  go_wp2_with fail
  go_ret
  exact ⟨rfl, Q3.out⟩
theorem median_lt {d : Array Nat} {a b c s n : Nat} (ha : a < n) (hb : b < n) (hc : c < n) : (median ltn d a b c s).1 < n ∧ (median ltn d a b c s).2 ≤ s + 3 := by
  unfold median
  have l1 := order2_lt (d := d) (s := s) ha hb
  have l2 := order2_lt (d := d) (s := (order2 ltn d a b s).2.2) l1.2.1 hc
  have l3 := order2_lt (d := d) (s := (order2 ltn d (order2 ltn d a b s).2.1 c (order2 ltn d a b s).2.2).2.2) l1.1 l2.1
  simp only
  exact ⟨l3.2.1, by omega⟩
set_option maxHeartbeats 1000000 in
theorem adjacentU (blk off cap a sb s : Nat) (d : Array Nat) (w W : World) (h : Sw blk off d sb s w W) (hne : sb ≠ blk) (hbl : blk < W.heap.size) (h1 : 1 ≤ a) (ha : a + 1 < d.size) (hsz : d.size < 2305843009213693952) (hs : s < 900) :
    Calls Tryz.prog 159 #[.slice (some ⟨blk, off, none⟩) d.size cap, .int .i64 a, .pointer (some ⟨sb, 0, none⟩)] W fun e w' =>
      e = .returned (.int .i64 ((medianAdjacent ltn d a s).1 : Nat)) ∧ Sw blk off d sb (medianAdjacent ltn d a s).2 W w' := by
  have C := medianU blk off cap (a - 1) a (a + 1) sb s d w W h hne hbl (by omega) (by omega) ha hsz hs
  rw [show ((a - 1 : Nat) : Int) = (a : Int) - 1 by omega, show ((a + 1 : Nat) : Int) = (a : Int) + 1 by omega] at C
  have HC := Lib.hid C
  unfold medianAdjacent
  clear C h
  go_enter Tryz.func159, Tryz.ntmps159
  go_wp2_with fail
  refine (HC.out).mono ?_
  rintro e w1 ⟨rfl, q1⟩
  have Q1 := Lib.hid q1
  clear q1
  go_wp2_with fail
  go_ret
  exact ⟨rfl, Q1.out⟩
end Go.Proofs.YtfckgddodjmbdaaGreatDoor.sortUint16
namespace Go.Proofs.YtfckgddodjmbdaaGreatDoor.sortUint16
set_option linter.unusedVariables false
set_option linter.unusedSimpArgs false
open Go.RowKit Go.Sort Go.Proofs.YtfckgddodjmbdaaGreatDoor
def hintI : Hint → Int | .unknown => 0 | .increasing => 1 | .decreasing => 2
theorem adjacent_lt {d : Array Nat} {a s n : Nat} (h1 : 1 ≤ a) (ha : a + 1 < n) : (medianAdjacent ltn d a s).1 < n ∧ (medianAdjacent ltn d a s).2 ≤ s + 3 := by
  unfold medianAdjacent; exact median_lt (by omega) (by omega) ha
set_option maxRecDepth 100000 in
set_option maxHeartbeats 4000000 in
theorem choosePivotU (blk off cap a b : Nat) (d : Array Nat) (w : World) (hH : Holds en w blk off d) (hbl : blk < w.heap.size) (h12 : 12 < b - a) (hb : b ≤ d.size) (hsz : d.size < 2305843009213693952) :
    Calls Tryz.prog 148 #[.slice (some ⟨blk, off, none⟩) d.size cap, .int .i64 a, .int .i64 b] w fun e w' =>
      e = .returned (.tuple #[.int .i64 ((choosePivot ltn d a b).1 : Nat), .int .i64 (hintI (choosePivot ltn d a b).2)]) ∧ Kp none' w w' := by
  obtain ⟨l, hl⟩ : ∃ l, b - a = l := ⟨_, rfl⟩
  have hlI : (b : Int) - (a : Int) = (l : Int) := by omega
  obtain ⟨q, hq⟩ : ∃ q, l / 4 = q := ⟨_, rfl⟩
  have hqI : (l : Int).tdiv 4 = (q : Int) := by rw [Int.tdiv_eq_ediv_of_nonneg (by omega)]; omega
  have hq3 : 3 ≤ q := by omega
  have hqb : a + q * 3 + 1 < d.size := by omega
  obtain ⟨i, hi⟩ : ∃ i, a + q = i := ⟨_, rfl⟩
  obtain ⟨j, hj⟩ : ∃ j, a + q * 2 = j := ⟨_, rfl⟩
  obtain ⟨k, hk⟩ : ∃ k, a + q * 3 = k := ⟨_, rfl⟩
  have hiI : (a : Int) + (q : Int) = (i : Int) := by omega
  have hjI : (a : Int) + (q : Int) * 2 = (j : Int) := by omega
  have hkI : (a : Int) + (q : Int) * 3 = (k : Int) := by omega
  have hcell := (Kp.refl none' w).alloc (.cells #[.int .i64 0] 3)
  have hsw : Sw blk off d w.heap.size 0 (w.alloc (.cells #[.int .i64 0] 3)) (w.alloc (.cells #[.int .i64 0] 3)) := ⟨holds_block hH (hcell.block blk hbl id), Blk.new w _ _, Kp.refl _ _⟩
  have HSW := Lib.hid hsw
  have HKA := Lib.hid hcell
  have hne : w.heap.size ≠ blk := by omega
  have hbl2 : blk < (w.alloc (.cells #[.int .i64 0] 3)).heap.size := by simp; omega
  have hqm : (q : Int) ≤ 2305843009213693952 := by omega
  have hcp0 : choosePivot ltn d a b = (let r : Nat × Nat := if l ≥ 50 then median ltn d (medianAdjacent ltn d i 0).1 (medianAdjacent ltn d j (medianAdjacent ltn d i 0).2).1 (medianAdjacent ltn d k (medianAdjacent ltn d j (medianAdjacent ltn d i 0).2).2).1 (medianAdjacent ltn d k (medianAdjacent ltn d j (medianAdjacent ltn d i 0).2).2).2 else median ltn d i j k 0
      (r.1, if r.2 = 0 then .increasing else if r.2 = 12 then .decreasing else .unknown)) := by
    unfold choosePivot
    simp only [hl, hq, Nat.mul_one, hi, hj, hk]
    rw [if_pos (by omega)]
  by_cases h50 : 50 ≤ l
  · have h50I : (50 : Int) ≤ (l : Int) := by omega
    obtain ⟨⟨i1, s1⟩, h1⟩ : ∃ r, medianAdjacent ltn d i 0 = r := ⟨_, rfl⟩
    have l1 := adjacent_lt (d := d) (a := i) (s := 0) (n := d.size) (by omega) (by omega)
    rw [h1] at l1
    simp only at l1
    obtain ⟨⟨j1, s2⟩, h2⟩ : ∃ r, medianAdjacent ltn d j s1 = r := ⟨_, rfl⟩
    have l2 := adjacent_lt (d := d) (a := j) (s := s1) (n := d.size) (by omega) (by omega)
    rw [h2] at l2
    simp only at l2
    obtain ⟨⟨k1, s3⟩, h3⟩ : ∃ r, medianAdjacent ltn d k s2 = r := ⟨_, rfl⟩
    have l3 := adjacent_lt (d := d) (a := k) (s := s2) (n := d.size) (by omega) (by omega)
    rw [h3] at l3
    simp only at l3
    obtain ⟨⟨jF, sF⟩, h4⟩ : ∃ r, median ltn d i1 j1 k1 s3 = r := ⟨_, rfl⟩
    have hcp : choosePivot ltn d a b = (jF, if sF = 0 then .increasing else if sF = 12 then .decreasing else .unknown) := by
      rw [hcp0, if_pos h50]; simp only [h1, h2, h3, h4]
    have C1 := adjacentU blk off cap i w.heap.size 0 d _ _ hsw hne hbl2 (by omega) (by omega) hsz (by omega)
    rw [h1] at C1
    have C2 := fun W' (hS : Sw blk off d w.heap.size s1 (w.alloc (.cells #[.int .i64 0] 3)) W') => adjacentU blk off cap j w.heap.size s1 d _ W' hS hne (Nat.lt_of_lt_of_le hbl2 hS.kp.size) (by omega) (by omega) hsz (by omega)
    simp only [h2] at C2
    have C3 := fun W' (hS : Sw blk off d w.heap.size s2 (w.alloc (.cells #[.int .i64 0] 3)) W') => adjacentU blk off cap k w.heap.size s2 d _ W' hS hne (Nat.lt_of_lt_of_le hbl2 hS.kp.size) (by omega) (by omega) hsz (by omega)
    simp only [h3] at C3
    have C4 := fun W' (hS : Sw blk off d w.heap.size s3 (w.alloc (.cells #[.int .i64 0] 3)) W') => medianU blk off cap i1 j1 k1 w.heap.size s3 d _ W' hS hne (Nat.lt_of_lt_of_le hbl2 hS.kp.size) l1.1 l2.1 l3.1 hsz (by omega)
    simp only [h4] at C4
    have HC1 := Lib.hid C1; have HC2 := Lib.hid C2; have HC3 := Lib.hid C3; have HC4 := Lib.hid C4
    have HCP := Lib.hid hcp
    clear h1 h2 h3 h4 C1 C2 C3 C4 hcp hcp0 hsw hcell hH hi hj hk hq hl l1 l2 l3 h50
    go_enter Tryz.func148, Tryz.ntmps148
    go_wp2_with fail
    refine (HC1.out).mono ?_
    rintro e w1 ⟨rfl, q1⟩
    have Q1 := Lib.hid q1
    clear q1
    go_wp2_with fail
    refine (HC2.out _ Q1.out).mono ?_
    rintro e w2 ⟨rfl, q2⟩
    have Q2 := Lib.hid (Q1.out.next q2)
    clear q2
    go_wp2_with fail
    refine (HC3.out _ Q2.out).mono ?_
    rintro e w3 ⟨rfl, q3⟩
    have Q3 := Lib.hid (Q2.out.next q3)
    clear q3
    go_wp2_with fail
    refine (HC4.out _ Q3.out).mono ?_
    rintro e w4 ⟨rfl, q4⟩
    have q5 := Q3.out.next q4
    have c0 := q5.cnt.cell 0 rfl
    have QK : Hid (Kp none' w w4) := HKA.out.then q5.kp (fun i hi x => by omega)
    have hcp := HCP.out
    clear q4 q5
    by_cases hs0 : sF = 0
    · subst hs0
      have HR : Hid (choosePivot ltn d a b = (jF, .increasing)) := by show _ = _; rw [hcp]; rfl
      clear hcp
      go_wp2_with fail
      go_ret2
      exact ⟨by rw [HR.out]; rfl, QK.out⟩
    · have hsb : ((sF : Int) == 0) = false := by rw [beq_eq_false_iff_ne]; omega
      by_cases hs12 : sF = 12
      · subst hs12
        have HR : Hid (choosePivot ltn d a b = (jF, .decreasing)) := by show _ = _; rw [hcp]; rfl
        clear hcp hs0
        go_wp2_with fail
        go_ret2
        exact ⟨by rw [HR.out]; rfl, QK.out⟩
      · have hs12b : ((sF : Int) == 12) = false := by rw [beq_eq_false_iff_ne]; omega
        have HR : Hid (choosePivot ltn d a b = (jF, .unknown)) := by show _ = _; rw [hcp, if_neg hs0, if_neg hs12]
        clear hcp hs0 hs12
        go_wp2_with fail
        go_ret2
        exact ⟨by rw [HR.out]; rfl, QK.out⟩
  · have h50I : (l : Int) < 50 := by omega
    obtain ⟨⟨jF, sF⟩, h4⟩ : ∃ r, median ltn d i j k 0 = r := ⟨_, rfl⟩
    have hcp : choosePivot ltn d a b = (jF, if sF = 0 then .increasing else if sF = 12 then .decreasing else .unknown) := by
      rw [hcp0, if_neg h50]; simp only [h4]
    have C4 := medianU blk off cap i j k w.heap.size 0 d _ _ hsw hne hbl2 (by omega) (by omega) (by omega) hsz (by omega)
    rw [h4] at C4
    have HC4 := Lib.hid C4
    have HCP := Lib.hid hcp
    clear h4 C4 hcp hcp0 hsw hcell hH hi hj hk hq hl h50
    go_enter Tryz.func148, Tryz.ntmps148
    go_wp2_with fail
    refine (HC4.out).mono ?_
    rintro e w4 ⟨rfl, q5⟩
    have c0 := q5.cnt.cell 0 rfl
    have QK : Hid (Kp none' w w4) := HKA.out.then q5.kp (fun i hi x => by omega)
    have hcp := HCP.out
    clear q5
    by_cases hs0 : sF = 0
    · subst hs0
      have HR : Hid (choosePivot ltn d a b = (jF, .increasing)) := by show _ = _; rw [hcp]; rfl
      clear hcp
      go_wp2_with fail
      go_ret2
      exact ⟨by rw [HR.out]; rfl, QK.out⟩
    · have hsb : ((sF : Int) == 0) = false := by rw [beq_eq_false_iff_ne]; omega
      by_cases hs12 : sF = 12
      · subst hs12
        have HR : Hid (choosePivot ltn d a b = (jF, .decreasing)) := by show _ = _; rw [hcp]; rfl
        clear hcp hs0
        go_wp2_with fail
        go_ret2
        exact ⟨by rw [HR.out]; rfl, QK.out⟩
      · have hs12b : ((sF : Int) == 12) = false := by rw [beq_eq_false_iff_ne]; omega
        have HR : Hid (choosePivot ltn d a b = (jF, .unknown)) := by show _ = _; rw [hcp, if_neg hs0, if_neg hs12]
        clear hcp hs0 hs12
        go_wp2_with fail
        go_ret2
        exact ⟨by rw [HR.out]; rfl, QK.out⟩
end Go.Proofs.YtfckgddodjmbdaaGreatDoor.sortUint16
namespace Go.Proofs.YtfckgddodjmbdaaGreatDoor.sortUint16
set_option linter.unusedVariables false
set_option linter.unusedSimpArgs false
open Go.RowKit Go.Sort Go.Proofs.YtfckgddodjmbdaaGreatDoor
set_option maxRecDepth 100000 in
set_option maxHeartbeats 16000000 in
theorem partialU (blk off cap a b : Nat) (d : Array Nat) (w : World) (hH : Holds en w blk off d) (hab : a < b) (hb : b ≤ d.size) (hsz : d.size < 4611686018427387904) :
    Calls Tryz.prog 150 #[.slice (some ⟨blk, off, none⟩) d.size cap, .int .i64 a, .int .i64 b] w fun e w' =>
      e = .returned (.bool (Sort.partialInsertionSort ltn d a b).2) ∧ ∃ n, w' = putRow en (Sort.ahead w n) blk off (Sort.partialInsertionSort ltn d a b).1 := by
  have HH := Lib.hid hH
  have HST : Hid (w = putRow en (Sort.ahead w 0) blk off d) := (putRow_self _ _ _ _ _ hH).symm
  clear hH
  go_enter Tryz.func150, Tryz.ntmps150
  go_wp2
  go_loopw [7, 8] (fun vi vs wr => ∃ (i s n : Nat) (dk : Array Nat), vi = .int .i64 i ∧ vs = .int .i64 s ∧ s ≤ 5 ∧ a < i ∧ i ≤ b ∧ dk.size = d.size ∧ wr = putRow en (Sort.ahead w n) blk off dk ∧
      Hid (partialIns ltn a b (5 - s) i dk = partialIns ltn a b 5 (a + 1) d)) (fun _ vs _ => 5 - (intO vs).toNat)
  case atStart => exact ⟨a + 1, 0, 0, d, by go_num, rfl, by omega, by omega, by omega, rfl, HST.out, rfl⟩
  case round =>
    obtain ⟨i, s, n, dk, rfl, rfl, hs5, hai, hib, hsk, hwr, hO⟩ := hrel
    by_cases hs : s < 5
    · have hsi : (s : Int) < 5 := by omega
      have HWR := Lib.hid hwr
      clear hwr
      go_wp2
      go_loopw [7] (fun vi wr2 => ∃ (k m : Nat), vi = .int .i64 k ∧ i ≤ k ∧ k ≤ b ∧ wr2 = putRow en (Sort.ahead w m) blk off dk ∧ Hid (scanSorted ltn dk b k = scanSorted ltn dk b i)) (fun vi _ => b - (intO vi).toNat)
      case atStart => exact ⟨i, n, rfl, Nat.le_refl _, hib, HWR.out, rfl⟩
      case round =>
        obtain ⟨k, m, rfl, hik, hkb, hw2, hS⟩ := hrel
        obtain ⟨G, hG⟩ : ∃ G : Nat → Nat, ∀ t, G t = dk[t]! := ⟨fun t => dk[t]!, fun _ => rfl⟩
        have hcw : ∀ t, t < d.size → wr.cell? ⟨blk, off + t, none⟩ = some (en (G t)) := fun t ht => by
          rw [hw2, hG]; exact cell?_putRow _ _ _ _ d dk (holds_ahead _ _ _ _ _ _ HH.out) hsk t (by omega)
        have hfw : ∀ t, t < d.size → wr.frozen? ⟨blk, off + t, none⟩ = false := fun t ht => by
          rw [hw2, frozen?_putRow]; exact ((holds_ahead _ _ m _ _ _ HH.out) t ht).2
        have HW := Lib.hid hw2
        have HG := Lib.hid hG
        clear hw2 hG
        by_cases hkb' : k < b
        · have hkbi : (k : Int) < b := by omega
          cases hl : ltn (G k) (G (k - 1)) with
          | false =>
            go_wp2
            go_quiet (first | (go_at_call 151; refine Calls.quiet_of_same (less _ _ _)))
            go_wp2
            go_roundw
            case rel =>
              refine ⟨k + 1, m + nq, by go_num, by omega, by omega, by rw [HW.out]; exact putRow_drewN _ _ _ _ _ _ _, ?_⟩
              show _ = _
              rw [← hS.out, scanSorted_go ltn dk b k hkb' (by rw [← HG.out, ← HG.out]; exact hl)]
            case measure => first | (simp [intO]; done) | (simp [intO]; omega)
          | true =>
            have HK : Hid (scanSorted ltn dk b i = k) := by
              show _ = _
              rw [← hS.out, scanSorted_stop ltn dk b k (Or.inr (by rw [← HG.out, ← HG.out]; exact hl))]
            have hkne : ((k : Int) == b) = false := by rw [beq_eq_false_iff_ne]; omega
            by_cases h50 : b - a < 50
            · have h50i : (b : Int) - a < 50 := by omega
              have hv : Sort.partialInsertionSort ltn d a b = (dk, false) := by
                unfold Sort.partialInsertionSort
                rw [← hO.out, pi_short ltn a b s i dk hs (by rw [HK.out]; omega) h50]
              have HV := Lib.hid hv
              clear hv
              go_wp2
              go_quiet (first | (go_at_call 151; refine Calls.quiet_of_same (less _ _ _)))
              go_wp2
              go_ret
              exact ⟨by rw [HV.out]; rfl, m + nq, by rw [HV.out, HW.out]; exact putRow_drewN _ _ _ _ _ _ _⟩
            · have h50i : ¬ (b : Int) - a < 50 := by omega
              go_wp2
              go_quiet (first | (go_at_call 151; refine Calls.quiet_of_same (less _ _ _)))
              go_wp2
              go_region
              have hsw : ((wr.drewN (nq + 1)).setCell ⟨blk, off + k, none⟩ (en (G (k - 1)))).setCell ⟨blk, off + (k - 1), none⟩ (en (G k)) = putRow en (Sort.ahead w (m + (nq + 1))) blk off (Sort.swp dk k (k - 1)) := by
                rw [HW.out, HG.out, HG.out]
                exact swap_worldA _ w m (nq + 1) blk off dk k (k - 1) (by omega) (by omega)
              have hs1 : (Sort.swp dk k (k - 1)).size = d.size := by rw [size_swp]; exact hsk
              by_cases hka : 2 ≤ k - a
              · have hkai : (2 : Int) ≤ (k : Int) - a := by omega
                have HSW := Lib.hid hsw
                clear hsw hl
                go_wp2
                rw [HSW.out]
                generalize hw0 : putRow en (Sort.ahead w (m + (nq + 1))) blk off (Sort.swp dk k (k - 1)) = w0
                have HW0 := Lib.hid hw0.symm
                clear hw0 HSW hcw hfw HW HG
                go_loopw [9] (fun vj wr2 => ∃ (j m2 : Nat) (dj : Array Nat), vj = .int .i64 j ∧ j ≤ k - 1 ∧ dj.size = d.size ∧ wr2 = putRow en (Sort.ahead w m2) blk off dj ∧
                  Hid (shiftDown ltn j dj = shiftDown ltn (k - 1) (Sort.swp dk k (k - 1)))) (fun vj _ => (intO vj).toNat)
                case atStart => exact ⟨k - 1, _, Sort.swp dk k (k - 1), by congr 1; omega, Nat.le_refl _, hs1, HW0.out, rfl⟩
                case round =>
                  obtain ⟨j, m2, dj, rfl, hjk, hsj, hw2, hDn⟩ := hrel
                  have HW2 := Lib.hid hw2
                  by_cases hj1 : 1 ≤ j
                  · have hj1i : (1 : Int) ≤ (j : Int) := by omega
                    obtain ⟨G, hG⟩ : ∃ G : Nat → Nat, ∀ t, G t = dj[t]! := ⟨fun t => dj[t]!, fun _ => rfl⟩
                    have hcw : ∀ t, t < d.size → wr.cell? ⟨blk, off + t, none⟩ = some (en (G t)) := fun t ht => by
                      rw [hw2, hG]; exact cell?_putRow _ _ _ _ d dj (holds_ahead _ _ _ _ _ _ HH.out) hsj t (by omega)
                    have hfw : ∀ t, t < d.size → wr.frozen? ⟨blk, off + t, none⟩ = false := fun t ht => by
                      rw [hw2, frozen?_putRow]; exact ((holds_ahead _ _ m2 _ _ _ HH.out) t ht).2
                    have HG := Lib.hid hG
                    clear hw2 hG
                    cases hl : ltn (G j) (G (j - 1)) with
                    | true =>
                      go_wp2
                      go_quiet (first | (go_at_call 151; refine Calls.quiet_of_same (less _ _ _)))
                      go_wp2
                      go_region
                      all_goals go_wp2
                      go_roundw
                      case rel =>
                        refine ⟨j - 1, m2 + (nq + 1), Sort.swp dj j (j - 1), by congr 1; omega, by omega, by rw [size_swp]; exact hsj, ?_, ?_⟩
                        · rw [HW2.out, HG.out, HG.out]
                          exact swap_worldA _ w m2 (nq + 1) blk off dj j (j - 1) (by omega) (by omega)
                        · show _ = _
                          rw [← hDn.out, shiftDown_go ltn j dj (by omega) (by rw [← HG.out, ← HG.out]; exact hl)]
                      case measure => first | (simp [intO]; done) | (simp [intO]; omega)
                    | false =>
                      have HD : Hid (fixDown ltn a k (Sort.swp dk k (k - 1)) = dj) := by
                        show _ = _
                        unfold fixDown; rw [if_pos hka, ← hDn.out, shiftDown_stop ltn j dj (Or.inr (by rw [← HG.out, ← HG.out]; exact hl))]
                      go_wp2
                      go_quiet (first | (go_at_call 151; refine Calls.quiet_of_same (less _ _ _)))
                      have hsC := hsj
                      obtain ⟨dC, hdC⟩ : ∃ dC, dC = dj := ⟨_, rfl⟩
                      subst hdC
                      obtain ⟨mC, HWC⟩ : ∃ mC, Hid (wr.drewN nq = putRow en (Sort.ahead w mC) blk off dC) := ⟨m2 + nq, by show _ = _; rw [HW2.out]; exact putRow_drewN _ _ _ _ _ _ _⟩
                      clear HW2 hDn hjk hkai HW0
                      by_cases hb2 : 2 ≤ b - k
                      · have hb2i : (2 : Int) ≤ (b : Int) - (k : Int) := by omega
                        go_wp2
                        rw [HWC.out]
                        generalize hwC : putRow en (Sort.ahead w mC) blk off dC = wC
                        have HWD : Hid (wC = putRow en (Sort.ahead w mC) blk off dC) := hwC.symm
                        clear hwC HWC
                        go_loopw [10] (fun vj wr2 => ∃ (j m3 : Nat) (du : Array Nat), vj = .int .i64 j ∧ k + 1 ≤ j ∧ j ≤ b ∧ du.size = d.size ∧ wr2 = putRow en (Sort.ahead w m3) blk off du ∧ Hid (shiftUp ltn b j du = shiftUp ltn b (k + 1) dC)) (fun vj _ => b - (intO vj).toNat)
                        case atStart => exact ⟨k + 1, mC, dC, by go_num, Nat.le_refl _, by omega, hsC, HWD.out, rfl⟩
                        case round =>
                          obtain ⟨j, m3, du, rfl, hkj, hjb, hsu, hw3, hU⟩ := hrel
                          have HW3 := Lib.hid hw3
                          by_cases hjlt : j < b
                          · have hjlti : (j : Int) < b := by omega
                            obtain ⟨G, hG⟩ : ∃ G : Nat → Nat, ∀ t, G t = du[t]! := ⟨fun t => du[t]!, fun _ => rfl⟩
                            have hcw : ∀ t, t < d.size → wr.cell? ⟨blk, off + t, none⟩ = some (en (G t)) := fun t ht => by
                              rw [hw3, hG]; exact cell?_putRow _ _ _ _ d du (holds_ahead _ _ _ _ _ _ HH.out) hsu t (by omega)
                            have hfw : ∀ t, t < d.size → wr.frozen? ⟨blk, off + t, none⟩ = false := fun t ht => by
                              rw [hw3, frozen?_putRow]; exact ((holds_ahead _ _ m3 _ _ _ HH.out) t ht).2
                            have HW := Lib.hid hw3
                            have HG := Lib.hid hG
                            clear hw3 hG
                            cases hl : ltn (G j) (G (j - 1)) with
                            | true =>
                              go_wp2
                              go_quiet (first | (go_at_call 151; refine Calls.quiet_of_same (less _ _ _)))
                              go_wp2
                              go_region
                              all_goals go_wp2
                              go_roundw
                              case rel =>
                                refine ⟨j + 1, m3 + (nq + 1), Sort.swp du j (j - 1), by go_num, by omega, by omega, by rw [size_swp]; exact hsu, ?_, ?_⟩
                                · rw [HW.out, HG.out, HG.out]
                                  exact swap_worldA _ w m3 (nq + 1) blk off du j (j - 1) (by omega) (by omega)
                                · show _ = _
                                  rw [← hU.out, shiftUp_go ltn b j du (by omega) (by rw [← HG.out, ← HG.out]; exact hl)]
                              case measure => first | (simp [intO]; done) | (simp [intO]; omega)
                            | false =>
                              have HUP : Hid (fixUp ltn b k dC = du) := by
                                show _ = _
                                unfold fixUp; rw [if_pos hb2, ← hU.out, shiftUp_stop ltn b j du (Or.inr (by rw [← HG.out, ← HG.out]; exact hl))]
                              go_wp2
                              go_quiet (first | (go_at_call 151; refine Calls.quiet_of_same (less _ _ _)))
                              go_wp2
                              go_roundw
                              case rel =>
                                refine ⟨k, s + 1, m3 + nq, du, rfl, by go_num, by omega, by omega, by omega, hsu, by rw [HW.out]; exact putRow_drewN _ _ _ _ _ _ _, ?_⟩
                                show _ = _
                                rw [← hO.out, pi_go ltn a b s i k dk hs HK.out (by omega) (by omega), HD.out, HUP.out]
                              case measure => first | (simp [intO]; done) | (simp [intO]; omega)
                          · have hjlti : ¬ (j : Int) < b := by omega
                            clear hw3
                            have HUP : Hid (fixUp ltn b k dC = du) := by
                              show _ = _
                              unfold fixUp; rw [if_pos hb2, ← hU.out, shiftUp_stop ltn b j du (Or.inl hjlt)]
                            go_wp2
                            go_roundw
                            case rel =>
                              refine ⟨k, s + 1, m3, du, rfl, by go_num, by omega, by omega, by omega, hsu, HW3.out, ?_⟩
                              show _ = _
                              rw [← hO.out, pi_go ltn a b s i k dk hs HK.out (by omega) (by omega), HD.out, HUP.out]
                            case measure => first | (simp [intO]; done) | (simp [intO]; omega)
                      · have hb2i : ¬ (2 : Int) ≤ (b : Int) - (k : Int) := by omega
                        have HUP : Hid (fixUp ltn b k dC = dC) := by show _ = _; unfold fixUp; rw [if_neg (by omega)]
                        go_wp2
                        go_roundw
                        case rel =>
                          refine ⟨k, s + 1, mC, dC, rfl, by go_num, by omega, by omega, by omega, hsC, HWC.out, ?_⟩
                          show _ = _
                          rw [← hO.out, pi_go ltn a b s i k dk hs HK.out (by omega) (by omega), HD.out, HUP.out]
                        case measure => first | (simp [intO]; done) | (simp [intO]; omega)
                  · have hj1i : ¬ (1 : Int) ≤ (j : Int) := by omega
                    have HD : Hid (fixDown ltn a k (Sort.swp dk k (k - 1)) = dj) := by
                      show _ = _
                      unfold fixDown; rw [if_pos hka, ← hDn.out, shiftDown_stop ltn j dj (Or.inl (by omega))]
                    have hsC := hsj
                    obtain ⟨dC, hdC⟩ : ∃ dC, dC = dj := ⟨_, rfl⟩
                    subst hdC
                    obtain ⟨mC, HWC⟩ : ∃ mC, Hid (wr = putRow en (Sort.ahead w mC) blk off dC) := ⟨m2, HW2.out⟩
                    clear hw2 HW2 hDn hjk hkai HW0
                    by_cases hb2 : 2 ≤ b - k
                    · have hb2i : (2 : Int) ≤ (b : Int) - (k : Int) := by omega
                      go_wp2
                      rw [HWC.out]
                      generalize hwC : putRow en (Sort.ahead w mC) blk off dC = wC
                      have HWD : Hid (wC = putRow en (Sort.ahead w mC) blk off dC) := hwC.symm
                      clear hwC HWC
                      go_loopw [10] (fun vj wr2 => ∃ (j m3 : Nat) (du : Array Nat), vj = .int .i64 j ∧ k + 1 ≤ j ∧ j ≤ b ∧ du.size = d.size ∧ wr2 = putRow en (Sort.ahead w m3) blk off du ∧ Hid (shiftUp ltn b j du = shiftUp ltn b (k + 1) dC)) (fun vj _ => b - (intO vj).toNat)
                      case atStart => exact ⟨k + 1, mC, dC, by go_num, Nat.le_refl _, by omega, hsC, HWD.out, rfl⟩
                      case round =>
                        obtain ⟨j, m3, du, rfl, hkj, hjb, hsu, hw3, hU⟩ := hrel
                        have HW3 := Lib.hid hw3
                        by_cases hjlt : j < b
                        · have hjlti : (j : Int) < b := by omega
                          obtain ⟨G, hG⟩ : ∃ G : Nat → Nat, ∀ t, G t = du[t]! := ⟨fun t => du[t]!, fun _ => rfl⟩
                          have hcw : ∀ t, t < d.size → wr.cell? ⟨blk, off + t, none⟩ = some (en (G t)) := fun t ht => by
                            rw [hw3, hG]; exact cell?_putRow _ _ _ _ d du (holds_ahead _ _ _ _ _ _ HH.out) hsu t (by omega)
                          have hfw : ∀ t, t < d.size → wr.frozen? ⟨blk, off + t, none⟩ = false := fun t ht => by
                            rw [hw3, frozen?_putRow]; exact ((holds_ahead _ _ m3 _ _ _ HH.out) t ht).2
                          have HW := Lib.hid hw3
                          have HG := Lib.hid hG
                          clear hw3 hG
                          cases hl : ltn (G j) (G (j - 1)) with
                          | true =>
                            go_wp2
                            go_quiet (first | (go_at_call 151; refine Calls.quiet_of_same (less _ _ _)))
                            go_wp2
                            go_region
                            all_goals go_wp2
                            go_roundw
                            case rel =>
                              refine ⟨j + 1, m3 + (nq + 1), Sort.swp du j (j - 1), by go_num, by omega, by omega, by rw [size_swp]; exact hsu, ?_, ?_⟩
                              · rw [HW.out, HG.out, HG.out]
                                exact swap_worldA _ w m3 (nq + 1) blk off du j (j - 1) (by omega) (by omega)
                              · show _ = _
                                rw [← hU.out, shiftUp_go ltn b j du (by omega) (by rw [← HG.out, ← HG.out]; exact hl)]
                            case measure => first | (simp [intO]; done) | (simp [intO]; omega)
                          | false =>
                            have HUP : Hid (fixUp ltn b k dC = du) := by
                              show _ = _
                              unfold fixUp; rw [if_pos hb2, ← hU.out, shiftUp_stop ltn b j du (Or.inr (by rw [← HG.out, ← HG.out]; exact hl))]
                            go_wp2
                            go_quiet (first | (go_at_call 151; refine Calls.quiet_of_same (less _ _ _)))
                            go_wp2
                            go_roundw
                            case rel =>
                              refine ⟨k, s + 1, m3 + nq, du, rfl, by go_num, by omega, by omega, by omega, hsu, by rw [HW.out]; exact putRow_drewN _ _ _ _ _ _ _, ?_⟩
                              show _ = _
                              rw [← hO.out, pi_go ltn a b s i k dk hs HK.out (by omega) (by omega), HD.out, HUP.out]
                            case measure => first | (simp [intO]; done) | (simp [intO]; omega)
                        · have hjlti : ¬ (j : Int) < b := by omega
                          clear hw3
                          have HUP : Hid (fixUp ltn b k dC = du) := by
                            show _ = _
                            unfold fixUp; rw [if_pos hb2, ← hU.out, shiftUp_stop ltn b j du (Or.inl hjlt)]
                          go_wp2
                          go_roundw
                          case rel =>
                            refine ⟨k, s + 1, m3, du, rfl, by go_num, by omega, by omega, by omega, hsu, HW3.out, ?_⟩
                            show _ = _
                            rw [← hO.out, pi_go ltn a b s i k dk hs HK.out (by omega) (by omega), HD.out, HUP.out]
                          case measure => first | (simp [intO]; done) | (simp [intO]; omega)
                    · have hb2i : ¬ (2 : Int) ≤ (b : Int) - (k : Int) := by omega
                      have HUP : Hid (fixUp ltn b k dC = dC) := by show _ = _; unfold fixUp; rw [if_neg (by omega)]
                      go_wp2
                      go_roundw
                      case rel =>
                        refine ⟨k, s + 1, mC, dC, rfl, by go_num, by omega, by omega, by omega, hsC, HWC.out, ?_⟩
                        show _ = _
                        rw [← hO.out, pi_go ltn a b s i k dk hs HK.out (by omega) (by omega), HD.out, HUP.out]
                      case measure => first | (simp [intO]; done) | (simp [intO]; omega)
              · have hkai : ¬ (2 : Int) ≤ (k : Int) - a := by omega
                have HD : Hid (fixDown ltn a k (Sort.swp dk k (k - 1)) = Sort.swp dk k (k - 1)) := by show _ = _; unfold fixDown; rw [if_neg (by omega)]
                obtain ⟨dC, hdC⟩ : ∃ dC, Sort.swp dk k (k - 1) = dC := ⟨_, rfl⟩
                have hsC := hs1
                have hsw2 := hsw
                rw [hdC] at hsC hsw2
                have HD2 := HD
                have hdC2 := hdC
                clear hl
                obtain ⟨mC, HWC⟩ : ∃ mC, Hid (((wr.drewN (nq + 1)).setCell ⟨blk, off + k, none⟩ (en (G (k - 1)))).setCell ⟨blk, off + (k - 1), none⟩ (en (G k)) = putRow en (Sort.ahead w mC) blk off dC) := ⟨_, hsw2⟩
                replace HD : Hid (fixDown ltn a k (Sort.swp dk k (k - 1)) = dC) := by show _ = _; rw [HD.out, hdC]
                clear hsw hsw2 hdC hdC2 HD2
                by_cases hb2 : 2 ≤ b - k
                · have hb2i : (2 : Int) ≤ (b : Int) - (k : Int) := by omega
                  go_wp2
                  rw [HWC.out]
                  generalize hwC : putRow en (Sort.ahead w mC) blk off dC = wC
                  have HWD : Hid (wC = putRow en (Sort.ahead w mC) blk off dC) := hwC.symm
                  clear hwC HWC
                  go_loopw [10] (fun vj wr2 => ∃ (j m3 : Nat) (du : Array Nat), vj = .int .i64 j ∧ k + 1 ≤ j ∧ j ≤ b ∧ du.size = d.size ∧ wr2 = putRow en (Sort.ahead w m3) blk off du ∧ Hid (shiftUp ltn b j du = shiftUp ltn b (k + 1) dC)) (fun vj _ => b - (intO vj).toNat)
                  case atStart => exact ⟨k + 1, mC, dC, by go_num, Nat.le_refl _, by omega, hsC, HWD.out, rfl⟩
                  case round =>
                    obtain ⟨j, m3, du, rfl, hkj, hjb, hsu, hw3, hU⟩ := hrel
                    have HW3 := Lib.hid hw3
                    by_cases hjlt : j < b
                    · have hjlti : (j : Int) < b := by omega
                      obtain ⟨G, hG⟩ : ∃ G : Nat → Nat, ∀ t, G t = du[t]! := ⟨fun t => du[t]!, fun _ => rfl⟩
                      have hcw : ∀ t, t < d.size → wr.cell? ⟨blk, off + t, none⟩ = some (en (G t)) := fun t ht => by
                        rw [hw3, hG]; exact cell?_putRow _ _ _ _ d du (holds_ahead _ _ _ _ _ _ HH.out) hsu t (by omega)
                      have hfw : ∀ t, t < d.size → wr.frozen? ⟨blk, off + t, none⟩ = false := fun t ht => by
                        rw [hw3, frozen?_putRow]; exact ((holds_ahead _ _ m3 _ _ _ HH.out) t ht).2
                      have HW := Lib.hid hw3
                      have HG := Lib.hid hG
                      clear hw3 hG
                      cases hl : ltn (G j) (G (j - 1)) with
                      | true =>
                        go_wp2
                        go_quiet (first | (go_at_call 151; refine Calls.quiet_of_same (less _ _ _)))
                        go_wp2
                        go_region
                        all_goals go_wp2
                        go_roundw
                        case rel =>
                          refine ⟨j + 1, m3 + (nq + 1), Sort.swp du j (j - 1), by go_num, by omega, by omega, by rw [size_swp]; exact hsu, ?_, ?_⟩
                          · rw [HW.out, HG.out, HG.out]
                            exact swap_worldA _ w m3 (nq + 1) blk off du j (j - 1) (by omega) (by omega)
                          · show _ = _
                            rw [← hU.out, shiftUp_go ltn b j du (by omega) (by rw [← HG.out, ← HG.out]; exact hl)]
                        case measure => first | (simp [intO]; done) | (simp [intO]; omega)
                      | false =>
                        have HUP : Hid (fixUp ltn b k dC = du) := by
                          show _ = _
                          unfold fixUp; rw [if_pos hb2, ← hU.out, shiftUp_stop ltn b j du (Or.inr (by rw [← HG.out, ← HG.out]; exact hl))]
                        go_wp2
                        go_quiet (first | (go_at_call 151; refine Calls.quiet_of_same (less _ _ _)))
                        go_wp2
                        go_roundw
                        case rel =>
                          refine ⟨k, s + 1, m3 + nq, du, rfl, by go_num, by omega, by omega, by omega, hsu, by rw [HW.out]; exact putRow_drewN _ _ _ _ _ _ _, ?_⟩
                          show _ = _
                          rw [← hO.out, pi_go ltn a b s i k dk hs HK.out (by omega) (by omega), HD.out, HUP.out]
                        case measure => first | (simp [intO]; done) | (simp [intO]; omega)
                    · have hjlti : ¬ (j : Int) < b := by omega
                      clear hw3
                      have HUP : Hid (fixUp ltn b k dC = du) := by
                        show _ = _
                        unfold fixUp; rw [if_pos hb2, ← hU.out, shiftUp_stop ltn b j du (Or.inl hjlt)]
                      go_wp2
                      go_roundw
                      case rel =>
                        refine ⟨k, s + 1, m3, du, rfl, by go_num, by omega, by omega, by omega, hsu, HW3.out, ?_⟩
                        show _ = _
                        rw [← hO.out, pi_go ltn a b s i k dk hs HK.out (by omega) (by omega), HD.out, HUP.out]
                      case measure => first | (simp [intO]; done) | (simp [intO]; omega)
                · have hb2i : ¬ (2 : Int) ≤ (b : Int) - (k : Int) := by omega
                  have HUP : Hid (fixUp ltn b k dC = dC) := by show _ = _; unfold fixUp; rw [if_neg (by omega)]
                  go_wp2
                  go_roundw
                  case rel =>
                    refine ⟨k, s + 1, mC, dC, rfl, by go_num, by omega, by omega, by omega, hsC, HWC.out, ?_⟩
                    show _ = _
                    rw [← hO.out, pi_go ltn a b s i k dk hs HK.out (by omega) (by omega), HD.out, HUP.out]
                  case measure => first | (simp [intO]; done) | (simp [intO]; omega)
        · have hkbi : ¬ (k : Int) < b := by omega
          have hv : Sort.partialInsertionSort ltn d a b = (dk, true) := by
            unfold Sort.partialInsertionSort
            rw [← hO.out, pi_true ltn a b s i dk hs (by rw [← hS.out, scanSorted_stop ltn dk b k (Or.inl hkb')]; omega)]
          have HV := Lib.hid hv
          have hkeq : ((k : Int) == b) = true := by rw [beq_iff_eq]; omega
          clear hv
          go_wp2
          go_quiet (first | (go_at_call 151; refine Calls.quiet_of_same (less _ _ _)))
          go_wp2
          go_ret
          exact ⟨by rw [HV.out]; rfl, m + nq, by rw [HV.out, HW.out]; exact putRow_drewN _ _ _ _ _ _ _⟩
    · have hsi : ¬ (s : Int) < 5 := by omega
      have hv : Sort.partialInsertionSort ltn d a b = (dk, false) := by
        unfold Sort.partialInsertionSort
        obtain rfl : s = 5 := by omega
        rw [← hO.out, pi_end]
      have HV := Lib.hid hv
      have HWR := Lib.hid hwr
      clear hv hwr
      go_wp2
      go_ret
      exact ⟨by rw [HV.out]; rfl, n, by rw [HV.out]; exact HWR.out⟩
end Go.Proofs.YtfckgddodjmbdaaGreatDoor.sortUint16
namespace Go.Proofs.YtfckgddodjmbdaaGreatDoor.sortUint16
set_option linter.unusedVariables false
set_option linter.unusedSimpArgs false
open Go.RowKit Go.Sort Go.Proofs.YtfckgddodjmbdaaGreatDoor
set_option maxRecDepth 100000 in
set_option maxHeartbeats 16000000 in
theorem partU (blk off cap a b pivot : Nat) (d : Array Nat) (w : World) (hH : Holds en w blk off d) (hap : a ≤ pivot) (hpb : pivot < b) (hb : b ≤ d.size) (hsz : d.size < 4611686018427387904) :
    Calls Tryz.prog 153 #[.slice (some ⟨blk, off, none⟩) d.size cap, .int .i64 a, .int .i64 b, .int .i64 pivot] w fun e w' =>
      e = .returned (.tuple #[.int .i64 (Sort.partition ltn d a b pivot).1, .bool (Sort.partition ltn d a b pivot).2.1]) ∧ ∃ n, w' = putRow en (Sort.ahead w n) blk off (Sort.partition ltn d a b pivot).2.2 := by
  obtain ⟨G, hG⟩ : ∃ G : Nat → Nat, ∀ t, G t = d[t]! := ⟨fun t => d[t]!, fun _ => rfl⟩
  have hcw : ∀ t, t < d.size → w.cell? ⟨blk, off + t, none⟩ = some (en (G t)) := fun t ht => by rw [hG]; exact (hH t ht).1
  have hfw : ∀ t, t < d.size → w.frozen? ⟨blk, off + t, none⟩ = false := fun t ht => (hH t ht).2
  have hsw : ((w.drewN 1).setCell ⟨blk, off + a, none⟩ (en (G pivot))).setCell ⟨blk, off + pivot, none⟩ (en (G a)) = putRow en (Sort.ahead w (0 + 1)) blk off (Sort.swp d a pivot) := by
    have e := swap_worldA en w 0 1 blk off d a pivot (by omega) (by omega)
    rw [ahead_zero, putRow_self _ w blk off d hH] at e
    rw [hG, hG]
    exact e
  have hla : a < d.size := by omega
  have hlp : pivot < d.size := by omega
  obtain ⟨v', hy'⟩ := cell?_setCell_some (w := w) (p := ⟨blk, off + a, none⟩) (x := en (G pivot)) (q := ⟨blk, off + pivot, none⟩) (hcw pivot hlp)
  have HH := Lib.hid hH
  have HSW := Lib.hid hsw
  clear hH hG hsw
  go_enter Tryz.func153, Tryz.ntmps153
  go_wp2
  go_region
  go_wp2
  clear hcw hfw hy'
  have e1 : ((a : Int) + 1) = ((a + 1 : Nat) : Int) := by omega
  have e2 : ((b : Int) - 1) = ((b - 1 : Nat) : Int) := by omega
  rw [e1, e2]
  clear e1 e2
  obtain ⟨i, hi⟩ : ∃ i, i = a + 1 := ⟨_, rfl⟩
  obtain ⟨j, hj⟩ : ∃ j, j = b - 1 := ⟨_, rfl⟩
  obtain ⟨dk, hdk⟩ : ∃ dk, dk = Sort.swp d a pivot := ⟨_, rfl⟩
  rw [← hi, ← hj]
  rw [← hdk] at HSW
  have hai : a < i := by omega
  have hij : i ≤ j + 1 := by omega
  have hjb : j < b := by omega
  have hsk : dk.size = d.size := by rw [hdk, size_swp]
  obtain ⟨n, HWR⟩ : ∃ n, Hid (((w.drewN 1).setCell ⟨blk, off + a, none⟩ (en (G pivot))).setCell ⟨blk, off + pivot, none⟩ (en (G a)) = putRow en (Sort.ahead w n) blk off dk) := ⟨_, HSW.out⟩
  have HI := Lib.hid hi
  have HJ := Lib.hid hj
  have HDK := Lib.hid hdk
  clear hi hj hdk HSW
  obtain ⟨G, hG⟩ : ∃ G : Nat → Nat, ∀ t, G t = dk[t]! := ⟨fun t => dk[t]!, fun _ => rfl⟩
  have HG := Lib.hid hG
  clear hG
  go_loopw [10] (fun vi wr2 => ∃ (i' m : Nat), vi = .int .i64 i' ∧ i ≤ i' ∧ i' ≤ j + 1 ∧ wr2 = putRow en (Sort.ahead w m) blk off dk ∧
      Hid (scanUp (fun x => ltn x dk[a]!) dk j i' = scanUp (fun x => ltn x dk[a]!) dk j i)) (fun vi _ => j + 1 - (intO vi).toNat)
  case atStart => exact ⟨i, n, rfl, Nat.le_refl _, hij, HWR.out, rfl⟩
  case round =>
    obtain ⟨i', m, rfl, hii, hij', hw1, hsc⟩ := hrel
    have hcw : ∀ t, t < d.size → wr.cell? ⟨blk, off + t, none⟩ = some (en (G t)) := fun t ht => by
      rw [hw1, HG.out]; exact cell?_putRow _ _ _ _ d dk (holds_ahead _ _ _ _ _ _ HH.out) hsk t (by omega)
    have hfw : ∀ t, t < d.size → wr.frozen? ⟨blk, off + t, none⟩ = false := fun t ht => by
      rw [hw1, frozen?_putRow]; exact ((holds_ahead _ _ m _ _ _ HH.out) t ht).2
    have HW1 := Lib.hid hw1
    clear hw1
    by_cases hle : i' ≤ j
    · have hlei : (i' : Int) ≤ j := by omega
      cases hl : ltn (G i') (G a) with
      | true =>
        go_wp2
        go_quiet (first | (go_at_call 151; refine Calls.quiet_of_same (less _ _ _)))
        go_wp2
        go_roundw
        case rel =>
          refine ⟨i' + 1, m + nq, by go_num, by omega, by omega, by rw [HW1.out]; exact putRow_drewN _ _ _ _ _ _ _, ?_⟩
          show _ = _
          rw [← hsc.out]
          exact (scanUp_go (fun x => ltn x dk[a]!) dk j i' hle (by rw [← HG.out, ← HG.out]; exact hl)).symm
        case measure => first | (simp [intO]; done) | (simp [intO]; omega)
      | false =>
        have hi2 : Hid (i' = scanUp (fun x => ltn x dk[a]!) dk j i) := (scanUp_end (fun x => ltn x dk[a]!) dk j i' (Or.inr (by rw [← HG.out, ← HG.out]; exact hl))).symm.trans hsc.out
        go_wp2
        go_quiet (first | (go_at_call 151; refine Calls.quiet_of_same (less _ _ _)))
        obtain ⟨mU, HWU⟩ : ∃ mU, Hid (wr.drewN nq = putRow en (Sort.ahead w mU) blk off dk) := ⟨m + nq, by show _ = _; rw [HW1.out]; exact putRow_drewN _ _ _ _ _ _ _⟩
        clear hcw hfw HW1 hsc
        go_wp2
        go_loopw [11] (fun vj wr2 => ∃ (j' m2 : Nat), vj = .int .i64 j' ∧ j' ≤ j ∧ i' ≤ j' + 1 ∧ wr2 = putRow en (Sort.ahead w m2) blk off dk ∧
            Hid (scanDown (fun x => !ltn x dk[a]!) dk i' j' = scanDown (fun x => !ltn x dk[a]!) dk i' j)) (fun vj _ => (intO vj).toNat)
        case atStart => exact ⟨j, mU, rfl, Nat.le_refl _, hij', HWU.out, rfl⟩
        case round =>
          obtain ⟨j', m2, rfl, hjj, hij2, hw2, hsd⟩ := hrel
          have hcw : ∀ t, t < d.size → wr.cell? ⟨blk, off + t, none⟩ = some (en (G t)) := fun t ht => by
            rw [hw2, HG.out]; exact cell?_putRow _ _ _ _ d dk (holds_ahead _ _ _ _ _ _ HH.out) hsk t (by omega)
          have hfw : ∀ t, t < d.size → wr.frozen? ⟨blk, off + t, none⟩ = false := fun t ht => by
            rw [hw2, frozen?_putRow]; exact ((holds_ahead _ _ m2 _ _ _ HH.out) t ht).2
          have HW2 := Lib.hid hw2
          clear hw2
          by_cases hle2 : i' ≤ j'
          · have hle2i : (i' : Int) ≤ j' := by omega
            cases hl2 : ltn (G j') (G a) with
            | false =>
              go_wp2
              go_quiet (first | (go_at_call 151; refine Calls.quiet_of_same (less _ _ _)))
              go_wp2
              go_roundw
              case rel =>
                refine ⟨j' - 1, m2 + nq, by congr 1; omega, by omega, by omega, by rw [HW2.out]; exact putRow_drewN _ _ _ _ _ _ _, ?_⟩
                show _ = _
                rw [← hsd.out]
                exact (scanDown_go (fun x => !ltn x dk[a]!) dk i' j' hle2 (by omega) (by rw [← HG.out, ← HG.out, hl2]; rfl)).symm
              case measure => first | (simp [intO]; done) | (simp [intO]; omega)
            | true =>
              have hj2 : Hid (j' = scanDown (fun x => !ltn x dk[a]!) dk i' j) := (scanDown_end (fun x => !ltn x dk[a]!) dk i' j' (Or.inr (by rw [← HG.out, ← HG.out, hl2]; rfl))).symm.trans hsd.out
              have hlt3 := part_scans_lt ltn a i j dk (by omega) hi2.out hj2.out hle2
              have hgt : ¬ (j' : Int) < i' := by omega
              go_wp2
              go_quiet (first | (go_at_call 151; refine Calls.quiet_of_same (less _ _ _)))
              go_wp2
              go_region
              all_goals go_wp2
              obtain ⟨dn, hdn⟩ : ∃ dn, Sort.swp dk i' j' = dn := ⟨_, rfl⟩
              have hsn : dn.size = d.size := by rw [← hdn, size_swp]; exact hsk
              obtain ⟨R, hR⟩ : ∃ R, partLoop ltn a (i' + 1) (j' - 1) dn = R := ⟨_, rfl⟩
              have hP : Sort.partition ltn d a b pivot = (R.1, false, Sort.swp R.2 R.1 a) := by
                rw [part_first_go ltn d a b pivot HI.out HJ.out HDK.out hi2.out hj2.out (by omega), hdn, hR]
              have hWn : ((wr.drewN (nq + 1)).setCell ⟨blk, off + i', none⟩ (en (G j'))).setCell ⟨blk, off + j', none⟩ (en (G i')) = putRow en (Sort.ahead w (m2 + (nq + 1))) blk off dn := by
                rw [HW2.out, HG.out, HG.out, ← hdn]
                exact swap_worldA _ w m2 (nq + 1) blk off dk i' j' (by omega) (by omega)
              have HP := Lib.hid hP
              have HR := Lib.hid hR
              have HWn := Lib.hid hWn
              clear hP hR hWn hdn hcw hfw HG HW2 HI HJ HDK hi2 hj2 hsd
              generalize Value.bool (decide (j' < i')) = x65
              generalize Value.bool (ltn (G j') (G a)) = x58
              go_loopw [10, 11] (fun vi vj wr => ∃ (i j n : Nat) (dk : Array Nat), vi = .int .i64 i ∧ vj = .int .i64 j ∧ a < i ∧ i ≤ j + 1 ∧ j < b ∧ dk.size = d.size ∧ wr = putRow en (Sort.ahead w n) blk off dk ∧
                  Hid (partLoop ltn a i j dk = partLoop ltn a (i' + 1) (j' - 1) dn)) (fun vi vj _ => (intO vj).toNat + 1 - (intO vi).toNat)
              case atStart => exact ⟨i' + 1, j' - 1, _, dn, by go_num, by congr 1; omega, by omega, by omega, by omega, hsn, HWn.out, rfl⟩
              case round =>
                clear HWn hsk hai hij hjb hij' hij2 hlt3
                rename_i i1 j1 _ _
                obtain ⟨i, j, n, dk, rfl, rfl, hai, hij, hjb, hsk, hwr, hE⟩ := hrel
                obtain ⟨G, hG⟩ : ∃ G : Nat → Nat, ∀ t, G t = dk[t]! := ⟨fun t => dk[t]!, fun _ => rfl⟩
                have HG := Lib.hid hG
                have HWR := Lib.hid hwr
                clear hG hwr
                go_wp2
                go_loopw [10] (fun vi wr2 => ∃ (i' m : Nat), vi = .int .i64 i' ∧ i ≤ i' ∧ i' ≤ j + 1 ∧ wr2 = putRow en (Sort.ahead w m) blk off dk ∧
                    Hid (scanUp (fun x => ltn x dk[a]!) dk j i' = scanUp (fun x => ltn x dk[a]!) dk j i)) (fun vi _ => j + 1 - (intO vi).toNat)
                case atStart => exact ⟨i, n, rfl, Nat.le_refl _, hij, HWR.out, rfl⟩
                case round =>
                  obtain ⟨i', m, rfl, hii, hij', hw1, hsc⟩ := hrel
                  have hcw : ∀ t, t < d.size → wr.cell? ⟨blk, off + t, none⟩ = some (en (G t)) := fun t ht => by
                    rw [hw1, HG.out]; exact cell?_putRow _ _ _ _ d dk (holds_ahead _ _ _ _ _ _ HH.out) hsk t (by omega)
                  have hfw : ∀ t, t < d.size → wr.frozen? ⟨blk, off + t, none⟩ = false := fun t ht => by
                    rw [hw1, frozen?_putRow]; exact ((holds_ahead _ _ m _ _ _ HH.out) t ht).2
                  have HW1 := Lib.hid hw1
                  clear hw1
                  by_cases hle : i' ≤ j
                  · have hlei : (i' : Int) ≤ j := by omega
                    cases hl : ltn (G i') (G a) with
                    | true =>
                      go_wp2
                      go_quiet (first | (go_at_call 151; refine Calls.quiet_of_same (less _ _ _)))
                      go_wp2
                      go_roundw
                      case rel =>
                        refine ⟨i' + 1, m + nq, by go_num, by omega, by omega, by rw [HW1.out]; exact putRow_drewN _ _ _ _ _ _ _, ?_⟩
                        show _ = _
                        rw [← hsc.out]
                        exact (scanUp_go (fun x => ltn x dk[a]!) dk j i' hle (by rw [← HG.out, ← HG.out]; exact hl)).symm
                      case measure => first | (simp [intO]; done) | (simp [intO]; omega)
                    | false =>
                      have hi2 : Hid (i' = scanUp (fun x => ltn x dk[a]!) dk j i) := (scanUp_end (fun x => ltn x dk[a]!) dk j i' (Or.inr (by rw [← HG.out, ← HG.out]; exact hl))).symm.trans hsc.out
                      go_wp2
                      go_quiet (first | (go_at_call 151; refine Calls.quiet_of_same (less _ _ _)))
                      obtain ⟨mU, HWU⟩ : ∃ mU, Hid (wr.drewN nq = putRow en (Sort.ahead w mU) blk off dk) := ⟨m + nq, by show _ = _; rw [HW1.out]; exact putRow_drewN _ _ _ _ _ _ _⟩
                      clear hcw hfw HW1 hsc
                      go_wp2
                      go_loopw [11] (fun vj wr2 => ∃ (j' m2 : Nat), vj = .int .i64 j' ∧ j' ≤ j ∧ i' ≤ j' + 1 ∧ wr2 = putRow en (Sort.ahead w m2) blk off dk ∧
                          Hid (scanDown (fun x => !ltn x dk[a]!) dk i' j' = scanDown (fun x => !ltn x dk[a]!) dk i' j)) (fun vj _ => (intO vj).toNat)
                      case atStart => exact ⟨j, mU, rfl, Nat.le_refl _, hij', HWU.out, rfl⟩
                      case round =>
                        obtain ⟨j', m2, rfl, hjj, hij2, hw2, hsd⟩ := hrel
                        have hcw : ∀ t, t < d.size → wr.cell? ⟨blk, off + t, none⟩ = some (en (G t)) := fun t ht => by
                          rw [hw2, HG.out]; exact cell?_putRow _ _ _ _ d dk (holds_ahead _ _ _ _ _ _ HH.out) hsk t (by omega)
                        have hfw : ∀ t, t < d.size → wr.frozen? ⟨blk, off + t, none⟩ = false := fun t ht => by
                          rw [hw2, frozen?_putRow]; exact ((holds_ahead _ _ m2 _ _ _ HH.out) t ht).2
                        have HW2 := Lib.hid hw2
                        clear hw2
                        by_cases hle2 : i' ≤ j'
                        · have hle2i : (i' : Int) ≤ j' := by omega
                          cases hl2 : ltn (G j') (G a) with
                          | false =>
                            go_wp2
                            go_quiet (first | (go_at_call 151; refine Calls.quiet_of_same (less _ _ _)))
                            go_wp2
                            go_roundw
                            case rel =>
                              refine ⟨j' - 1, m2 + nq, by congr 1; omega, by omega, by omega, by rw [HW2.out]; exact putRow_drewN _ _ _ _ _ _ _, ?_⟩
                              show _ = _
                              rw [← hsd.out]
                              exact (scanDown_go (fun x => !ltn x dk[a]!) dk i' j' hle2 (by omega) (by rw [← HG.out, ← HG.out, hl2]; rfl)).symm
                            case measure => first | (simp [intO]; done) | (simp [intO]; omega)
                          | true =>
                            have hj2 : Hid (j' = scanDown (fun x => !ltn x dk[a]!) dk i' j) := (scanDown_end (fun x => !ltn x dk[a]!) dk i' j' (Or.inr (by rw [← HG.out, ← HG.out, hl2]; rfl))).symm.trans hsd.out
                            have hlt3 := part_scans_lt ltn a i j dk (by omega) hi2.out hj2.out hle2
                            have hgt : ¬ (j' : Int) < i' := by omega
                            go_wp2
                            go_quiet (first | (go_at_call 151; refine Calls.quiet_of_same (less _ _ _)))
                            go_wp2
                            go_region
                            all_goals go_wp2
                            go_roundw
                            case rel =>
                              refine ⟨i' + 1, j' - 1, m2 + (nq + 1), Sort.swp dk i' j', by go_num, by congr 1; omega, by omega, by omega, by omega, by rw [size_swp]; exact hsk, ?_, ?_⟩
                              · rw [HW2.out, HG.out, HG.out]
                                exact swap_worldA _ w m2 (nq + 1) blk off dk i' j' (by omega) (by omega)
                              · show _ = _
                                rw [← hE.out]; exact (part_go ltn a i j dk hi2.out hj2.out (by omega)).symm
                            case measure => first | (simp [intO]; done) | (simp [intO]; omega)
                        · have hle2i : ¬ (i' : Int) ≤ j' := by omega
                          have hj2 : Hid (j' = scanDown (fun x => !ltn x dk[a]!) dk i' j) := (scanDown_end (fun x => !ltn x dk[a]!) dk i' j' (Or.inl hle2)).symm.trans hsd.out
                          have hgt : (j' : Int) < i' := by omega
                          have hjd : j' < d.size := by omega
                          have had : a < d.size := by omega
                          have hv : Sort.partition ltn d a b pivot = (j', false, Sort.swp dk j' a) := by
                            rw [HP.out, ← HR.out, ← hE.out, part_break ltn a i j dk hi2.out hj2.out (by omega)]
                          have HV := Lib.hid hv
                          clear hv
                          go_wp2
                          go_quiet (first | (go_at_call 151; refine Calls.quiet_of_same (less _ _ _)))
                          obtain ⟨v', hy'⟩ := cell?_setCell_some (w := wr.drewN (nq + 1)) (p := ⟨blk, off + j', none⟩) (x := en (G a)) (q := ⟨blk, off + a, none⟩) (hcw a had)
                          go_wp2
                          go_region
                          go_wp2
                          go_ret2
                          refine ⟨by rw [HV.out]; rfl, m2 + (nq + 1), ?_⟩
                          rw [HV.out, HW2.out, HG.out, HG.out]
                          exact swap_worldA _ w m2 (nq + 1) blk off dk j' a (by omega) (by omega)
                  · have hlei : ¬ (i' : Int) ≤ j := by omega
                    have hi2 : Hid (i' = scanUp (fun x => ltn x dk[a]!) dk j i) := (scanUp_end (fun x => ltn x dk[a]!) dk j i' (Or.inl hle)).symm.trans hsc.out
                    go_wp2
                    go_quiet (first | (go_at_call 151; refine Calls.quiet_of_same (less _ _ _)))
                    obtain ⟨mU, HWU⟩ : ∃ mU, Hid (wr.drewN nq = putRow en (Sort.ahead w mU) blk off dk) := ⟨m + nq, by show _ = _; rw [HW1.out]; exact putRow_drewN _ _ _ _ _ _ _⟩
                    clear hcw hfw HW1 hsc
                    go_wp2
                    go_loopw [11] (fun vj wr2 => ∃ (j' m2 : Nat), vj = .int .i64 j' ∧ j' ≤ j ∧ i' ≤ j' + 1 ∧ wr2 = putRow en (Sort.ahead w m2) blk off dk ∧
                        Hid (scanDown (fun x => !ltn x dk[a]!) dk i' j' = scanDown (fun x => !ltn x dk[a]!) dk i' j)) (fun vj _ => (intO vj).toNat)
                    case atStart => exact ⟨j, mU, rfl, Nat.le_refl _, hij', HWU.out, rfl⟩
                    case round =>
                      obtain ⟨j', m2, rfl, hjj, hij2, hw2, hsd⟩ := hrel
                      have hcw : ∀ t, t < d.size → wr.cell? ⟨blk, off + t, none⟩ = some (en (G t)) := fun t ht => by
                        rw [hw2, HG.out]; exact cell?_putRow _ _ _ _ d dk (holds_ahead _ _ _ _ _ _ HH.out) hsk t (by omega)
                      have hfw : ∀ t, t < d.size → wr.frozen? ⟨blk, off + t, none⟩ = false := fun t ht => by
                        rw [hw2, frozen?_putRow]; exact ((holds_ahead _ _ m2 _ _ _ HH.out) t ht).2
                      have HW2 := Lib.hid hw2
                      clear hw2
                      by_cases hle2 : i' ≤ j'
                      · exfalso; omega
                      · have hle2i : ¬ (i' : Int) ≤ j' := by omega
                        have hj2 : Hid (j' = scanDown (fun x => !ltn x dk[a]!) dk i' j) := (scanDown_end (fun x => !ltn x dk[a]!) dk i' j' (Or.inl hle2)).symm.trans hsd.out
                        have hgt : (j' : Int) < i' := by omega
                        have hjd : j' < d.size := by omega
                        have had : a < d.size := by omega
                        have hv : Sort.partition ltn d a b pivot = (j', false, Sort.swp dk j' a) := by
                          rw [HP.out, ← HR.out, ← hE.out, part_break ltn a i j dk hi2.out hj2.out (by omega)]
                        have HV := Lib.hid hv
                        clear hv
                        go_wp2
                        go_quiet (first | (go_at_call 151; refine Calls.quiet_of_same (less _ _ _)))
                        obtain ⟨v', hy'⟩ := cell?_setCell_some (w := wr.drewN (nq + 1)) (p := ⟨blk, off + j', none⟩) (x := en (G a)) (q := ⟨blk, off + a, none⟩) (hcw a had)
                        go_wp2
                        go_region
                        go_wp2
                        go_ret2
                        refine ⟨by rw [HV.out]; rfl, m2 + (nq + 1), ?_⟩
                        rw [HV.out, HW2.out, HG.out, HG.out]
                        exact swap_worldA _ w m2 (nq + 1) blk off dk j' a (by omega) (by omega)
          · have hle2i : ¬ (i' : Int) ≤ j' := by omega
            have hj2 : Hid (j' = scanDown (fun x => !ltn x dk[a]!) dk i' j) := (scanDown_end (fun x => !ltn x dk[a]!) dk i' j' (Or.inl hle2)).symm.trans hsd.out
            have hgt : (j' : Int) < i' := by omega
            have hjd : j' < d.size := by omega
            have had : a < d.size := by omega
            have hv : Sort.partition ltn d a b pivot = (j', true, Sort.swp dk j' a) := part_first_break ltn d a b pivot HI.out HJ.out HDK.out hi2.out hj2.out (by omega)
            have HV := Lib.hid hv
            clear hv
            go_wp2
            go_quiet (first | (go_at_call 151; refine Calls.quiet_of_same (less _ _ _)))
            obtain ⟨v', hy'⟩ := cell?_setCell_some (w := wr.drewN (nq + 1)) (p := ⟨blk, off + j', none⟩) (x := en (G a)) (q := ⟨blk, off + a, none⟩) (hcw a had)
            go_wp2
            go_region
            go_wp2
            go_ret2
            refine ⟨by rw [HV.out]; rfl, m2 + (nq + 1), ?_⟩
            rw [HV.out, HW2.out, HG.out, HG.out]
            exact swap_worldA _ w m2 (nq + 1) blk off dk j' a (by omega) (by omega)
    · have hlei : ¬ (i' : Int) ≤ j := by omega
      have hi2 : Hid (i' = scanUp (fun x => ltn x dk[a]!) dk j i) := (scanUp_end (fun x => ltn x dk[a]!) dk j i' (Or.inl hle)).symm.trans hsc.out
      go_wp2
      go_quiet (first | (go_at_call 151; refine Calls.quiet_of_same (less _ _ _)))
      obtain ⟨mU, HWU⟩ : ∃ mU, Hid (wr.drewN nq = putRow en (Sort.ahead w mU) blk off dk) := ⟨m + nq, by show _ = _; rw [HW1.out]; exact putRow_drewN _ _ _ _ _ _ _⟩
      clear hcw hfw HW1 hsc
      go_wp2
      go_loopw [11] (fun vj wr2 => ∃ (j' m2 : Nat), vj = .int .i64 j' ∧ j' ≤ j ∧ i' ≤ j' + 1 ∧ wr2 = putRow en (Sort.ahead w m2) blk off dk ∧
          Hid (scanDown (fun x => !ltn x dk[a]!) dk i' j' = scanDown (fun x => !ltn x dk[a]!) dk i' j)) (fun vj _ => (intO vj).toNat)
      case atStart => exact ⟨j, mU, rfl, Nat.le_refl _, hij', HWU.out, rfl⟩
      case round =>
        obtain ⟨j', m2, rfl, hjj, hij2, hw2, hsd⟩ := hrel
        have hcw : ∀ t, t < d.size → wr.cell? ⟨blk, off + t, none⟩ = some (en (G t)) := fun t ht => by
          rw [hw2, HG.out]; exact cell?_putRow _ _ _ _ d dk (holds_ahead _ _ _ _ _ _ HH.out) hsk t (by omega)
        have hfw : ∀ t, t < d.size → wr.frozen? ⟨blk, off + t, none⟩ = false := fun t ht => by
          rw [hw2, frozen?_putRow]; exact ((holds_ahead _ _ m2 _ _ _ HH.out) t ht).2
        have HW2 := Lib.hid hw2
        clear hw2
        by_cases hle2 : i' ≤ j'
        · exfalso; omega
        · have hle2i : ¬ (i' : Int) ≤ j' := by omega
          have hj2 : Hid (j' = scanDown (fun x => !ltn x dk[a]!) dk i' j) := (scanDown_end (fun x => !ltn x dk[a]!) dk i' j' (Or.inl hle2)).symm.trans hsd.out
          have hgt : (j' : Int) < i' := by omega
          have hjd : j' < d.size := by omega
          have had : a < d.size := by omega
          have hv : Sort.partition ltn d a b pivot = (j', true, Sort.swp dk j' a) := part_first_break ltn d a b pivot HI.out HJ.out HDK.out hi2.out hj2.out (by omega)
          have HV := Lib.hid hv
          clear hv
          go_wp2
          go_quiet (first | (go_at_call 151; refine Calls.quiet_of_same (less _ _ _)))
          obtain ⟨v', hy'⟩ := cell?_setCell_some (w := wr.drewN (nq + 1)) (p := ⟨blk, off + j', none⟩) (x := en (G a)) (q := ⟨blk, off + a, none⟩) (hcw a had)
          go_wp2
          go_region
          go_wp2
          go_ret2
          refine ⟨by rw [HV.out]; rfl, m2 + (nq + 1), ?_⟩
          rw [HV.out, HW2.out, HG.out, HG.out]
          exact swap_worldA _ w m2 (nq + 1) blk off dk j' a (by omega) (by omega)
end Go.Proofs.YtfckgddodjmbdaaGreatDoor.sortUint16
namespace Go.Proofs.YtfckgddodjmbdaaGreatDoor.sortUint16
set_option linter.unusedVariables false
set_option linter.unusedSimpArgs false
open Go.RowKit Go.Sort Go.Proofs.YtfckgddodjmbdaaGreatDoor
set_option maxRecDepth 100000 in
set_option maxHeartbeats 16000000 in
theorem partEqU (blk off cap a b pivot : Nat) (d : Array Nat) (w : World) (hH : Holds en w blk off d) (hap : a ≤ pivot) (hpb : pivot < b) (hb : b ≤ d.size) (hsz : d.size < 4611686018427387904) :
    Calls Tryz.prog 152 #[.slice (some ⟨blk, off, none⟩) d.size cap, .int .i64 a, .int .i64 b, .int .i64 pivot] w fun e w' =>
      e = .returned (.int .i64 (Sort.partitionEqual ltn d a b pivot).1) ∧ ∃ n, w' = putRow en (Sort.ahead w n) blk off (Sort.partitionEqual ltn d a b pivot).2 := by
  obtain ⟨G, hG⟩ : ∃ G : Nat → Nat, ∀ t, G t = d[t]! := ⟨fun t => d[t]!, fun _ => rfl⟩
  have hcw : ∀ t, t < d.size → w.cell? ⟨blk, off + t, none⟩ = some (en (G t)) := fun t ht => by rw [hG]; exact (hH t ht).1
  have hfw : ∀ t, t < d.size → w.frozen? ⟨blk, off + t, none⟩ = false := fun t ht => (hH t ht).2
  have hsw : ((w.drewN 1).setCell ⟨blk, off + a, none⟩ (en (G pivot))).setCell ⟨blk, off + pivot, none⟩ (en (G a)) = putRow en (Sort.ahead w (0 + 1)) blk off (Sort.swp d a pivot) := by
    have e := swap_worldA en w 0 1 blk off d a pivot (by omega) (by omega)
    rw [ahead_zero, putRow_self _ w blk off d hH] at e
    rw [hG, hG]
    exact e
  have hla : a < d.size := by omega
  have hlp : pivot < d.size := by omega
  obtain ⟨v', hy'⟩ := cell?_setCell_some (w := w) (p := ⟨blk, off + a, none⟩) (x := en (G pivot)) (q := ⟨blk, off + pivot, none⟩) (hcw pivot hlp)
  have HH := Lib.hid hH
  have HG := Lib.hid hG
  have HSW := Lib.hid hsw
  clear hH hG hsw
  go_enter Tryz.func152, Tryz.ntmps152
  go_wp2
  go_region
  go_wp2
  clear hcw hfw HG hy'
  go_loopw [9, 10] (fun vi vj wr => ∃ (i j n : Nat) (dk : Array Nat), vi = .int .i64 i ∧ vj = .int .i64 j ∧ a < i ∧ i ≤ j + 1 ∧ j < b ∧ dk.size = d.size ∧ wr = putRow en (Sort.ahead w n) blk off dk ∧
      Hid (partEqLoop ltn a i j dk = partEqLoop ltn a (a + 1) (b - 1) (Sort.swp d a pivot))) (fun vi vj _ => (intO vj).toNat + 1 - (intO vi).toNat)
  case atStart => exact ⟨a + 1, b - 1, 0 + 1, Sort.swp d a pivot, by go_num, by congr 1; omega, by omega, by omega, by omega, size_swp _ _ _, HSW.out, rfl⟩
  case round =>
    clear HSW
    obtain ⟨i, j, n, dk, rfl, rfl, hai, hij, hjb, hsk, hwr, hE⟩ := hrel
    obtain ⟨G, hG⟩ : ∃ G : Nat → Nat, ∀ t, G t = dk[t]! := ⟨fun t => dk[t]!, fun _ => rfl⟩
    have HG := Lib.hid hG
    have HWR := Lib.hid hwr
    clear hG hwr
    go_wp2
    go_loopw [9] (fun vi wr2 => ∃ (i' m : Nat), vi = .int .i64 i' ∧ i ≤ i' ∧ i' ≤ j + 1 ∧ wr2 = putRow en (Sort.ahead w m) blk off dk ∧
        Hid (scanUp (fun x => !ltn dk[a]! x) dk j i' = scanUp (fun x => !ltn dk[a]! x) dk j i)) (fun vi _ => j + 1 - (intO vi).toNat)
    case atStart => exact ⟨i, n, rfl, Nat.le_refl _, hij, HWR.out, rfl⟩
    case round =>
      obtain ⟨i', m, rfl, hii, hij', hw1, hsc⟩ := hrel
      have hcw : ∀ t, t < d.size → wr.cell? ⟨blk, off + t, none⟩ = some (en (G t)) := fun t ht => by
        rw [hw1, HG.out]; exact cell?_putRow _ _ _ _ d dk (holds_ahead _ _ _ _ _ _ HH.out) hsk t (by omega)
      have hfw : ∀ t, t < d.size → wr.frozen? ⟨blk, off + t, none⟩ = false := fun t ht => by
        rw [hw1, frozen?_putRow]; exact ((holds_ahead _ _ m _ _ _ HH.out) t ht).2
      have HW1 := Lib.hid hw1
      clear hw1
      by_cases hle : i' ≤ j
      · have hlei : (i' : Int) ≤ j := by omega
        cases hl : ltn (G a) (G i') with
        | false =>
          go_wp2
          go_quiet (first | (go_at_call 151; refine Calls.quiet_of_same (less _ _ _)))
          go_wp2
          go_roundw
          case rel =>
            refine ⟨i' + 1, m + nq, by go_num, by omega, by omega, by rw [HW1.out]; exact putRow_drewN _ _ _ _ _ _ _, ?_⟩
            show _ = _
            rw [← hsc.out]
            exact (scanUp_go (fun x => !ltn dk[a]! x) dk j i' hle (by rw [← HG.out, ← HG.out, hl]; rfl)).symm
          case measure => first | (simp [intO]; done) | (simp [intO]; omega)
        | true =>
          have hi2 : Hid (i' = scanUp (fun x => !ltn dk[a]! x) dk j i) := (scanUp_end (fun x => !ltn dk[a]! x) dk j i' (Or.inr (by rw [← HG.out, ← HG.out, hl]; rfl))).symm.trans hsc.out
          go_wp2
          go_quiet (first | (go_at_call 151; refine Calls.quiet_of_same (less _ _ _)))
          obtain ⟨mU, HWU⟩ : ∃ mU, Hid (wr.drewN nq = putRow en (Sort.ahead w mU) blk off dk) := ⟨m + nq, by show _ = _; rw [HW1.out]; exact putRow_drewN _ _ _ _ _ _ _⟩
          clear hcw hfw HW1 hsc
          go_wp2
          go_loopw [10] (fun vj wr2 => ∃ (j' m2 : Nat), vj = .int .i64 j' ∧ j' ≤ j ∧ i' ≤ j' + 1 ∧ wr2 = putRow en (Sort.ahead w m2) blk off dk ∧
              Hid (scanDown (fun x => ltn dk[a]! x) dk i' j' = scanDown (fun x => ltn dk[a]! x) dk i' j)) (fun vj _ => (intO vj).toNat)
          case atStart => exact ⟨j, mU, rfl, Nat.le_refl _, hij', HWU.out, rfl⟩
          case round =>
            obtain ⟨j', m2, rfl, hjj, hij2, hw2, hsd⟩ := hrel
            have hcw : ∀ t, t < d.size → wr.cell? ⟨blk, off + t, none⟩ = some (en (G t)) := fun t ht => by
              rw [hw2, HG.out]; exact cell?_putRow _ _ _ _ d dk (holds_ahead _ _ _ _ _ _ HH.out) hsk t (by omega)
            have hfw : ∀ t, t < d.size → wr.frozen? ⟨blk, off + t, none⟩ = false := fun t ht => by
              rw [hw2, frozen?_putRow]; exact ((holds_ahead _ _ m2 _ _ _ HH.out) t ht).2
            have HW2 := Lib.hid hw2
            clear hw2
            by_cases hle2 : i' ≤ j'
            · have hle2i : (i' : Int) ≤ j' := by omega
              cases hl2 : ltn (G a) (G j') with
              | true =>
                go_wp2
                go_quiet (first | (go_at_call 151; refine Calls.quiet_of_same (less _ _ _)))
                go_wp2
                go_roundw
                case rel =>
                  refine ⟨j' - 1, m2 + nq, by congr 1; omega, by omega, by omega, by rw [HW2.out]; exact putRow_drewN _ _ _ _ _ _ _, ?_⟩
                  show _ = _
                  rw [← hsd.out]
                  exact (scanDown_go (fun x => ltn dk[a]! x) dk i' j' hle2 (by omega) (by rw [← HG.out, ← HG.out]; exact hl2)).symm
                case measure => first | (simp [intO]; done) | (simp [intO]; omega)
              | false =>
                have hj2 : Hid (j' = scanDown (fun x => ltn dk[a]! x) dk i' j) := (scanDown_end (fun x => ltn dk[a]! x) dk i' j' (Or.inr (by rw [← HG.out, ← HG.out]; exact hl2))).symm.trans hsd.out
                have hlt3 := scans_lt ltn a i j dk (by omega) hi2.out hj2.out hle2
                have hgt : ¬ (j' : Int) < i' := by omega
                go_wp2
                go_quiet (first | (go_at_call 151; refine Calls.quiet_of_same (less _ _ _)))
                go_wp2
                go_region
                all_goals go_wp2
                go_roundw
                case rel =>
                  refine ⟨i' + 1, j' - 1, m2 + (nq + 1), Sort.swp dk i' j', by go_num, by congr 1; omega, by omega, by omega, by omega, by rw [size_swp]; exact hsk, ?_, ?_⟩
                  · rw [HW2.out, HG.out, HG.out]
                    exact swap_worldA _ w m2 (nq + 1) blk off dk i' j' (by omega) (by omega)
                  · show _ = _
                    rw [← hE.out]; exact (partEq_go ltn a i j dk hi2.out hj2.out (by omega)).symm
                case measure => first | (simp [intO]; done) | (simp [intO]; omega)
            · have hle2i : ¬ (i' : Int) ≤ j' := by omega
              have hj2 : Hid (j' = scanDown (fun x => ltn dk[a]! x) dk i' j) := (scanDown_end (fun x => ltn dk[a]! x) dk i' j' (Or.inl hle2)).symm.trans hsd.out
              have hgt : (j' : Int) < i' := by omega
              have hv : Sort.partitionEqual ltn d a b pivot = (i', dk) := by
                unfold Sort.partitionEqual
                rw [← hE.out]
                exact partEq_break ltn a i j dk hi2.out hj2.out (by omega)
              have HV := Lib.hid hv
              clear hv
              go_wp2
              go_quiet (first | (go_at_call 151; refine Calls.quiet_of_same (less _ _ _)))
              go_wp2
              go_ret
              exact ⟨by rw [HV.out]; rfl, m2 + nq, by rw [HV.out, HW2.out]; exact putRow_drewN _ _ _ _ _ _ _⟩
      · have hlei : ¬ (i' : Int) ≤ j := by omega
        have hi2 : Hid (i' = scanUp (fun x => !ltn dk[a]! x) dk j i) := (scanUp_end (fun x => !ltn dk[a]! x) dk j i' (Or.inl hle)).symm.trans hsc.out
        go_wp2
        go_quiet (first | (go_at_call 151; refine Calls.quiet_of_same (less _ _ _)))
        obtain ⟨mU, HWU⟩ : ∃ mU, Hid (wr.drewN nq = putRow en (Sort.ahead w mU) blk off dk) := ⟨m + nq, by show _ = _; rw [HW1.out]; exact putRow_drewN _ _ _ _ _ _ _⟩
        clear hcw hfw HW1 hsc
        go_wp2
        go_loopw [10] (fun vj wr2 => ∃ (j' m2 : Nat), vj = .int .i64 j' ∧ j' ≤ j ∧ i' ≤ j' + 1 ∧ wr2 = putRow en (Sort.ahead w m2) blk off dk ∧
            Hid (scanDown (fun x => ltn dk[a]! x) dk i' j' = scanDown (fun x => ltn dk[a]! x) dk i' j)) (fun vj _ => (intO vj).toNat)
        case atStart => exact ⟨j, mU, rfl, Nat.le_refl _, hij', HWU.out, rfl⟩
        case round =>
          obtain ⟨j', m2, rfl, hjj, hij2, hw2, hsd⟩ := hrel
          have hcw : ∀ t, t < d.size → wr.cell? ⟨blk, off + t, none⟩ = some (en (G t)) := fun t ht => by
            rw [hw2, HG.out]; exact cell?_putRow _ _ _ _ d dk (holds_ahead _ _ _ _ _ _ HH.out) hsk t (by omega)
          have hfw : ∀ t, t < d.size → wr.frozen? ⟨blk, off + t, none⟩ = false := fun t ht => by
            rw [hw2, frozen?_putRow]; exact ((holds_ahead _ _ m2 _ _ _ HH.out) t ht).2
          have HW2 := Lib.hid hw2
          clear hw2
          by_cases hle2 : i' ≤ j'
          · exfalso; omega
          · have hle2i : ¬ (i' : Int) ≤ j' := by omega
            have hj2 : Hid (j' = scanDown (fun x => ltn dk[a]! x) dk i' j) := (scanDown_end (fun x => ltn dk[a]! x) dk i' j' (Or.inl hle2)).symm.trans hsd.out
            have hgt : (j' : Int) < i' := by omega
            have hv : Sort.partitionEqual ltn d a b pivot = (i', dk) := by
              unfold Sort.partitionEqual
              rw [← hE.out]
              exact partEq_break ltn a i j dk hi2.out hj2.out (by omega)
            have HV := Lib.hid hv
            clear hv
            go_wp2
            go_quiet (first | (go_at_call 151; refine Calls.quiet_of_same (less _ _ _)))
            go_wp2
            go_ret
            exact ⟨by rw [HV.out]; rfl, m2 + nq, by rw [HV.out, HW2.out]; exact putRow_drewN _ _ _ _ _ _ _⟩
end Go.Proofs.YtfckgddodjmbdaaGreatDoor.sortUint16
namespace Go.Proofs.YtfckgddodjmbdaaGreatDoor.sortUint16
set_option linter.unusedVariables false
set_option linter.unusedSimpArgs false
open Go.RowKit Go.Sort Go.Proofs.YtfckgddodjmbdaaGreatDoor
set_option maxRecDepth 100000 in
set_option maxHeartbeats 4000000 in
theorem xorU (rb ro X : Nat) (hX : X < 18446744073709551616) (w : World) (hc : w.cell? ⟨rb, ro, none⟩ = some (.int .u64 X)) (hf : w.frozen? ⟨rb, ro, none⟩ = false) :
    Calls Tryz.prog 158 #[.pointer (some ⟨rb, ro, none⟩)] w fun e w' => e = .returned (.int .u64 (xorNextN X : Nat)) ∧ w' = (w.setCell ⟨rb, ro, none⟩ (.int .u64 (xorNextN X : Nat))).drewN 3 := by
  obtain ⟨Y, hY⟩ : ∃ Y : Nat, Y = X ^^^ (X * 8192 % 18446744073709551616) := ⟨_, rfl⟩
  obtain ⟨Z, hZ⟩ : ∃ Z : Nat, Z = Y ^^^ (Y / 128) := ⟨_, rfl⟩
  obtain ⟨V, hV⟩ : ∃ V : Nat, V = Z ^^^ (Z * 131072 % 18446744073709551616) := ⟨_, rfl⟩
  have lY : Y < 18446744073709551616 := by rw [hY]; exact Nat.xor_lt_two_pow (n := 64) (by omega) (by omega)
  have lZ : Z < 18446744073709551616 := by rw [hZ]; exact Nat.xor_lt_two_pow (n := 64) (by omega) (by omega)
  have s1 : bits .xor .u64 (X : Int) (IntKind.u64.wrap ((X : Int) * 8192)) = (Y : Int) := by
    have e : IntKind.u64.wrap ((X : Int) * 8192) = ((X * 8192 % 18446744073709551616 : Nat) : Int) := by rw [IntKind.wrap_u64]; omega
    rw [e, bits_xor_u64_nat _ _ hX (by omega), hY]
  have s2 : bits .xor .u64 (Y : Int) ((Y : Int) / 128) = (Z : Int) := by
    have e : ((Y : Int) / 128) = ((Y / 128 : Nat) : Int) := by omega
    rw [e, bits_xor_u64_nat _ _ lY (by omega), hZ]
  have s3 : bits .xor .u64 (Z : Int) (IntKind.u64.wrap ((Z : Int) * 131072)) = (V : Int) := by
    have e : IntKind.u64.wrap ((Z : Int) * 131072) = ((Z * 131072 % 18446744073709551616 : Nat) : Int) := by rw [IntKind.wrap_u64]; omega
    rw [e, bits_xor_u64_nat _ _ lZ (by omega), hV]
  have hv : xorNextN X = V := by unfold xorNextN; simp only []; rw [← hY, ← hZ, ← hV]
  rw [hv]
  clear hY hZ hV hv
  have once : ∀ v v', (w.setCell ⟨rb, ro, none⟩ v).setCell ⟨rb, ro, none⟩ v' = w.setCell ⟨rb, ro, none⟩ v' := setCell_setCell w rb ro
  go_enter Tryz.func158, Tryz.ntmps158
  go_wp2
  go_region
  all_goals go_wp2
  all_goals go_region
  all_goals go_wp2
  all_goals go_region
  all_goals go_wp2
  go_ret
  exact ⟨rfl, rfl⟩
theorem powU (n : Nat) (hn : n < 4611686018427387904) (w : World) :
    Calls Tryz.prog 157 #[.int .i64 n] w fun e w' => e = .returned (.int .u64 ((1 <<< bitsLen n : Nat) : Int)) ∧ w' = w := by
  have hl := Tryz.bits_Len (n : Int) w (by omega) (by omega)
  rw [Int.toNat_natCast, bitLen_eq _ (by omega)] at hl
  have hk : bitsLen n ≤ 62 := (bitsLen_le_iff n 62).2 (by omega)
  have hp : IntKind.u64.wrap ((2 : Int) ^ bitsLen n) = ((1 <<< bitsLen n : Nat) : Int) := by exact wrap_two_pow (bitsLen n) hk
  have HP := Lib.hid hp
  clear hp
  go_enter Tryz.func157, Tryz.ntmps157
  go_wp2_with (go_at_call 139; refine hl.mono ?_; rintro e w' ⟨rfl, rfl⟩)
  go_ret
  refine ⟨?_, rfl⟩
  rw [← HP.out]
  rfl
set_option maxRecDepth 100000 in
set_option maxHeartbeats 8000000 in
theorem breakBig (blk off cap a L : Nat) (d : Array Nat) (w : World) (hH : Holds en w blk off d) (hblk : blk < w.heap.size) (hb : a + L ≤ d.size) (hsz : d.size < 4611686018427387904) (h8 : 8 ≤ L) :
    Calls Tryz.prog 147 #[.slice (some ⟨blk, off, none⟩) d.size cap, .int .i64 a, .int .i64 ((a + L : Nat) : Int)] w fun e w' =>
      e = .returned (.tuple #[]) ∧ At en w blk off (breakPatterns d a (a + L)) w' := by
  rw [breakPatterns_eq d a L h8]
  obtain ⟨M, hM⟩ : ∃ M : Nat, M = 1 <<< bitsLen L := ⟨_, rfl⟩
  have hM1 : 1 ≤ M := by rw [hM, Nat.one_shiftLeft]; exact Nat.two_pow_pos _
  have hM2 : M ≤ 2 * L := by rw [hM, Nat.one_shiftLeft]; exact two_pow_bitsLen_le (by omega)
  have hpw := fun w => powU L (by omega) w
  rw [← hM] at hpw ⊢
  have HPW := Lib.hid hpw
  clear hM hpw
  have hst : ∀ T, w.alloc (Obj.cells #[.int .u64 (L : Int)] T) = grow (putRow en (Sort.ahead w 0) blk off d) #[Obj.cells #[.int .u64 ((UInt64.ofNat L).toNat : Int)] T] := fun T => by
    have e : (UInt64.ofNat L).toNat = L := by simp; omega
    rw [ahead_zero, putRow_self _ _ _ _ _ hH, alloc_eq_grow, e]
  have HH := Lib.hid hH
  have HST := Lib.hid hst
  have hLe : (a : Int) + (L : Int) - (a : Int) = (L : Int) := by omega
  clear hH hst
  go_enter Tryz.func147, Tryz.ntmps147
  go_wp2_with (go_at_call 157; (try rw [hLe]); refine (HPW.out _).mono ?_; rintro e w' ⟨rfl, rfl⟩)
  clear HPW
  go_loopw [9] (fun vi wr => ∃ (t n : Nat) (r : UInt64) (dk : Array Nat) (T : TypeId), vi = .int .i64 ((a + L / 4 * 2 - 1 + t : Nat) : Int) ∧ t ≤ 3 ∧ dk.size = d.size ∧
      wr = grow (putRow en (Sort.ahead w n) blk off dk) #[Obj.cells #[.int .u64 (r.toNat : Int)] T] ∧
      Hid (bpRest a L M (a + L / 4 * 2 - 1) (3 - t) t (r, dk) = bpRest a L M (a + L / 4 * 2 - 1) 3 0 (UInt64.ofNat L, d))) (fun vi _ => a + L / 4 * 2 + 3 - (intO vi).toNat)
  case atStart => exact ⟨0, 0, UInt64.ofNat L, d, _, by congr 1; omega, by omega, rfl, HST.out _, rfl⟩
  case round =>
    clear HST
    obtain ⟨t, n, r, dk, T, rfl, ht, hsk, hw, HR⟩ := hrel
    obtain ⟨R, hR⟩ : ∃ R : Nat, R = r.toNat := ⟨_, rfl⟩
    have lR : R < 18446744073709551616 := by rw [hR]; exact r.toNat_lt
    obtain ⟨R', hR'⟩ : ∃ R' : Nat, R' = xorNextN R := ⟨_, rfl⟩
    have lR' : R' < 18446744073709551616 := by rw [hR']; exact xorNextN_lt R lR
    obtain ⟨O, hO⟩ : ∃ O : Nat, O = R' &&& (M - 1) := ⟨_, rfl⟩
    have lO : O ≤ M - 1 := by rw [hO]; exact Nat.and_le_right
    have eAnd : bits .and .u64 (R' : Int) ((M : Int) - 1) = (O : Int) := by
      have e : ((M : Int) - 1) = ((M - 1 : Nat) : Int) := by omega
      rw [e, bits_and_u64_nat _ _ lR' (by omega), hO]
    have hz : (putRow en (Sort.ahead w n) blk off dk).heap.size = w.heap.size := by simp
    obtain ⟨G, hG⟩ : ∃ G : Nat → Nat, ∀ x, G x = dk[x]! := ⟨fun x => dk[x]!, fun _ => rfl⟩
    have hcw : ∀ x, x < d.size → wr.cell? ⟨blk, off + x, none⟩ = some (en (G x)) := fun x hx => by
      rw [hw, cell?_grow _ _ _ (by rw [hz]; exact hblk), hG]; exact cell?_putRow _ _ _ _ d dk (holds_ahead _ _ _ _ _ _ HH.out) hsk x (by omega)
    have hfw : ∀ x, x < d.size → wr.frozen? ⟨blk, off + x, none⟩ = false := fun x hx => by
      rw [hw, frozen?_grow _ _ _ (by rw [hz]; exact hblk), frozen?_putRow]; exact ((holds_ahead _ _ n _ _ _ HH.out) x hx).2
    have hcB : wr.cell? ⟨w.heap.size, 0, none⟩ = some (.int .u64 (R : Int)) := by rw [hw, hR, ← hz]; exact grow_one_cell _ _ _
    have hfB : wr.frozen? ⟨w.heap.size, 0, none⟩ = false := by rw [hw, ← hz]; exact grow_one_frozen _ _ _
    have hNx := xorU w.heap.size 0 R lR wr hcB hfB
    rw [← hR'] at hNx
    have HN : Hid (R' = (xorNext r).toNat ∧ O = (xorNext r).toNat &&& (M - 1)) := by
      have e : R' = (xorNext r).toNat := by rw [hR', hR, xorNext_toNat]
      exact ⟨e, by rw [hO, e]⟩
    have HNx := Lib.hid hNx
    have HW := Lib.hid hw
    have HG := Lib.hid hG
    clear hw hG hR hR' hO hNx
    go_wp2_with (go_at_call 158; refine HNx.out.mono ?_; rintro e w' ⟨rfl, rfl⟩)
    · have hLO : L ≤ O := by omega
      obtain ⟨po, hpo⟩ : ∃ po, O - L = po := ⟨_, rfl⟩
      have HPO : Hid ((if (xorNext r).toNat &&& (M - 1) ≥ L then ((xorNext r).toNat &&& (M - 1)) - L else (xorNext r).toNat &&& (M - 1)) = po) := by
        show _ = _
        rw [← HN.out.2, if_pos (by omega), hpo]
      have hpi : (O : Int) - (L : Int) = (po : Int) := by omega
      simp only [hpi]
      by_cases hEq : a + L / 4 * 2 - 1 + t = a + po
      all_goals
        go_region
        all_goals go_wp2
        go_roundw
        case rel =>
          refine ⟨t + 1, n + 4, xorNext r, Sort.swp dk (a + L / 4 * 2 - 1 + t) (a + po), T, by first | rfl | (congr 1 <;> omega), by omega, by rw [size_swp]; exact hsk, ?_, ?_⟩
          · (try rw [hEq])
            rw [HW.out, HN.out.1]
            simp only [HG.out]
            exact step_world en w n 4 blk off dk _ _ hblk (by omega) (by omega) _ _ _
          · show _ = _
            rw [← HR.out, bp_step a L M _ t r dk po (by omega) HPO.out]
        case measure => first | (simp [intO]; done) | (simp [intO]; omega)
    · have hLO : ¬ L ≤ O := by omega
      obtain ⟨po, hpo⟩ : ∃ po, po = O := ⟨_, rfl⟩
      subst hpo
      have HPO : Hid ((if (xorNext r).toNat &&& (M - 1) ≥ L then ((xorNext r).toNat &&& (M - 1)) - L else (xorNext r).toNat &&& (M - 1)) = po) := by
        show _ = _
        rw [← HN.out.2, if_neg (by omega)]
      by_cases hEq : a + L / 4 * 2 - 1 + t = a + po
      all_goals
        go_region
        all_goals go_wp2
        go_roundw
        case rel =>
          refine ⟨t + 1, n + 4, xorNext r, Sort.swp dk (a + L / 4 * 2 - 1 + t) (a + po), T, by first | rfl | (congr 1 <;> omega), by omega, by rw [size_swp]; exact hsk, ?_, ?_⟩
          · (try rw [hEq])
            rw [HW.out, HN.out.1]
            simp only [HG.out]
            exact step_world en w n 4 blk off dk _ _ hblk (by omega) (by omega) _ _ _
          · show _ = _
            rw [← HR.out, bp_step a L M _ t r dk po (by omega) HPO.out]
        case measure => first | (simp [intO]; done) | (simp [intO]; omega)
    · obtain rfl : t = 3 := by omega
      go_end0
      exact ⟨rfl, n, _, by rw [← HR.out, HW.out]; rfl⟩
set_option maxRecDepth 100000 in
set_option maxHeartbeats 8000000 in
theorem breakU (blk off cap a b : Nat) (d : Array Nat) (w : World) (hH : Holds en w blk off d) (hblk : blk < w.heap.size) (hab : a ≤ b) (hb : b ≤ d.size) (hsz : d.size < 4611686018427387904) :
    Calls Tryz.prog 147 #[.slice (some ⟨blk, off, none⟩) d.size cap, .int .i64 a, .int .i64 b] w fun e w' =>
      e = .returned (.tuple #[]) ∧ Rw w blk off (breakPatterns d a b) w' := by
  obtain ⟨L, rfl⟩ : ∃ L, b = a + L := ⟨b - a, by omega⟩
  by_cases h8 : 8 ≤ L
  · exact (breakBig blk off cap a L d w hH hblk hb hsz h8).mono fun e w' h => ⟨h.1, Rw.of_at hblk h.2⟩
  · have hv : breakPatterns d a (a + L) = d := by unfold breakPatterns; simp only [Nat.add_sub_cancel_left]; rw [if_neg h8]
    rw [hv]
    have HST := Lib.hid (Rw.refl hH hblk)
    clear hH
    go_enter Tryz.func147, Tryz.ntmps147
    go_wp2
    go_end0
    exact ⟨rfl, HST.out⟩
end Go.Proofs.YtfckgddodjmbdaaGreatDoor.sortUint16
namespace Go.Proofs.YtfckgddodjmbdaaGreatDoor.sortUint16
set_option linter.unusedVariables false
set_option linter.unusedSimpArgs false
open Go.RowKit Go.Sort Go.Proofs.YtfckgddodjmbdaaGreatDoor
structure Opened (dk : Array Nat) (a b lim : Nat) (wb wp : Bool) (D1 D2 D3 : Array Nat) (L C1 PV : Nat) (C2 HT : Hint) (dn : Bool) : Prop where
  brk : wb = false → D1 = breakPatterns dk a b ∧ L = lim - 1
  nob : wb = true → D1 = dk ∧ L = lim
  liml : L ≤ lim
  piv : choosePivot ltn D1 a b = (C1, C2)
  dec : C2 = .decreasing → D2 = reverseRange D1 a b ∧ PV = (b - 1) - (C1 - a) ∧ HT = .increasing
  ndec : C2 ≠ .decreasing → D2 = D1 ∧ PV = C1 ∧ HT = C2
  par : (wb && wp && decide (HT = .increasing)) = true → partialInsertionSort ltn D2 a b = (D3, dn)
  nop : (wb && wp && decide (HT = .increasing)) = false → D3 = D2 ∧ dn = false
  s1 : D1.size = dk.size
  s2 : D2.size = dk.size
  s3 : D3.size = dk.size
  c1 : a ≤ C1 ∧ C1 < b
  pv : a ≤ PV ∧ PV < b
  done : dn = true → pdq ltn dk a b lim wb wp = D3
  peq : dn = false → (decide (a > 0) && !ltn D3[a - 1]! D3[PV]!) = true → ∀ mid D4, partitionEqual ltn D3 a b PV = (mid, D4) →
    a < mid ∧ mid ≤ b ∧ D4.size = dk.size ∧ Below ltn mid b D4 ∧ pdq ltn dk a b lim wb wp = pdq ltn D4 mid b L wb wp
  prt : dn = false → (decide (a > 0) && !ltn D3[a - 1]! D3[PV]!) = false → ∀ mid ap D4, partition ltn D3 a b PV = (mid, ap, D4) →
    a ≤ mid ∧ mid < b ∧ D4.size = dk.size ∧ Below ltn a mid D4 ∧ Below ltn (mid + 1) b D4 ∧
    (mid - a < b - mid → ∃ E, E = pdq ltn D4 a mid L true true ∧ E.size = dk.size ∧ Below ltn (mid + 1) b E ∧ pdq ltn dk a b lim wb wp = pdq ltn E (mid + 1) b L (decide (mid - a ≥ (b - a) / 8)) ap) ∧
    (¬ mid - a < b - mid → ∃ E, E = pdq ltn D4 (mid + 1) b L true true ∧ E.size = dk.size ∧ Below ltn a mid E ∧ pdq ltn dk a b lim wb wp = pdq ltn E a mid L (decide (b - mid ≥ (b - a) / 8)) ap)
theorem opened {dk : Array Nat} {a b lim : Nat} {wb wp : Bool} (h12 : ¬ b - a ≤ 12) (hl : ¬ lim = 0) (hb : b ≤ dk.size) (hB : Below ltn a b dk) :
    ∃ D1 D2 D3 L C1 PV C2 HT dn, Opened dk a b lim wb wp D1 D2 D3 L C1 PV C2 HT dn := by
  obtain ⟨s1, B1, c1, s2, B2, pv, s3, B3⟩ := rd_facts (limit := lim) (wb := wb) (wp := wp) ltn_swo partialInsertionSort_holds reverseRange_holds (show a < b by omega) hb hB
  refine ⟨(Sort.rd ltn dk a b lim wb wp).d1, (Sort.rd ltn dk a b lim wb wp).d2, (Sort.rd ltn dk a b lim wb wp).pi.1, (Sort.rd ltn dk a b lim wb wp).lim, (Sort.rd ltn dk a b lim wb wp).c.1, (Sort.rd ltn dk a b lim wb wp).pivot, (Sort.rd ltn dk a b lim wb wp).c.2, (Sort.rd ltn dk a b lim wb wp).hint, (Sort.rd ltn dk a b lim wb wp).pi.2,
    { brk := fun h => by subst h; exact ⟨rfl, rfl⟩
      nob := fun h => by subst h; exact ⟨rfl, rfl⟩
      liml := rd_lim_le
      piv := rfl
      dec := fun h => rd_dec h
      ndec := fun h => rd_not h
      par := fun h => (rd_pi_yes h).symm
      nop := fun h => by rw [rd_pi_no h]; exact ⟨rfl, rfl⟩
      s1 := s1, s2 := s2, s3 := s3, c1 := c1, pv := pv
      done := fun h => pdq_done h12 hl h
      peq := fun h h2 mid D4 hx => ?_
      prt := fun h h2 mid ap D4 hx => ?_ }⟩
  · have h2' := h2
    simp only [Bool.and_eq_true, decide_eq_true_eq, Bool.not_eq_true'] at h2'
    obtain ⟨r1, r2, r3, r4, _⟩ := round_eq ltn_swo (partitionEqual_holds ltn) h2'.1 pv.1 pv.2 (by rw [s3]; exact hb) B3 h2'.2 hx
    exact ⟨r1, r2, r3.trans s3, r4, by rw [pdq_eq h12 hl h h2 (by rw [hx]; exact ⟨r1, r2⟩), hx]⟩
  · obtain ⟨r1, r2, r3, r4, r5, r6, r7⟩ := round_part ltn_swo (partition_holds ltn) pv.1 pv.2 (by rw [s3]; exact hb) B3 hx
    have hd4 : D4.size = dk.size := r3.trans s3
    refine ⟨r1, r2, hd4, r4, r5, fun h4 => ?_, fun h4 => ?_⟩
    · obtain ⟨pL, sL⟩ := pdq_sorts ltn ltn_swo D4 a mid (Sort.rd ltn dk a b lim wb wp).lim true true (by omega) (by omega) r4
      exact ⟨_, rfl, pL.1.trans hd4, (r6 _ pL sL).1, by rw [pdq_left h12 hl h h2 (by rw [hx]; exact ⟨r1, r2⟩) (by rw [hx]; exact h4), hx]⟩
    · obtain ⟨pL, sL⟩ := pdq_sorts ltn ltn_swo D4 (mid + 1) b (Sort.rd ltn dk a b lim wb wp).lim true true (by omega) (by omega) r5
      exact ⟨_, rfl, pL.1.trans hd4, (r7 _ pL sL).1, by rw [pdq_right h12 hl h h2 (by rw [hx]; exact ⟨r1, r2⟩) (by rw [hx]; exact h4), hx]⟩
end Go.Proofs.YtfckgddodjmbdaaGreatDoor.sortUint16
namespace Go.Proofs.YtfckgddodjmbdaaGreatDoor.sortUint16
set_option linter.unusedVariables false
set_option linter.unusedSimpArgs false
open Go.RowKit Go.Sort Go.Proofs.YtfckgddodjmbdaaGreatDoor
theorem eighthI {x y p q : Nat} (h1 : q ≤ p) (h2 : y ≤ x) : decide (((x : Int) - (y : Int)) / 8 ≤ (p : Int) - (q : Int)) = decide (p - q ≥ (x - y) / 8) :=
  decide_eq_decide.2 ⟨fun h => by omega, fun h => by omega⟩
theorem hintI_two {h : Hint} (e : hintI h = 2) : h = .decreasing := by cases h <;> simp [hintI] at e ⊢
set_option maxRecDepth 1000000 in
set_option maxHeartbeats 16000000 in
theorem pdqU : ∀ (N blk off cap a b limit : Nat) (d : Array Nat) (w : World), b - a < N → Holds en w blk off d → blk < w.heap.size → a ≤ b → b ≤ d.size → d.size < 2305843009213693952 → limit < 4611686018427387904 → Below ltn a b d →
    Calls Tryz.prog 138 #[.slice (some ⟨blk, off, none⟩) d.size cap, .int .i64 a, .int .i64 b, .int .i64 limit] w fun e w' => e = .returned (.tuple #[]) ∧ Rw w blk off (pdq ltn d a b limit true true) w' := by
  intro N
  induction N with
  | zero => intro _ _ _ _ _ _ _ _ h; exact absurd h (Nat.not_lt_zero _)
  | succ N ih =>
    intro blk off cap a b limit d w hN hH0 hbl0 hab hb hsz hlimit hB0
    have HH := Lib.hid hH0
    have IH := Lib.hid ih
    have HR0 := Lib.hid (Rw.refl hH0 hbl0)
    clear ih hH0
    go_enter Tryz.func138, Tryz.ntmps138
    go_wp2
    go_loopg [1, 2, 3, 8, 9] (b - a) (fun k s1 s2 s3 s8 s9 wr => ∃ (a' b' lim : Nat) (wb wp : Bool) (dk : Array Nat), s1 = .int .i64 a' ∧ s2 = .int .i64 b' ∧ s3 = .int .i64 lim ∧ s8 = .bool wb ∧ s9 = .bool wp ∧
      a' ≤ b' ∧ b' ≤ d.size ∧ b' - a' ≤ k ∧ k ≤ b - a ∧ lim ≤ limit ∧ dk.size = d.size ∧ Below ltn a' b' dk ∧ Rw w blk off dk wr ∧ Hid (pdq ltn d a b limit true true = pdq ltn dk a' b' lim wb wp))
    case atStart => exact ⟨a, b, limit, true, true, d, rfl, rfl, rfl, rfl, rfl, hab, hb, Nat.le_refl _, Nat.le_refl _, Nat.le_refl _, rfl, hB0, HR0.out, rfl⟩
    case round =>
      clear HR0
      obtain ⟨a', b', lim, wb, wp, dk, rfl, rfl, rfl, rfl, rfl, hab', hb', hk, hkN, hlim, hds, hBel, hRw, HE⟩ := hrel
      have hHk : Holds en wr blk off dk := hRw.holds HH.out hds
      by_cases h12 : b' - a' ≤ 12
      · have h12z : (b' : Int) - (a' : Int) ≤ 12 := by omega
        have hc := insertion blk off cap a' b' dk wr hHk hab' (by omega) (by omega)
        rw [hds] at hc
        have HC := Lib.hid hc
        clear hc hHk
        go_wp2_with (go_at_call 145; refine HC.out.mono ?_; rintro e w1 ⟨rfl, hw1⟩)
        (try simp only [Exit.inBlock, Exit.then]); refine bodyPost_ret (results_none rfl _ _ _) rfl ?_
        refine ⟨rfl, ?_⟩
        rw [HE.out, pdq_small h12]
        exact hRw.put (insertionSort_holds ltn_swo dk a' b' hab' (by omega)).1.1 hw1
      · have h12z : ¬ ((b' : Int) - (a' : Int) ≤ 12) := by omega
        by_cases hl0 : lim = 0
        · subst hl0
          have hc := heapU blk off cap a' b' dk wr hHk hab' (by omega) (by omega)
          rw [hds] at hc
          have HC := Lib.hid hc
          clear hc hHk
          go_wp2_with (go_at_call 146; refine HC.out.mono ?_; rintro e w1 ⟨rfl, hw1⟩)
          (try simp only [Exit.inBlock, Exit.then]); refine bodyPost_ret (results_none rfl _ _ _) rfl ?_
          refine ⟨rfl, ?_⟩
          rw [HE.out, pdq_heap h12 rfl]
          exact hRw.put (heapSort_holds ltn_swo dk a' b' hab' (by omega)).1.1 hw1
        · have hl0z : ¬ ((lim : Int) = 0) := by omega
          obtain ⟨D1, D2, D3, L, C1, PV, C2, HT, dn, O⟩ := opened (wb := wb) (wp := wp) h12 hl0 (show b' ≤ dk.size by omega) hBel
          have hlL := O.liml
          have hs1 := O.s1.trans hds
          have hs2 := O.s2.trans hds
          have hs3 := O.s3.trans hds
          have hc1 := O.c1
          have hpv := O.pv
          go_upto_if 35 with fail
          go_cut [3] from 19 (fun s3 wc => s3 = .int .i64 L ∧ Rw w blk off D1 wc)
          case first =>
            cases wb with
            | false =>
              obtain ⟨e1, e2⟩ := O.brk rfl
              have hc := breakU blk off cap a' b' dk wr hHk hRw.blk hab' (by omega) (by omega)
              rw [hds, ← e1] at hc
              have HC := Lib.hid hc
              have hLi : (lim : Int) - 1 = (L : Int) := by omega
              clear hc hHk e1 e2
              go_wp2_with (go_at_call 147; refine HC.out.mono ?_; rintro e w1 ⟨rfl, hw1⟩)
              go_meet
              case rel => exact ⟨by first | rfl | rw [hLi] | (congr 1), hRw.trans O.s1 hw1⟩
            | true =>
              obtain ⟨e1, e2⟩ := O.nob rfl
              subst e1 e2
              go_wp2_with fail
              go_meet
              case rel => exact ⟨by first | rfl | trivial, hRw⟩
          case rest =>
            obtain ⟨rfl, hRw1⟩ := hcut
            clear hRw hHk
            have hc := choosePivotU blk off cap a' b' D1 wc (hRw1.holds HH.out hs1) hRw1.blk (by omega) (by omega) (by omega)
            rw [O.piv, hs1] at hc
            have HC := Lib.hid hc
            clear hc
            go_upto_if 50 with (go_at_call 148; refine HC.out.mono ?_; rintro e w2 ⟨rfl, hw2⟩)
            have hRw2 : Rw w blk off D1 w2 := hRw1.old hw2
            clear HC hw2 hRw1
            go_cut [11, 12] from 19 (fun s11 s12 wc => s11 = .int .i64 PV ∧ s12 = .int .i64 (hintI HT) ∧ Rw w blk off D2 wc)
            case first =>
              by_cases hh : C2 = .decreasing
              · obtain ⟨e1, e2, e3⟩ := O.dec hh
                have hc := reverseR blk off cap a' b' D1 w2 (hRw2.holds HH.out hs1) hab' (by omega) (by omega)
                rw [hs1, ← e1] at hc
                have HC := Lib.hid hc
                have hpi : (b' : Int) - 1 - ((C1 : Int) - (a' : Int)) = (PV : Int) := by omega
                subst hh e3
                have hcode : hintI .decreasing = 2 := rfl
                clear hc e1 e2
                go_wp2_with (go_at_call 149; refine HC.out.mono ?_; rintro e w3 ⟨rfl, hw3⟩)
                go_meet
                case rel => exact ⟨by first | rfl | rw [hpi], rfl, hRw2.put (by rw [hs2, hs1]) hw3⟩
              · have hcode : ¬ (hintI C2 = 2) := fun h => hh (hintI_two h)
                obtain ⟨e1, e2, e3⟩ := O.ndec hh
                subst e1 e2 e3
                go_wp2_with fail
                go_meet
                case rel => exact ⟨rfl, rfl, hRw2⟩
            case rest =>
              obtain ⟨rfl, rfl, hRw3⟩ := hcut
              clear hRw2
              go_upto_region 15 with fail
              go_cut [68] from 19 (fun s68 wx => s68 = .bool (wb && wp && decide (HT = .increasing)) ∧ wx = wc)
              case first =>
                cases wb <;> cases wp <;> cases HT <;>
                  (simp only [hintI]
                   go_wp2_with fail
                   go_meet
                   exact ⟨by simp, rfl⟩)
              case rest =>
                obtain ⟨rfl, rfl⟩ := hcut
                go_upto_if 68 with fail
                go_cut [] from 19 (fun wx => dn = false ∧ Rw w blk off D3 wx)
                case first =>
                  cases h68 : (wb && wp && decide (HT = .increasing)) with
                  | false =>
                    obtain ⟨e1, e2⟩ := O.nop h68
                    subst e1 e2
                    go_wp2_with fail
                    go_meet
                    case rel => exact ⟨by first | rfl | trivial, hRw3⟩
                  | true =>
                    have hc := partialU blk off cap a' b' D2 wc (hRw3.holds HH.out hs2) (by omega) (by omega) (by omega)
                    rw [O.par h68, hs2] at hc
                    have HC := Lib.hid hc
                    clear hc
                    cases dn with
                    | false =>
                      go_wp2_with (go_at_call 150; refine HC.out.mono ?_; rintro e w4 ⟨rfl, hw4⟩)
                      go_meet
                      case rel => exact ⟨by first | rfl | trivial, hRw3.put (by rw [hs3, hs2]) hw4⟩
                    | true =>
                      go_wp2_with (go_at_call 150; refine HC.out.mono ?_; rintro e w4 ⟨rfl, hw4⟩)
                      (try simp only [Exit.inBlock, Exit.then]); refine bodyPost_ret (results_none rfl _ _ _) rfl ?_
                      refine ⟨rfl, ?_⟩
                      rw [HE.out, O.done rfl]
                      exact hRw3.put (by rw [hs3, hs2]) hw4
                case rest =>
                  obtain ⟨rfl, hRw5⟩ := hcut
                  clear hRw3
                  obtain ⟨G, hG⟩ : ∃ G : Nat → Nat, ∀ t, G t = D3[t]! := ⟨fun t => D3[t]!, fun _ => rfl⟩
                  have hH5 := hRw5.holds HH.out hs3
                  have hcw : ∀ t, t < d.size → wc.cell? ⟨blk, off + t, none⟩ = some (en (G t)) := fun t ht => by rw [hG]; exact (hH5 t (by omega)).1
                  have hfw : ∀ t, t < d.size → wc.frozen? ⟨blk, off + t, none⟩ = false := fun t ht => (hH5 t (by omega)).2
                  have HG := Lib.hid hG
                  clear hG hH5
                  obtain ⟨c87, h87⟩ : ∃ c, (decide (a' > 0) && !ltn D3[a' - 1]! D3[PV]!) = c := ⟨_, rfl⟩
                  have H87 := Lib.hid h87
                  clear h87
                  go_upto_region 17 with fail
                  go_cut [87] from 19 (fun s87 wx => s87 = .bool c87 ∧ Rw w blk off D3 wx)
                  case first =>
                    rcases Nat.eq_zero_or_pos a' with ha0 | ha0
                    · have ha0z : decide ((a' : Int) > 0) = false := decide_eq_false (by omega)
                      go_big_quiet (first | (go_at_call 151; refine Calls.quiet_of_same (less _ _ _)))
                      go_wp2_with fail
                      go_meet
                      case rel => exact ⟨by rw [← H87.out]; simp [ha0], hRw5.old ⟨rfl, rfl, rfl, Nat.le_refl _, fun _ _ _ => rfl⟩⟩
                    · have ha0z : (a' : Int) > 0 := by omega
                      go_big_quiet (first | (go_at_call 151; refine Calls.quiet_of_same (less _ _ _)))
                      go_wp2_with fail
                      go_meet
                      case rel => exact ⟨by rw [← H87.out, ← HG.out, ← HG.out]; simp [ha0], hRw5.old ⟨rfl, rfl, rfl, Nat.le_refl _, fun _ _ _ => rfl⟩⟩
                  case rest =>
                    obtain ⟨rfl, hRw6⟩ := hcut
                    clear hcw hfw hRw5
                    have hH6 := hRw6.holds HH.out hs3
                    cases c87 with
                    | false =>
                      obtain ⟨mid, ap, D4, hx⟩ : ∃ mid ap D4, partition ltn D3 a' b' PV = (mid, ap, D4) := ⟨_, _, _, rfl⟩
                      obtain ⟨r1, r2, r3, r4, r5, r6, r7⟩ := O.prt rfl H87.out mid ap D4 hx
                      have hc := partU blk off cap a' b' PV D3 wc hH6 hpv.1 hpv.2 (by omega) (by omega)
                      rw [hx, hs3] at hc
                      have HC := Lib.hid hc
                      have hs4 := r3.trans hds
                      have O2 := O
                      clear hc hx hH6 O
                      go_upto_if 113 with (go_at_call 153; refine HC.out.mono ?_; rintro e w7 ⟨rfl, hw7⟩)
                      have hRw7 : Rw w blk off D4 w7 := hRw6.put (by rw [hs4, hs3]) hw7
                      have hH7 := hRw7.holds HH.out hs4
                      clear hw7 hRw6 HC
                      by_cases h4 : mid - a' < b' - mid
                      · have h4z : (mid : Int) - (a' : Int) < (b' : Int) - (mid : Int) := by omega
                        obtain ⟨E, rfl, q1, q2, q3⟩ := r6 h4
                        clear r6 r7
                        have hc := IH.out blk off cap a' mid L D4 w7 (by omega) hH7 hRw7.blk (by omega) (by omega) (by omega) (by omega) r4
                        rw [hs4] at hc
                        have HC := Lib.hid hc
                        have HQ := Lib.hid q3
                        have HQ2 := Lib.hid q2
                        have HQ1 := Lib.hid (q1.trans hds)
                        clear hc q1 q2 q3 hH7
                        go_wp2_with (go_at_call 138; refine HC.out.mono ?_; rintro e w8 ⟨rfl, hw8⟩)
                        go_roundg (b' - (mid + 1))
                        case measure => omega
                        case rel =>
                          refine ⟨mid + 1, b', L, decide (mid - a' ≥ (b' - a') / 8), ap, _, by simp, rfl, rfl, ?_, rfl, by omega, by omega, Nat.le_refl _, by omega, by omega, HQ1.out, HQ2.out, hRw7.trans (by rw [HQ1.out, hs4]) hw8, ?_⟩
                          · exact congrArg Value.bool (eighthI (by omega) (by omega))
                          · show _ = _
                            rw [HE.out, HQ.out]
                      · have h4z : ¬ ((mid : Int) - (a' : Int) < (b' : Int) - (mid : Int)) := by omega
                        obtain ⟨E, rfl, q1, q2, q3⟩ := r7 h4
                        clear r6 r7
                        have hc := IH.out blk off cap (mid + 1) b' L D4 w7 (by omega) hH7 hRw7.blk (by omega) (by omega) (by omega) (by omega) r5
                        rw [hs4] at hc
                        have HC := Lib.hid hc
                        have HQ := Lib.hid q3
                        have HQ2 := Lib.hid q2
                        have HQ1 := Lib.hid (q1.trans hds)
                        clear hc q1 q2 q3 hH7
                        go_wp2_with (go_at_call 138; refine HC.out.mono ?_; rintro e w8 ⟨rfl, hw8⟩)
                        go_roundg (mid - a')
                        case measure => omega
                        case rel =>
                          refine ⟨a', mid, L, decide (b' - mid ≥ (b' - a') / 8), ap, _, rfl, rfl, rfl, ?_, rfl, by omega, by omega, Nat.le_refl _, by omega, by omega, HQ1.out, HQ2.out, hRw7.trans (by rw [HQ1.out, hs4]) hw8, ?_⟩
                          · exact congrArg Value.bool (eighthI (by omega) (by omega))
                          · show _ = _
                            rw [HE.out, HQ.out]
                    | true =>
                      obtain ⟨mid, D4, hx⟩ : ∃ mid D4, partitionEqual ltn D3 a' b' PV = (mid, D4) := ⟨_, _, rfl⟩
                      obtain ⟨r1, r2, r3, r4, r5⟩ := O.peq rfl H87.out mid D4 hx
                      have hc := partEqU blk off cap a' b' PV D3 wc hH6 hpv.1 hpv.2 (by omega) (by omega)
                      rw [hx, hs3] at hc
                      have HC := Lib.hid hc
                      have HQ := Lib.hid r5
                      have hs4 := r3.trans hds
                      clear hc hx hH6 O r5
                      go_wp2_with (go_at_call 152; refine HC.out.mono ?_; rintro e w7 ⟨rfl, hw7⟩)
                      go_roundg (b' - mid)
                      case measure => omega
                      case rel => exact ⟨mid, b', L, wb, wp, D4, rfl, rfl, rfl, rfl, rfl, r2, hb', Nat.le_refl _, by omega, by omega, hs4, r4, hRw6.put (by rw [hs4, hs3]) hw7, by show _ = _; rw [HE.out, HQ.out]⟩
theorem pdqAtAll : PdqAt 2305843009213693951 := fun blk cap limit d w hH hb hs hl => by
  exact pdqU (d.size + 1) blk 0 cap 0 d.size limit d w (by omega) hH hb (Nat.zero_le _) (Nat.le_refl _) (by omega) hl (.inl rfl)
end Go.Proofs.YtfckgddodjmbdaaGreatDoor.sortUint16
