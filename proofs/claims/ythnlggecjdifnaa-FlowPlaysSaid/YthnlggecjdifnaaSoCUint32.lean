/- slices.Sort at uint32, over a slice of the caller's own: the same numbers, rising. What pdqsort computes is asked. -/
import Derived.Test.YthnlggecjdifnaaSoBUint32
import Derived.Test.YthnlggecjdifnaaSoRUint32
import Derived.Sort.WalkA14
namespace Go.Proofs.Ythnlggecjdifnaa.sortUint32
set_option linter.unusedVariables false
set_option linter.unusedSimpArgs false
open Go.RowKit Go.Sort Go.Proofs.Ythnlggecjdifnaa

theorem holdsRow {w : World} {g : Nat} {cur : Array Value} {e : TypeId} {xs : List Nat} (hb : w.heap[g]? = some (.cells cur e (0, 0))) (ht : cur.toList.take xs.length = xs.map en) : Holds en w g 0 xs.toArray := by
  intro j hj
  have hj' : j < xs.length := by simpa using hj
  refine ⟨?_, by simp [World.frozen?, hb]⟩
  have h1 : (cur.toList.take xs.length)[j]? = (xs.map en)[j]? := by rw [ht]
  rw [List.getElem?_take_of_lt hj'] at h1
  simp only [World.cell?, hb, Nat.zero_add, Option.isSome_none, Bool.false_eq_true, if_false]
  rw [← Array.getElem?_toList, h1]
  simp [hj']
theorem rowBlock {w w' : World} {g : Nat} {d : Array Nat} {cur : Array Value} {e : TypeId} {fr : Nat × Nat} (h : Rw w g 0 d w') (hb : w.heap[g]? = some (.cells cur e fr)) : w'.heap[g]? = some (.cells (putCells en 0 d cur) e fr) := by
  rw [h.row, heap_putRow, hb]; rfl
theorem takeRow (cur : Array Value) (ts : List Nat) (h : ts.length ≤ cur.size) : (putCells en 0 ts.toArray cur).toList.take ts.length = ts.map en := by
  apply List.ext_getElem?
  intro j
  by_cases hj : j < ts.length
  · rw [List.getElem?_take_of_lt hj, Array.getElem?_toList]
    simp [putCells, hj, show j < cur.size by omega]
  · rw [List.getElem?_take_eq_none (by omega), List.getElem?_eq_none (by simp; omega)]
/-- What a sorted row is. -/
structure Rising (xs ys : List Nat) : Prop where
  perm : ys.Perm xs
  up : ys.Pairwise (· ≤ ·)
theorem pdq_rises (xs : List Nat) (lim : Nat) : Rising xs (pdq ltn xs.toArray 0 xs.length lim true true).toList := by
  obtain ⟨h1, h2⟩ := pdq_sorts ltn ltn_swo xs.toArray 0 xs.length lim true true (Nat.zero_le _) (by simp) (.inl rfl)
  have hs : (pdq ltn xs.toArray 0 xs.length lim true true).size = xs.length := by simpa using h1.1
  refine ⟨?_, ?_⟩
  · have := h1.2.2
    rw [Array.extract_eq_self_of_le (by omega)] at this
    simpa using this
  · rw [List.pairwise_iff_getElem]
    intro i j hi hj hij
    simp only [Array.length_toList] at hi hj
    have := h2 i j (Nat.zero_le _) hij (by omega)
    rw [getElem!_pos (pdq ltn xs.toArray 0 xs.length lim true true) i hi, getElem!_pos (pdq ltn xs.toArray 0 xs.length lim true true) j hj] at this
    simp only [ltn, decide_eq_false_iff_not] at this
    simp only [Array.getElem_toList]
    omega

/-- What is asked of pdqsort, of at most so many things. -/
def PdqAt (most : Nat) : Prop := ∀ (blk cap limit : Nat) (d : Array Nat) (w : World), Holds en w blk 0 d → blk < w.heap.size → d.size ≤ most → limit < 4611686018427387904 →
    Calls Try.prog 34 #[.slice (some ⟨blk, 0, none⟩) d.size cap, .int .i64 0, .int .i64 d.size, .int .i64 limit] w fun e w' => e = .returned (.tuple #[]) ∧ Rw w blk 0 (pdq ltn d 0 d.size limit true true) w'
theorem pdqAt12 : PdqAt 12 := fun blk cap limit d w hH hb hs _ => by
  have := pdqSmall blk 0 cap 0 d.size limit d w hH (Nat.zero_le _) (Nat.le_refl _) (by omega) (by omega)
  refine Calls.mono this fun e w' h => ⟨h.1, (Rw.refl hH hb).put ?_ h.2⟩
  exact (pdq_sorts ltn ltn_swo d 0 d.size limit true true (Nat.zero_le _) (Nat.le_refl _) (.inl rfl)).1.1
theorem bitLen_lt (n : Nat) (h : n < 4611686018427387904) : Lib.bitLen n < 4611686018427387904 := by
  rw [bitLen_eq n (by omega)]
  have := (bitsLen_le_iff n 62).2 (by omega)
  omega
set_option maxRecDepth 100000 in
set_option maxHeartbeats 4000000 in
theorem sortNone (w : World) : Calls Try.prog 29 #[.slice none 0 0] w fun e w' => e = .returned (.tuple #[]) ∧ w' = w := by
  have hl := Lib.hid (Try.bits_Len 0 w (by omega) (by omega))
  have hi : Calls Try.prog 36 #[.slice none 0 0, .int .i64 0, .int .i64 0] w fun e w' => e = .returned (.tuple #[]) ∧ w' = w := by
    go_enter Try.func36, Try.ntmps36
    go_wp2
    go_loopw [6] (fun vi wr => vi = .int .i64 1 ∧ wr = w) (fun _ _ => 0)
    case atStart => exact ⟨rfl, rfl⟩
    case round =>
      obtain ⟨rfl, rfl⟩ := hrel
      go_wp2
      go_end0
      exact ⟨rfl, rfl⟩
  have HI := Lib.hid hi
  have hp : Calls Try.prog 34 #[.slice none 0 0, .int .i64 0, .int .i64 0, .int .i64 (Lib.bitLen (Int.toNat 0) : Nat)] w fun e w' => e = .returned (.tuple #[]) ∧ w' = w := by
    clear hi
    go_enter Try.func34, Try.ntmps34
    go_wp2
    go_loopg [1, 2, 3, 8, 9] 0 (fun k s1 s2 s3 s8 s9 wr => s1 = .int .i64 0 ∧ s2 = .int .i64 0 ∧ wr = w)
    case atStart => exact ⟨rfl, rfl, rfl⟩
    case round =>
      obtain ⟨rfl, rfl, rfl⟩ := hrel
      go_wp2_with (go_at_call 36; refine HI.out.mono ?_; rintro e w1 ⟨rfl, hw1⟩)
      (try simp only [Exit.inBlock, Exit.then]); refine bodyPost_ret (results_none rfl _ _ _) rfl ?_
      exact ⟨rfl, by first | exact hw1 | rfl⟩
  have HP := Lib.hid hp
  clear hi hp HI
  go_enter Try.func29, Try.ntmps29
  go_wp2_with (first | (go_at_call 35; refine hl.out.mono ?_; rintro e w' ⟨rfl, rfl⟩) | (go_at_call 34; refine HP.out.mono ?_; rintro e w' ⟨rfl, rfl⟩))
  go_end0
  exact ⟨rfl, rfl⟩
set_option maxRecDepth 100000 in
set_option maxHeartbeats 4000000 in
theorem sortOf {most : Nat} (HP0 : PdqAt most) (hmost : most < 4611686018427387904) (w : World) (base : Nat) (e0 : TypeId) (v : Value) (xs : List Nat) (own : w.ownsRow base e0 1 v xs.length (xs.map en)) (hm : xs.length ≤ most) :
    Calls Try.prog 29 #[v] w fun e w' => e = .returned (.tuple #[]) ∧ ∃ ys, Rising xs ys ∧ w'.ownsRow base e0 1 v ys.length (ys.map en) ∧ Kp (fun b => v.ownBlock = some b) w w' := by
  rcases own.2 with ⟨rfl, hn⟩ | ⟨g, cap, cur, rfl, hg, hb, h1, h2, h3, h4⟩
  · have hx : xs = [] := List.eq_nil_of_length_eq_zero hn
    subst hx
    refine (sortNone w).mono fun e w' h => ⟨h.1, [], ⟨List.Perm.refl _, List.Pairwise.nil⟩, ?_, ?_⟩
    · rw [h.2]; exact own
    · rw [h.2]; exact Kp.refl _ _
  · rw [Nat.mul_one] at h3 h4
    have hH := holdsRow hb h4
    have hsz : xs.toArray.size = xs.length := by simp
    have hl := Lib.hid (Try.bits_Len (xs.length : Nat) w (by omega) (by omega))
    have hp := fun lim (hlim : lim < 4611686018427387904) => HP0 g cap lim xs.toArray w hH (Array.getElem?_eq_some_iff.1 hb).1 (by omega) hlim
    rw [hsz] at hp
    rw [Int.toNat_natCast] at hl
    have HP := Lib.hid (hp _ (bitLen_lt xs.length (by omega)))
    clear hp HP0 own hH
    go_enter Try.func29, Try.ntmps29
    go_wp2_with (first | (go_at_call 35; refine hl.out.mono ?_; rintro e w' ⟨rfl, rfl⟩) | (go_at_call 34; refine HP.out.mono ?_; rintro e w2 ⟨rfl, hAt⟩))
    go_end0
    have hr := pdq_rises xs (Lib.bitLen xs.length)
    have hyl := hr.perm.length_eq
    refine ⟨rfl, _, hr, ?_, ?_⟩
    · refine ⟨by simp, .inr ⟨g, cap, _, by rw [hyl], hg, rowBlock hAt hb, by omega, h2, by simp [putCells, h3], ?_⟩⟩
      rw [Nat.mul_one]
      exact takeRow cur _ (by omega)
    · refine hAt.kp.mono fun b _ hbg => ?_
      subst hbg; rfl
end Go.Proofs.Ythnlggecjdifnaa.sortUint32
