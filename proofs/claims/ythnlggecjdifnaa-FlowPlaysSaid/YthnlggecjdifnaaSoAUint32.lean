/- The library's sort at uint32: comparison, and insertion sort: each computes the plain function of the kit's sort over numbers. -/
import Derived.Test.YthnlggecjdifnaaOpen
import Derived.Sort.AssemblyPlain
import Derived.Sort.Walk13a
import Derived.Sort.WalkA
import Derived.BigGuard
import Derived.BigCall
import Derived.CellFam
import Derived.Deep.Draws
import Derived.Deep.QuietTactic
import Derived.BigQuiet
import Derived.Test.YthnlggecjdifnaaProg
namespace Go.Proofs.Ythnlggecjdifnaa.sortUint32
set_option linter.unusedVariables false
set_option linter.unusedSimpArgs false
open Go.RowKit Go.Sort Go.Proofs.Ythnlggecjdifnaa
abbrev en (x : Nat) : Value := .int .u32 x
def ltn (x y : Nat) : Bool := decide (x < y)
theorem ltn_swo : SWO ltn := ⟨fun x => by simp [ltn], fun x y z => by simp only [ltn, decide_eq_true_eq]; omega, fun x y z => by simp only [ltn, decide_eq_false_iff_not]; omega⟩
theorem ltn_tot (x y : Nat) (h1 : ltn x y = false) (h2 : ltn y x = false) : x = y := by simp only [ltn, decide_eq_false_iff_not] at h1 h2; omega
theorem lt_cast (x y : Nat) : decide ((x : Int) < (y : Int)) = ltn x y := by unfold ltn; apply decide_eq_decide.2; omega

set_option maxHeartbeats 1000000 in
theorem isNaN (x : Nat) (w : World) : Calls Try.prog 52 #[en x] w fun e w' => e = .returned (.bool false) ∧ w' = w := by
  go_enter Try.func52, Try.ntmps52
  go_wp2
  go_ret
  exact ⟨by simp, rfl⟩
set_option maxHeartbeats 1000000 in
theorem less (x y : Nat) (w : World) : Calls Try.prog 42 #[en x, en y] w fun e w' => e = .returned (.bool (ltn x y)) ∧ w' = w := by
  go_enter Try.func42, Try.ntmps42
  go_wp2_with (go_at_call 52; refine (isNaN _ _).mono ?_; rintro e w' ⟨rfl, rfl⟩)
  go_ret
  exact ⟨rfl, rfl⟩
def intO : Value → Int | .int _ q => q | _ => 0

set_option maxRecDepth 100000 in
set_option maxHeartbeats 8000000 in
theorem insertion (blk off cap a b : Nat) (d : Array Nat) (w : World) (hH : Holds en w blk off d) (hab : a ≤ b) (hb : b ≤ d.size) (hsz : d.size < 4611686018427387904) :
    Calls Try.prog 36 #[.slice (some ⟨blk, off, none⟩) d.size cap, .int .i64 a, .int .i64 b] w fun e w' => e = .returned (.tuple #[]) ∧ ∃ n, w' = putRow en (Sort.ahead w n) blk off (Sort.insertionSort ltn d a b) := by
  go_enter Try.func36, Try.ntmps36
  go_wp2
  go_loopw [6] (fun vi wr => ∃ (i n : Nat) (D : Array Nat), vi = .int .i64 i ∧ a < i ∧ i ≤ b + 1 ∧ D.size = d.size ∧ wr = putRow en (Sort.ahead w n) blk off D ∧ Hid (insOuter ltn a b i D = insOuter ltn a b (a + 1) d)) (fun vi _ => b + 1 - (intO vi).toNat)
  case atStart => exact ⟨a + 1, 0, d, by go_num, by omega, by omega, rfl, (putRow_self _ _ _ _ _ hH).symm, rfl⟩
  case round =>
    obtain ⟨i, n, D, rfl, hai, hib, hDs, hwr, hO⟩ := hrel
    go_wp2
    · have hlt : i < b := by assumption
      go_loopw [7] (fun vj wr2 => ∃ (j m : Nat) (E : Array Nat), vj = .int .i64 j ∧ a ≤ j ∧ j ≤ i ∧ E.size = d.size ∧ wr2 = putRow en (Sort.ahead w m) blk off E ∧ Hid (insInner ltn a j E = insInner ltn a i D)) (fun vj _ => (intO vj).toNat)
      case atStart => exact ⟨i, n, D, rfl, by omega, Nat.le_refl _, hDs, rfl, rfl⟩
      case round =>
        obtain ⟨j, m, E, rfl, haj, hji, hEs, hw2, hI⟩ := hrel
        obtain ⟨G, hG⟩ : ∃ G : Nat → Nat, ∀ t, G t = E[t]! := ⟨fun t => E[t]!, fun _ => rfl⟩
        have hcw : ∀ t, t < d.size → wr.cell? ⟨blk, off + t, none⟩ = some (en (G t)) := fun t ht => by
          rw [hw2, hG]; exact cell?_putRow _ _ _ _ d E (holds_ahead _ _ _ _ _ _ hH) hEs t (by omega)
        have hfw : ∀ t, t < d.size → wr.frozen? ⟨blk, off + t, none⟩ = false := fun t ht => by
          rw [hw2, frozen?_putRow]; exact ((holds_ahead _ _ m _ _ _ hH) t ht).2
        have HW := Lib.hid hw2
        have HG := Lib.hid hG
        clear hw2 hG hH hwr
        have out : (j ≤ a ∨ ltn E[j]! E[j - 1]! = false) → ∀ q, ∃ i' n' E', Value.int .i64 ((i : Int) + 1) = .int .i64 (i' : Nat) ∧ a < i' ∧ i' ≤ b + 1 ∧ E'.size = d.size ∧
            wr.drewN q = putRow en (Sort.ahead w n') blk off E' ∧ Hid (insOuter ltn a b i' E' = insOuter ltn a b (a + 1) d) := fun hs q =>
          ⟨i + 1, m + q, E, by go_num, by omega, by omega, hEs, by rw [HW.out]; exact putRow_drewN _ _ _ _ _ _ _,
            by show _ = _; rw [← hO.out, insOuter_go _ _ _ _ _ hlt, ← hI.out, insInner_stop _ _ _ _ hs]⟩
        have OUT := Lib.hid out
        clear out
        go_wp2
        by_cases hja : a < j
        · go_quiet (first | (go_at_call 42; refine Calls.quiet_of_same (less _ _ _)))
          go_wp2
          · have hl : ltn (G j) (G (j - 1)) = true := by assumption
            go_region
            all_goals go_wp2
            go_roundw
            case rel =>
              refine ⟨j - 1, m + (nq + 1), swp E j (j - 1), by congr 1; omega, by omega, by omega, by rw [size_swp]; exact hEs, ?_, ?_⟩
              · rw [HW.out, HG.out, HG.out]
                exact swap_worldA _ w m (nq + 1) blk off E j (j - 1) (by omega) (by omega)
              · show _ = _; rw [← hI.out, insInner_go ltn a j E hja (by rw [← HG.out, ← HG.out]; exact hl)]
            case measure => simp [intO]; omega
          · have hl : ltn (G j) (G (j - 1)) = false := by assumption
            go_roundw
            case rel => exact OUT.out (Or.inr (by rw [← HG.out, ← HG.out]; exact hl)) nq
            case measure => simp [intO]; omega
        · go_quiet (first | (go_at_call 42; refine Calls.quiet_of_same (less _ _ _)))
          go_wp2
          go_roundw
          case rel => exact OUT.out (Or.inl (by omega)) nq
          case measure => simp [intO]; omega
    · have hge : ¬ i < b := by assumption
      go_end0
      exact ⟨rfl, n, by unfold Sort.insertionSort; rw [← hO.out, insOuter_stop _ _ _ _ _ hge]⟩
end Go.Proofs.Ythnlggecjdifnaa.sortUint32
