/- The library's sort at uint32: a range turned about. -/
import Derived.Test.YthnlggecjdifnaaSoAUint32
namespace Go.Proofs.Ythnlggecjdifnaa.sortUint32
set_option linter.unusedVariables false
set_option linter.unusedSimpArgs false
open Go.RowKit Go.Sort Go.Proofs.Ythnlggecjdifnaa
theorem rev_go (i j : Nat) (d : Array Nat) (h : i < j) : reverseLoop i j d = reverseLoop (i + 1) (j - 1) (swp d i j) := by rw [reverseLoop, if_pos h]
theorem rev_stop (i j : Nat) (d : Array Nat) (h : ¬ i < j) : reverseLoop i j d = d := by rw [reverseLoop, if_neg h]
set_option maxRecDepth 100000 in
set_option maxHeartbeats 8000000 in
theorem reverseR (blk off cap a b : Nat) (d : Array Nat) (w : World) (hH : Holds en w blk off d) (hab : a ≤ b) (hb : b ≤ d.size) (hsz : d.size < 4611686018427387904) :
    Calls Try.prog 40 #[.slice (some ⟨blk, off, none⟩) d.size cap, .int .i64 a, .int .i64 b] w fun e w' => e = .returned (.tuple #[]) ∧ ∃ n, w' = putRow en (Sort.ahead w n) blk off (Sort.reverseRange d a b) := by
  go_enter Try.func40, Try.ntmps40
  go_wp2
  go_loopw [6, 7] (fun vi vj wr => ∃ (i j n : Nat) (D : Array Nat), vi = .int .i64 i ∧ vj = .int .i64 ((j : Int) - 1) ∧ i ≤ d.size ∧ j ≤ d.size ∧ D.size = d.size ∧ wr = putRow en (Sort.ahead w n) blk off D ∧ Hid (reverseLoop i (j - 1) D = Sort.reverseRange d a b)) (fun _ vj _ => (intO vj).toNat)
  case atStart => exact ⟨a, b, 0, d, rfl, rfl, by omega, hb, rfl, (putRow_self _ _ _ _ _ hH).symm, rfl⟩
  case round =>
    obtain ⟨i, j, n, D, rfl, rfl, hi, hj, hDs, hwr, hO⟩ := hrel
    by_cases hlt : i < j - 1
    · obtain ⟨k, hk⟩ : ∃ k, j - 1 = k := ⟨_, rfl⟩
      have hjk : (j : Int) - 1 = (k : Int) := by omega
      rw [hk] at hlt hO
      have hkd : k < d.size := by omega
      have hlti : (i : Int) < k := by omega
      have hid : i < d.size := by omega
      simp only [hjk]
      obtain ⟨G, hG⟩ : ∃ G : Nat → Nat, ∀ t, G t = D[t]! := ⟨fun t => D[t]!, fun _ => rfl⟩
      have hcw : ∀ t, t < d.size → wr.cell? ⟨blk, off + t, none⟩ = some (en (G t)) := fun t ht => by
        rw [hwr, hG]; exact cell?_putRow _ _ _ _ d D (holds_ahead _ _ _ _ _ _ hH) hDs t (by omega)
      have hfw : ∀ t, t < d.size → wr.frozen? ⟨blk, off + t, none⟩ = false := fun t ht => by
        rw [hwr, frozen?_putRow]; exact ((holds_ahead _ _ n _ _ _ hH) t ht).2
      have HW := Lib.hid hwr
      have HG := Lib.hid hG
      have hk1 : Hid ((k : Int) - 1 = (((k : Nat) : Int)) - 1) := rfl
      clear hwr hG hH hk hjk hj
      go_wp2
      go_region
      all_goals go_wp2
      go_roundw
      case rel =>
        refine ⟨i + 1, k, n + 1, swp D i k, by go_num, rfl, by omega, by omega, by rw [size_swp]; exact hDs, ?_, ?_⟩
        · rw [HW.out, HG.out, HG.out]
          exact swap_worldA _ w n 1 blk off D i k (by omega) (by omega)
        · show _ = _
          rw [← hO.out, rev_go _ _ _ hlt]
      case measure => first | (simp [intO]; done) | (simp [intO]; omega)
    · have hlti : ¬ (i : Int) < (j : Int) - 1 := by omega
      have hO2 := hO.out
      rw [rev_stop _ _ _ hlt] at hO2
      have HO2 := Lib.hid hO2
      clear hO2 hO
      go_wp2
      go_end0
      exact ⟨rfl, n, by first | (rw [← HO2.out]; done) | (rw [← HO2.out]; exact hwr)⟩
end Go.Proofs.Ythnlggecjdifnaa.sortUint32
