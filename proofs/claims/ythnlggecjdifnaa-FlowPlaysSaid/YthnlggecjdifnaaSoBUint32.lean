/- The library's sort at uint32: of twelve things at most. -/
import Derived.Test.YthnlggecjdifnaaSoAUint32
import Derived.Test.YthnlggecjdifnaaShelf
import Derived.Deep.LoopGhost
namespace Go.Proofs.Ythnlggecjdifnaa.sortUint32
set_option linter.unusedVariables false
set_option linter.unusedSimpArgs false
open Go.RowKit Go.Sort Go.Proofs.Ythnlggecjdifnaa

set_option maxRecDepth 100000 in
set_option maxHeartbeats 8000000 in
theorem pdqSmall (blk off cap a b limit : Nat) (d : Array Nat) (w : World) (hH : Holds en w blk off d) (hab : a ≤ b) (hb : b ≤ d.size) (hsz : d.size < 4611686018427387904) (h12 : b - a ≤ 12) :
    Calls Try.prog 34 #[.slice (some ⟨blk, off, none⟩) d.size cap, .int .i64 a, .int .i64 b, .int .i64 limit] w fun e w' => e = .returned (.tuple #[]) ∧ ∃ n, w' = putRow en (Sort.ahead w n) blk off (pdq ltn d a b limit true true) := by
  rw [pdq_small h12]
  have hi := Lib.hid (insertion blk off cap a b d w hH hab hb hsz)
  have h12z : (b : Int) - (a : Int) ≤ 12 := by omega
  clear hH
  go_enter Try.func34, Try.ntmps34
  go_wp2
  go_loopg [1, 2, 3, 8, 9] 0 (fun k s1 s2 s3 s8 s9 wr => s1 = .int .i64 a ∧ s2 = .int .i64 b ∧ wr = w)
  case atStart => exact ⟨rfl, rfl, rfl⟩
  case round =>
    obtain ⟨rfl, rfl, rfl⟩ := hrel
    go_wp2_with (go_at_call 36; refine hi.out.mono ?_; rintro e w1 ⟨rfl, hw1⟩)
    (try simp only [Exit.inBlock, Exit.then]); refine bodyPost_ret (results_none rfl _ _ _) rfl ?_
    exact ⟨rfl, hw1⟩
end Go.Proofs.Ythnlggecjdifnaa.sortUint32
