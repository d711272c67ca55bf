/- Walk for layer 24: r24.Put. -/
import Derived.Test.YtacgabagfdlpeaaGreatDoorCfE
namespace Go.Proofs.YtacgabagfdlpeaaGreatDoor
set_option linter.unusedVariables false
set_option linter.unusedSimpArgs false
open Go Go.RowKit Go.Shelf

structure ChkOk (c : CfR) : Prop where
  rank : 1 ≤ c.rank ∧ c.rank ≤ 3
  back : 1 ≤ c.back ∧ c.back ≤ 3
  levels : 1 ≤ c.levels ∧ c.levels ≤ 3
  queues : 1 ≤ c.queues ∧ c.queues ≤ 32
  packets : 1 ≤ c.packets ∧ c.packets ≤ 4096
  share : 0 ≤ c.share ∧ c.share ≤ 16
  flows : 1 ≤ c.flows.length ∧ c.flows.length ≤ 64
theorem chk_ok {c : CfR} (h : chk c = 0) : ChkOk c := by
  unfold chk at h
  split at h
  · cases h
  · split at h
    · cases h
    · split at h
      · cases h
      · split at h
        · rename_i h0; exact absurd h h0
        · rename_i h1 h2 h3 h4
          have h4 : admE c = 0 := by simpa using h4
          unfold admE at h4
          split at h4
          · cases h4
          · split at h4
            · cases h4
            · split at h4
              · cases h4
              · unfold flowsE at h4
                split at h4
                · cases h4
                · exact ⟨by omega, by omega, by omega, by omega, by omega, by omega, by omega⟩
def lnT (c : CfR) (i : Nat) : List UInt8 := nms.getD i [] ++ 32 :: (wordN c i ++ [10])
def flT (f : FlR) : List UInt8 := joinL (flW f) ++ [10]
def hdT (c : CfR) : List UInt8 := lnT c 0 ++ lnT c 1 ++ (lnT c 2 ++ lnT c 3 ++ lnT c 4) ++ (lnT c 5 ++ lnT c 6 ++ lnT c 7 ++ lnT c 8 ++ lnT c 9)
theorem textC_eq (c : CfR) : textC c = hdT c ++ c.flows.flatMap flT := by
  unfold textC itemsC
  rw [List.flatMap_append]
  have e : ((List.range 10).map (hdW c)).flatMap (fun l => joinL l ++ [10]) = hdT c := by
    simp [List.range_succ, hdT, lnT, hdW, joinL]
  rw [e, List.flatMap_map]; rfl
theorem flT_eq (f : FlR) : flT f = [102, 108, 111, 119, 32] ++ putU f.id ++ [32] ++ putU f.cost ++ [32] ++ putU f.budget ++ [32] ++ putU f.size ++ [32] ++ putU f.cap ++ [10] := by
  simp [flT, flW, joinL, nms]
def putT (c : CfR) : List UInt8 := if chk c = 0 then textC c else []
end Go.Proofs.YtacgabagfdlpeaaGreatDoor
