/-
  No cell of these rows narrows 'for every input' (looked for: loops, veiled, ifaces, maps, wideKeys, modest, calm, conditions, laid).
  DERIVED. THE GIVEN ROWS OF THIS SEAT. 6 by the template 'for every input the law returns true; each argument reads behind the call as it read before'; 0 by the template 'total and deterministic' (their statements: YthjapdjglifopaaTotals.lean).
  GIVEN WITH THE SEED: the statements are not yours to turn. If you find one false, say at which input.
  Laid BY PROGRAM, IN A SANDBOX (cutbox-rows.mjs): the forced cells as the released guide's own fill.sh prints them over the translation 501ff2ab3417ce71… (all of the seat's roots in one cut). By AI agents, Wed Nov 11 2026. No macro, syntax, notation, axiom, sorry.
-/
import Derived.Test.YthjapdjglifopaaChecked
import GoSem.Claim
import GoSem.ClaimJoined
import GoSem.ClaimMapViews
import Derived.JoinedTies
import Derived.KernelRfl
namespace Go.Proofs.Ythjapdjglifopaa
/- THE CELL 'sum', in the pinned program and in every row, IS THE sha256 OF THE DUMP (.gsa) THAT YthjapdjglifopaaProg.lean LOADS. Nothing in Lean hashes anything: it is a label: what it is worth is what the hold of that sum in a sandbox is worth. -/
noncomputable def Try.pinned : Pinned := { name := "ythjapdjglifopaa", sum := "501ff2ab3417ce715d5f8866556556064eddd790d7469b25871b5ba3a830bfdf", checked := Try.checked }
namespace Rows
def none {H : Type} : Left H := { results := [], args := [] }

/-- 'pacemakerlaw27.FairTells': WHATEVER THE INPUT: true; the input reads as it did. -/
def fairTellsSpec : ChangeSpec := { name := "fairTells", fn := fun _ => fun
  | [d1, d2, d3] => { results := [.lit (.bool true)], args := [d1, d2, d3] }
  | _ => none }
def fairTellsRow : OpenClaim := { program := "ythjapdjglifopaa", sum := "501ff2ab3417ce715d5f8866556556064eddd790d7469b25871b5ba3a830bfdf", func := "pacemaker/pacemakerlaw27.FairTells", spec := "fairTells", inPlace := ["math/bits.Add64", "math/bits.Sub64"], unfollowed := true, recurses := true, plainKeys := false, apart := false }
def FairTellsSaid : Prop := fairTellsRow.holds Try.pinned (OpenSpec.ofChange fairTellsSpec)

/-- ITS FALSE NEIGHBOUR: 'it returns false'. Refute it at one input. -/
def fairTellsWrong : ChangeSpec := { name := "fairTells", fn := fun _ => fun
  | [d1, d2, d3] => { results := [.lit (.bool false)], args := [d1, d2, d3] }
  | _ => none }
def FairTellsWrongFalsely : Prop := fairTellsRow.holds Try.pinned (OpenSpec.ofChange fairTellsWrong)

/-- 'pacemakerlaw27.FairWaits': WHATEVER THE INPUT: true; the input reads as it did. -/
def fairWaitsSpec : ChangeSpec := { name := "fairWaits", fn := fun _ => fun
  | [d1, d2] => { results := [.lit (.bool true)], args := [d1, d2] }
  | _ => none }
def fairWaitsRow : OpenClaim := { program := "ythjapdjglifopaa", sum := "501ff2ab3417ce715d5f8866556556064eddd790d7469b25871b5ba3a830bfdf", func := "pacemaker/pacemakerlaw27.FairWaits", spec := "fairWaits", inPlace := ["math/bits.Add64", "math/bits.Sub64"], unfollowed := true, recurses := true, plainKeys := false, apart := false }
def FairWaitsSaid : Prop := fairWaitsRow.holds Try.pinned (OpenSpec.ofChange fairWaitsSpec)

/-- ITS FALSE NEIGHBOUR: 'it returns false'. Refute it at one input. -/
def fairWaitsWrong : ChangeSpec := { name := "fairWaits", fn := fun _ => fun
  | [d1, d2] => { results := [.lit (.bool false)], args := [d1, d2] }
  | _ => none }
def FairWaitsWrongFalsely : Prop := fairWaitsRow.holds Try.pinned (OpenSpec.ofChange fairWaitsWrong)

/-- 'pacemakerlaw39.TracePuts': WHATEVER THE INPUT: true; the input reads as it did. -/
def tracePutsSpec : ChangeSpec := { name := "tracePuts", fn := fun _ => fun
  | [d1, d2] => { results := [.lit (.bool true)], args := [d1, d2] }
  | _ => none }
def tracePutsRow : OpenClaim := { program := "ythjapdjglifopaa", sum := "501ff2ab3417ce715d5f8866556556064eddd790d7469b25871b5ba3a830bfdf", func := "pacemaker/pacemakerlaw39.TracePuts", spec := "tracePuts", inPlace := ["internal/abi.NoEscape", "math/bits.Add64"], recurses := true, plainKeys := false, apart := false }
def TracePutsSaid : Prop := tracePutsRow.holds Try.pinned (OpenSpec.ofChange tracePutsSpec)

/-- ITS FALSE NEIGHBOUR: 'it returns false'. Refute it at one input. -/
def tracePutsWrong : ChangeSpec := { name := "tracePuts", fn := fun _ => fun
  | [d1, d2] => { results := [.lit (.bool false)], args := [d1, d2] }
  | _ => none }
def TracePutsWrongFalsely : Prop := tracePutsRow.holds Try.pinned (OpenSpec.ofChange tracePutsWrong)

/-- 'pacemakerlaw39.TraceBack': WHATEVER THE INPUT: true; the input reads as it did. -/
def traceBackSpec : ChangeSpec := { name := "traceBack", fn := fun _ => fun
  | [d1, d2, d3] => { results := [.lit (.bool true)], args := [d1, d2, d3] }
  | _ => none }
def traceBackRow : OpenClaim := { program := "ythjapdjglifopaa", sum := "501ff2ab3417ce715d5f8866556556064eddd790d7469b25871b5ba3a830bfdf", func := "pacemaker/pacemakerlaw39.TraceBack", spec := "traceBack", inPlace := ["internal/abi.NoEscape", "math/bits.Add64"], plainKeys := false, apart := false }
def TraceBackSaid : Prop := traceBackRow.holds Try.pinned (OpenSpec.ofChange traceBackSpec)

/-- ITS FALSE NEIGHBOUR: 'it returns false'. Refute it at one input. -/
def traceBackWrong : ChangeSpec := { name := "traceBack", fn := fun _ => fun
  | [d1, d2, d3] => { results := [.lit (.bool false)], args := [d1, d2, d3] }
  | _ => none }
def TraceBackWrongFalsely : Prop := traceBackRow.holds Try.pinned (OpenSpec.ofChange traceBackWrong)

/-- 'pacemakerlaw39.TraceFinds': WHATEVER THE INPUT: true; the input reads as it did. -/
def traceFindsSpec : ChangeSpec := { name := "traceFinds", fn := fun _ => fun
  | [d1, d2, d3] => { results := [.lit (.bool true)], args := [d1, d2, d3] }
  | _ => none }
def traceFindsRow : OpenClaim := { program := "ythjapdjglifopaa", sum := "501ff2ab3417ce715d5f8866556556064eddd790d7469b25871b5ba3a830bfdf", func := "pacemaker/pacemakerlaw39.TraceFinds", spec := "traceFinds", inPlace := ["internal/abi.NoEscape", "math/bits.Add64"], plainKeys := false, apart := false }
def TraceFindsSaid : Prop := traceFindsRow.holds Try.pinned (OpenSpec.ofChange traceFindsSpec)

/-- ITS FALSE NEIGHBOUR: 'it returns false'. Refute it at one input. -/
def traceFindsWrong : ChangeSpec := { name := "traceFinds", fn := fun _ => fun
  | [d1, d2, d3] => { results := [.lit (.bool false)], args := [d1, d2, d3] }
  | _ => none }
def TraceFindsWrongFalsely : Prop := traceFindsRow.holds Try.pinned (OpenSpec.ofChange traceFindsWrong)

/-- 'pacemakerlaw39.TraceOf': WHATEVER THE INPUT: true; the input reads as it did. -/
def traceOfSpec : ChangeSpec := { name := "traceOf", fn := fun _ => fun
  | [d1, d2, d3] => { results := [.lit (.bool true)], args := [d1, d2, d3] }
  | _ => none }
def traceOfRow : OpenClaim := { program := "ythjapdjglifopaa", sum := "501ff2ab3417ce715d5f8866556556064eddd790d7469b25871b5ba3a830bfdf", func := "pacemaker/pacemakerlaw39.TraceOf", spec := "traceOf", inPlace := ["internal/abi.NoEscape", "math/bits.Add64"], plainKeys := false, apart := false }
def TraceOfSaid : Prop := traceOfRow.holds Try.pinned (OpenSpec.ofChange traceOfSpec)

/-- ITS FALSE NEIGHBOUR: 'it returns false'. Refute it at one input. -/
def traceOfWrong : ChangeSpec := { name := "traceOf", fn := fun _ => fun
  | [d1, d2, d3] => { results := [.lit (.bool false)], args := [d1, d2, d3] }
  | _ => none }
def TraceOfWrongFalsely : Prop := traceOfRow.holds Try.pinned (OpenSpec.ofChange traceOfWrong)

/- THE SECOND FORM. 'bulk': how many values and letters a reading holds, each counted each time it is reached (what is shared counts as often as it is met; a slice's spare places count too). A statement '..UptoSaid' is the law's where the arguments, and the package variables that the reading takes, are together of bulk at most 1048576: NARROWER than '..Said'. Prove '..Said' where nothing that the law and all that it calls make is longer than what came in: it says more and counts as full. Else prove '..UptoSaid'. A law counts once. -/
mutual
def uptoBulk {H : Type} : DataW H → Nat
  | .lit (.string bytes) => bytes.length + 1
  | .lit _ => 1
  | .nil => 1
  | .ptr d => uptoBulk d + 1
  | .slice elems spare => uptoBulkAll elems + uptoBulkAll spare + 1
  | .agg parts => uptoBulkAll parts + 1
  | .iface _ d => uptoBulk d + 1
  | .map entries => uptoBulkEntries entries + 1
  | .held _ => 1
def uptoBulkAll {H : Type} : List (DataW H) → Nat
  | [] => 0
  | d :: r => uptoBulk d + uptoBulkAll r
def uptoBulkEntries {H : Type} : List (Lit × DataW H) → Nat
  | [] => 0
  | x :: r => uptoBulkEntry x + uptoBulkEntries r
def uptoBulkEntry {H : Type} : Lit × DataW H → Nat
  | (.string bytes, d) => bytes.length + uptoBulk d + 1
  | (_, d) => uptoBulk d + 1
 end
def uptoSmall : (H : Type) → List (DataW H) → Bool := fun _ ds => decide (uptoBulkAll ds ≤ 1048576)
def OpenSpec.upto (s : _root_.Go.ChangeSpec) : _root_.Go.OpenSpec := { _root_.Go.OpenSpec.ofChange s with cond := some uptoSmall }

/-- 'pacemakerlaw27.FairTells', WHERE WHAT IT READS IS OF BULK AT MOST 1048576: true; the input reads as it did. -/
def fairTellsUptoRow : OpenClaim := { program := "ythjapdjglifopaa", sum := "501ff2ab3417ce715d5f8866556556064eddd790d7469b25871b5ba3a830bfdf", func := "pacemaker/pacemakerlaw27.FairTells", spec := "fairTells", inPlace := ["math/bits.Add64", "math/bits.Sub64"], unfollowed := true, recurses := true, plainKeys := false, apart := false, narrowed := true }
def FairTellsUptoSaid : Prop := fairTellsUptoRow.holds Try.pinned (OpenSpec.upto fairTellsSpec)

/-- 'pacemakerlaw27.FairWaits', WHERE WHAT IT READS IS OF BULK AT MOST 1048576: true; the input reads as it did. -/
def fairWaitsUptoRow : OpenClaim := { program := "ythjapdjglifopaa", sum := "501ff2ab3417ce715d5f8866556556064eddd790d7469b25871b5ba3a830bfdf", func := "pacemaker/pacemakerlaw27.FairWaits", spec := "fairWaits", inPlace := ["math/bits.Add64", "math/bits.Sub64"], unfollowed := true, recurses := true, plainKeys := false, apart := false, narrowed := true }
def FairWaitsUptoSaid : Prop := fairWaitsUptoRow.holds Try.pinned (OpenSpec.upto fairWaitsSpec)

/-- 'pacemakerlaw39.TracePuts', WHERE WHAT IT READS IS OF BULK AT MOST 1048576: true; the input reads as it did. -/
def tracePutsUptoRow : OpenClaim := { program := "ythjapdjglifopaa", sum := "501ff2ab3417ce715d5f8866556556064eddd790d7469b25871b5ba3a830bfdf", func := "pacemaker/pacemakerlaw39.TracePuts", spec := "tracePuts", inPlace := ["internal/abi.NoEscape", "math/bits.Add64"], recurses := true, plainKeys := false, apart := false, narrowed := true }
def TracePutsUptoSaid : Prop := tracePutsUptoRow.holds Try.pinned (OpenSpec.upto tracePutsSpec)

/-- 'pacemakerlaw39.TraceBack', WHERE WHAT IT READS IS OF BULK AT MOST 1048576: true; the input reads as it did. -/
def traceBackUptoRow : OpenClaim := { program := "ythjapdjglifopaa", sum := "501ff2ab3417ce715d5f8866556556064eddd790d7469b25871b5ba3a830bfdf", func := "pacemaker/pacemakerlaw39.TraceBack", spec := "traceBack", inPlace := ["internal/abi.NoEscape", "math/bits.Add64"], plainKeys := false, apart := false, narrowed := true }
def TraceBackUptoSaid : Prop := traceBackUptoRow.holds Try.pinned (OpenSpec.upto traceBackSpec)

/-- 'pacemakerlaw39.TraceFinds', WHERE WHAT IT READS IS OF BULK AT MOST 1048576: true; the input reads as it did. -/
def traceFindsUptoRow : OpenClaim := { program := "ythjapdjglifopaa", sum := "501ff2ab3417ce715d5f8866556556064eddd790d7469b25871b5ba3a830bfdf", func := "pacemaker/pacemakerlaw39.TraceFinds", spec := "traceFinds", inPlace := ["internal/abi.NoEscape", "math/bits.Add64"], plainKeys := false, apart := false, narrowed := true }
def TraceFindsUptoSaid : Prop := traceFindsUptoRow.holds Try.pinned (OpenSpec.upto traceFindsSpec)

/-- 'pacemakerlaw39.TraceOf', WHERE WHAT IT READS IS OF BULK AT MOST 1048576: true; the input reads as it did. -/
def traceOfUptoRow : OpenClaim := { program := "ythjapdjglifopaa", sum := "501ff2ab3417ce715d5f8866556556064eddd790d7469b25871b5ba3a830bfdf", func := "pacemaker/pacemakerlaw39.TraceOf", spec := "traceOf", inPlace := ["internal/abi.NoEscape", "math/bits.Add64"], plainKeys := false, apart := false, narrowed := true }
def TraceOfUptoSaid : Prop := traceOfUptoRow.holds Try.pinned (OpenSpec.upto traceOfSpec)

end Rows
end Go.Proofs.Ythjapdjglifopaa
