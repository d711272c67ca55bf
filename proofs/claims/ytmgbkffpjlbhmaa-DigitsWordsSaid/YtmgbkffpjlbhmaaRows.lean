/-
  No cell of these rows narrows 'for every input' (looked for: loops, veiled, ifaces, maps, wideKeys, modest, calm, conditions, laid).
  DERIVED. THE GIVEN ROWS OF THIS SEAT. 4 by the template 'for every input the law returns true; each argument reads behind the call as it read before'; 0 by the template 'total and deterministic' (their statements: YtmgbkffpjlbhmaaTotals.lean).
  GIVEN WITH THE SEED: the statements are not yours to turn. If you find one false, say at which input.
  Laid BY PROGRAM, IN A SANDBOX (cutbox-rows.mjs): the forced cells as the released guide's own fill.sh prints them over the translation 4f4dd3afd4268a17… (all of the seat's roots in one cut). By AI agents, Wed Nov 11 2026. No macro, syntax, notation, axiom, sorry.
-/
import Derived.Test.YtmgbkffpjlbhmaaChecked
import GoSem.Claim
import GoSem.ClaimJoined
import GoSem.ClaimMapViews
import Derived.JoinedTies
import Derived.KernelRfl
namespace Go.Proofs.Ytmgbkffpjlbhmaa
/- THE CELL 'sum', in the pinned program and in every row, IS THE sha256 OF THE DUMP (.gsa) THAT YtmgbkffpjlbhmaaProg.lean LOADS. Nothing in Lean hashes anything: it is a label: what it is worth is what the hold of that sum in a sandbox is worth. -/
noncomputable def Try.pinned : Pinned := { name := "ytmgbkffpjlbhmaa", sum := "4f4dd3afd4268a17b1c92db52c18b8ec9329cb7406935f2938e023d565ee0943", checked := Try.checked }
namespace Rows
def none {H : Type} : Left H := { results := [], args := [] }

/-- 'pacemakerlaw03.DigitsReads': WHATEVER THE INPUT: true; the input reads as it did. -/
def digitsReadsSpec : ChangeSpec := { name := "digitsReads", fn := fun _ => fun
  | [d] => { results := [.lit (.bool true)], args := [d] }
  | _ => none }
def digitsReadsRow : OpenClaim := { program := "ytmgbkffpjlbhmaa", sum := "4f4dd3afd4268a17b1c92db52c18b8ec9329cb7406935f2938e023d565ee0943", func := "pacemaker/pacemakerlaw03.DigitsReads", spec := "digitsReads", unfollowed := true, recurses := true, named := ["math/bits.divideError", "math/bits.overflowError"], apart := false }
def DigitsReadsSaid : Prop := digitsReadsRow.holds Try.pinned (OpenSpec.ofChange digitsReadsSpec)

/-- ITS FALSE NEIGHBOUR: 'it returns false'. Refute it at one input. -/
def digitsReadsWrong : ChangeSpec := { name := "digitsReads", fn := fun _ => fun
  | [d] => { results := [.lit (.bool false)], args := [d] }
  | _ => none }
def DigitsReadsWrongFalsely : Prop := digitsReadsRow.holds Try.pinned (OpenSpec.ofChange digitsReadsWrong)

/-- 'pacemakerlaw03.DigitsBack': WHATEVER THE INPUT: true; the input reads as it did. -/
def digitsBackSpec : ChangeSpec := { name := "digitsBack", fn := fun _ => fun
  | [d1, d2] => { results := [.lit (.bool true)], args := [d1, d2] }
  | _ => none }
def digitsBackRow : OpenClaim := { program := "ytmgbkffpjlbhmaa", sum := "4f4dd3afd4268a17b1c92db52c18b8ec9329cb7406935f2938e023d565ee0943", func := "pacemaker/pacemakerlaw03.DigitsBack", spec := "digitsBack", unfollowed := true, recurses := true, named := ["math/bits.divideError", "math/bits.overflowError"], apart := false }
def DigitsBackSaid : Prop := digitsBackRow.holds Try.pinned (OpenSpec.ofChange digitsBackSpec)

/-- ITS FALSE NEIGHBOUR: 'it returns false'. Refute it at one input. -/
def digitsBackWrong : ChangeSpec := { name := "digitsBack", fn := fun _ => fun
  | [d1, d2] => { results := [.lit (.bool false)], args := [d1, d2] }
  | _ => none }
def DigitsBackWrongFalsely : Prop := digitsBackRow.holds Try.pinned (OpenSpec.ofChange digitsBackWrong)

/-- 'pacemakerlaw03.DigitsWords': WHATEVER THE INPUT: true; the input reads as it did. -/
def digitsWordsSpec : ChangeSpec := { name := "digitsWords", fn := fun _ => fun
  | [d1, d2] => { results := [.lit (.bool true)], args := [d1, d2] }
  | _ => none }
def digitsWordsRow : OpenClaim := { program := "ytmgbkffpjlbhmaa", sum := "4f4dd3afd4268a17b1c92db52c18b8ec9329cb7406935f2938e023d565ee0943", func := "pacemaker/pacemakerlaw03.DigitsWords", spec := "digitsWords", inPlace := ["internal/abi.NoEscape", "internal/bytealg.MakeNoZero"], unfollowed := true, recurses := true, named := ["math/bits.divideError", "math/bits.overflowError"], apart := false }
def DigitsWordsSaid : Prop := digitsWordsRow.holds Try.pinned (OpenSpec.ofChange digitsWordsSpec)

/-- ITS FALSE NEIGHBOUR: 'it returns false'. Refute it at one input. -/
def digitsWordsWrong : ChangeSpec := { name := "digitsWords", fn := fun _ => fun
  | [d1, d2] => { results := [.lit (.bool false)], args := [d1, d2] }
  | _ => none }
def DigitsWordsWrongFalsely : Prop := digitsWordsRow.holds Try.pinned (OpenSpec.ofChange digitsWordsWrong)

/-- 'pacemakerlaw03.DigitsJoins': WHATEVER THE INPUT: true; the input reads as it did. -/
def digitsJoinsSpec : ChangeSpec := { name := "digitsJoins", fn := fun _ => fun
  | [d1, d2] => { results := [.lit (.bool true)], args := [d1, d2] }
  | _ => none }
def digitsJoinsRow : OpenClaim := { program := "ytmgbkffpjlbhmaa", sum := "4f4dd3afd4268a17b1c92db52c18b8ec9329cb7406935f2938e023d565ee0943", func := "pacemaker/pacemakerlaw03.DigitsJoins", spec := "digitsJoins", inPlace := ["internal/abi.NoEscape", "internal/bytealg.MakeNoZero"], unfollowed := true, recurses := true, named := ["math/bits.divideError", "math/bits.overflowError"], apart := false }
def DigitsJoinsSaid : Prop := digitsJoinsRow.holds Try.pinned (OpenSpec.ofChange digitsJoinsSpec)

/-- ITS FALSE NEIGHBOUR: 'it returns false'. Refute it at one input. -/
def digitsJoinsWrong : ChangeSpec := { name := "digitsJoins", fn := fun _ => fun
  | [d1, d2] => { results := [.lit (.bool false)], args := [d1, d2] }
  | _ => none }
def DigitsJoinsWrongFalsely : Prop := digitsJoinsRow.holds Try.pinned (OpenSpec.ofChange digitsJoinsWrong)

/- THE SECOND FORM. 'bulk': how many values and letters a reading holds, each counted each time it is reached (what is shared counts as often as it is met; a slice's spare places count too). A statement '..UptoSaid' is the law's where the arguments, and the package variables that the reading takes, are together of bulk at most 1048576: NARROWER than '..Said'. Prove '..Said' where nothing that the law and all that it calls make is longer than what came in: it says more and counts as full. Else prove '..UptoSaid'. A law counts once. -/
mutual
def uptoBulk {H : Type} : DataW H → Nat
  | .lit (.string bytes) => bytes.length + 1
  | .lit _ => 1
  | .nil => 1
  | .ptr d => uptoBulk d + 1
  | .slice elems spare => uptoBulkAll elems + uptoBulkAll spare + 1
  | .agg parts => uptoBulkAll parts + 1
  | .iface _ d => uptoBulk d + 1
  | .map entries => uptoBulkEntries entries + 1
  | .held _ => 1
def uptoBulkAll {H : Type} : List (DataW H) → Nat
  | [] => 0
  | d :: r => uptoBulk d + uptoBulkAll r
def uptoBulkEntries {H : Type} : List (Lit × DataW H) → Nat
  | [] => 0
  | x :: r => uptoBulkEntry x + uptoBulkEntries r
def uptoBulkEntry {H : Type} : Lit × DataW H → Nat
  | (.string bytes, d) => bytes.length + uptoBulk d + 1
  | (_, d) => uptoBulk d + 1
 end
def uptoSmall : (H : Type) → List (DataW H) → Bool := fun _ ds => decide (uptoBulkAll ds ≤ 1048576)
def OpenSpec.upto (s : _root_.Go.ChangeSpec) : _root_.Go.OpenSpec := { _root_.Go.OpenSpec.ofChange s with cond := some uptoSmall }

/-- 'pacemakerlaw03.DigitsReads', WHERE WHAT IT READS IS OF BULK AT MOST 1048576: true; the input reads as it did. -/
def digitsReadsUptoRow : OpenClaim := { program := "ytmgbkffpjlbhmaa", sum := "4f4dd3afd4268a17b1c92db52c18b8ec9329cb7406935f2938e023d565ee0943", func := "pacemaker/pacemakerlaw03.DigitsReads", spec := "digitsReads", unfollowed := true, recurses := true, named := ["math/bits.divideError", "math/bits.overflowError"], apart := false, narrowed := true }
def DigitsReadsUptoSaid : Prop := digitsReadsUptoRow.holds Try.pinned (OpenSpec.upto digitsReadsSpec)

/-- 'pacemakerlaw03.DigitsBack', WHERE WHAT IT READS IS OF BULK AT MOST 1048576: true; the input reads as it did. -/
def digitsBackUptoRow : OpenClaim := { program := "ytmgbkffpjlbhmaa", sum := "4f4dd3afd4268a17b1c92db52c18b8ec9329cb7406935f2938e023d565ee0943", func := "pacemaker/pacemakerlaw03.DigitsBack", spec := "digitsBack", unfollowed := true, recurses := true, named := ["math/bits.divideError", "math/bits.overflowError"], apart := false, narrowed := true }
def DigitsBackUptoSaid : Prop := digitsBackUptoRow.holds Try.pinned (OpenSpec.upto digitsBackSpec)

/-- 'pacemakerlaw03.DigitsWords', WHERE WHAT IT READS IS OF BULK AT MOST 1048576: true; the input reads as it did. -/
def digitsWordsUptoRow : OpenClaim := { program := "ytmgbkffpjlbhmaa", sum := "4f4dd3afd4268a17b1c92db52c18b8ec9329cb7406935f2938e023d565ee0943", func := "pacemaker/pacemakerlaw03.DigitsWords", spec := "digitsWords", inPlace := ["internal/abi.NoEscape", "internal/bytealg.MakeNoZero"], unfollowed := true, recurses := true, named := ["math/bits.divideError", "math/bits.overflowError"], apart := false, narrowed := true }
def DigitsWordsUptoSaid : Prop := digitsWordsUptoRow.holds Try.pinned (OpenSpec.upto digitsWordsSpec)

/-- 'pacemakerlaw03.DigitsJoins', WHERE WHAT IT READS IS OF BULK AT MOST 1048576: true; the input reads as it did. -/
def digitsJoinsUptoRow : OpenClaim := { program := "ytmgbkffpjlbhmaa", sum := "4f4dd3afd4268a17b1c92db52c18b8ec9329cb7406935f2938e023d565ee0943", func := "pacemaker/pacemakerlaw03.DigitsJoins", spec := "digitsJoins", inPlace := ["internal/abi.NoEscape", "internal/bytealg.MakeNoZero"], unfollowed := true, recurses := true, named := ["math/bits.divideError", "math/bits.overflowError"], apart := false, narrowed := true }
def DigitsJoinsUptoSaid : Prop := digitsJoinsUptoRow.holds Try.pinned (OpenSpec.upto digitsJoinsSpec)

end Rows
end Go.Proofs.Ytmgbkffpjlbhmaa
