/- A slice in an argument is no longer than its room. Names no function of the program. -/
import Derived.Test.YthnlggecjdifnaaDoorOpen
namespace Go.Proofs.YthnlggecjdifnaaDoor
set_option linter.unusedVariables false
set_option linter.unusedSimpArgs false
open Go.RowKit Go.Deep Go.ChangeShapes Go.WideShapes Go.ChangeAt
theorem open_cap {H : Type} {enc : TypeId × Value → H} {P : Program} {w : World} {base : Nat} {spare : Nat → Bool} {held : Bool} {t e : TypeId} {fuel : Nat} {cs : List Value} {x : DataW H × List MemPlace} (ht : P.underlying t = some (.slice e)) (h : DataW.trod enc P w base spare held fuel t cs = some x) {ao : Option Addr} {len cap : Nat} (hv : cs = [.slice ao len cap]) : len ≤ cap := by
  rcases open_slice ht h with ⟨rfl, _⟩ | ⟨a, len', cap', m, n, D, Pl, rfl, hb, hlc, _⟩
  · injection hv with hv _; injection hv with _ h1 h2; omega
  · injection hv with hv _; injection hv with _ h1 h2; omega
end Go.Proofs.YthnlggecjdifnaaDoor
