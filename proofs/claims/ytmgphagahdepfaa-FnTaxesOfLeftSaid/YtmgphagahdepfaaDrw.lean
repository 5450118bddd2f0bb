/- Words on readers and rows of a call's own. -/
import Derived.Test.YtmgphagahdepfaaReader
import Derived.Test.YtmgphagahdepfaaOwn
namespace Go.Proofs.Ytmgphagahdepfaa
open Go.RowKit

/-- The reader stays one while a row of the call's own grows. -/
theorem Rdr.row {α : Type} {enc : α → List Value} {sz : Nat} {e : TypeId} {base : Nat} {w w' W : World} {v : Value} {l : List α} {B R N : Nat} (h : Rdr w B R N) (ho : Own enc sz e W base v l) (hR : R < base) (hB : B ≤ base) (hg : w.grownBy w' v.ownBlock) : Rdr w' B R N :=
  h.grown hg fun g hv => by have := (ho.lt g hv).1; omega

end Go.Proofs.Ytmgphagahdepfaa
