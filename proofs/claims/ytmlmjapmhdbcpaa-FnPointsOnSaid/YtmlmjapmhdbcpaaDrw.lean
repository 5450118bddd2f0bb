/- Words on rows and readers of a call's own. -/
import Derived.Test.YtmlmjapmhdbcpaaReader
import Derived.Test.YtmlmjapmhdbcpaaApp
namespace Go.Proofs.Ytmlmjapmhdbcpaa
open Go.RowKit

theorem Own.off {α : Type} {enc : α → List Value} {sz : Nat} {e : TypeId} {base : Nat} {w : World} {v : Value} {l : List α} (h : Own enc sz e w base v l) {R : Nat} (hR : R < base) : v.ownBlock = none ∨ v.ownBlock ≠ some R := by
  cases hv : v.ownBlock with
  | none => exact .inl rfl
  | some k => right; intro he; have := (h.lt k hv).1; cases he; omega
theorem Own.off' {α : Type} {enc : α → List Value} {sz : Nat} {e : TypeId} {base : Nat} {w : World} {v : Value} {l : List α} (h : Own enc sz e w base v l) {R : Nat} (hR : R < base) : v.ownBlock ≠ some R := fun he => by
  have := (h.lt R he).1; omega
theorem only_grown {a b c : World} {row row' : Option Nat} (h : a.grownBy b row) (k : b.grownBy c row') (hr : ∀ g, row' = some g → a.heap.size ≤ g) : a.grownBy c row :=
  ⟨k.os.trans h.os, k.tape.trans h.tape, k.output.trans h.output, Nat.le_trans h.size k.size, fun i hi hne => (k.block i (Nat.lt_of_lt_of_le hi h.size) (fun e => by have := hr i e.symm; omega)).trans (h.block i hi hne)⟩
/-- The reader stays one while a row of the call's own grows. -/
theorem Rdr.row {α : Type} {enc : α → List Value} {sz : Nat} {e : TypeId} {base : Nat} {w w' W : World} {v : Value} {l : List α} {B R N : Nat} (h : Rdr w B R N) (ho : Own enc sz e W base v l) (hR : R < base) (hB : B ≤ base) (hg : w.grownBy w' v.ownBlock) : Rdr w' B R N :=
  h.grown hg fun g hv => by have := (ho.lt g hv).1; omega
theorem only_row {α : Type} {enc : α → List Value} {sz : Nat} {e : TypeId} {base : Nat} {a b c W : World} {v : Value} {l : List α} {row : Option Nat} (h : a.grownBy b row) (ho : Own enc sz e W base v l) (hb : a.heap.size ≤ base) (hg : b.grownBy c v.ownBlock) : a.grownBy c row :=
  only_grown h hg fun g hv => by have := (ho.lt g hv).1; omega

end Go.Proofs.Ytmlmjapmhdbcpaa
