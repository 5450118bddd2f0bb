/- Words on rows of a call's own: how they read, how they lie apart. No program in sight. -/
import Derived.Test.YtmgphagahdepfaaApp
namespace Go.Proofs.Ytmgphagahdepfaa
open Go.RowKit

theorem Own.off {α : Type} {enc : α → List Value} {sz : Nat} {e : TypeId} {base : Nat} {w : World} {v : Value} {l : List α} (h : Own enc sz e w base v l) {R : Nat} (hR : R < base) : v.ownBlock = none ∨ v.ownBlock ≠ some R := by
  cases hv : v.ownBlock with
  | none => exact .inl rfl
  | some k => right; intro he; have := (h.lt k hv).1; cases he; omega
theorem Own.off' {α : Type} {enc : α → List Value} {sz : Nat} {e : TypeId} {base : Nat} {w : World} {v : Value} {l : List α} (h : Own enc sz e w base v l) {R : Nat} (hR : R < base) : v.ownBlock ≠ some R := fun he => by
  have := (h.lt R he).1; omega
theorem Own.sl {α : Type} {enc : α → List Value} {sz : Nat} {e : TypeId} {base : Nat} {w : World} {A : Option Addr} {n cap : Nat} {l : List α} (henc : ∀ a, (enc a).length = sz) (h : Own enc sz e w base (.slice A n cap) l) : Sl enc sz w w.heap.size A l := by
  obtain ⟨A', c', he, _, r⟩ := h.reads henc
  injection he with h1 h2 h3
  subst h1; exact r
theorem Own.drew {α : Type} {enc : α → List Value} {sz : Nat} {e : TypeId} {base : Nat} {w : World} {v : Value} {l : List α} (h : Own enc sz e w base v l) : Own enc sz e w.drew base v l := h
/-- Two rows, one made behind the other. -/
theorem Own.apart {α β : Type} {enc : α → List Value} {enc' : β → List Value} {sz sz' : Nat} {e e' : TypeId} {b b' : Nat} {w w' : World} {v v' : Value} {l : List α} {l' : List β}
    (h : Own enc sz e w b v l) (h' : Own enc' sz' e' w' b' v' l') (hlt : w.heap.size ≤ b' ∨ w'.heap.size ≤ b) : v.ownBlock = none ∨ v.ownBlock ≠ v'.ownBlock := by
  cases hv : v.ownBlock with
  | none => exact .inl rfl
  | some k =>
    right; intro he
    have h1 := h.lt k hv
    have h2 := h'.lt k he.symm
    omega
theorem only_grown {a b c : World} {row row' : Option Nat} (h : a.grownBy b row) (k : b.grownBy c row') (hr : ∀ g, row' = some g → a.heap.size ≤ g) : a.grownBy c row :=
  ⟨k.os.trans h.os, k.tape.trans h.tape, k.output.trans h.output, Nat.le_trans h.size k.size, fun i hi hne => (k.block i (Nat.lt_of_lt_of_le hi h.size) (fun e => by have := hr i e.symm; omega)).trans (h.block i hi hne)⟩
theorem only_row {α : Type} {enc : α → List Value} {sz : Nat} {e : TypeId} {base : Nat} {a b c W : World} {v : Value} {l : List α} {row : Option Nat} (h : a.grownBy b row) (ho : Own enc sz e W base v l) (hb : a.heap.size ≤ base) (hg : b.grownBy c v.ownBlock) : a.grownBy c row :=
  only_grown h hg fun g hv => by have := (ho.lt g hv).1; omega
theorem below_row {α : Type} {enc : α → List Value} {sz : Nat} {e : TypeId} {base B : Nat} {a b c W : World} {v : Value} {l : List α} (h : Below B a b) (ho : Own enc sz e W base v l) (hB : B ≤ base) (hb : B ≤ b.heap.size) (hg : b.grownBy c v.ownBlock) : Below B a c :=
  h.grown hg hb fun k hk => by have := (ho.lt k hk).1; omega

end Go.Proofs.Ytmgphagahdepfaa
