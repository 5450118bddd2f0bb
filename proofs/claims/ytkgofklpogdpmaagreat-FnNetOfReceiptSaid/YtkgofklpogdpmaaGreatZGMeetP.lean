/- Words on points that grow, and the plain law of guards that meet. -/
import Derived.Test.YtkgofklpogdpmaaGreatZMeet
import Derived.Test.YtkgofklpogdpmaaGreatZC
import Derived.Test.YtkgofklpogdpmaaGreatZE
import Derived.Deep.RegionHeld3
namespace Go.Proofs.YtkgofklpogdpmaaGreat
open Go.RowKit

def mtK (S1 S2 : List (Int × Int)) (k : Nat) : Bool := mtB (g1 S1 k) (g2 S1 k) (g1 S2 k) (g2 S2 k)
/-- Whether two guards meet. -/
def mtG (lo1 hi1 : Int) (S1 : List (Int × Int)) (lo2 hi2 : Int) (S2 : List (Int × Int)) : Bool := mtB lo1 hi1 lo2 hi2 && (List.range 3).all (mtK S1 S2)
/-- A point and a bool. -/
def PointPost (w : World) (b : Bool) (e : Ending) (w' : World) : Prop :=
  ∃ (t : Int) (a1 a2 : Option Addr) (n1 c1 n2 c2 : Nat), e = .returned (.tuple #[.agg #[.int .i64 t, .slice a1 n1 c1, .slice a2 n2 c2], .bool b]) ∧ Below w.heap.size w w'
/-- Blocks below a bound are as they were. -/
def SameTo (n : Nat) (w w' : World) : Prop := (∀ b, b < n → w'.heap[b]? = w.heap[b]?) ∧ w.heap.size ≤ w'.heap.size
theorem SameTo.refl (n : Nat) (w : World) : SameTo n w w := ⟨fun _ _ => rfl, Nat.le_refl _⟩
theorem SameTo.blk {n : Nat} {w w' : World} {g : Nat} {t : TypeId} {cs : Array Value} (h : SameTo n w w') (k : Blk w g t cs) (hg : g < n) : Blk w' g t cs := (h.1 g hg).trans k
theorem SameTo.below {n m : Nat} {w w' w'' : World} (h : SameTo n w w') (hb : Below m w' w'') (hm : n ≤ m) : SameTo n w w'' := ⟨fun b hb' => (hb.block b (by omega)).trans (h.1 b hb'), Nat.le_trans h.2 hb.size⟩
theorem SameTo.alloc {n : Nat} {w w' : World} (h : SameTo n w w') (hn : n ≤ w.heap.size) (o : Obj) : SameTo n w (w'.alloc o) := ⟨fun b hb => (Below.heap_alloc w' o b (by have := h.2; omega)).trans (h.1 b hb), Nat.le_trans h.2 (by simp)⟩
theorem SameTo.drew {n : Nat} {w w' : World} (h : SameTo n w w') : SameTo n w w'.drew := h
theorem SameTo.set {n : Nat} {w w' : World} (h : SameTo n w w') {p : Addr} (hp : n ≤ p.block) (u : Value) : SameTo n w (w'.setCell p u) := ⟨fun b hb => (Below.heap_setCell w' p u b (by omega)).trans (h.1 b hb), by simpa [World.setCell] using h.2⟩
theorem SameTo.grown {n : Nat} {w w' w'' : World} {row : Option Nat} (h : SameTo n w w') (hg : w'.grownBy w'' row) (hn : n ≤ w.heap.size) (hr : ∀ g, row = some g → n ≤ g) : SameTo n w w'' :=
  ⟨fun b hb => (hg.block b (by have := h.2; omega) (fun e => by have := hr b e.symm; omega)).trans (h.1 b hb), Nat.le_trans h.2 hg.size⟩
theorem SameTo.trans {n : Nat} {w w' w'' : World} (h : SameTo n w w') (k : SameTo n w' w'') : SameTo n w w'' := ⟨fun b hb => (k.1 b hb).trans (h.1 b hb), Nat.le_trans h.2 k.2⟩

/-- A point in block P whose two lists grow; all below the base is as it was. -/
def PtK (w w4 : World) (P base : Nat) (t : Int) (m : Nat) (wr : World) : Prop :=
  ∃ (v1 v2 : Value) (c1 c2 : List Int), c1.length ≤ m ∧ c2.length ≤ m ∧ Own enc1 1 3 wr base v1 c1 ∧ Own enc1 1 3 wr base v2 c2
    ∧ (v1.ownBlock = none ∨ v1.ownBlock ≠ v2.ownBlock) ∧ v1.ownBlock ≠ some P ∧ v2.ownBlock ≠ some P ∧ Blk wr P 42 #[.int .i64 t, v1, v2] ∧ SameTo base w4 wr ∧ Below w.heap.size w wr
def PtRel1 (w w4 : World) (P base : Nat) (b0 : Bool) (f : Nat → Bool) (t : Int) (i ok : Value) (wr : World) : Prop :=
  ∃ k : Nat, k ≤ 3 ∧ i = .int .i64 k ∧ ok = .bool (b0 && (List.range k).all f) ∧ PtK w w4 P base t (20 + k) wr
def PtRel2 (w w4 : World) (P base : Nat) (t : Int) (i : Value) (wr : World) : Prop :=
  ∃ k : Nat, 1 ≤ k ∧ k ≤ 10 ∧ i = .int .i64 k ∧ PtK w w4 P base t (20 + k + 3) wr
theorem apart_symm {a b : Option Nat} (h : a = none ∨ a ≠ b) : b = none ∨ b ≠ a := by
  cases b with
  | none => exact .inl rfl
  | some x =>
    right
    rcases h with h | h
    · rw [h]; simp
    · exact fun e => h e.symm

end Go.Proofs.YtkgofklpogdpmaaGreat
