/- Contracts of the generator of the arguments: tills and amounts. -/
import Derived.Test.YtcjcolkhhmpmjaaDrawTill
namespace Go.Proofs.Ytcjcolkhhmpmjaa
open Go.RowKit

def TillDraw (w : World) (e : Ending) (w' : World) : Prop :=
  ∃ (l : List (Int × Int)) (v : Value), e = .returned v ∧ l.length ≤ 6 ∧ Own enc2 2 40 w' w.heap.size v l ∧ Below w.heap.size w w'
def ChangeDraw (w : World) (e : Ending) (w' : World) : Prop :=
  ∃ (l : List (Int × Int)) (v : Value) (n : Int), e = .returned (.tuple #[v, .int .i64 n]) ∧ l.length ≤ 6 ∧ Own enc2 2 40 w' w.heap.size v l ∧ Below w.heap.size w w'

set_option maxHeartbeats 400000 in
theorem drawTillValue_any (w : World) (A : Option Addr) (len cap : Nat) (h : Bytes w w.heap.size A len cap) :
    Calls Try.prog 20 #[.slice A len cap] w (TillDraw w) := by
  go_enter Try.func20, Try.ntmps20
  go_wp2_with fail
  refine (newReader_any _ _ _ _ _ h (Nat.le_refl _)).mono ?_
  rintro e w1 ⟨rfl, h1, b1⟩
  have z1 := b1.size
  go_wp2_with fail
  refine (anyTill_any _ _ _ _ h1 (by omega)).mono ?_
  rintro e w2 ⟨l, v, rfl, l6, O2, h2, g2⟩
  have G2 := hid (below_of_only b1 g2 z1 (Nat.le_refl _))
  have O3 := O2.less z1
  clear O2 h1 h2 b1 g2 h
  go_wp2
  go_ret
  exact ⟨l, v, rfl, l6, O3, G2.out⟩

set_option maxHeartbeats 800000 in
theorem drawChangeFor_any (w : World) (A : Option Addr) (len cap : Nat) (h : Bytes w w.heap.size A len cap) :
    Calls Try.prog 23 #[.slice A len cap] w (ChangeDraw w) := by
  go_enter Try.func23, Try.ntmps23
  go_wp2_with fail
  refine (newReader_any _ _ _ _ _ h (Nat.le_refl _)).mono ?_
  rintro e w1 ⟨rfl, h1, b1⟩
  have z1 := b1.size
  have hw1 := h1.lt.2
  go_wp2_with fail
  refine (anyTill_any _ _ _ _ h1 (by omega)).mono ?_
  rintro e w2 ⟨l, v, rfl, l6, O2, h2, g2⟩
  go_wp2_with fail
  refine (pick_any _ _ _ _ _ h2 (by omega)).mono ?_
  rintro e w3 ⟨m, rfl, _, _, _, h3, g3⟩
  have O3 := O2.grown g3 (O2.off hw1)
  go_wp2_with fail
  refine (one_any [0, 6, 8, 12, 30, 63, 100, 300, 301, -1, m] _ _ _ _ _ _ _ h3 (by omega) rfl rfl (by simp) rfl (by simp)).mono ?_
  rintro e w4 ⟨n, rfl, _, h4, g4⟩
  have O4 := (O3.grown g4 (O3.off hw1)).less z1
  have G4 := hid (below_of_only b1 (only_trans (only_trans g2 g3) g4) z1 (Nat.le_refl _))
  clear O2 O3 h1 h2 h3 h4 b1 g2 g3 g4 h
  go_wp2
  go_ret2
  exact ⟨l, v, n, rfl, l6, O4, G4.out⟩

set_option maxHeartbeats 400000 in
theorem drawPayOut_any (w : World) (A : Option Addr) (len cap : Nat) (h : Bytes w w.heap.size A len cap) :
    Calls Try.prog 35 #[.slice A len cap] w (ChangeDraw w) := by
  go_enter Try.func35, Try.ntmps35
  go_wp2_with fail
  refine (drawChangeFor_any _ _ _ _ h).mono ?_
  rintro e w1 ⟨l, v, n, rfl, l6, O1, b1⟩
  have O2 := hid O1
  have B1 := hid b1
  clear O1 b1 h
  go_wp2
  go_ret2
  exact ⟨l, v, n, rfl, l6, O2.out, B1.out⟩

end Go.Proofs.Ytcjcolkhhmpmjaa
