/- Contracts of the generator of the arguments: valid lots, points for amounts, points on a day. -/
import Derived.Test.YtmlmjapmhdbcpaaDrawDay
import Derived.Test.YtmlmjapmhdbcpaaDrawAmt
namespace Go.Proofs.Ytmlmjapmhdbcpaa
open Go.RowKit

def LotsDraw0 (w : World) (e : Ending) (w' : World) : Prop :=
  ∃ (l : List (Int × Int)) (v : Value), e = .returned v ∧ l.length ≤ 9 ∧ Own enc2 2 41 w' w.heap.size v l ∧ Below w.heap.size w w'
def LotsDraw1 (w : World) (e : Ending) (w' : World) : Prop :=
  ∃ (l : List (Int × Int)) (v : Value) (d : Int), e = .returned (.tuple #[v, .int .i64 d]) ∧ -1 ≤ d ∧ d ≤ 1000 ∧ l.length ≤ 9 ∧ Own enc2 2 41 w' w.heap.size v l ∧ Below w.heap.size w w'

set_option maxHeartbeats 400000 in
theorem drawValidLots_any (w : World) (A : Option Addr) (len cap : Nat) (h : Bytes w w.heap.size A len cap) :
    Calls Try.prog 18 #[.slice A len cap] w (LotsDraw0 w) := by
  go_enter Try.func18, Try.ntmps18
  go_wp2_with fail
  refine (newReader_any _ _ _ _ _ h (Nat.le_refl _)).mono ?_
  rintro e w1 ⟨rfl, h1, b1⟩
  have z1 := b1.size
  go_wp2_with fail
  refine (anyLots_any _ _ _ _ h1 (by omega)).mono ?_
  rintro e w2 ⟨l, v, rfl, hl, _, O2, h2, g2⟩
  have G2 := hid (below_of_only b1 g2 z1 (Nat.le_refl _))
  have O3 := O2.less z1
  clear O2 h1 h2 b1 g2 h
  go_wp2
  go_ret
  exact ⟨l, v, rfl, hl, O3, G2.out⟩

set_option maxHeartbeats 400000 in
theorem drawPointsOn_any (w : World) (A : Option Addr) (len cap : Nat) (h : Bytes w w.heap.size A len cap) :
    Calls Try.prog 22 #[.slice A len cap] w (LotsDraw1 w) := by
  go_enter Try.func22, Try.ntmps22
  go_wp2_with fail
  refine (newReader_any _ _ _ _ _ h (Nat.le_refl _)).mono ?_
  rintro e w1 ⟨rfl, h1, b1⟩
  have z1 := b1.size
  have hw1 := h1.lt.2
  go_wp2_with fail
  refine (anyLots_any _ _ _ _ h1 (by omega)).mono ?_
  rintro e w2 ⟨l, v, rfl, hl, _, O2, h2, g2⟩
  go_wp2_with fail
  refine (someDay_any _ _ _ _ h2 (by omega)).mono ?_
  rintro e w3 ⟨d, rfl, d1, d2, h3, g3⟩
  have O3 := (O2.grown g3 (O2.off hw1)).less z1
  have G3 := hid (below_of_only b1 (only_trans g2 g3) z1 (Nat.le_refl _))
  clear O2 h1 h2 h3 b1 g2 g3 h
  go_wp2
  go_ret2
  exact ⟨l, v, d, rfl, d1, d2, hl, O3, G3.out⟩

def AmtDraw (w : World) (e : Ending) (w' : World) : Prop :=
  ∃ a t : Int, e = .returned (.tuple #[.int .i64 a, .int .i64 t]) ∧ -1 ≤ a ∧ a ≤ 1000001 ∧ -1 ≤ t ∧ t ≤ 1000001 ∧ Below w.heap.size w w'

set_option maxHeartbeats 400000 in
theorem drawPointsFor_any (w : World) (A : Option Addr) (len cap : Nat) (h : Bytes w w.heap.size A len cap) :
    Calls Try.prog 19 #[.slice A len cap] w (AmtDraw w) := by
  go_enter Try.func19, Try.ntmps19
  go_wp2_with fail
  refine (newReader_any _ _ _ _ _ h (Nat.le_refl _)).mono ?_
  rintro e w1 ⟨rfl, h1, b1⟩
  have z1 := b1.size
  have hw1 := h1.lt.2
  go_wp2_with fail
  refine (anyAmount_any _ _ _ _ h1 (by omega)).mono ?_
  rintro e w2 ⟨a, rfl, a1, a2, h2, g2⟩
  go_wp2_with fail
  refine (one_any [0, 49999, 50000, 199999, 200000, 1000000, 1000001, -1] _ _ _ _ _ _ _ h2 (by omega) rfl rfl (by simp) rfl (by simp)).mono ?_
  rintro e w3 ⟨t, rfl, ht, h3, g3⟩
  have HT := hid ht
  have G3 := hid (below_of_only b1 (only_trans g2 g3) z1 (Nat.le_refl _))
  clear h1 h2 h3 b1 g2 g3 h ht
  go_wp2
  go_ret2
  have ht := HT.out
  simp at ht
  exact ⟨a, t, rfl, a1, a2, by omega, by omega, G3.out⟩

end Go.Proofs.Ytmlmjapmhdbcpaa
