/- Contracts of the generator of rates and net amounts. -/
import Derived.Test.YtmgphagahdepfaaDrw
namespace Go.Proofs.Ytmgphagahdepfaa
open Go.RowKit

/-- Some number, and the reader moved. -/
def NumPost (w : World) (B R M : Nat) (lo hi : Int) (e : Ending) (w' : World) : Prop :=
  ∃ m : Int, e = .returned (.int .i64 m) ∧ lo ≤ m ∧ m ≤ hi ∧ Rdr w' B R M ∧ w.grownBy w' (some R)

set_option maxHeartbeats 400000 in
theorem anyRate_any (w : World) (B R N : Nat) (h : Rdr w B R N) (hN : N ≤ 999999) :
    Calls Try.prog 51 #[.pointer (some ⟨R, 0, none⟩)] w (NumPost w B R (N + 1) (-1) 301) := by
  go_enter Try.func51, Try.ntmps51
  go_wp2_with fail
  refine (one_any [190, 70, 0, 300, 301, -1, 55] _ _ _ _ _ _ _ h (by omega) rfl rfl (by simp) rfl (by simp)).mono ?_
  rintro e w2 ⟨m', rfl, hm, h2, g2⟩
  have G := hid g2
  have HM := hid hm
  clear g2 hm
  go_wp2
  go_ret
  have hm := HM.out
  simp at hm
  exact ⟨m', rfl, by omega, by omega, h2, G.out⟩

def GrossDraw (w : World) (e : Ending) (w' : World) : Prop :=
  ∃ a t : Int, e = .returned (.tuple #[.int .i64 a, .int .i64 t]) ∧ -1 ≤ a ∧ a ≤ 500001 ∧ -1 ≤ t ∧ t ≤ 301 ∧ Below w.heap.size w w'

set_option maxHeartbeats 800000 in
theorem drawGrossFor_any (w : World) (A : Option Addr) (len cap : Nat) (h : Bytes w w.heap.size A len cap) :
    Calls Try.prog 30 #[.slice A len cap] w (GrossDraw w) := by
  go_enter Try.func30, Try.ntmps30
  go_wp2_with fail
  refine (newReader_any _ _ _ _ _ h (Nat.le_refl _)).mono ?_
  rintro e w1 ⟨rfl, h1, b1⟩
  have z1 := b1.size
  have hw1 := h1.lt.2
  go_wp2_with fail
  refine (pick_any _ _ _ _ _ h1 (by omega)).mono ?_
  rintro e w2 ⟨m, rfl, m1, m2, m3, h2, g2⟩
  have m4 := m2 (by omega)
  clear m2 m3
  go_wp2_with fail
  refine (one_any [0, 1, 10, 100, 333, 500000, 500001, -1, 4 * m] _ _ _ _ _ _ _ h2 (by omega) rfl rfl (by simp) rfl (by simp)).mono ?_
  rintro e w3 ⟨a, rfl, ha, h3, g3⟩
  have HA := hid ha
  clear ha
  go_wp2_with fail
  refine (anyRate_any _ _ _ _ h3 (by omega)).mono ?_
  rintro e w4 ⟨t, rfl, t1, t2, h4, g4⟩
  have G3 := hid (below_of_only b1 (only_trans g2 (only_trans g3 g4)) z1 (Nat.le_refl _))
  clear h1 h2 h3 h4 b1 g2 g3 g4 h
  go_wp2
  go_ret2
  have ha := HA.out
  simp at ha
  exact ⟨a, t, rfl, by omega, by omega, t1, t2, G3.out⟩

end Go.Proofs.Ytmgphagahdepfaa
