/- Contracts of the generator of lots and days. -/
import Derived.Test.YtdnfhpgiphobgaaDrawLot
namespace Go.Proofs.Ytdnfhpgiphobgaa
open Go.RowKit

/-- Some day, and the reader moved. -/
def DayPost (w : World) (B R M : Nat) (lo hi : Int) (e : Ending) (w' : World) : Prop :=
  ∃ m : Int, e = .returned (.int .i64 m) ∧ lo ≤ m ∧ m ≤ hi ∧ Rdr w' B R M ∧ w.grownBy w' (some R)

set_option maxHeartbeats 400000 in
theorem someDay_any (w : World) (B R N : Nat) (h : Rdr w B R N) (hN : N ≤ 999990) :
    Calls Try.prog 27 #[.pointer (some ⟨R, 0, none⟩)] w (DayPost w B R (N + 2) (-1) 1000) := by
  go_enter Try.func27, Try.ntmps27
  go_wp2_with fail
  refine (pick_any _ _ _ _ _ h (by omega)).mono ?_
  rintro e w1 ⟨m, rfl, m1, m2, m3, h1, g1⟩
  have m4 := m2 (by omega)
  clear m2 m3
  go_wp2_with fail
  refine (one_any [5, 10, 11, 50, 999, 1000, -1, 0, m] _ _ _ _ _ _ _ h1 (by omega) rfl rfl (by simp) rfl (by simp)).mono ?_
  rintro e w2 ⟨m', rfl, hm, h2, g2⟩
  have G := hid (only_trans g1 g2)
  have HM := hid hm
  clear g1 g2 hm
  go_wp2
  go_ret
  have hm := HM.out
  simp at hm
  exact ⟨m', rfl, by omega, by omega, h2, G.out⟩


end Go.Proofs.Ytdnfhpgiphobgaa
