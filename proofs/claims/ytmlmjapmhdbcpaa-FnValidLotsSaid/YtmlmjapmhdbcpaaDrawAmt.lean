/- Contracts of the generator of amounts. -/
import Derived.Test.YtmlmjapmhdbcpaaDrw
namespace Go.Proofs.Ytmlmjapmhdbcpaa
open Go.RowKit

/-- Some number, and the reader moved. -/
def NumPost (w : World) (B R M : Nat) (lo hi : Int) (e : Ending) (w' : World) : Prop :=
  ∃ m : Int, e = .returned (.int .i64 m) ∧ lo ≤ m ∧ m ≤ hi ∧ Rdr w' B R M ∧ w.grownBy w' (some R)

set_option maxHeartbeats 400000 in
theorem someAmount_any (w : World) (B R N : Nat) (h : Rdr w B R N) (hN : N ≤ 999999) :
    Calls Try.prog 41 #[.pointer (some ⟨R, 0, none⟩)] w (NumPost w B R (N + 2) 0 1000000) := by
  go_enter Try.func41, Try.ntmps41
  go_wp2_with fail
  refine (pick_any _ _ _ _ _ h (by omega)).mono ?_
  rintro e w1 ⟨m, rfl, m1, m2, m3, h1, g1⟩
  have m4 := m2 (by omega)
  clear m2 m3
  go_wp2_with fail
  refine (one_any [0, 1, 99, 100, 250, 1000, 333, 12345, 1000000, 5 * m] _ _ _ _ _ _ _ h1 (by omega) rfl rfl (by simp) rfl (by simp)).mono ?_
  rintro e w2 ⟨m', rfl, hm, h2, g2⟩
  have G := hid (only_trans g1 g2)
  have HM := hid hm
  clear g1 g2 hm
  go_wp2
  go_ret
  have hm := HM.out
  simp at hm
  exact ⟨m', rfl, by omega, by omega, h2, G.out⟩

set_option maxHeartbeats 400000 in
theorem anyAmount_any (w : World) (B R N : Nat) (h : Rdr w B R N) (hN : N ≤ 999990) :
    Calls Try.prog 35 #[.pointer (some ⟨R, 0, none⟩)] w (NumPost w B R (N + 3) (-1) 1000001) := by
  go_enter Try.func35, Try.ntmps35
  go_wp2_with fail
  refine (pick_any _ _ _ _ _ h (by omega)).mono ?_
  rintro e w1 ⟨m, rfl, m1, _, _, h1, g1⟩
  by_cases hz : m = 0
  · subst hz
    clear m1
    go_wp2_with fail
    refine (one_any [-1, 1000001] _ _ _ _ _ _ _ h1 (by omega) rfl rfl (by simp) rfl (by simp)).mono ?_
    rintro e w2 ⟨m', rfl, hm, h2, g2⟩
    have G := hid (only_trans g1 g2)
    have HM := hid hm
    clear g1 g2 hm
    go_wp2
    go_ret
    have hm := HM.out
    simp at hm
    exact ⟨m', rfl, by omega, by omega, h2.more (by omega), G.out⟩
  · go_wp2_with fail
    refine (someAmount_any _ _ _ _ h1 (by omega)).mono ?_
    rintro e w2 ⟨m', rfl, m2, m3, h2, g2⟩
    have G := hid (only_trans g1 g2)
    clear g1 g2
    go_wp2
    go_ret
    exact ⟨m', rfl, by omega, by omega, h2, G.out⟩

end Go.Proofs.Ytmlmjapmhdbcpaa
