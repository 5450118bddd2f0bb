/- The walks of the laws that the program's functions on valid lots and their points return what the reference's return. -/
import Derived.Test.YtapfcjeglaamfaaLotsW2
import Derived.Test.YtapfcjeglaamfaaCopyLot
namespace Go.Proofs.Ytapfcjeglaamfaa
open Go.RowKit

set_option maxHeartbeats 1600000 in
theorem fnExactValidLots_walk (w : World) (A : Option Addr) (l : List (Int × Int)) (cap : Nat) (lc : l.length ≤ cap) (cm : cap ≤ maxLen) (h : Sl enc2 2 w w.heap.size A l) :
    Calls Try.prog 4 #[.slice A l.length cap] w fun e w' => e = .returned (.bool true) ∧ Below w.heap.size w w' := by
  have hm : l.length ≤ 9223372036854775807 := by simp only [maxLen] at cm; omega
  clear cm lc
  by_cases hl : 1048576 < l.length
  · go_enter Try.func4, Try.ntmps4
    go_wp2_with fail
    refine (szLotS_any _ _ _ _ _ hm (by omega) (by omega)).mono ?_
    rintro e w' ⟨rfl, rfl⟩
    rw [if_pos (by omega)]
    go_wp2
    go_ret
    exact ⟨rfl, Below.refl _ _⟩
  · have hl' : l.length ≤ 1048576 := by omega
    have h63 : l.length ≤ 9223372036854775807 := hm
    clear hl hm
    go_enter Try.func4, Try.ntmps4
    go_wp2_with fail
    refine (szLotS_any _ _ _ _ _ h63 (by omega) (by omega)).mono ?_
    rintro e w' ⟨rfl, rfl⟩
    rw [if_neg (by omega)]
    have hr : ¬ (1048576 - (l.length : Int) < 0) := by omega
    go_wp2_with fail
    refine (toLotS_any l _ _ _ h hl').mono ?_
    rintro e w1 ⟨v1, rfl, o1, b1⟩
    obtain ⟨A1, c1, rfl, _, r1⟩ := o1.reads len2
    go_wp2_with fail
    refine (specValidLots_any l A1 c1 _ r1 h63).mono ?_
    rintro e w2 ⟨rfl, b2⟩
    have D2 := b1.trans (b2.mono b1.size)
    go_wp2_with fail
    refine (toLotS_any l _ _ _ ((h.below D2 (Nat.le_refl _)).more D2.size) hl').mono ?_
    rintro e w3 ⟨v3, rfl, o3, b3⟩
    obtain ⟨A3, c3, rfl, _, r3⟩ := o3.reads len2
    have D3 := D2.trans (b3.mono D2.size)
    go_wp2_with fail
    refine (validLots_any l A3 c3 _ r3 h63).mono ?_
    rintro e w4 ⟨rfl, b4⟩
    have D4 := D3.trans (b4.mono D3.size)
    go_wp2_with fail
    refine (toLotS_any l _ _ _ ((h.below D4 (Nat.le_refl _)).more D4.size) hl').mono ?_
    rintro e w5 ⟨v5, rfl, o5, b5⟩
    obtain ⟨A5, c5, rfl, _, r5⟩ := o5.reads len2
    have D5 := D4.trans (b5.mono D4.size)
    go_wp2_with fail
    refine (eqLotS_same l A3 A5 c3 c5 _ ((((r3.below b4 (Nat.le_refl _)).more b4.size).below b5 (Nat.le_refl _)).more b5.size) r5 hl').mono ?_
    rintro e w6 ⟨rfl, b6⟩
    have D6 := hid (D5.trans (b6.mono D5.size))
    go_wp2
    go_ret
    exact ⟨rfl, D6.out⟩

set_option maxHeartbeats 1600000 in
theorem fnExactPointsOn_walk (w : World) (A : Option Addr) (l : List (Int × Int)) (cap : Nat) (lc : l.length ≤ cap) (cm : cap ≤ maxLen) (h : Sl enc2 2 w w.heap.size A l) (d : Int) (_ : -9223372036854775808 ≤ d ∧ d ≤ 9223372036854775807) :
    Calls Try.prog 8 #[.slice A l.length cap, .int .i64 d] w fun e w' => e = .returned (.bool true) ∧ Below w.heap.size w w' := by
  have hm : l.length ≤ 9223372036854775807 := by simp only [maxLen] at cm; omega
  clear cm lc
  by_cases hl : 1048576 < l.length
  · go_enter Try.func8, Try.ntmps8
    go_wp2_with fail
    refine (szLotS_any _ _ _ _ _ hm (by omega) (by omega)).mono ?_
    rintro e w' ⟨rfl, rfl⟩
    rw [if_pos (by omega)]
    go_wp2
    go_ret
    exact ⟨rfl, Below.refl _ _⟩
  · have hl' : l.length ≤ 1048576 := by omega
    have h63 : l.length ≤ 9223372036854775807 := hm
    clear hl hm
    go_enter Try.func8, Try.ntmps8
    go_wp2_with fail
    refine (szLotS_any _ _ _ _ _ h63 (by omega) (by omega)).mono ?_
    rintro e w' ⟨rfl, rfl⟩
    rw [if_neg (by omega)]
    have hr : ¬ (1048576 - (l.length : Int) < 0) := by omega
    go_wp2_with fail
    refine (toLotS_any l _ _ _ h hl').mono ?_
    rintro e w1 ⟨v1, rfl, o1, b1⟩
    obtain ⟨A1, c1, rfl, _, r1⟩ := o1.reads len2
    go_wp2_with fail
    refine (specPointsOn_any l A1 c1 _ _ r1 h63).mono ?_
    rintro e w2 ⟨rfl, b2⟩
    have D2 := b1.trans (b2.mono b1.size)
    go_wp2_with fail
    refine (toLotS_any l _ _ _ ((h.below D2 (Nat.le_refl _)).more D2.size) hl').mono ?_
    rintro e w3 ⟨v3, rfl, o3, b3⟩
    obtain ⟨A3, c3, rfl, _, r3⟩ := o3.reads len2
    have D3 := D2.trans (b3.mono D2.size)
    go_wp2_with fail
    refine (pointsOn_any l A3 c3 _ _ r3 h63).mono ?_
    rintro e w4 ⟨rfl, b4⟩
    have D4 := D3.trans (b4.mono D3.size)
    go_wp2_with fail
    refine (toLotS_any l _ _ _ ((h.below D4 (Nat.le_refl _)).more D4.size) hl').mono ?_
    rintro e w5 ⟨v5, rfl, o5, b5⟩
    obtain ⟨A5, c5, rfl, _, r5⟩ := o5.reads len2
    have D5 := D4.trans (b5.mono D4.size)
    go_wp2_with fail
    refine (eqLotS_same l A3 A5 c3 c5 _ ((((r3.below b4 (Nat.le_refl _)).more b4.size).below b5 (Nat.le_refl _)).more b5.size) r5 hl').mono ?_
    rintro e w6 ⟨rfl, b6⟩
    have D6 := hid (D5.trans (b6.mono D5.size))
    go_wp2
    go_ret
    exact ⟨rfl, D6.out⟩

end Go.Proofs.Ytapfcjeglaamfaa
