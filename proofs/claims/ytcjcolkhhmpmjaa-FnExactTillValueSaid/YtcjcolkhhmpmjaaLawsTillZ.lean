/- The walks of the laws that the program tells valid tills and their values as the reference does. -/
import Derived.Test.YtcjcolkhhmpmjaaTillV
import Derived.Test.YtcjcolkhhmpmjaaTillVal
import Derived.Test.YtcjcolkhhmpmjaaTillValS
import Derived.Test.YtcjcolkhhmpmjaaCopyCoin
import Derived.Test.YtcjcolkhhmpmjaaOwn
namespace Go.Proofs.Ytcjcolkhhmpmjaa
open Go.RowKit

set_option maxHeartbeats 3200000 in
set_option maxRecDepth 100000 in
theorem fnExactValidTill_walk (w : World) (A0 : Option Addr) (l0 : List (Int × Int)) (cap0 : Nat) (lc0 : l0.length ≤ cap0) (cm0 : cap0 ≤ maxLen) (h0 : Sl enc2 2 w w.heap.size A0 l0) :
    Calls Try.prog 3 #[.slice A0 l0.length cap0] w fun e w' => e = .returned (.bool true) ∧ Below w.heap.size w w' := by
  have hm0 : l0.length ≤ 9223372036854775807 := by simp only [maxLen] at cm0; omega
  clear cm0 lc0
  by_cases hl0 : (1048576 : Int) - (l0.length : Int) < 0
  · go_enter Try.func3, Try.ntmps3
    go_wp2_with fail
    refine (szCoinS_any _ _ _ _ _ hm0 (by omega) (by omega)).mono ?_
    rintro e w' ⟨rfl, rfl⟩
    rw [if_pos (by omega)]
    go_wp2
    go_ret
    exact ⟨rfl, Below.refl _ _⟩
  · have hl0' : l0.length ≤ 1048576 := by omega
    go_enter Try.func3, Try.ntmps3
    go_wp2_with fail
    refine (szCoinS_any _ _ _ _ _ hm0 (by omega) (by omega)).mono ?_
    rintro e w' ⟨rfl, rfl⟩
    rw [if_neg (by omega)]
    have D0 := Below.refl w.heap.size w
    go_wp2_with fail
    refine (toCoinS_any l0 _ _ _ h0 hl0').mono ?_
    rintro e w1 ⟨vp0, rfl, op0_1, b1⟩
    obtain ⟨Ap0, cp0, rfl, _, _⟩ := op0_1.reads len2
    have D1 := D0.trans (b1.mono D0.size)
    clear D0 b1
    go_wp2_with fail
    refine (specValidTill_any l0 Ap0 cp0 _ (op0_1.sl len2) (by omega)).mono ?_
    rintro e w2 ⟨rfl, b2⟩
    have D2 := D1.trans (b2.mono D1.size)
    have op0_2 := op0_1.below b2 (Nat.le_refl _)
    clear D1 b2 op0_1
    clear op0_2
    go_wp2_with fail
    refine (toCoinS_any l0 _ _ _ ((h0.below D2 (Nat.le_refl _)).more D2.size) hl0').mono ?_
    rintro e w3 ⟨vx0, rfl, ox0_3, b3⟩
    obtain ⟨Ax0, cx0, rfl, _, _⟩ := ox0_3.reads len2
    have D3 := D2.trans (b3.mono D2.size)
    clear D2 b3
    go_wp2_with fail
    refine (validTill_any l0 Ax0 cx0 _ (ox0_3.sl len2) (by omega)).mono ?_
    rintro e w4 ⟨rfl, b4⟩
    have D4 := D3.trans (b4.mono D3.size)
    have ox0_4 := ox0_3.below b4 (Nat.le_refl _)
    clear D3 b4 ox0_3
    go_wp2_with fail
    refine (toCoinS_any l0 _ _ _ ((h0.below D4 (Nat.le_refl _)).more D4.size) hl0').mono ?_
    rintro e w5 ⟨vy0, rfl, oy0_5, b5⟩
    obtain ⟨Ay0, cy0, rfl, _, _⟩ := oy0_5.reads len2
    have D5 := D4.trans (b5.mono D4.size)
    have ox0_5 := ox0_4.below b5 (Nat.le_refl _)
    clear D4 b5 ox0_4
    go_wp2_with fail
    refine (eqCoinS_same l0 Ax0 Ay0 cx0 cy0 _ (ox0_5.sl len2) (oy0_5.sl len2) hl0').mono ?_
    rintro e w6 ⟨rfl, b6⟩
    have D6 := D5.trans (b6.mono D5.size)
    have ox0_6 := ox0_5.below b6 (Nat.le_refl _)
    have oy0_6 := oy0_5.below b6 (Nat.le_refl _)
    clear D5 b6 ox0_5 oy0_5
    clear ox0_6
    clear oy0_6
    have DD := hid D6
    clear D6
    go_wp2
    go_ret
    exact ⟨rfl, DD.out⟩

set_option maxHeartbeats 3200000 in
set_option maxRecDepth 100000 in
theorem fnExactTillValue_walk (w : World) (A0 : Option Addr) (l0 : List (Int × Int)) (cap0 : Nat) (lc0 : l0.length ≤ cap0) (cm0 : cap0 ≤ maxLen) (h0 : Sl enc2 2 w w.heap.size A0 l0) :
    Calls Try.prog 5 #[.slice A0 l0.length cap0] w fun e w' => e = .returned (.bool true) ∧ Below w.heap.size w w' := by
  have hm0 : l0.length ≤ 9223372036854775807 := by simp only [maxLen] at cm0; omega
  clear cm0 lc0
  by_cases hl0 : (1048576 : Int) - (l0.length : Int) < 0
  · go_enter Try.func5, Try.ntmps5
    go_wp2_with fail
    refine (szCoinS_any _ _ _ _ _ hm0 (by omega) (by omega)).mono ?_
    rintro e w' ⟨rfl, rfl⟩
    rw [if_pos (by omega)]
    go_wp2
    go_ret
    exact ⟨rfl, Below.refl _ _⟩
  · have hl0' : l0.length ≤ 1048576 := by omega
    go_enter Try.func5, Try.ntmps5
    go_wp2_with fail
    refine (szCoinS_any _ _ _ _ _ hm0 (by omega) (by omega)).mono ?_
    rintro e w' ⟨rfl, rfl⟩
    rw [if_neg (by omega)]
    have D0 := Below.refl w.heap.size w
    go_wp2_with fail
    refine (toCoinS_any l0 _ _ _ h0 hl0').mono ?_
    rintro e w1 ⟨vp0, rfl, op0_1, b1⟩
    obtain ⟨Ap0, cp0, rfl, _, _⟩ := op0_1.reads len2
    have D1 := D0.trans (b1.mono D0.size)
    clear D0 b1
    go_wp2_with fail
    refine (specTillValue_any l0 Ap0 cp0 _ (op0_1.sl len2) (by omega)).mono ?_
    rintro e w2 ⟨rfl, b2⟩
    have D2 := D1.trans (b2.mono D1.size)
    have op0_2 := op0_1.below b2 (Nat.le_refl _)
    clear D1 b2 op0_1
    clear op0_2
    go_wp2_with fail
    refine (toCoinS_any l0 _ _ _ ((h0.below D2 (Nat.le_refl _)).more D2.size) hl0').mono ?_
    rintro e w3 ⟨vx0, rfl, ox0_3, b3⟩
    obtain ⟨Ax0, cx0, rfl, _, _⟩ := ox0_3.reads len2
    have D3 := D2.trans (b3.mono D2.size)
    clear D2 b3
    go_wp2_with fail
    refine (tillValue_any l0 Ax0 cx0 _ (ox0_3.sl len2) (by omega)).mono ?_
    rintro e w4 ⟨rfl, b4⟩
    have D4 := D3.trans (b4.mono D3.size)
    have ox0_4 := ox0_3.below b4 (Nat.le_refl _)
    clear D3 b4 ox0_3
    go_wp2_with fail
    refine (toCoinS_any l0 _ _ _ ((h0.below D4 (Nat.le_refl _)).more D4.size) hl0').mono ?_
    rintro e w5 ⟨vy0, rfl, oy0_5, b5⟩
    obtain ⟨Ay0, cy0, rfl, _, _⟩ := oy0_5.reads len2
    have D5 := D4.trans (b5.mono D4.size)
    have ox0_5 := ox0_4.below b5 (Nat.le_refl _)
    clear D4 b5 ox0_4
    go_wp2_with fail
    refine (eqCoinS_same l0 Ax0 Ay0 cx0 cy0 _ (ox0_5.sl len2) (oy0_5.sl len2) hl0').mono ?_
    rintro e w6 ⟨rfl, b6⟩
    have D6 := D5.trans (b6.mono D5.size)
    have ox0_6 := ox0_5.below b6 (Nat.le_refl _)
    have oy0_6 := oy0_5.below b6 (Nat.le_refl _)
    clear D5 b6 ox0_5 oy0_5
    clear ox0_6
    clear oy0_6
    have DD := hid D6
    clear D6
    go_wp2
    go_ret
    exact ⟨rfl, DD.out⟩

end Go.Proofs.Ytcjcolkhhmpmjaa
