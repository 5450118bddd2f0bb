/- The walk of the law that the program tells net amounts as the reference does. -/
import Derived.Test.YtmgphagahdepfaaNetS
import Derived.Test.YtmgphagahdepfaaCopyArticle
import Derived.Test.YtmgphagahdepfaaCopyLine
import Derived.Test.YtmgphagahdepfaaEqInt
import Derived.Test.YtmgphagahdepfaaCopyInt
import Derived.Test.YtmgphagahdepfaaOwn
namespace Go.Proofs.Ytmgphagahdepfaa
open Go.RowKit

set_option maxHeartbeats 3200000 in
set_option maxRecDepth 100000 in
theorem fnExactNetOf_walk (w : World) (A0 : Option Addr) (l0 : List (Int × Int × Int × Int)) (cap0 : Nat) (lc0 : l0.length ≤ cap0) (cm0 : cap0 ≤ maxLen) (h0 : Sl enc4 4 w w.heap.size A0 l0) (A1 : Option Addr) (l1 : List (Int × Int)) (cap1 : Nat) (lc1 : l1.length ≤ cap1) (cm1 : cap1 ≤ maxLen) (h1 : Sl enc2 2 w w.heap.size A1 l1) (A2 : Option Addr) (l2 : List (Int)) (cap2 : Nat) (lc2 : l2.length ≤ cap2) (cm2 : cap2 ≤ maxLen) (h2 : Sl enc1 1 w w.heap.size A2 l2) :
    Calls Try.prog 9 #[.slice A0 l0.length cap0, .slice A1 l1.length cap1, .slice A2 l2.length cap2] w fun e w' => e = .returned (.bool true) ∧ Below w.heap.size w w' := by
  have hm0 : l0.length ≤ 9223372036854775807 := by simp only [maxLen] at cm0; omega
  have hm1 : l1.length ≤ 9223372036854775807 := by simp only [maxLen] at cm1; omega
  have hm2 : l2.length ≤ 9223372036854775807 := by simp only [maxLen] at cm2; omega
  clear cm0 lc0 cm1 lc1 cm2 lc2
  by_cases hl2 : 1048576 < l2.length
  · go_enter Try.func9, Try.ntmps9
    go_wp2
    go_ret
    exact ⟨rfl, Below.refl _ _⟩
  · have hl2' : l2.length ≤ 1048576 := by omega
    by_cases hl0 : (1048576 : Int) - (l0.length : Int) < 0
    · go_enter Try.func9, Try.ntmps9
      go_wp2_with fail
      refine (szArticleS_any _ _ _ _ _ hm0 (by omega) (by omega)).mono ?_
      rintro e w' ⟨rfl, rfl⟩
      rw [if_pos (by omega)]
      go_wp2
      go_ret
      exact ⟨rfl, Below.refl _ _⟩
    · have hl0' : l0.length ≤ 1048576 := by omega
      by_cases hl1 : (1048576 - (l0.length : Int) : Int) - (l1.length : Int) < 0
      · go_enter Try.func9, Try.ntmps9
        go_wp2_with fail
        refine (szArticleS_any _ _ _ _ _ hm0 (by omega) (by omega)).mono ?_
        rintro e w' ⟨rfl, rfl⟩
        rw [if_neg (by omega)]
        go_wp2_with fail
        refine (szLineS_any _ _ _ _ _ hm1 (by omega) (by omega)).mono ?_
        rintro e w' ⟨rfl, rfl⟩
        rw [if_pos (by omega)]
        go_wp2
        go_ret
        exact ⟨rfl, Below.refl _ _⟩
      · have hl1' : l1.length ≤ 1048576 := by omega
        go_enter Try.func9, Try.ntmps9
        go_wp2_with fail
        refine (szArticleS_any _ _ _ _ _ hm0 (by omega) (by omega)).mono ?_
        rintro e w' ⟨rfl, rfl⟩
        rw [if_neg (by omega)]
        go_wp2_with fail
        refine (szLineS_any _ _ _ _ _ hm1 (by omega) (by omega)).mono ?_
        rintro e w' ⟨rfl, rfl⟩
        rw [if_neg (by omega)]
        have D0 := Below.refl w.heap.size w
        go_wp2_with fail
        refine (toArticleS_any l0 _ _ _ h0 hl0').mono ?_
        rintro e w1 ⟨vp0, rfl, op0_1, b1⟩
        obtain ⟨Ap0, cp0, rfl, _, _⟩ := op0_1.reads len4
        have D1 := D0.trans (b1.mono D0.size)
        clear D0 b1
        go_wp2_with fail
        refine (toLineS_any l1 _ _ _ ((h1.below D1 (Nat.le_refl _)).more D1.size) hl1').mono ?_
        rintro e w2 ⟨vp1, rfl, op1_2, b2⟩
        obtain ⟨Ap1, cp1, rfl, _, _⟩ := op1_2.reads len2
        have D2 := D1.trans (b2.mono D1.size)
        have op0_2 := op0_1.below b2 (Nat.le_refl _)
        clear D1 b2 op0_1
        go_wp2_with fail
        refine (toIntS_any l2 _ _ _ ((h2.below D2 (Nat.le_refl _)).more D2.size) hl2').mono ?_
        rintro e w3 ⟨vp2, rfl, op2_3, b3⟩
        obtain ⟨Ap2, cp2, rfl, _, _⟩ := op2_3.reads len1
        have D3 := D2.trans (b3.mono D2.size)
        have op0_3 := op0_2.below b3 (Nat.le_refl _)
        have op1_3 := op1_2.below b3 (Nat.le_refl _)
        clear D2 b3 op0_2 op1_2
        go_wp2_with fail
        refine (snetOf_any l0 l1 l2 Ap0 Ap1 Ap2 cp0 cp1 cp2 _ (op0_3.sl len4) (op1_3.sl len2) (op2_3.sl len1) (by omega) (by omega) (by omega)).mono ?_
        rintro e w4 ⟨rfl, b4⟩
        have D4 := D3.trans (b4.mono D3.size)
        have op0_4 := op0_3.below b4 (Nat.le_refl _)
        have op1_4 := op1_3.below b4 (Nat.le_refl _)
        have op2_4 := op2_3.below b4 (Nat.le_refl _)
        clear D3 b4 op0_3 op1_3 op2_3
        clear op0_4
        clear op1_4
        clear op2_4
        go_wp2_with fail
        refine (toArticleS_any l0 _ _ _ ((h0.below D4 (Nat.le_refl _)).more D4.size) hl0').mono ?_
        rintro e w5 ⟨vx0, rfl, ox0_5, b5⟩
        obtain ⟨Ax0, cx0, rfl, _, _⟩ := ox0_5.reads len4
        have D5 := D4.trans (b5.mono D4.size)
        clear D4 b5
        go_wp2_with fail
        refine (toLineS_any l1 _ _ _ ((h1.below D5 (Nat.le_refl _)).more D5.size) hl1').mono ?_
        rintro e w6 ⟨vx1, rfl, ox1_6, b6⟩
        obtain ⟨Ax1, cx1, rfl, _, _⟩ := ox1_6.reads len2
        have D6 := D5.trans (b6.mono D5.size)
        have ox0_6 := ox0_5.below b6 (Nat.le_refl _)
        clear D5 b6 ox0_5
        go_wp2_with fail
        refine (toIntS_any l2 _ _ _ ((h2.below D6 (Nat.le_refl _)).more D6.size) hl2').mono ?_
        rintro e w7 ⟨vx2, rfl, ox2_7, b7⟩
        obtain ⟨Ax2, cx2, rfl, _, _⟩ := ox2_7.reads len1
        have D7 := D6.trans (b7.mono D6.size)
        have ox0_7 := ox0_6.below b7 (Nat.le_refl _)
        have ox1_7 := ox1_6.below b7 (Nat.le_refl _)
        clear D6 b7 ox0_6 ox1_6
        go_wp2_with fail
        refine (netOf_any l0 l1 l2 Ax0 Ax1 Ax2 cx0 cx1 cx2 _ (ox0_7.sl len4) (ox1_7.sl len2) (ox2_7.sl len1) (by omega) (by omega) (by omega)).mono ?_
        rintro e w8 ⟨rfl, b8⟩
        have D8 := D7.trans (b8.mono D7.size)
        have ox0_8 := ox0_7.below b8 (Nat.le_refl _)
        have ox1_8 := ox1_7.below b8 (Nat.le_refl _)
        have ox2_8 := ox2_7.below b8 (Nat.le_refl _)
        clear D7 b8 ox0_7 ox1_7 ox2_7
        go_wp2_with fail
        refine (toArticleS_any l0 _ _ _ ((h0.below D8 (Nat.le_refl _)).more D8.size) hl0').mono ?_
        rintro e w9 ⟨vy0, rfl, oy0_9, b9⟩
        obtain ⟨Ay0, cy0, rfl, _, _⟩ := oy0_9.reads len4
        have D9 := D8.trans (b9.mono D8.size)
        have ox0_9 := ox0_8.below b9 (Nat.le_refl _)
        have ox1_9 := ox1_8.below b9 (Nat.le_refl _)
        have ox2_9 := ox2_8.below b9 (Nat.le_refl _)
        clear D8 b9 ox0_8 ox1_8 ox2_8
        go_wp2_with fail
        refine (eqArticleS_same l0 Ax0 Ay0 cx0 cy0 _ (ox0_9.sl len4) (oy0_9.sl len4) hl0').mono ?_
        rintro e w10 ⟨rfl, b10⟩
        have D10 := D9.trans (b10.mono D9.size)
        have ox0_10 := ox0_9.below b10 (Nat.le_refl _)
        have ox1_10 := ox1_9.below b10 (Nat.le_refl _)
        have ox2_10 := ox2_9.below b10 (Nat.le_refl _)
        have oy0_10 := oy0_9.below b10 (Nat.le_refl _)
        clear D9 b10 ox0_9 ox1_9 ox2_9 oy0_9
        clear ox0_10
        clear oy0_10
        go_wp2_with fail
        refine (toLineS_any l1 _ _ _ ((h1.below D10 (Nat.le_refl _)).more D10.size) hl1').mono ?_
        rintro e w11 ⟨vy1, rfl, oy1_11, b11⟩
        obtain ⟨Ay1, cy1, rfl, _, _⟩ := oy1_11.reads len2
        have D11 := D10.trans (b11.mono D10.size)
        have ox1_11 := ox1_10.below b11 (Nat.le_refl _)
        have ox2_11 := ox2_10.below b11 (Nat.le_refl _)
        clear D10 b11 ox1_10 ox2_10
        go_wp2_with fail
        refine (eqLineS_same l1 Ax1 Ay1 cx1 cy1 _ (ox1_11.sl len2) (oy1_11.sl len2) hl1').mono ?_
        rintro e w12 ⟨rfl, b12⟩
        have D12 := D11.trans (b12.mono D11.size)
        have ox1_12 := ox1_11.below b12 (Nat.le_refl _)
        have ox2_12 := ox2_11.below b12 (Nat.le_refl _)
        have oy1_12 := oy1_11.below b12 (Nat.le_refl _)
        clear D11 b12 ox1_11 ox2_11 oy1_11
        clear ox1_12
        clear oy1_12
        go_wp2_with fail
        refine (toIntS_any l2 _ _ _ ((h2.below D12 (Nat.le_refl _)).more D12.size) hl2').mono ?_
        rintro e w13 ⟨vy2, rfl, oy2_13, b13⟩
        obtain ⟨Ay2, cy2, rfl, _, _⟩ := oy2_13.reads len1
        have D13 := D12.trans (b13.mono D12.size)
        have ox2_13 := ox2_12.below b13 (Nat.le_refl _)
        clear D12 b13 ox2_12
        go_wp2_with fail
        refine (eqIntS_same l2 Ax2 Ay2 cx2 cy2 _ (ox2_13.sl len1) (oy2_13.sl len1) hl2').mono ?_
        rintro e w14 ⟨rfl, b14⟩
        have D14 := D13.trans (b14.mono D13.size)
        have ox2_14 := ox2_13.below b14 (Nat.le_refl _)
        have oy2_14 := oy2_13.below b14 (Nat.le_refl _)
        clear D13 b14 ox2_13 oy2_13
        clear ox2_14
        clear oy2_14
        have DD := hid D14
        clear D14
        go_wp2
        go_ret
        exact ⟨rfl, DD.out⟩

end Go.Proofs.Ytmgphagahdepfaa
