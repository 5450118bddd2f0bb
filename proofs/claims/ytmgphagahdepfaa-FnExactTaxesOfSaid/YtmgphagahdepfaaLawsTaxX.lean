/- The walk of the law that the program tells taxes as the reference does. -/
import Derived.Test.YtmgphagahdepfaaTaxesS
import Derived.Test.YtmgphagahdepfaaCopyArticle
import Derived.Test.YtmgphagahdepfaaCopyLine
import Derived.Test.YtmgphagahdepfaaCopyTax
import Derived.Test.YtmgphagahdepfaaEqInt
import Derived.Test.YtmgphagahdepfaaCopyInt
import Derived.Test.YtmgphagahdepfaaMarkArticle
import Derived.Test.YtmgphagahdepfaaMarkLine
import Derived.Test.YtmgphagahdepfaaMarkInt
import Derived.Test.YtmgphagahdepfaaMarkTax
import Derived.Test.YtmgphagahdepfaaOwn
namespace Go.Proofs.Ytmgphagahdepfaa
open Go.RowKit

set_option maxHeartbeats 3200000 in
set_option maxRecDepth 100000 in
theorem fnExactTaxesOf_walk (w : World) (A0 : Option Addr) (l0 : List (Int × Int × Int × Int)) (cap0 : Nat) (lc0 : l0.length ≤ cap0) (cm0 : cap0 ≤ maxLen) (h0 : Sl enc4 4 w w.heap.size A0 l0) (A1 : Option Addr) (l1 : List (Int × Int)) (cap1 : Nat) (lc1 : l1.length ≤ cap1) (cm1 : cap1 ≤ maxLen) (h1 : Sl enc2 2 w w.heap.size A1 l1) (A2 : Option Addr) (l2 : List (Int)) (cap2 : Nat) (lc2 : l2.length ≤ cap2) (cm2 : cap2 ≤ maxLen) (h2 : Sl enc1 1 w w.heap.size A2 l2) :
    Calls Try.prog 4 #[.slice A0 l0.length cap0, .slice A1 l1.length cap1, .slice A2 l2.length cap2] w fun e w' => e = .returned (.bool true) ∧ Below w.heap.size w w' := by
  have hm0 : l0.length ≤ 9223372036854775807 := by simp only [maxLen] at cm0; omega
  have hm1 : l1.length ≤ 9223372036854775807 := by simp only [maxLen] at cm1; omega
  have hm2 : l2.length ≤ 9223372036854775807 := by simp only [maxLen] at cm2; omega
  clear cm0 lc0 cm1 lc1 cm2 lc2
  by_cases hl2 : 1048576 < l2.length
  · go_enter Try.func4, Try.ntmps4
    go_wp2
    go_ret
    exact ⟨rfl, Below.refl _ _⟩
  · have hl2' : l2.length ≤ 1048576 := by omega
    by_cases hl0 : (1048576 : Int) - (l0.length : Int) < 0
    · go_enter Try.func4, Try.ntmps4
      go_wp2_with fail
      refine (szArticleS_any _ _ _ _ _ hm0 (by omega) (by omega)).mono ?_
      rintro e w' ⟨rfl, rfl⟩
      rw [if_pos (by omega)]
      go_wp2
      go_ret
      exact ⟨rfl, Below.refl _ _⟩
    · have hl0' : l0.length ≤ 1048576 := by omega
      by_cases hl1 : (1048576 - (l0.length : Int) : Int) - (l1.length : Int) < 0
      · go_enter Try.func4, Try.ntmps4
        go_wp2_with fail
        refine (szArticleS_any _ _ _ _ _ hm0 (by omega) (by omega)).mono ?_
        rintro e w' ⟨rfl, rfl⟩
        rw [if_neg (by omega)]
        go_wp2_with fail
        refine (szLineS_any _ _ _ _ _ hm1 (by omega) (by omega)).mono ?_
        rintro e w' ⟨rfl, rfl⟩
        rw [if_pos (by omega)]
        go_wp2
        go_ret
        exact ⟨rfl, Below.refl _ _⟩
      · have hl1' : l1.length ≤ 1048576 := by omega
        obtain ⟨RL, hRL⟩ : ∃ x, x = taxesI l0 l1 l2 := ⟨_, rfl⟩
        have hRn : RL.length ≤ 1048576 := by rw [hRL]; exact Nat.le_trans (taxesI_len l0 l1 l2) (by omega)
        have HR := hid hRL
        clear hRL
        go_enter Try.func4, Try.ntmps4
        go_wp2_with fail
        refine (szArticleS_any _ _ _ _ _ hm0 (by omega) (by omega)).mono ?_
        rintro e w' ⟨rfl, rfl⟩
        rw [if_neg (by omega)]
        go_wp2_with fail
        refine (szLineS_any _ _ _ _ _ hm1 (by omega) (by omega)).mono ?_
        rintro e w' ⟨rfl, rfl⟩
        rw [if_neg (by omega)]
        have D0 := Below.refl w.heap.size w
        go_wp2_with fail
        refine (toArticleS_any l0 _ _ _ h0 hl0').mono ?_
        rintro e w1 ⟨vp0, rfl, op0_1, b1⟩
        obtain ⟨Ap0, cp0, rfl, _, _⟩ := op0_1.reads len4
        have Hp0 := hid op0_1
        have D1 := D0.trans (b1.mono D0.size)
        have s1 := b1.size
        clear D0 b1
        go_wp2_with fail
        refine (toLineS_any l1 _ _ _ ((h1.below D1 (Nat.le_refl _)).more D1.size) hl1').mono ?_
        rintro e w2 ⟨vp1, rfl, op1_2, b2⟩
        obtain ⟨Ap1, cp1, rfl, _, _⟩ := op1_2.reads len2
        have Hp1 := hid op1_2
        have D2 := D1.trans (b2.mono D1.size)
        have s2 := b2.size
        have op0_2 := op0_1.below b2 (Nat.le_refl _)
        clear D1 b2 op0_1
        go_wp2_with fail
        refine (toIntS_any l2 _ _ _ ((h2.below D2 (Nat.le_refl _)).more D2.size) hl2').mono ?_
        rintro e w3 ⟨vp2, rfl, op2_3, b3⟩
        obtain ⟨Ap2, cp2, rfl, _, _⟩ := op2_3.reads len1
        have Hp2 := hid op2_3
        have D3 := D2.trans (b3.mono D2.size)
        have s3 := b3.size
        have op0_3 := op0_2.below b3 (Nat.le_refl _)
        have op1_3 := op1_2.below b3 (Nat.le_refl _)
        clear D2 b3 op0_2 op1_2
        go_wp2_with fail
        refine (staxesOf_any l0 l1 l2 Ap0 Ap1 Ap2 cp0 cp1 cp2 _ (op0_3.sl len4) (op1_3.sl len2) (op2_3.sl len1) (by omega) (by omega) (by omega)).mono ?_
        rintro e w4 ⟨vW, rfl, oW_4, b4⟩
        rw [← HR.out] at oW_4
        obtain ⟨AW, cW, rfl, _, _⟩ := oW_4.reads len3
        have HW := hid oW_4
        have D4 := D3.trans (b4.mono D3.size)
        have s4 := b4.size
        have op0_4 := op0_3.below b4 (Nat.le_refl _)
        have op1_4 := op1_3.below b4 (Nat.le_refl _)
        have op2_4 := op2_3.below b4 (Nat.le_refl _)
        clear D3 b4 op0_3 op1_3 op2_3
        clear op0_4
        clear op1_4
        clear op2_4
        go_wp2_with fail
        refine (toArticleS_any l0 _ _ _ ((h0.below D4 (Nat.le_refl _)).more D4.size) hl0').mono ?_
        rintro e w5 ⟨vx0, rfl, ox0_5, b5⟩
        obtain ⟨Ax0, cx0, rfl, _, _⟩ := ox0_5.reads len4
        have Hx0 := hid ox0_5
        have D5 := D4.trans (b5.mono D4.size)
        have s5 := b5.size
        have oW_5 := oW_4.below b5 (Nat.le_refl _)
        clear D4 b5 oW_4
        go_wp2_with fail
        refine (toLineS_any l1 _ _ _ ((h1.below D5 (Nat.le_refl _)).more D5.size) hl1').mono ?_
        rintro e w6 ⟨vx1, rfl, ox1_6, b6⟩
        obtain ⟨Ax1, cx1, rfl, _, _⟩ := ox1_6.reads len2
        have Hx1 := hid ox1_6
        have D6 := D5.trans (b6.mono D5.size)
        have s6 := b6.size
        have oW_6 := oW_5.below b6 (Nat.le_refl _)
        have ox0_6 := ox0_5.below b6 (Nat.le_refl _)
        clear D5 b6 oW_5 ox0_5
        go_wp2_with fail
        refine (toIntS_any l2 _ _ _ ((h2.below D6 (Nat.le_refl _)).more D6.size) hl2').mono ?_
        rintro e w7 ⟨vx2, rfl, ox2_7, b7⟩
        obtain ⟨Ax2, cx2, rfl, _, _⟩ := ox2_7.reads len1
        have Hx2 := hid ox2_7
        have D7 := D6.trans (b7.mono D6.size)
        have s7 := b7.size
        have oW_7 := oW_6.below b7 (Nat.le_refl _)
        have ox0_7 := ox0_6.below b7 (Nat.le_refl _)
        have ox1_7 := ox1_6.below b7 (Nat.le_refl _)
        clear D6 b7 oW_6 ox0_6 ox1_6
        go_wp2_with fail
        refine (taxesOf_any l0 l1 l2 Ax0 Ax1 Ax2 cx0 cx1 cx2 _ (ox0_7.sl len4) (ox1_7.sl len2) (ox2_7.sl len1) (by omega) (by omega) (by omega)).mono ?_
        rintro e w8 ⟨vG, rfl, oG_8, b8⟩
        rw [← HR.out] at oG_8
        obtain ⟨AG, cG, rfl, _, _⟩ := oG_8.reads len3
        have HG := hid oG_8
        have D8 := D7.trans (b8.mono D7.size)
        have s8 := b8.size
        have oW_8 := oW_7.below b8 (Nat.le_refl _)
        have ox0_8 := ox0_7.below b8 (Nat.le_refl _)
        have ox1_8 := ox1_7.below b8 (Nat.le_refl _)
        have ox2_8 := ox2_7.below b8 (Nat.le_refl _)
        clear D7 b8 oW_7 ox0_7 ox1_7 ox2_7
        go_wp2_with fail
        refine (eqTaxS_same RL AG AW cG cW _ (oG_8.sl len3) (oW_8.sl len3) hRn).mono ?_
        rintro e w9 ⟨rfl, b9⟩
        have D9 := D8.trans (b9.mono D8.size)
        have s9 := b9.size
        have oW_9 := oW_8.below b9 (Nat.le_refl _)
        have ox0_9 := ox0_8.below b9 (Nat.le_refl _)
        have ox1_9 := ox1_8.below b9 (Nat.le_refl _)
        have ox2_9 := ox2_8.below b9 (Nat.le_refl _)
        have oG_9 := oG_8.below b9 (Nat.le_refl _)
        clear D8 b9 oW_8 ox0_8 ox1_8 ox2_8 oG_8
        go_wp2_with fail
        refine (toArticleS_any l0 _ _ _ ((h0.below D9 (Nat.le_refl _)).more D9.size) hl0').mono ?_
        rintro e w10 ⟨vy0, rfl, oy0_10, b10⟩
        obtain ⟨Ay0, cy0, rfl, _, _⟩ := oy0_10.reads len4
        have Hy0 := hid oy0_10
        have D10 := D9.trans (b10.mono D9.size)
        have s10 := b10.size
        have oW_10 := oW_9.below b10 (Nat.le_refl _)
        have ox0_10 := ox0_9.below b10 (Nat.le_refl _)
        have ox1_10 := ox1_9.below b10 (Nat.le_refl _)
        have ox2_10 := ox2_9.below b10 (Nat.le_refl _)
        have oG_10 := oG_9.below b10 (Nat.le_refl _)
        clear D9 b10 oW_9 ox0_9 ox1_9 ox2_9 oG_9
        go_wp2_with fail
        refine (eqArticleS_same l0 Ax0 Ay0 cx0 cy0 _ (ox0_10.sl len4) (oy0_10.sl len4) hl0').mono ?_
        rintro e w11 ⟨rfl, b11⟩
        have D11 := D10.trans (b11.mono D10.size)
        have s11 := b11.size
        have oW_11 := oW_10.below b11 (Nat.le_refl _)
        have ox0_11 := ox0_10.below b11 (Nat.le_refl _)
        have ox1_11 := ox1_10.below b11 (Nat.le_refl _)
        have ox2_11 := ox2_10.below b11 (Nat.le_refl _)
        have oG_11 := oG_10.below b11 (Nat.le_refl _)
        have oy0_11 := oy0_10.below b11 (Nat.le_refl _)
        clear D10 b11 oW_10 ox0_10 ox1_10 ox2_10 oG_10 oy0_10
        clear oy0_11
        go_wp2_with fail
        refine (toLineS_any l1 _ _ _ ((h1.below D11 (Nat.le_refl _)).more D11.size) hl1').mono ?_
        rintro e w12 ⟨vy1, rfl, oy1_12, b12⟩
        obtain ⟨Ay1, cy1, rfl, _, _⟩ := oy1_12.reads len2
        have Hy1 := hid oy1_12
        have D12 := D11.trans (b12.mono D11.size)
        have s12 := b12.size
        have oW_12 := oW_11.below b12 (Nat.le_refl _)
        have ox0_12 := ox0_11.below b12 (Nat.le_refl _)
        have ox1_12 := ox1_11.below b12 (Nat.le_refl _)
        have ox2_12 := ox2_11.below b12 (Nat.le_refl _)
        have oG_12 := oG_11.below b12 (Nat.le_refl _)
        clear D11 b12 oW_11 ox0_11 ox1_11 ox2_11 oG_11
        go_wp2_with fail
        refine (eqLineS_same l1 Ax1 Ay1 cx1 cy1 _ (ox1_12.sl len2) (oy1_12.sl len2) hl1').mono ?_
        rintro e w13 ⟨rfl, b13⟩
        have D13 := D12.trans (b13.mono D12.size)
        have s13 := b13.size
        have oW_13 := oW_12.below b13 (Nat.le_refl _)
        have ox0_13 := ox0_12.below b13 (Nat.le_refl _)
        have ox1_13 := ox1_12.below b13 (Nat.le_refl _)
        have ox2_13 := ox2_12.below b13 (Nat.le_refl _)
        have oG_13 := oG_12.below b13 (Nat.le_refl _)
        have oy1_13 := oy1_12.below b13 (Nat.le_refl _)
        clear D12 b13 oW_12 ox0_12 ox1_12 ox2_12 oG_12 oy1_12
        clear oy1_13
        go_wp2_with fail
        refine (toIntS_any l2 _ _ _ ((h2.below D13 (Nat.le_refl _)).more D13.size) hl2').mono ?_
        rintro e w14 ⟨vy2, rfl, oy2_14, b14⟩
        obtain ⟨Ay2, cy2, rfl, _, _⟩ := oy2_14.reads len1
        have Hy2 := hid oy2_14
        have D14 := D13.trans (b14.mono D13.size)
        have s14 := b14.size
        have oW_14 := oW_13.below b14 (Nat.le_refl _)
        have ox0_14 := ox0_13.below b14 (Nat.le_refl _)
        have ox1_14 := ox1_13.below b14 (Nat.le_refl _)
        have ox2_14 := ox2_13.below b14 (Nat.le_refl _)
        have oG_14 := oG_13.below b14 (Nat.le_refl _)
        clear D13 b14 oW_13 ox0_13 ox1_13 ox2_13 oG_13
        go_wp2_with fail
        refine (eqIntS_same l2 Ax2 Ay2 cx2 cy2 _ (ox2_14.sl len1) (oy2_14.sl len1) hl2').mono ?_
        rintro e w15 ⟨rfl, b15⟩
        have D15 := D14.trans (b15.mono D14.size)
        have s15 := b15.size
        have oW_15 := oW_14.below b15 (Nat.le_refl _)
        have ox0_15 := ox0_14.below b15 (Nat.le_refl _)
        have ox1_15 := ox1_14.below b15 (Nat.le_refl _)
        have ox2_15 := ox2_14.below b15 (Nat.le_refl _)
        have oG_15 := oG_14.below b15 (Nat.le_refl _)
        have oy2_15 := oy2_14.below b15 (Nat.le_refl _)
        clear D14 b15 oW_14 ox0_14 ox1_14 ox2_14 oG_14 oy2_14
        clear oy2_15
        go_wp2_with fail
        refine (markArticleS_any l0 _ Ax0 cx0 _ _ _ rfl ox0_15 hl0' (by omega) (by omega)).mono ?_
        rintro e w16 ⟨rfl, ox0_16, g16⟩
        have D16 := below_row D15 Hx0.out (by omega) D15.size g16
        have s16 := g16.size
        have oW_16 := oW_15.grown g16 (HW.out.apart Hx0.out (by omega))
        have ox1_16 := ox1_15.grown g16 (Hx1.out.apart Hx0.out (by omega))
        have ox2_16 := ox2_15.grown g16 (Hx2.out.apart Hx0.out (by omega))
        have oG_16 := oG_15.grown g16 (HG.out.apart Hx0.out (by omega))
        clear D15 g16 oW_15 ox0_15 ox1_15 ox2_15 oG_15
        go_wp2_with fail
        refine (markLineS_any l1 _ Ax1 cx1 _ _ _ rfl ox1_16 hl1' (by omega) (by omega)).mono ?_
        rintro e w17 ⟨rfl, ox1_17, g17⟩
        have D17 := below_row D16 Hx1.out (by omega) D16.size g17
        have s17 := g17.size
        have oW_17 := oW_16.grown g17 (HW.out.apart Hx1.out (by omega))
        have ox0_17 := ox0_16.grown g17 (Hx0.out.apart Hx1.out (by omega))
        have ox2_17 := ox2_16.grown g17 (Hx2.out.apart Hx1.out (by omega))
        have oG_17 := oG_16.grown g17 (HG.out.apart Hx1.out (by omega))
        clear D16 g17 oW_16 ox0_16 ox1_16 ox2_16 oG_16
        go_wp2_with fail
        refine (markIntS_any l2 _ Ax2 cx2 _ _ _ rfl ox2_17 hl2' (by omega) (by omega)).mono ?_
        rintro e w18 ⟨rfl, ox2_18, g18⟩
        have D18 := below_row D17 Hx2.out (by omega) D17.size g18
        have s18 := g18.size
        have oW_18 := oW_17.grown g18 (HW.out.apart Hx2.out (by omega))
        have ox0_18 := ox0_17.grown g18 (Hx0.out.apart Hx2.out (by omega))
        have ox1_18 := ox1_17.grown g18 (Hx1.out.apart Hx2.out (by omega))
        have oG_18 := oG_17.grown g18 (HG.out.apart Hx2.out (by omega))
        clear D17 g18 oW_17 ox0_17 ox1_17 ox2_17 oG_17
        clear ox0_18
        clear ox1_18
        clear ox2_18
        go_wp2_with fail
        refine (eqTaxS_same RL AG AW cG cW _ (oG_18.sl len3) (oW_18.sl len3) hRn).mono ?_
        rintro e w19 ⟨rfl, b19⟩
        have D19 := D18.trans (b19.mono D18.size)
        have s19 := b19.size
        have oW_19 := oW_18.below b19 (Nat.le_refl _)
        have oG_19 := oG_18.below b19 (Nat.le_refl _)
        clear D18 b19 oW_18 oG_18
        go_wp2_with fail
        refine (markTaxS_any RL _ AG cG _ _ _ rfl oG_19 hRn (by omega) (by omega)).mono ?_
        rintro e w20 ⟨rfl, oG_20, g20⟩
        have D20 := below_row D19 HG.out (by omega) D19.size g20
        have s20 := g20.size
        have oW_20 := oW_19.grown g20 (HW.out.apart HG.out (by omega))
        clear D19 g20 oW_19 oG_19
        go_wp2_with fail
        refine (heldTaxS_any RL.length AG cG _ 1 (oG_20.sl len3) hRn (by omega) (by omega)).mono ?_
        rintro e w21 ⟨rfl, b21⟩
        have D21 := D20.trans (b21.mono D20.size)
        have s21 := b21.size
        have oW_21 := oW_20.below b21 (Nat.le_refl _)
        have oG_21 := oG_20.below b21 (Nat.le_refl _)
        clear D20 b21 oW_20 oG_20
        go_wp2_with fail
        refine (toArticleS_any l0 _ _ _ ((h0.below D21 (Nat.le_refl _)).more D21.size) hl0').mono ?_
        rintro e w22 ⟨vz0, rfl, oz0_22, b22⟩
        obtain ⟨Az0, cz0, rfl, _, _⟩ := oz0_22.reads len4
        have Hz0 := hid oz0_22
        have D22 := D21.trans (b22.mono D21.size)
        have s22 := b22.size
        have oW_22 := oW_21.below b22 (Nat.le_refl _)
        have oG_22 := oG_21.below b22 (Nat.le_refl _)
        clear D21 b22 oW_21 oG_21
        go_wp2_with fail
        refine (toLineS_any l1 _ _ _ ((h1.below D22 (Nat.le_refl _)).more D22.size) hl1').mono ?_
        rintro e w23 ⟨vz1, rfl, oz1_23, b23⟩
        obtain ⟨Az1, cz1, rfl, _, _⟩ := oz1_23.reads len2
        have Hz1 := hid oz1_23
        have D23 := D22.trans (b23.mono D22.size)
        have s23 := b23.size
        have oW_23 := oW_22.below b23 (Nat.le_refl _)
        have oG_23 := oG_22.below b23 (Nat.le_refl _)
        have oz0_23 := oz0_22.below b23 (Nat.le_refl _)
        clear D22 b23 oW_22 oG_22 oz0_22
        go_wp2_with fail
        refine (toIntS_any l2 _ _ _ ((h2.below D23 (Nat.le_refl _)).more D23.size) hl2').mono ?_
        rintro e w24 ⟨vz2, rfl, oz2_24, b24⟩
        obtain ⟨Az2, cz2, rfl, _, _⟩ := oz2_24.reads len1
        have Hz2 := hid oz2_24
        have D24 := D23.trans (b24.mono D23.size)
        have s24 := b24.size
        have oW_24 := oW_23.below b24 (Nat.le_refl _)
        have oG_24 := oG_23.below b24 (Nat.le_refl _)
        have oz0_24 := oz0_23.below b24 (Nat.le_refl _)
        have oz1_24 := oz1_23.below b24 (Nat.le_refl _)
        clear D23 b24 oW_23 oG_23 oz0_23 oz1_23
        go_wp2_with fail
        refine (taxesOf_any l0 l1 l2 Az0 Az1 Az2 cz0 cz1 cz2 _ (oz0_24.sl len4) (oz1_24.sl len2) (oz2_24.sl len1) (by omega) (by omega) (by omega)).mono ?_
        rintro e w25 ⟨vH, rfl, oH_25, b25⟩
        rw [← HR.out] at oH_25
        obtain ⟨AH, cH, rfl, _, _⟩ := oH_25.reads len3
        have HH := hid oH_25
        have D25 := D24.trans (b25.mono D24.size)
        have s25 := b25.size
        have oW_25 := oW_24.below b25 (Nat.le_refl _)
        have oG_25 := oG_24.below b25 (Nat.le_refl _)
        have oz0_25 := oz0_24.below b25 (Nat.le_refl _)
        have oz1_25 := oz1_24.below b25 (Nat.le_refl _)
        have oz2_25 := oz2_24.below b25 (Nat.le_refl _)
        clear D24 b25 oW_24 oG_24 oz0_24 oz1_24 oz2_24
        clear oz0_25
        clear oz1_25
        clear oz2_25
        go_wp2_with fail
        refine (eqTaxS_same RL AH AW cH cW _ (oH_25.sl len3) (oW_25.sl len3) hRn).mono ?_
        rintro e w26 ⟨rfl, b26⟩
        have D26 := D25.trans (b26.mono D25.size)
        have s26 := b26.size
        have oW_26 := oW_25.below b26 (Nat.le_refl _)
        have oG_26 := oG_25.below b26 (Nat.le_refl _)
        have oH_26 := oH_25.below b26 (Nat.le_refl _)
        clear D25 b26 oW_25 oG_25 oH_25
        clear oH_26
        clear oW_26
        go_wp2_with fail
        refine (heldTaxS_any RL.length AG cG _ 1 (oG_26.sl len3) hRn (by omega) (by omega)).mono ?_
        rintro e w27 ⟨rfl, b27⟩
        have D27 := D26.trans (b27.mono D26.size)
        have s27 := b27.size
        have oG_27 := oG_26.below b27 (Nat.le_refl _)
        clear D26 b27 oG_26
        have DD := hid D27
        clear D27 oG_27
        go_wp2
        go_ret
        exact ⟨rfl, DD.out⟩

end Go.Proofs.Ytmgphagahdepfaa
