/- The walk of the law that the program tells what is missing as the reference does. -/
import Derived.Test.YthdmngchfahciaaMissS
import Derived.Test.YthdmngchfahciaaCopyStock
import Derived.Test.YthdmngchfahciaaCopyLine
import Derived.Test.YthdmngchfahciaaMarkStock
import Derived.Test.YthdmngchfahciaaMarkLine
import Derived.Test.YthdmngchfahciaaOwn
namespace Go.Proofs.Ythdmngchfahciaa
open Go.RowKit

set_option maxHeartbeats 3200000 in
set_option maxRecDepth 100000 in
theorem fnExactMissing_walk (w : World) (A0 : Option Addr) (l0 : List (Int × Int)) (cap0 : Nat) (lc0 : l0.length ≤ cap0) (cm0 : cap0 ≤ maxLen) (h0 : Sl enc2 2 w w.heap.size A0 l0) (A1 : Option Addr) (l1 : List (Int × Int)) (cap1 : Nat) (lc1 : l1.length ≤ cap1) (cm1 : cap1 ≤ maxLen) (h1 : Sl enc2 2 w w.heap.size A1 l1) :
    Calls Try.prog 13 #[.slice A0 l0.length cap0, .slice A1 l1.length cap1] w fun e w' => e = .returned (.bool true) ∧ Below w.heap.size w w' := by
  have hm0 : l0.length ≤ 9223372036854775807 := by simp only [maxLen] at cm0; omega
  have hm1 : l1.length ≤ 9223372036854775807 := by simp only [maxLen] at cm1; omega
  clear cm0 lc0 cm1 lc1
  by_cases hl0 : (1048576 : Int) - (l0.length : Int) < 0
  · go_enter Try.func13, Try.ntmps13
    go_wp2_with fail
    refine (szStockS_any _ _ _ _ _ hm0 (by omega) (by omega)).mono ?_
    rintro e w' ⟨rfl, rfl⟩
    rw [if_pos (by omega)]
    go_wp2
    go_ret
    exact ⟨rfl, Below.refl _ _⟩
  · have hl0' : l0.length ≤ 1048576 := by omega
    by_cases hl1 : (1048576 - (l0.length : Int) : Int) - (l1.length : Int) < 0
    · go_enter Try.func13, Try.ntmps13
      go_wp2_with fail
      refine (szStockS_any _ _ _ _ _ hm0 (by omega) (by omega)).mono ?_
      rintro e w' ⟨rfl, rfl⟩
      rw [if_neg (by omega)]
      go_wp2_with fail
      refine (szLineS_any _ _ _ _ _ hm1 (by omega) (by omega)).mono ?_
      rintro e w' ⟨rfl, rfl⟩
      rw [if_pos (by omega)]
      go_wp2
      go_ret
      exact ⟨rfl, Below.refl _ _⟩
    · have hl1' : l1.length ≤ 1048576 := by omega
      obtain ⟨RL, hRL⟩ : ∃ x, x = missL l0 l1 := ⟨_, rfl⟩
      have hRn : RL.length ≤ 1048576 := by rw [hRL]; exact missL_len
      have HR := hid hRL
      clear hRL
      go_enter Try.func13, Try.ntmps13
      go_wp2_with fail
      refine (szStockS_any _ _ _ _ _ hm0 (by omega) (by omega)).mono ?_
      rintro e w' ⟨rfl, rfl⟩
      rw [if_neg (by omega)]
      go_wp2_with fail
      refine (szLineS_any _ _ _ _ _ hm1 (by omega) (by omega)).mono ?_
      rintro e w' ⟨rfl, rfl⟩
      rw [if_neg (by omega)]
      have D0 := Below.refl w.heap.size w
      go_wp2_with fail
      refine (toStockS_any l0 _ _ _ h0 hl0').mono ?_
      rintro e w1 ⟨vp0, rfl, op0_1, b1⟩
      obtain ⟨Ap0, cp0, rfl, _, _⟩ := op0_1.reads len2
      have Hp0 := hid op0_1
      have D1 := D0.trans (b1.mono D0.size)
      have s1 := b1.size
      clear D0 b1
      go_wp2_with fail
      refine (toLineS_any l1 _ _ _ ((h1.below D1 (Nat.le_refl _)).more D1.size) hl1').mono ?_
      rintro e w2 ⟨vp1, rfl, op1_2, b2⟩
      obtain ⟨Ap1, cp1, rfl, _, _⟩ := op1_2.reads len2
      have Hp1 := hid op1_2
      have D2 := D1.trans (b2.mono D1.size)
      have s2 := b2.size
      have op0_2 := op0_1.below b2 (Nat.le_refl _)
      clear D1 b2 op0_1
      go_wp2_with fail
      refine (sMissing_any l0 l1 Ap0 Ap1 cp0 cp1 _ (op0_2.sl len2) (op1_2.sl len2) (by omega) (by omega)).mono ?_
      rintro e w3 ⟨vW, rfl, oW_3, b3⟩
      rw [← HR.out] at oW_3
      obtain ⟨AW, cW, rfl, _, _⟩ := oW_3.reads len2
      have HW := hid oW_3
      have D3 := D2.trans (b3.mono D2.size)
      have s3 := b3.size
      have op0_3 := op0_2.below b3 (Nat.le_refl _)
      have op1_3 := op1_2.below b3 (Nat.le_refl _)
      clear D2 b3 op0_2 op1_2
      clear op0_3
      clear op1_3
      go_wp2_with fail
      refine (toStockS_any l0 _ _ _ ((h0.below D3 (Nat.le_refl _)).more D3.size) hl0').mono ?_
      rintro e w4 ⟨vx0, rfl, ox0_4, b4⟩
      obtain ⟨Ax0, cx0, rfl, _, _⟩ := ox0_4.reads len2
      have Hx0 := hid ox0_4
      have D4 := D3.trans (b4.mono D3.size)
      have s4 := b4.size
      have oW_4 := oW_3.below b4 (Nat.le_refl _)
      clear D3 b4 oW_3
      go_wp2_with fail
      refine (toLineS_any l1 _ _ _ ((h1.below D4 (Nat.le_refl _)).more D4.size) hl1').mono ?_
      rintro e w5 ⟨vx1, rfl, ox1_5, b5⟩
      obtain ⟨Ax1, cx1, rfl, _, _⟩ := ox1_5.reads len2
      have Hx1 := hid ox1_5
      have D5 := D4.trans (b5.mono D4.size)
      have s5 := b5.size
      have oW_5 := oW_4.below b5 (Nat.le_refl _)
      have ox0_5 := ox0_4.below b5 (Nat.le_refl _)
      clear D4 b5 oW_4 ox0_4
      go_wp2_with fail
      refine (missing_any l0 l1 Ax0 Ax1 cx0 cx1 _ (ox0_5.sl len2) (ox1_5.sl len2) (by omega) (by omega)).mono ?_
      rintro e w6 ⟨vG, rfl, oG_6, b6⟩
      rw [← HR.out] at oG_6
      obtain ⟨AG, cG, rfl, _, _⟩ := oG_6.reads len2
      have HG := hid oG_6
      have D6 := D5.trans (b6.mono D5.size)
      have s6 := b6.size
      have oW_6 := oW_5.below b6 (Nat.le_refl _)
      have ox0_6 := ox0_5.below b6 (Nat.le_refl _)
      have ox1_6 := ox1_5.below b6 (Nat.le_refl _)
      clear D5 b6 oW_5 ox0_5 ox1_5
      go_wp2_with fail
      refine (eqLineS_same RL AG AW cG cW _ (oG_6.sl len2) (oW_6.sl len2) hRn).mono ?_
      rintro e w7 ⟨rfl, b7⟩
      have D7 := D6.trans (b7.mono D6.size)
      have s7 := b7.size
      have oW_7 := oW_6.below b7 (Nat.le_refl _)
      have ox0_7 := ox0_6.below b7 (Nat.le_refl _)
      have ox1_7 := ox1_6.below b7 (Nat.le_refl _)
      have oG_7 := oG_6.below b7 (Nat.le_refl _)
      clear D6 b7 oW_6 ox0_6 ox1_6 oG_6
      go_wp2_with fail
      refine (toStockS_any l0 _ _ _ ((h0.below D7 (Nat.le_refl _)).more D7.size) hl0').mono ?_
      rintro e w8 ⟨vy0, rfl, oy0_8, b8⟩
      obtain ⟨Ay0, cy0, rfl, _, _⟩ := oy0_8.reads len2
      have Hy0 := hid oy0_8
      have D8 := D7.trans (b8.mono D7.size)
      have s8 := b8.size
      have oW_8 := oW_7.below b8 (Nat.le_refl _)
      have ox0_8 := ox0_7.below b8 (Nat.le_refl _)
      have ox1_8 := ox1_7.below b8 (Nat.le_refl _)
      have oG_8 := oG_7.below b8 (Nat.le_refl _)
      clear D7 b8 oW_7 ox0_7 ox1_7 oG_7
      go_wp2_with fail
      refine (eqStockS_same l0 Ax0 Ay0 cx0 cy0 _ (ox0_8.sl len2) (oy0_8.sl len2) hl0').mono ?_
      rintro e w9 ⟨rfl, b9⟩
      have D9 := D8.trans (b9.mono D8.size)
      have s9 := b9.size
      have oW_9 := oW_8.below b9 (Nat.le_refl _)
      have ox0_9 := ox0_8.below b9 (Nat.le_refl _)
      have ox1_9 := ox1_8.below b9 (Nat.le_refl _)
      have oG_9 := oG_8.below b9 (Nat.le_refl _)
      have oy0_9 := oy0_8.below b9 (Nat.le_refl _)
      clear D8 b9 oW_8 ox0_8 ox1_8 oG_8 oy0_8
      clear oy0_9
      go_wp2_with fail
      refine (toLineS_any l1 _ _ _ ((h1.below D9 (Nat.le_refl _)).more D9.size) hl1').mono ?_
      rintro e w10 ⟨vy1, rfl, oy1_10, b10⟩
      obtain ⟨Ay1, cy1, rfl, _, _⟩ := oy1_10.reads len2
      have Hy1 := hid oy1_10
      have D10 := D9.trans (b10.mono D9.size)
      have s10 := b10.size
      have oW_10 := oW_9.below b10 (Nat.le_refl _)
      have ox0_10 := ox0_9.below b10 (Nat.le_refl _)
      have ox1_10 := ox1_9.below b10 (Nat.le_refl _)
      have oG_10 := oG_9.below b10 (Nat.le_refl _)
      clear D9 b10 oW_9 ox0_9 ox1_9 oG_9
      go_wp2_with fail
      refine (eqLineS_same l1 Ax1 Ay1 cx1 cy1 _ (ox1_10.sl len2) (oy1_10.sl len2) hl1').mono ?_
      rintro e w11 ⟨rfl, b11⟩
      have D11 := D10.trans (b11.mono D10.size)
      have s11 := b11.size
      have oW_11 := oW_10.below b11 (Nat.le_refl _)
      have ox0_11 := ox0_10.below b11 (Nat.le_refl _)
      have ox1_11 := ox1_10.below b11 (Nat.le_refl _)
      have oG_11 := oG_10.below b11 (Nat.le_refl _)
      have oy1_11 := oy1_10.below b11 (Nat.le_refl _)
      clear D10 b11 oW_10 ox0_10 ox1_10 oG_10 oy1_10
      clear oy1_11
      go_wp2_with fail
      refine (markStockS_any l0 _ Ax0 cx0 _ _ _ rfl ox0_11 hl0' (by omega) (by omega)).mono ?_
      rintro e w12 ⟨rfl, ox0_12, g12⟩
      have D12 := below_row D11 Hx0.out (by omega) D11.size g12
      have s12 := g12.size
      have oW_12 := oW_11.grown g12 (HW.out.apart Hx0.out (by omega))
      have ox1_12 := ox1_11.grown g12 (Hx1.out.apart Hx0.out (by omega))
      have oG_12 := oG_11.grown g12 (HG.out.apart Hx0.out (by omega))
      clear D11 g12 oW_11 ox0_11 ox1_11 oG_11
      go_wp2_with fail
      refine (markLineS_any l1 _ Ax1 cx1 _ _ _ rfl ox1_12 hl1' (by omega) (by omega)).mono ?_
      rintro e w13 ⟨rfl, ox1_13, g13⟩
      have D13 := below_row D12 Hx1.out (by omega) D12.size g13
      have s13 := g13.size
      have oW_13 := oW_12.grown g13 (HW.out.apart Hx1.out (by omega))
      have ox0_13 := ox0_12.grown g13 (Hx0.out.apart Hx1.out (by omega))
      have oG_13 := oG_12.grown g13 (HG.out.apart Hx1.out (by omega))
      clear D12 g13 oW_12 ox0_12 ox1_12 oG_12
      clear ox0_13
      clear ox1_13
      go_wp2_with fail
      refine (eqLineS_same RL AG AW cG cW _ (oG_13.sl len2) (oW_13.sl len2) hRn).mono ?_
      rintro e w14 ⟨rfl, b14⟩
      have D14 := D13.trans (b14.mono D13.size)
      have s14 := b14.size
      have oW_14 := oW_13.below b14 (Nat.le_refl _)
      have oG_14 := oG_13.below b14 (Nat.le_refl _)
      clear D13 b14 oW_13 oG_13
      go_wp2_with fail
      refine (markLineS_any RL _ AG cG _ _ _ rfl oG_14 hRn (by omega) (by omega)).mono ?_
      rintro e w15 ⟨rfl, oG_15, g15⟩
      have D15 := below_row D14 HG.out (by omega) D14.size g15
      have s15 := g15.size
      have oW_15 := oW_14.grown g15 (HW.out.apart HG.out (by omega))
      clear D14 g15 oW_14 oG_14
      go_wp2_with fail
      refine (heldLineS_any RL.length AG cG _ 1 (oG_15.sl len2) hRn (by omega) (by omega)).mono ?_
      rintro e w16 ⟨rfl, b16⟩
      have D16 := D15.trans (b16.mono D15.size)
      have s16 := b16.size
      have oW_16 := oW_15.below b16 (Nat.le_refl _)
      have oG_16 := oG_15.below b16 (Nat.le_refl _)
      clear D15 b16 oW_15 oG_15
      go_wp2_with fail
      refine (toStockS_any l0 _ _ _ ((h0.below D16 (Nat.le_refl _)).more D16.size) hl0').mono ?_
      rintro e w17 ⟨vz0, rfl, oz0_17, b17⟩
      obtain ⟨Az0, cz0, rfl, _, _⟩ := oz0_17.reads len2
      have Hz0 := hid oz0_17
      have D17 := D16.trans (b17.mono D16.size)
      have s17 := b17.size
      have oW_17 := oW_16.below b17 (Nat.le_refl _)
      have oG_17 := oG_16.below b17 (Nat.le_refl _)
      clear D16 b17 oW_16 oG_16
      go_wp2_with fail
      refine (toLineS_any l1 _ _ _ ((h1.below D17 (Nat.le_refl _)).more D17.size) hl1').mono ?_
      rintro e w18 ⟨vz1, rfl, oz1_18, b18⟩
      obtain ⟨Az1, cz1, rfl, _, _⟩ := oz1_18.reads len2
      have Hz1 := hid oz1_18
      have D18 := D17.trans (b18.mono D17.size)
      have s18 := b18.size
      have oW_18 := oW_17.below b18 (Nat.le_refl _)
      have oG_18 := oG_17.below b18 (Nat.le_refl _)
      have oz0_18 := oz0_17.below b18 (Nat.le_refl _)
      clear D17 b18 oW_17 oG_17 oz0_17
      go_wp2_with fail
      refine (missing_any l0 l1 Az0 Az1 cz0 cz1 _ (oz0_18.sl len2) (oz1_18.sl len2) (by omega) (by omega)).mono ?_
      rintro e w19 ⟨vH, rfl, oH_19, b19⟩
      rw [← HR.out] at oH_19
      obtain ⟨AH, cH, rfl, _, _⟩ := oH_19.reads len2
      have HH := hid oH_19
      have D19 := D18.trans (b19.mono D18.size)
      have s19 := b19.size
      have oW_19 := oW_18.below b19 (Nat.le_refl _)
      have oG_19 := oG_18.below b19 (Nat.le_refl _)
      have oz0_19 := oz0_18.below b19 (Nat.le_refl _)
      have oz1_19 := oz1_18.below b19 (Nat.le_refl _)
      clear D18 b19 oW_18 oG_18 oz0_18 oz1_18
      clear oz0_19
      clear oz1_19
      go_wp2_with fail
      refine (eqLineS_same RL AH AW cH cW _ (oH_19.sl len2) (oW_19.sl len2) hRn).mono ?_
      rintro e w20 ⟨rfl, b20⟩
      have D20 := D19.trans (b20.mono D19.size)
      have s20 := b20.size
      have oW_20 := oW_19.below b20 (Nat.le_refl _)
      have oG_20 := oG_19.below b20 (Nat.le_refl _)
      have oH_20 := oH_19.below b20 (Nat.le_refl _)
      clear D19 b20 oW_19 oG_19 oH_19
      clear oH_20
      clear oW_20
      go_wp2_with fail
      refine (heldLineS_any RL.length AG cG _ 1 (oG_20.sl len2) hRn (by omega) (by omega)).mono ?_
      rintro e w21 ⟨rfl, b21⟩
      have D21 := D20.trans (b21.mono D20.size)
      have s21 := b21.size
      have oG_21 := oG_20.below b21 (Nat.le_refl _)
      clear D20 b21 oG_20
      have DD := hid D21
      clear D21 oG_21
      go_wp2
      go_ret
      exact ⟨rfl, DD.out⟩

end Go.Proofs.Ythdmngchfahciaa
