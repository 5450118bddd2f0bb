/- The walk of the law that the program pays out as the reference does. -/
import Derived.Test.YtcjcolkhhmpmjaaPayS
import Derived.Test.YtcjcolkhhmpmjaaCopyCoin
import Derived.Test.YtcjcolkhhmpmjaaMarkCoin
import Derived.Test.YtcjcolkhhmpmjaaOwn
namespace Go.Proofs.Ytcjcolkhhmpmjaa
open Go.RowKit

set_option maxHeartbeats 3200000 in
set_option maxRecDepth 100000 in
theorem fnExactPayOut_walk (w : World) (A0 : Option Addr) (l0 : List (Int × Int)) (cap0 : Nat) (lc0 : l0.length ≤ cap0) (cm0 : cap0 ≤ maxLen) (h0 : Sl enc2 2 w w.heap.size A0 l0) (i1 : Int) (_ : -9223372036854775808 ≤ i1 ∧ i1 ≤ 9223372036854775807) :
    Calls Try.prog 12 #[.slice A0 l0.length cap0, .int .i64 i1] w fun e w' => e = .returned (.bool true) ∧ Below w.heap.size w w' := by
  have hm0 : l0.length ≤ 9223372036854775807 := by simp only [maxLen] at cm0; omega
  clear cm0 lc0
  by_cases hl0 : (1048576 : Int) - (l0.length : Int) < 0
  · go_enter Try.func12, Try.ntmps12
    go_wp2_with fail
    refine (szCoinS_any _ _ _ _ _ hm0 (by omega) (by omega)).mono ?_
    rintro e w' ⟨rfl, rfl⟩
    rw [if_pos (by omega)]
    go_wp2
    go_ret
    exact ⟨rfl, Below.refl _ _⟩
  · have hl0' : l0.length ≤ 1048576 := by omega
    obtain ⟨RL, hRL⟩ : ∃ x, x = payI l0 i1 := ⟨_, rfl⟩
    have hRn : RL.length ≤ 1048576 := by rw [hRL]; exact payI_len
    have HR := hid hRL
    clear hRL
    go_enter Try.func12, Try.ntmps12
    go_wp2_with fail
    refine (szCoinS_any _ _ _ _ _ hm0 (by omega) (by omega)).mono ?_
    rintro e w' ⟨rfl, rfl⟩
    rw [if_neg (by omega)]
    have D0 := Below.refl w.heap.size w
    go_wp2_with fail
    refine (toCoinS_any l0 _ _ _ h0 hl0').mono ?_
    rintro e w1 ⟨vp0, rfl, op0_1, b1⟩
    obtain ⟨Ap0, cp0, rfl, _, _⟩ := op0_1.reads len2
    have Hp0 := hid op0_1
    have D1 := D0.trans (b1.mono D0.size)
    have s1 := b1.size
    clear D0 b1
    go_wp2_with fail
    refine (specPayOut_any l0 Ap0 cp0 i1 _ (op0_1.sl len2) (by omega)).mono ?_
    rintro e w2 ⟨vW, rfl, oW_2, b2⟩
    rw [← HR.out] at oW_2
    obtain ⟨AW, cW, rfl, _, _⟩ := oW_2.reads len2
    have HW := hid oW_2
    have D2 := D1.trans (b2.mono D1.size)
    have s2 := b2.size
    have op0_2 := op0_1.below b2 (Nat.le_refl _)
    clear D1 b2 op0_1
    clear op0_2
    go_wp2_with fail
    refine (toCoinS_any l0 _ _ _ ((h0.below D2 (Nat.le_refl _)).more D2.size) hl0').mono ?_
    rintro e w3 ⟨vx0, rfl, ox0_3, b3⟩
    obtain ⟨Ax0, cx0, rfl, _, _⟩ := ox0_3.reads len2
    have Hx0 := hid ox0_3
    have D3 := D2.trans (b3.mono D2.size)
    have s3 := b3.size
    have oW_3 := oW_2.below b3 (Nat.le_refl _)
    clear D2 b3 oW_2
    go_wp2_with fail
    refine (payOut_any l0 Ax0 cx0 i1 _ (ox0_3.sl len2) (by omega)).mono ?_
    rintro e w4 ⟨vG, rfl, oG_4, b4⟩
    rw [← HR.out] at oG_4
    obtain ⟨AG, cG, rfl, _, _⟩ := oG_4.reads len2
    have HG := hid oG_4
    have D4 := D3.trans (b4.mono D3.size)
    have s4 := b4.size
    have oW_4 := oW_3.below b4 (Nat.le_refl _)
    have ox0_4 := ox0_3.below b4 (Nat.le_refl _)
    clear D3 b4 oW_3 ox0_3
    go_wp2_with fail
    refine (eqCoinS_same RL AG AW cG cW _ (oG_4.sl len2) (oW_4.sl len2) hRn).mono ?_
    rintro e w5 ⟨rfl, b5⟩
    have D5 := D4.trans (b5.mono D4.size)
    have s5 := b5.size
    have oW_5 := oW_4.below b5 (Nat.le_refl _)
    have ox0_5 := ox0_4.below b5 (Nat.le_refl _)
    have oG_5 := oG_4.below b5 (Nat.le_refl _)
    clear D4 b5 oW_4 ox0_4 oG_4
    go_wp2_with fail
    refine (toCoinS_any l0 _ _ _ ((h0.below D5 (Nat.le_refl _)).more D5.size) hl0').mono ?_
    rintro e w6 ⟨vy0, rfl, oy0_6, b6⟩
    obtain ⟨Ay0, cy0, rfl, _, _⟩ := oy0_6.reads len2
    have Hy0 := hid oy0_6
    have D6 := D5.trans (b6.mono D5.size)
    have s6 := b6.size
    have oW_6 := oW_5.below b6 (Nat.le_refl _)
    have ox0_6 := ox0_5.below b6 (Nat.le_refl _)
    have oG_6 := oG_5.below b6 (Nat.le_refl _)
    clear D5 b6 oW_5 ox0_5 oG_5
    go_wp2_with fail
    refine (eqCoinS_same l0 Ax0 Ay0 cx0 cy0 _ (ox0_6.sl len2) (oy0_6.sl len2) hl0').mono ?_
    rintro e w7 ⟨rfl, b7⟩
    have D7 := D6.trans (b7.mono D6.size)
    have s7 := b7.size
    have oW_7 := oW_6.below b7 (Nat.le_refl _)
    have ox0_7 := ox0_6.below b7 (Nat.le_refl _)
    have oG_7 := oG_6.below b7 (Nat.le_refl _)
    have oy0_7 := oy0_6.below b7 (Nat.le_refl _)
    clear D6 b7 oW_6 ox0_6 oG_6 oy0_6
    clear oy0_7
    go_wp2_with fail
    refine (markCoinS_any l0 _ Ax0 cx0 _ _ _ rfl ox0_7 hl0' (by omega) (by omega)).mono ?_
    rintro e w8 ⟨rfl, ox0_8, g8⟩
    have D8 := below_row D7 Hx0.out (by omega) D7.size g8
    have s8 := g8.size
    have oW_8 := oW_7.grown g8 (HW.out.apart Hx0.out (by omega))
    have oG_8 := oG_7.grown g8 (HG.out.apart Hx0.out (by omega))
    clear D7 g8 oW_7 ox0_7 oG_7
    clear ox0_8
    go_wp2_with fail
    refine (eqCoinS_same RL AG AW cG cW _ (oG_8.sl len2) (oW_8.sl len2) hRn).mono ?_
    rintro e w9 ⟨rfl, b9⟩
    have D9 := D8.trans (b9.mono D8.size)
    have s9 := b9.size
    have oW_9 := oW_8.below b9 (Nat.le_refl _)
    have oG_9 := oG_8.below b9 (Nat.le_refl _)
    clear D8 b9 oW_8 oG_8
    go_wp2_with fail
    refine (markCoinS_any RL _ AG cG _ _ _ rfl oG_9 hRn (by omega) (by omega)).mono ?_
    rintro e w10 ⟨rfl, oG_10, g10⟩
    have D10 := below_row D9 HG.out (by omega) D9.size g10
    have s10 := g10.size
    have oW_10 := oW_9.grown g10 (HW.out.apart HG.out (by omega))
    clear D9 g10 oW_9 oG_9
    go_wp2_with fail
    refine (heldCoinS_any RL.length AG cG _ 1 (oG_10.sl len2) hRn (by omega) (by omega)).mono ?_
    rintro e w11 ⟨rfl, b11⟩
    have D11 := D10.trans (b11.mono D10.size)
    have s11 := b11.size
    have oW_11 := oW_10.below b11 (Nat.le_refl _)
    have oG_11 := oG_10.below b11 (Nat.le_refl _)
    clear D10 b11 oW_10 oG_10
    go_wp2_with fail
    refine (toCoinS_any l0 _ _ _ ((h0.below D11 (Nat.le_refl _)).more D11.size) hl0').mono ?_
    rintro e w12 ⟨vz0, rfl, oz0_12, b12⟩
    obtain ⟨Az0, cz0, rfl, _, _⟩ := oz0_12.reads len2
    have Hz0 := hid oz0_12
    have D12 := D11.trans (b12.mono D11.size)
    have s12 := b12.size
    have oW_12 := oW_11.below b12 (Nat.le_refl _)
    have oG_12 := oG_11.below b12 (Nat.le_refl _)
    clear D11 b12 oW_11 oG_11
    go_wp2_with fail
    refine (payOut_any l0 Az0 cz0 i1 _ (oz0_12.sl len2) (by omega)).mono ?_
    rintro e w13 ⟨vH, rfl, oH_13, b13⟩
    rw [← HR.out] at oH_13
    obtain ⟨AH, cH, rfl, _, _⟩ := oH_13.reads len2
    have HH := hid oH_13
    have D13 := D12.trans (b13.mono D12.size)
    have s13 := b13.size
    have oW_13 := oW_12.below b13 (Nat.le_refl _)
    have oG_13 := oG_12.below b13 (Nat.le_refl _)
    have oz0_13 := oz0_12.below b13 (Nat.le_refl _)
    clear D12 b13 oW_12 oG_12 oz0_12
    clear oz0_13
    go_wp2_with fail
    refine (eqCoinS_same RL AH AW cH cW _ (oH_13.sl len2) (oW_13.sl len2) hRn).mono ?_
    rintro e w14 ⟨rfl, b14⟩
    have D14 := D13.trans (b14.mono D13.size)
    have s14 := b14.size
    have oW_14 := oW_13.below b14 (Nat.le_refl _)
    have oG_14 := oG_13.below b14 (Nat.le_refl _)
    have oH_14 := oH_13.below b14 (Nat.le_refl _)
    clear D13 b14 oW_13 oG_13 oH_13
    clear oH_14
    clear oW_14
    go_wp2_with fail
    refine (heldCoinS_any RL.length AG cG _ 1 (oG_14.sl len2) hRn (by omega) (by omega)).mono ?_
    rintro e w15 ⟨rfl, b15⟩
    have D15 := D14.trans (b15.mono D14.size)
    have s15 := b15.size
    have oG_15 := oG_14.below b15 (Nat.le_refl _)
    clear D14 b15 oG_14
    have DD := hid D15
    clear D15 oG_15
    go_wp2
    go_ret
    exact ⟨rfl, DD.out⟩

end Go.Proofs.Ytcjcolkhhmpmjaa
