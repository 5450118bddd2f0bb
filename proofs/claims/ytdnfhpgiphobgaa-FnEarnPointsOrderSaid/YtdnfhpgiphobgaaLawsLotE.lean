/- The walks of the laws on points that are earned. -/
import Derived.Test.YtdnfhpgiphobgaaDrawLotB
import Derived.Test.YtdnfhpgiphobgaaSpendS
import Derived.Test.YtdnfhpgiphobgaaEarnS
import Derived.Test.YtdnfhpgiphobgaaEqualLot
namespace Go.Proofs.Ytdnfhpgiphobgaa
open Go.RowKit

theorem earnL_le {p d : Int} {l : List (Int × Int)} : (earnL p d l).length ≤ 9 := by
  unfold earnL
  split
  · rename_i h
    have := (vLots_iff.1 (okEarn_true h).2.2.2).2.2
    omega
  · simp

set_option maxHeartbeats 3200000 in
set_option maxRecDepth 100000 in
theorem fnEarnPoints_walk (w : World) (A : Option Addr) (len cap : Nat) (h : Bytes w w.heap.size A len cap) :
    Calls Try.prog 9 #[.slice A len cap] w fun e w' => e = .returned (.bool true) ∧ Below w.heap.size w w' := by
  by_cases hl : 1048576 < len
  · clear h
    go_enter Try.func9, Try.ntmps9
    go_wp2
    go_ret
    exact ⟨rfl, Below.refl _ _⟩
  · go_enter Try.func9, Try.ntmps9
    go_wp2_with fail
    refine (drawEarnPoints_any _ _ _ _ h).mono ?_
    rintro e w1 ⟨l, v, p, d, rfl, hll, o1, D1⟩
    clear h
    obtain ⟨A1, c1, rfl, _, r1⟩ := o1.reads len2
    clear o1
    obtain ⟨RL, hRL⟩ : ∃ x, x = earnL p d l := ⟨_, rfl⟩
    have hRn : RL.length ≤ 9 := by rw [hRL]; exact earnL_le
    have HR := hid hRL
    clear hRL
    go_wp2_with fail
    refine (earnPoints_any l A1 c1 p d _ r1 (by omega)).mono ?_
    rintro e w2 ⟨v2, rfl, o2, b2⟩
    rw [← HR.out] at o2
    obtain ⟨A2, c2, rfl, _, r2⟩ := o2.reads len2
    have D2 := D1.trans (b2.mono D1.size)
    have q2 := (r1.below b2 (Nat.le_refl _)).more b2.size
    clear b2 o2 r1 D1
    go_wp2_with fail
    refine (specEarnPoints_any l A1 c1 p d _ q2 (by omega)).mono ?_
    rintro e w3 ⟨v3, rfl, o3, b3⟩
    rw [← HR.out] at o3
    obtain ⟨A3, c3, rfl, _, r3⟩ := o3.reads len2
    have D3 := D2.trans (b3.mono D2.size)
    have q3 := (q2.below b3 (Nat.le_refl _)).more b3.size
    have s3 := (r2.below b3 (Nat.le_refl _)).more b3.size
    clear b3 o3 q2 r2 D2
    go_wp2_with fail
    refine (equalLots_same RL A2 A3 c2 c3 _ s3 r3 (by omega)).mono ?_
    rintro e w4 ⟨rfl, b4⟩
    have D4 := D3.trans (b4.mono D3.size)
    have q4 := (q3.below b4 (Nat.le_refl _)).more b4.size
    have s4 := (s3.below b4 (Nat.le_refl _)).more b4.size
    have r4 := (r3.below b4 (Nat.le_refl _)).more b4.size
    clear b4 q3 s3 r3 D3
    by_cases hok : okEarn l p d = true
    · obtain ⟨hv, hp, hd, hvE⟩ := okEarn_true hok
      have hRe : RL = earn p d l := by rw [HR.out]; simp [earnL, hok]
      rw [← hRe] at hvE
      have hb := ptsOn_of (day := d) (vLots_iff.1 hv)
      have hs := ptsOn_earn d p d l
      have hs1 := ptsOn_earn (d + 1) p d l
      rw [← hRe, if_pos (Int.le_refl _)] at hs
      rw [← hRe, if_neg (by omega)] at hs1
      obtain ⟨P, hP⟩ : ∃ x, ptsOn d l = x := ⟨_, rfl⟩
      rw [hP] at hb hs
      obtain ⟨hb1, hb2⟩ := hb
      obtain ⟨hp1, hp2⟩ := hp
      obtain ⟨hd1, hd2⟩ := hd
      have HP := hid (show pOnI l d = P by rw [pOnI_ok hv (withinB_true.2 (by omega)), hP])
      have HQ := hid (show pOnI RL d = P + p by rw [pOnI_ok hvE (withinB_true.2 (by omega)), hs])
      have HVR := hid hvE
      by_cases h9 : d = 999
      · subst h9
        clear hv hP hs hs1 hvE hRe r4
        go_wp2_with fail
        refine (validLots_any RL A2 c2 _ s4 (by omega)).mono ?_
        rintro e w5 ⟨rfl, b5⟩
        rw [HVR.out]
        have D5 := D4.trans (b5.mono D4.size)
        have q5 := (q4.below b5 (Nat.le_refl _)).more b5.size
        have s5 := (s4.below b5 (Nat.le_refl _)).more b5.size
        clear b5 D4 q4 s4
        go_wp2_with fail
        refine (pointsOn_any RL A2 c2 _ _ s5 (by omega)).mono ?_
        rintro e w6 ⟨rfl, b6⟩
        rw [HQ.out]
        have D6 := D5.trans (b6.mono D5.size)
        have q6 := (q5.below b6 (Nat.le_refl _)).more b6.size
        clear s5 b6 D5 q5
        go_wp2_with fail
        refine (pointsOn_any l A1 c1 _ _ q6 (by omega)).mono ?_
        rintro e w7 ⟨rfl, b7⟩
        rw [HP.out]
        have D7 := D6.trans (b7.mono D6.size)
        clear q6 b7 D6 
        have DD := hid D7
        clear D7
        go_wp2
        go_ret
        exact ⟨rfl, DD.out⟩
      · have e3 : (d == 999) = false := by simpa using h9
        obtain ⟨T, hT⟩ : ∃ x, ptsOn (d + 1) l = x := ⟨_, rfl⟩
        have HT := hid (show pOnI l (d + 1) = T by rw [pOnI_ok hv (withinB_true.2 (by omega)), hT])
        have HU := hid (show pOnI RL (d + 1) = T by rw [pOnI_ok hvE (withinB_true.2 (by omega)), hs1, hT]; omega)
        clear hv hP hs hs1 hvE hRe r4 hT h9
        go_wp2_with fail
        refine (pointsOn_any RL A2 c2 (d + 1) _ s4 (by omega)).mono ?_
        rintro e w5 ⟨rfl, b5⟩
        rw [HU.out]
        have D5 := D4.trans (b5.mono D4.size)
        have q5 := (q4.below b5 (Nat.le_refl _)).more b5.size
        have s5 := (s4.below b5 (Nat.le_refl _)).more b5.size
        clear b5 D4 q4 s4
        go_wp2_with fail
        refine (pointsOn_any l A1 c1 (d + 1) _ q5 (by omega)).mono ?_
        rintro e w6 ⟨rfl, b6⟩
        rw [HT.out]
        have D6 := D5.trans (b6.mono D5.size)
        have q6 := (q5.below b6 (Nat.le_refl _)).more b6.size
        have s6 := (s5.below b6 (Nat.le_refl _)).more b6.size
        clear b6 D5 q5 s5
        go_wp2_with fail
        refine (validLots_any RL A2 c2 _ s6 (by omega)).mono ?_
        rintro e w7 ⟨rfl, b7⟩
        rw [HVR.out]
        have D7 := D6.trans (b7.mono D6.size)
        have q7 := (q6.below b7 (Nat.le_refl _)).more b7.size
        have s7 := (s6.below b7 (Nat.le_refl _)).more b7.size
        clear b7 D6 q6 s6
        go_wp2_with fail
        refine (pointsOn_any RL A2 c2 _ _ s7 (by omega)).mono ?_
        rintro e w8 ⟨rfl, b8⟩
        rw [HQ.out]
        have D8 := D7.trans (b8.mono D7.size)
        have q8 := (q7.below b8 (Nat.le_refl _)).more b8.size
        clear s7 b8 D7 q7
        go_wp2_with fail
        refine (pointsOn_any l A1 c1 _ _ q8 (by omega)).mono ?_
        rintro e w9 ⟨rfl, b9⟩
        rw [HP.out]
        have D9 := D8.trans (b9.mono D8.size)
        clear q8 b9 D8 
        have DD := hid D9
        clear D9
        go_wp2
        go_ret
        exact ⟨rfl, DD.out⟩
    · have hok' : okEarn l p d = false := by simpa using hok
      clear hok
      go_wp2_with fail
      refine (equalLots_same RL A2 A3 c2 c3 _ s4 r4 (by omega)).mono ?_
      rintro e w5 ⟨rfl, b5⟩
      have D5 := hid (D4.trans (b5.mono D4.size))
      clear D4 b5 q4 s4 r4
      go_wp2
      go_ret
      exact ⟨rfl, D5.out⟩

set_option maxHeartbeats 3200000 in
set_option maxRecDepth 100000 in
theorem fnEarnPointsSpend_walk (w : World) (A : Option Addr) (len cap : Nat) (h : Bytes w w.heap.size A len cap) :
    Calls Try.prog 10 #[.slice A len cap] w fun e w' => e = .returned (.bool true) ∧ Below w.heap.size w w' := by
  by_cases hl : 1048576 < len
  · clear h
    go_enter Try.func10, Try.ntmps10
    go_wp2
    go_ret
    exact ⟨rfl, Below.refl _ _⟩
  · go_enter Try.func10, Try.ntmps10
    go_wp2_with fail
    refine (drawEarnPoints_any _ _ _ _ h).mono ?_
    rintro e w1 ⟨l, v, p, d, rfl, hll, o1, D1⟩
    clear h
    obtain ⟨A1, c1, rfl, _, r1⟩ := o1.reads len2
    clear o1
    obtain ⟨RL, hRL⟩ : ∃ x, x = earnL p d l := ⟨_, rfl⟩
    have hRn : RL.length ≤ 9 := by rw [hRL]; exact earnL_le
    have HR := hid hRL
    clear hRL
    go_wp2_with fail
    refine (earnPoints_any l A1 c1 p d _ r1 (by omega)).mono ?_
    rintro e w2 ⟨v2, rfl, o2, b2⟩
    rw [← HR.out] at o2
    obtain ⟨A2, c2, rfl, _, r2⟩ := o2.reads len2
    have D2 := D1.trans (b2.mono D1.size)
    have q2 := (r1.below b2 (Nat.le_refl _)).more b2.size
    clear b2 o2 r1 D1
    go_wp2_with fail
    refine (specEarnPoints_any l A1 c1 p d _ q2 (by omega)).mono ?_
    rintro e w3 ⟨v3, rfl, o3, b3⟩
    rw [← HR.out] at o3
    obtain ⟨A3, c3, rfl, _, r3⟩ := o3.reads len2
    have D3 := D2.trans (b3.mono D2.size)
    have q3 := (q2.below b3 (Nat.le_refl _)).more b3.size
    have s3 := (r2.below b3 (Nat.le_refl _)).more b3.size
    clear b3 o3 q2 r2 D2
    go_wp2_with fail
    refine (equalLots_same RL A2 A3 c2 c3 _ s3 r3 (by omega)).mono ?_
    rintro e w4 ⟨rfl, b4⟩
    have D4 := D3.trans (b4.mono D3.size)
    have q4 := (q3.below b4 (Nat.le_refl _)).more b4.size
    have s4 := (s3.below b4 (Nat.le_refl _)).more b4.size
    have r4 := (r3.below b4 (Nat.le_refl _)).more b4.size
    clear b4 q3 s3 r3 D3
    by_cases hok : okEarn l p d = true
    · obtain ⟨hv, hp, hd, hvE⟩ := okEarn_true hok
      have hK := okEarn_nil hp hd
      have hE : earnL p d [] = [(d, p)] := by simp [earnL, hK, earn, lower, upper, eqSum]
      have hO : okSpend [(d, p)] p d = true := okSpend_true.2 ⟨vLots_one hp hd, hd, hp.1, by simp [ptsOn]⟩
      have hN : spendL p d [(d, p)] = [] := by
        rw [show spendL p d [(d, p)] = spend d p [(d, p)] by simp [spendL, hO]]
        rw [spend_more (by simp) (by simp)]; rfl
      have HK := hid hK
      have HE := hid hE
      have HO := hid hO
      have HN := hid hN
      clear hv hp hd hvE hK hE hO hN q4 s4 r4
      go_wp2_with fail
      refine (earnPoints_any [] none 0 p d _ (.inl rfl) (by simp)).mono ?_
      rintro e w5 ⟨v5, rfl, o5, b5⟩
      rw [HE.out] at o5
      rw [HK.out]
      obtain ⟨A5, c5, rfl, _, t5⟩ := o5.reads len2
      clear o5
      have D5 := D4.trans (b5.mono D4.size)
      clear b5 D4 
      go_wp2_with fail
      refine (spendPoints_any [(d, p)] A5 c5 p d _ t5 (by simp)).mono ?_
      rintro e w6 ⟨v6, rfl, o6, b6⟩
      rw [HN.out] at o6
      rw [HO.out]
      obtain ⟨A6, c6, rfl, _, t6⟩ := o6.reads len2
      clear o6
      have D6 := D5.trans (b6.mono D5.size)
      clear t5 t6 b6 D5 
      have DD := hid D6
      clear D6
      go_wp2
      go_ret
      exact ⟨rfl, DD.out⟩
    · have hok' : okEarn l p d = false := by simpa using hok
      clear hok
      go_wp2_with fail
      refine (equalLots_same RL A2 A3 c2 c3 _ s4 r4 (by omega)).mono ?_
      rintro e w5 ⟨rfl, b5⟩
      have D5 := hid (D4.trans (b5.mono D4.size))
      clear D4 b5 q4 s4 r4
      go_wp2
      go_ret
      exact ⟨rfl, D5.out⟩

set_option maxHeartbeats 3200000 in
set_option maxRecDepth 100000 in
theorem fnEarnPointsOrder_walk (w : World) (A : Option Addr) (len cap : Nat) (h : Bytes w w.heap.size A len cap) :
    Calls Try.prog 3 #[.slice A len cap] w fun e w' => e = .returned (.bool true) ∧ Below w.heap.size w w' := by
  by_cases hl : 1048576 < len
  · clear h
    go_enter Try.func3, Try.ntmps3
    go_wp2
    go_ret
    exact ⟨rfl, Below.refl _ _⟩
  · go_enter Try.func3, Try.ntmps3
    go_wp2_with fail
    refine (drawEarnPoints_any _ _ _ _ h).mono ?_
    rintro e w1 ⟨l, v, p, d, rfl, hll, o1, D1⟩
    clear h
    obtain ⟨A1, c1, rfl, _, r1⟩ := o1.reads len2
    clear o1
    obtain ⟨RL, hRL⟩ : ∃ x, x = earnL p d l := ⟨_, rfl⟩
    have hRn : RL.length ≤ 9 := by rw [hRL]; exact earnL_le
    have HR := hid hRL
    clear hRL
    go_wp2_with fail
    refine (earnPoints_any l A1 c1 p d _ r1 (by omega)).mono ?_
    rintro e w2 ⟨v2, rfl, o2, b2⟩
    rw [← HR.out] at o2
    obtain ⟨A2, c2, rfl, _, r2⟩ := o2.reads len2
    have D2 := D1.trans (b2.mono D1.size)
    have q2 := (r1.below b2 (Nat.le_refl _)).more b2.size
    clear b2 o2 r1 D1
    go_wp2_with fail
    refine (specEarnPoints_any l A1 c1 p d _ q2 (by omega)).mono ?_
    rintro e w3 ⟨v3, rfl, o3, b3⟩
    rw [← HR.out] at o3
    obtain ⟨A3, c3, rfl, _, r3⟩ := o3.reads len2
    have D3 := D2.trans (b3.mono D2.size)
    have q3 := (q2.below b3 (Nat.le_refl _)).more b3.size
    have s3 := (r2.below b3 (Nat.le_refl _)).more b3.size
    clear b3 o3 q2 r2 D2
    go_wp2_with fail
    refine (equalLots_same RL A2 A3 c2 c3 _ s3 r3 (by omega)).mono ?_
    rintro e w4 ⟨rfl, b4⟩
    have D4 := D3.trans (b4.mono D3.size)
    have q4 := (q3.below b4 (Nat.le_refl _)).more b4.size
    have s4 := (s3.below b4 (Nat.le_refl _)).more b4.size
    have r4 := (r3.below b4 (Nat.le_refl _)).more b4.size
    clear b4 q3 s3 r3 D3
    by_cases hok : okEarn l p d = true
    · obtain ⟨hv, hp, hd, hvE⟩ := okEarn_true hok
      have hRe : RL = earn p d l := by rw [HR.out]; simp [earnL, hok]
      rw [← hRe] at hvE
      obtain ⟨X, hX⟩ : ∃ x, x = earnL 3 77 RL := ⟨_, rfl⟩
      obtain ⟨Y, hY⟩ : ∃ x, x = earnL 3 77 l := ⟨_, rfl⟩
      obtain ⟨Z, hZ⟩ : ∃ x, x = earnL p d Y := ⟨_, rfl⟩
      have hXn : X.length ≤ 9 := by rw [hX]; exact earnL_le
      have hYn : Y.length ≤ 9 := by rw [hY]; exact earnL_le
      have hZn : Z.length ≤ 9 := by rw [hZ]; exact earnL_le
      have hEq : okEarn RL 3 77 = true → okEarn l 3 77 = true → okEarn Y p d = true ∧ Z = X := by
        intro k1 k2
        have y1 : Y = earn 3 77 l := by rw [hY]; simp [earnL, k2]
        have x1 : X = earn 3 77 RL := by rw [hX]; simp [earnL, k1]
        have k3 := (okEarn_true k1).2.2.2
        have k4 := (okEarn_true k2).2.2.2
        have hc : earn p d Y = earn 3 77 RL := by rw [y1, hRe, earn_comm]
        have k5 : okEarn Y p d = true := by
          simp only [okEarn, Bool.and_eq_true]
          exact ⟨by rw [y1]; exact k4, withinB_true.2 hp, withinB_true.2 hd, by rw [hc]; exact k3⟩
        exact ⟨k5, by rw [hZ, x1, ← hc]; simp [earnL, k5]⟩
      have HX := hid hX
      have HY := hid hY
      have HZ := hid hZ
      have HEq := hid hEq
      clear hv hp hd hvE hRe hX hY hZ hEq r4
      go_wp2_with fail
      refine (earnPoints_any RL A2 c2 3 77 _ s4 (by omega)).mono ?_
      rintro e w5 ⟨v5, rfl, o5, b5⟩
      rw [← HX.out] at o5
      obtain ⟨A5, c5, rfl, _, x5⟩ := o5.reads len2
      clear o5
      have D5 := D4.trans (b5.mono D4.size)
      have q5 := (q4.below b5 (Nat.le_refl _)).more b5.size
      clear s4 b5 D4 q4
      go_wp2_with fail
      refine (earnPoints_any l A1 c1 3 77 _ q5 (by omega)).mono ?_
      rintro e w6 ⟨v6, rfl, o6, b6⟩
      rw [← HY.out] at o6
      obtain ⟨A6, c6, rfl, _, y6⟩ := o6.reads len2
      clear o6
      have D6 := D5.trans (b6.mono D5.size)
      have x6 := (x5.below b6 (Nat.le_refl _)).more b6.size
      clear q5 b6 D5 x5
      go_wp2_with fail
      refine (earnPoints_any Y A6 c6 p d _ y6 (by omega)).mono ?_
      rintro e w7 ⟨v7, rfl, o7, b7⟩
      rw [← HZ.out] at o7
      obtain ⟨A7, c7, rfl, _, z7⟩ := o7.reads len2
      clear o7
      have D7 := D6.trans (b7.mono D6.size)
      have x7 := (x6.below b7 (Nat.le_refl _)).more b7.size
      clear y6 b7 D6 x6
      by_cases k1 : okEarn RL 3 77 = true
      · by_cases k2 : okEarn l 3 77 = true
        · obtain ⟨k3, hzx⟩ := HEq.out k1 k2
          subst hzx
          clear HX HZ
          go_wp2_with fail
          refine (equalLots_same Z A5 A7 c5 c7 _ x7 z7 (by omega)).mono ?_
          rintro e w8 ⟨rfl, b8⟩
          have D8 := D7.trans (b8.mono D7.size)
          clear x7 z7 b8 D7 
          have DD := hid D8
          clear D8
          go_wp2
          go_ret
          exact ⟨rfl, DD.out⟩
        · have k2' : okEarn l 3 77 = false := by simpa using k2
          clear k2 x7 z7
          have DD := hid D7
          clear D7
          go_wp2
          go_ret
          exact ⟨rfl, DD.out⟩
      · have k1' : okEarn RL 3 77 = false := by simpa using k1
        clear k1 x7 z7
        have DD := hid D7
        clear D7
        go_wp2
        go_ret
        exact ⟨rfl, DD.out⟩
    · have hok' : okEarn l p d = false := by simpa using hok
      clear hok
      go_wp2_with fail
      refine (equalLots_same RL A2 A3 c2 c3 _ s4 r4 (by omega)).mono ?_
      rintro e w5 ⟨rfl, b5⟩
      have D5 := hid (D4.trans (b5.mono D4.size))
      clear D4 b5 q4 s4 r4
      go_wp2
      go_ret
      exact ⟨rfl, D5.out⟩

end Go.Proofs.Ytdnfhpgiphobgaa
