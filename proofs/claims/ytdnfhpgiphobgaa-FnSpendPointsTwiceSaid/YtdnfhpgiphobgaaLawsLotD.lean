/- The walks of the laws on points that are spent. -/
import Derived.Test.YtdnfhpgiphobgaaDrawLotB
import Derived.Test.YtdnfhpgiphobgaaSpendS
import Derived.Test.YtdnfhpgiphobgaaEqualLot
namespace Go.Proofs.Ytdnfhpgiphobgaa
open Go.RowKit

theorem spendL_le {p d : Int} {l : List (Int × Int)} (h : l.length ≤ 9) : (spendL p d l).length ≤ 9 := by
  unfold spendL
  split
  · have := spend_length (d := d) p l; omega
  · simp

set_option maxHeartbeats 3200000 in
set_option maxRecDepth 100000 in
theorem fnSpendPoints_walk (w : World) (A : Option Addr) (len cap : Nat) (h : Bytes w w.heap.size A len cap) :
    Calls Try.prog 4 #[.slice A len cap] w fun e w' => e = .returned (.bool true) ∧ Below w.heap.size w w' := by
  by_cases hl : 1048576 < len
  · clear h
    go_enter Try.func4, Try.ntmps4
    go_wp2
    go_ret
    exact ⟨rfl, Below.refl _ _⟩
  · go_enter Try.func4, Try.ntmps4
    go_wp2_with fail
    refine (drawSpendPoints_any _ _ _ _ h).mono ?_
    rintro e w1 ⟨l, v, p, d, rfl, hll, o1, D1⟩
    clear h
    obtain ⟨A1, c1, rfl, _, r1⟩ := o1.reads len2
    clear o1
    obtain ⟨RL, hRL⟩ : ∃ x, x = spendL p d l := ⟨_, rfl⟩
    have hRn : RL.length ≤ 9 := by rw [hRL]; exact spendL_le hll
    have HR := hid hRL
    clear hRL
    go_wp2_with fail
    refine (spendPoints_any l A1 c1 p d _ r1 (by omega)).mono ?_
    rintro e w2 ⟨v2, rfl, o2, b2⟩
    rw [← HR.out] at o2
    obtain ⟨A2, c2, rfl, _, r2⟩ := o2.reads len2
    have D2 := D1.trans (b2.mono D1.size)
    have q2 := (r1.below b2 (Nat.le_refl _)).more b2.size
    clear b2 o2 r1 D1
    go_wp2_with fail
    refine (specSpendPoints_any l A1 c1 p d _ q2 (by omega)).mono ?_
    rintro e w3 ⟨v3, rfl, o3, b3⟩
    rw [← HR.out] at o3
    obtain ⟨A3, c3, rfl, _, r3⟩ := o3.reads len2
    have D3 := D2.trans (b3.mono D2.size)
    have q3 := (q2.below b3 (Nat.le_refl _)).more b3.size
    have s3 := (r2.below b3 (Nat.le_refl _)).more b3.size
    clear b3 o3 q2 r2 D2
    go_wp2_with fail
    refine (equalLots_same RL A2 A3 c2 c3 _ s3 r3 (by omega)).mono ?_
    rintro e w4 ⟨rfl, b4⟩
    have D4 := D3.trans (b4.mono D3.size)
    have q4 := (q3.below b4 (Nat.le_refl _)).more b4.size
    have s4 := (s3.below b4 (Nat.le_refl _)).more b4.size
    have r4 := (r3.below b4 (Nat.le_refl _)).more b4.size
    clear b4 q3 s3 r3 D3
    by_cases hok : okSpend l p d = true
    · obtain ⟨hv, hd, p1, p2⟩ := okSpend_true.1 hok
      have HV := hid (vLots_iff.1 hv)
      have hRe : RL = spend d p l := by rw [HR.out]; simp [spendL, hok]
      have hSR := SL_spend (d := d) (p := p) HV.out (by omega)
      rw [← hRe] at hSR
      have hvR := vLots_iff.2 hSR
      have hb := ptsOn_of (day := d) HV.out
      have hs := ptsOn_spend (d := d) l p (fun x hx => (HV.out.bd x hx).1) (by omega) p2
      rw [← hRe] at hs
      obtain ⟨P, hP⟩ : ∃ x, ptsOn d l = x := ⟨_, rfl⟩
      rw [hP] at hb hs p2
      obtain ⟨hb1, hb2⟩ := hb
      have HP := hid (show pOnI l d = P by rw [pOnI_ok hv (withinB_true.2 hd), hP])
      have HQ := hid (show pOnI RL d = P - p by rw [pOnI_ok hvR (withinB_true.2 hd), hs])
      have HVR := hid hvR
      have hlen : RL.length ≤ l.length := by rw [hRe]; exact spend_length p l
      have HL := hid (show decide ((RL.length : Int) ≤ (l.length : Int)) = true by simp; omega)
      clear hv hP hs hvR hSR hRe r4 hlen
      go_wp2_with fail
      refine (validLots_any RL A2 c2 _ s4 (by omega)).mono ?_
      rintro e w5 ⟨rfl, b5⟩
      rw [HVR.out]
      have D5 := D4.trans (b5.mono D4.size)
      have q5 := (q4.below b5 (Nat.le_refl _)).more b5.size
      have s5 := (s4.below b5 (Nat.le_refl _)).more b5.size
      clear b5 D4 q4 s4
      go_wp2_with fail
      refine (pointsOn_any RL A2 c2 d _ s5 (by omega)).mono ?_
      rintro e w6 ⟨rfl, b6⟩
      rw [HQ.out]
      have D6 := D5.trans (b6.mono D5.size)
      have q6 := (q5.below b6 (Nat.le_refl _)).more b6.size
      clear s5 b6 D5 q5
      go_wp2_with fail
      refine (pointsOn_any l A1 c1 d _ q6 (by omega)).mono ?_
      rintro e w7 ⟨rfl, b7⟩
      rw [HP.out]
      have D7 := D6.trans (b7.mono D6.size)
      clear q6 b7 D6 
      have DD := hid D7
      clear D7
      go_wp2
      go_ret
      exact ⟨ret_bool (by first | exact HL.out | (have := HL.out; simpa using this)), DD.out⟩
    · have hok' : okSpend l p d = false := by simpa using hok
      clear hok
      go_wp2_with fail
      refine (equalLots_same RL A2 A3 c2 c3 _ s4 r4 (by omega)).mono ?_
      rintro e w5 ⟨rfl, b5⟩
      have D5 := hid (D4.trans (b5.mono D4.size))
      clear D4 b5 q4 s4 r4
      go_wp2
      go_ret
      exact ⟨rfl, D5.out⟩

set_option maxHeartbeats 3200000 in
set_option maxRecDepth 100000 in
theorem fnSpendPointsAll_walk (w : World) (A : Option Addr) (len cap : Nat) (h : Bytes w w.heap.size A len cap) :
    Calls Try.prog 5 #[.slice A len cap] w fun e w' => e = .returned (.bool true) ∧ Below w.heap.size w w' := by
  by_cases hl : 1048576 < len
  · clear h
    go_enter Try.func5, Try.ntmps5
    go_wp2
    go_ret
    exact ⟨rfl, Below.refl _ _⟩
  · go_enter Try.func5, Try.ntmps5
    go_wp2_with fail
    refine (drawSpendPoints_any _ _ _ _ h).mono ?_
    rintro e w1 ⟨l, v, p, d, rfl, hll, o1, D1⟩
    clear h
    obtain ⟨A1, c1, rfl, _, r1⟩ := o1.reads len2
    clear o1
    obtain ⟨RL, hRL⟩ : ∃ x, x = spendL p d l := ⟨_, rfl⟩
    have hRn : RL.length ≤ 9 := by rw [hRL]; exact spendL_le hll
    have HR := hid hRL
    clear hRL
    go_wp2_with fail
    refine (spendPoints_any l A1 c1 p d _ r1 (by omega)).mono ?_
    rintro e w2 ⟨v2, rfl, o2, b2⟩
    rw [← HR.out] at o2
    obtain ⟨A2, c2, rfl, _, r2⟩ := o2.reads len2
    have D2 := D1.trans (b2.mono D1.size)
    have q2 := (r1.below b2 (Nat.le_refl _)).more b2.size
    clear b2 o2 r1 D1
    go_wp2_with fail
    refine (specSpendPoints_any l A1 c1 p d _ q2 (by omega)).mono ?_
    rintro e w3 ⟨v3, rfl, o3, b3⟩
    rw [← HR.out] at o3
    obtain ⟨A3, c3, rfl, _, r3⟩ := o3.reads len2
    have D3 := D2.trans (b3.mono D2.size)
    have q3 := (q2.below b3 (Nat.le_refl _)).more b3.size
    have s3 := (r2.below b3 (Nat.le_refl _)).more b3.size
    clear b3 o3 q2 r2 D2
    go_wp2_with fail
    refine (equalLots_same RL A2 A3 c2 c3 _ s3 r3 (by omega)).mono ?_
    rintro e w4 ⟨rfl, b4⟩
    have D4 := D3.trans (b4.mono D3.size)
    have q4 := (q3.below b4 (Nat.le_refl _)).more b4.size
    have s4 := (s3.below b4 (Nat.le_refl _)).more b4.size
    have r4 := (r3.below b4 (Nat.le_refl _)).more b4.size
    clear b4 q3 s3 r3 D3
    by_cases hok : okSpend l p d = true
    · obtain ⟨hv, hd, p1, p2⟩ := okSpend_true.1 hok
      have HV := hid (vLots_iff.1 hv)
      have hb := ptsOn_of (day := d) HV.out
      obtain ⟨P, hP⟩ : ∃ x, ptsOn d l = x := ⟨_, rfl⟩
      have hall := spend_all (d := d) HV.out
      rw [hP] at hall
      have HP := hid (show pOnI l d = P by rw [pOnI_ok hv (withinB_true.2 hd), hP])
      have HK1 := hid (show okSpend l P d = true from okSpend_true.2 ⟨hv, hd, by omega, by omega⟩)
      have HK2 := hid (show okSpend l (P + 1) d = false by
        cases hk : okSpend l (P + 1) d
        · rfl
        · have := (okSpend_true.1 hk).2.2.2; omega)
      have HN := hid (show spendL P d l = [] by simp [spendL, HK1.out, hall])
      rw [hP] at hb p2
      obtain ⟨hb1, hb2⟩ := hb
      clear hv hP hall s4 r4
      go_wp2_with fail
      refine (pointsOn_any l A1 c1 d _ q4 (by omega)).mono ?_
      rintro e w5 ⟨rfl, b5⟩
      rw [HP.out]
      have D5 := D4.trans (b5.mono D4.size)
      have q5 := (q4.below b5 (Nat.le_refl _)).more b5.size
      clear b5 D4 q4
      go_wp2_with fail
      refine (spendPoints_any l A1 c1 P d _ q5 (by omega)).mono ?_
      rintro e w6 ⟨v6, rfl, o6, b6⟩
      rw [HK1.out]
      rw [HN.out] at o6
      obtain ⟨A6, c6, rfl, _, _⟩ := o6.reads len2
      clear o6
      have D6 := D5.trans (b6.mono D5.size)
      have q6 := (q5.below b6 (Nat.le_refl _)).more b6.size
      clear b6 D5 q5
      go_wp2_with fail
      refine (spendPoints_any l A1 c1 (P + 1) d _ q6 (by omega)).mono ?_
      rintro e w7 ⟨v7, rfl, o7, b7⟩
      rw [HK2.out]
      clear o7
      have D7 := D6.trans (b7.mono D6.size)
      clear q6 b7 D6 
      have DD := hid D7
      clear D7
      go_wp2
      go_ret
      exact ⟨rfl, DD.out⟩
    · have hok' : okSpend l p d = false := by simpa using hok
      clear hok
      go_wp2_with fail
      refine (equalLots_same RL A2 A3 c2 c3 _ s4 r4 (by omega)).mono ?_
      rintro e w5 ⟨rfl, b5⟩
      have D5 := hid (D4.trans (b5.mono D4.size))
      clear D4 b5 q4 s4 r4
      go_wp2
      go_ret
      exact ⟨rfl, D5.out⟩

set_option maxHeartbeats 3200000 in
set_option maxRecDepth 100000 in
theorem fnSpendPointsTwice_walk (w : World) (A : Option Addr) (len cap : Nat) (h : Bytes w w.heap.size A len cap) :
    Calls Try.prog 7 #[.slice A len cap] w fun e w' => e = .returned (.bool true) ∧ Below w.heap.size w w' := by
  by_cases hl : 1048576 < len
  · clear h
    go_enter Try.func7, Try.ntmps7
    go_wp2
    go_ret
    exact ⟨rfl, Below.refl _ _⟩
  · go_enter Try.func7, Try.ntmps7
    go_wp2_with fail
    refine (drawSpendPoints_any _ _ _ _ h).mono ?_
    rintro e w1 ⟨l, v, p, d, rfl, hll, o1, D1⟩
    clear h
    obtain ⟨A1, c1, rfl, _, r1⟩ := o1.reads len2
    clear o1
    obtain ⟨RL, hRL⟩ : ∃ x, x = spendL p d l := ⟨_, rfl⟩
    have hRn : RL.length ≤ 9 := by rw [hRL]; exact spendL_le hll
    have HR := hid hRL
    clear hRL
    go_wp2_with fail
    refine (spendPoints_any l A1 c1 p d _ r1 (by omega)).mono ?_
    rintro e w2 ⟨v2, rfl, o2, b2⟩
    rw [← HR.out] at o2
    obtain ⟨A2, c2, rfl, _, r2⟩ := o2.reads len2
    have D2 := D1.trans (b2.mono D1.size)
    have q2 := (r1.below b2 (Nat.le_refl _)).more b2.size
    clear b2 o2 r1 D1
    go_wp2_with fail
    refine (specSpendPoints_any l A1 c1 p d _ q2 (by omega)).mono ?_
    rintro e w3 ⟨v3, rfl, o3, b3⟩
    rw [← HR.out] at o3
    obtain ⟨A3, c3, rfl, _, r3⟩ := o3.reads len2
    have D3 := D2.trans (b3.mono D2.size)
    have q3 := (q2.below b3 (Nat.le_refl _)).more b3.size
    have s3 := (r2.below b3 (Nat.le_refl _)).more b3.size
    clear b3 o3 q2 r2 D2
    go_wp2_with fail
    refine (equalLots_same RL A2 A3 c2 c3 _ s3 r3 (by omega)).mono ?_
    rintro e w4 ⟨rfl, b4⟩
    have D4 := D3.trans (b4.mono D3.size)
    have q4 := (q3.below b4 (Nat.le_refl _)).more b4.size
    have s4 := (s3.below b4 (Nat.le_refl _)).more b4.size
    have r4 := (r3.below b4 (Nat.le_refl _)).more b4.size
    clear b4 q3 s3 r3 D3
    by_cases hok : okSpend l p d = true
    · obtain ⟨hv, hd, p1, p2⟩ := okSpend_true.1 hok
      have HV := hid (vLots_iff.1 hv)
      have hRe : RL = spend d p l := by rw [HR.out]; simp [spendL, hok]
      by_cases hp2 : p < 2
      · clear hv hRe
        go_wp2_with fail
        refine (equalLots_same RL A2 A3 c2 c3 _ s4 r4 (by omega)).mono ?_
        rintro e w5 ⟨rfl, b5⟩
        have D5 := hid (D4.trans (b5.mono D4.size))
        clear D4 b5 q4 s4 r4
        go_wp2
        go_ret
        exact ⟨rfl, D5.out⟩
      · have hm1 : 1 ≤ p / 2 := by omega
        have hm2 : p / 2 ≤ p := by omega
        have h1 : ∀ x ∈ l, 1 ≤ x.2 := fun x hx => (HV.out.bd x hx).1
        have hb := ptsOn_of (day := d) HV.out
        have hK1 := okSpend_true.2 ⟨hv, hd, hm1, Int.le_trans hm2 p2⟩
        obtain ⟨M, hM⟩ : ∃ x, x = spendL (p / 2) d l := ⟨_, rfl⟩
        have hMe : M = spend d (p / 2) l := by rw [hM]; simp [spendL, hK1]
        have hMn : M.length ≤ 9 := by rw [hM]; exact spendL_le hll
        have hs := ptsOn_spend (d := d) l (p / 2) h1 (by omega) (by omega)
        have hK2 : okSpend M (p - p / 2) d = true := by
          rw [hMe]
          exact okSpend_true.2 ⟨vLots_iff.2 (SL_spend HV.out (by omega)), hd, by omega, by omega⟩
        have hE : spendL (p - p / 2) d M = RL := by
          rw [show spendL (p - p / 2) d M = spend d (p - p / 2) M by simp [spendL, hK2], hMe, hRe]
          exact spend_twice l p (p / 2) h1 (by omega) hm2
        have HM := hid hM
        have HK1 := hid hK1
        have HK2 := hid hK2
        have HE := hid hE
        clear hv hRe h1 hs hK1 hK2 hM hMe hE r4
        go_wp2_with fail
        refine (spendPoints_any l A1 c1 (p / 2) d _ q4 (by omega)).mono ?_
        rintro e w5 ⟨v5, rfl, o5, b5⟩
        rw [← HM.out] at o5
        rw [HK1.out]
        obtain ⟨A5, c5, rfl, _, t5⟩ := o5.reads len2
        clear o5
        have D5 := D4.trans (b5.mono D4.size)
        have s5 := (s4.below b5 (Nat.le_refl _)).more b5.size
        clear q4 b5 D4 s4
        go_wp2_with fail
        refine (spendPoints_any M A5 c5 (p - p / 2) d _ t5 (by omega)).mono ?_
        rintro e w6 ⟨v6, rfl, o6, b6⟩
        rw [HE.out] at o6
        rw [HK2.out]
        obtain ⟨A6, c6, rfl, _, t6⟩ := o6.reads len2
        clear o6
        have D6 := D5.trans (b6.mono D5.size)
        have s6 := (s5.below b6 (Nat.le_refl _)).more b6.size
        clear t5 b6 D5 s5
        go_wp2_with fail
        refine (equalLots_same RL A6 A2 c6 c2 _ t6 s6 (by omega)).mono ?_
        rintro e w7 ⟨rfl, b7⟩
        have D7 := D6.trans (b7.mono D6.size)
        clear t6 s6 b7 D6 
        have DD := hid D7
        clear D7
        go_wp2
        go_ret
        exact ⟨rfl, DD.out⟩
    · have hok' : okSpend l p d = false := by simpa using hok
      clear hok
      go_wp2_with fail
      refine (equalLots_same RL A2 A3 c2 c3 _ s4 r4 (by omega)).mono ?_
      rintro e w5 ⟨rfl, b5⟩
      have D5 := hid (D4.trans (b5.mono D4.size))
      clear D4 b5 q4 s4 r4
      go_wp2
      go_ret
      exact ⟨rfl, D5.out⟩

end Go.Proofs.Ytdnfhpgiphobgaa
