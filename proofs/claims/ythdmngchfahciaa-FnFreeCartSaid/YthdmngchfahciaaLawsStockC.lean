/- The walk of the law on carts that are freed. -/
import Derived.Test.YthdmngchfahciaaDrawStock
import Derived.Test.YthdmngchfahciaaHoldCart
import Derived.Test.YthdmngchfahciaaFreeCart
import Derived.Test.YthdmngchfahciaaMissI
import Derived.Test.YthdmngchfahciaaEqualStock
namespace Go.Proofs.Ythdmngchfahciaa
open Go.RowKit

theorem mvL_le {f h : Int} {l c : List (Int × Int)} (hl : l.length ≤ 10) : (mvL f h l c).length ≤ 10 := by
  unfold mvL
  split
  · rw [mvTo_len]; exact hl
  · simp

set_option maxHeartbeats 3200000 in
set_option maxRecDepth 100000 in
theorem fnFreeCart_walk (w : World) (A : Option Addr) (len cap : Nat) (h : Bytes w w.heap.size A len cap) :
    Calls Try.prog 12 #[.slice A len cap] w fun e w' => e = .returned (.bool true) ∧ Below w.heap.size w w' := by
  by_cases hl : 1048576 < len
  · clear h
    go_enter Try.func12, Try.ntmps12
    go_wp2
    go_ret
    exact ⟨rfl, Below.refl _ _⟩
  · go_enter Try.func12, Try.ntmps12
    go_wp2_with fail
    refine (drawFreeCart_any _ _ _ _ h).mono ?_
    rintro e w1 ⟨l, v, c, u, rfl, hl1, hl10, hc9, o1, p1, D1⟩
    clear h
    obtain ⟨A1, c1, rfl, _, q1⟩ := o1.reads len2
    obtain ⟨C1, k1, rfl, _, t1⟩ := p1.reads len2
    clear o1 p1
    obtain ⟨RL, hRL⟩ : ∃ x, x = mvL 1 (-1) l c := ⟨_, rfl⟩
    have hRn : RL.length ≤ 10 := by rw [hRL]; exact mvL_le hl10
    have HR := hid hRL
    clear hRL
    go_wp2_with fail
    refine (freeCart_any l c A1 C1 c1 k1 _ q1 t1 (by omega) (by omega)).mono ?_
    rintro e w2 ⟨v2, rfl, o2, b2⟩
    rw [← HR.out] at o2
    obtain ⟨A2, c2, rfl, _, s2⟩ := o2.reads len2
    have D2 := D1.trans (b2.mono D1.size)
    have q2 := (q1.below b2 (Nat.le_refl _)).more b2.size
    have t2 := (t1.below b2 (Nat.le_refl _)).more b2.size
    clear o2 b2 D1 q1 t1
    go_wp2_with fail
    refine (sFreeCart_any l c A1 C1 c1 k1 _ q2 t2 (by omega) (by omega)).mono ?_
    rintro e w3 ⟨v3, rfl, o3, b3⟩
    rw [← HR.out] at o3
    obtain ⟨A3, c3, rfl, _, r3⟩ := o3.reads len2
    have D3 := D2.trans (b3.mono D2.size)
    have q3 := (q2.below b3 (Nat.le_refl _)).more b3.size
    have t3 := (t2.below b3 (Nat.le_refl _)).more b3.size
    have s3 := (s2.below b3 (Nat.le_refl _)).more b3.size
    clear o3 b3 D2 q2 t2 s2
    go_wp2_with fail
    refine (equalStocks_same RL A2 A3 c2 c3 _ s3 r3 (by omega)).mono ?_
    rintro e w4 ⟨rfl, b4⟩
    have D4 := D3.trans (b4.mono D3.size)
    have q4 := (q3.below b4 (Nat.le_refl _)).more b4.size
    have t4 := (t3.below b4 (Nat.le_refl _)).more b4.size
    have s4 := (s3.below b4 (Nat.le_refl _)).more b4.size
    have r4 := (r3.below b4 (Nat.le_refl _)).more b4.size
    clear b4 D3 q3 t3 s3 r3
    by_cases hok : okMv 1 (-1) l c = true
    · obtain ⟨hSl, hSc, hSR⟩ := okMv_true.1 hok
      have hRe : RL = mvTo 1 (-1) l c := by rw [HR.out]; simp [mvL, hok]
      have hRl : RL.length = l.length := by rw [hRe, mvTo_len]
      have hvR : vStock RL = true := by rw [hRe]; exact vStock_iff.2 hSR
      have hat : ∀ i, i < l.length → g1 RL i = g1 l i + 1 * cnt i c ∧ g2 RL i = g2 l i + (-1) * cnt i c := fun i hi => by
        rw [hRe]; exact mvTo_at hSc.in_ hi
      have HSL := hid hSl
      have HSC := hid hSc
      have HVR := hid hvR
      have HAT := hid hat
      have HRL := hid hRl
      have HRE := hid hRe
      have hKB : okMv (-1) 1 RL c = true := by
        have h0 := okMv_back (f := 1) (h := -1) hok
        rw [show (- -1 : Int) = 1 from rfl] at h0
        rw [hRe]; exact h0
      have hB : mvL (-1) 1 RL c = l := by
        have h0 := mv_back 1 (-1) hSc
        rw [show (- -1 : Int) = 1 from rfl] at h0
        rw [mvL, hKB, if_pos rfl, hRe]; exact h0
      have hM : missL RL c = [] := by
        have h0 := miss_free hok
        rw [← hRe] at h0
        simp only [missL, h0, ite_self]
      have HKB := hid hKB
      have HB0 := hid hB
      have HM := hid hM
      clear hKB hB hM
      clear hSl hSc hSR hRe hRl hvR hat r4
      go_wp2_with fail
      refine (holdCart_any RL c A2 C1 c2 k1 _ s4 t4 (by omega) (by omega)).mono ?_
      rintro e w5 ⟨v5, rfl, o5, b5⟩
      rw [HB0.out] at o5
      rw [HKB.out]
      obtain ⟨A5, c5, rfl, _, x5⟩ := o5.reads len2
      clear o5
      have D5 := D4.trans (b5.mono D4.size)
      have q5 := (q4.below b5 (Nat.le_refl _)).more b5.size
      have s5 := (s4.below b5 (Nat.le_refl _)).more b5.size
      have t5 := (t4.below b5 (Nat.le_refl _)).more b5.size
      clear b5 D4 q4 s4 t4
      go_wp2_with fail
      refine (equalStocks_same l A5 A1 c5 c1 _ x5 q5 (by omega)).mono ?_
      rintro e w6 ⟨rfl, b6⟩
      have D6 := D5.trans (b6.mono D5.size)
      have s6 := (s5.below b6 (Nat.le_refl _)).more b6.size
      have t6 := (t5.below b6 (Nat.le_refl _)).more b6.size
      clear x5 q5 b6 D5 s5 t5
      go_wp2_with fail
      refine (missing_any RL c A2 C1 c2 k1 _ s6 t6 (by omega) (by omega)).mono ?_
      rintro e w7 ⟨v7, rfl, o7, b7⟩
      rw [HM.out] at o7
      obtain ⟨A7, c7, rfl, _, _⟩ := o7.reads len2
      clear o7
      have D7 := D6.trans (b7.mono D6.size)
      clear s6 t6 b7 D6 
      have DD := hid D7
      clear D7
      go_wp2
      go_ret
      exact ⟨rfl, DD.out⟩
    · have hok' : okMv 1 (-1) l c = false := by simpa using hok
      clear hok
      go_wp2_with fail
      refine (equalStocks_same RL A2 A3 c2 c3 _ s4 r4 (by omega)).mono ?_
      rintro e w5 ⟨rfl, b5⟩
      have D5 := D4.trans (b5.mono D4.size)
      clear q4 t4 s4 r4 b5 D4 
      have DD := hid D5
      clear D5
      go_wp2
      go_ret
      exact ⟨rfl, DD.out⟩

end Go.Proofs.Ythdmngchfahciaa
