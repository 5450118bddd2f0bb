/- The walks of the laws on carts that are held: nothing missing, nothing held. -/
import Derived.Test.YthdmngchfahciaaDrawStock
import Derived.Test.YthdmngchfahciaaHoldCart
import Derived.Test.YthdmngchfahciaaFreeCart
import Derived.Test.YthdmngchfahciaaSellCart
import Derived.Test.YthdmngchfahciaaMissI
import Derived.Test.YthdmngchfahciaaEqualStock
namespace Go.Proofs.Ythdmngchfahciaa
open Go.RowKit

theorem mvL_le {f h : Int} {l c : List (Int × Int)} (hl : l.length ≤ 10) : (mvL f h l c).length ≤ 10 := by
  unfold mvL
  split
  · rw [mvTo_len]; exact hl
  · simp

set_option maxHeartbeats 3200000 in
set_option maxRecDepth 100000 in
theorem fnHoldCartMissing_walk (w : World) (A : Option Addr) (len cap : Nat) (h : Bytes w w.heap.size A len cap) :
    Calls Try.prog 11 #[.slice A len cap] w fun e w' => e = .returned (.bool true) ∧ Below w.heap.size w w' := by
  by_cases hl : 1048576 < len
  · clear h
    go_enter Try.func11, Try.ntmps11
    go_wp2
    go_ret
    exact ⟨rfl, Below.refl _ _⟩
  · go_enter Try.func11, Try.ntmps11
    go_wp2_with fail
    refine (drawHoldCart_any _ _ _ _ h).mono ?_
    rintro e w1 ⟨l, v, c, u, rfl, hl1, hl10, hc9, o1, p1, D1⟩
    clear h
    obtain ⟨A1, c1, rfl, _, q1⟩ := o1.reads len2
    obtain ⟨C1, k1, rfl, _, t1⟩ := p1.reads len2
    clear o1 p1
    obtain ⟨RL, hRL⟩ : ∃ x, x = mvL (-1) 1 l c := ⟨_, rfl⟩
    have hRn : RL.length ≤ 10 := by rw [hRL]; exact mvL_le hl10
    have HR := hid hRL
    clear hRL
    go_wp2_with fail
    refine (holdCart_any l c A1 C1 c1 k1 _ q1 t1 (by omega) (by omega)).mono ?_
    rintro e w2 ⟨v2, rfl, o2, b2⟩
    rw [← HR.out] at o2
    obtain ⟨A2, c2, rfl, _, s2⟩ := o2.reads len2
    have D2 := D1.trans (b2.mono D1.size)
    have q2 := (q1.below b2 (Nat.le_refl _)).more b2.size
    have t2 := (t1.below b2 (Nat.le_refl _)).more b2.size
    clear o2 b2 D1 q1 t1
    go_wp2_with fail
    refine (sHoldCart_any l c A1 C1 c1 k1 _ q2 t2 (by omega) (by omega)).mono ?_
    rintro e w3 ⟨v3, rfl, o3, b3⟩
    rw [← HR.out] at o3
    obtain ⟨A3, c3, rfl, _, r3⟩ := o3.reads len2
    have D3 := D2.trans (b3.mono D2.size)
    have q3 := (q2.below b3 (Nat.le_refl _)).more b3.size
    have t3 := (t2.below b3 (Nat.le_refl _)).more b3.size
    have s3 := (s2.below b3 (Nat.le_refl _)).more b3.size
    clear o3 b3 D2 q2 t2 s2
    go_wp2_with fail
    refine (equalStocks_same RL A2 A3 c2 c3 _ s3 r3 (by omega)).mono ?_
    rintro e w4 ⟨rfl, b4⟩
    have D4 := D3.trans (b4.mono D3.size)
    have q4 := (q3.below b4 (Nat.le_refl _)).more b4.size
    have t4 := (t3.below b4 (Nat.le_refl _)).more b4.size
    have s4 := (s3.below b4 (Nat.le_refl _)).more b4.size
    have r4 := (r3.below b4 (Nat.le_refl _)).more b4.size
    clear b4 D3 q3 t3 s3 r3
    by_cases hok : okMv (-1) 1 l c = true
    · have hM : missL l c = [] := by simp only [missL, miss_hold hok, ite_self]
      have HM := hid hM
      clear hM r4 s4
      go_wp2_with fail
      refine (missing_any l c A1 C1 c1 k1 _ q4 t4 (by omega) (by omega)).mono ?_
      rintro e w5 ⟨v5, rfl, o5, b5⟩
      rw [HM.out] at o5
      obtain ⟨A5, c5, rfl, _, _⟩ := o5.reads len2
      clear o5
      have D5 := D4.trans (b5.mono D4.size)
      clear q4 t4 b5 D4 
      have DD := hid D5
      clear D5
      go_wp2
      go_ret
      exact ⟨rfl, DD.out⟩
    · have hok' : okMv (-1) 1 l c = false := by simpa using hok
      clear hok q4 t4 s4 r4
      have DD := hid D4
      clear D4
      go_wp2
      go_ret
      exact ⟨rfl, DD.out⟩

set_option maxHeartbeats 3200000 in
set_option maxRecDepth 100000 in
theorem fnHoldCartNone_walk (w : World) (A : Option Addr) (len cap : Nat) (h : Bytes w w.heap.size A len cap) :
    Calls Try.prog 9 #[.slice A len cap] w fun e w' => e = .returned (.bool true) ∧ Below w.heap.size w w' := by
  by_cases hl : 1048576 < len
  · clear h
    go_enter Try.func9, Try.ntmps9
    go_wp2
    go_ret
    exact ⟨rfl, Below.refl _ _⟩
  · go_enter Try.func9, Try.ntmps9
    go_wp2_with fail
    refine (drawHoldCart_any _ _ _ _ h).mono ?_
    rintro e w1 ⟨l, v, c, u, rfl, hl1, hl10, hc9, o1, p1, D1⟩
    clear h
    obtain ⟨A1, c1, rfl, _, q1⟩ := o1.reads len2
    obtain ⟨C1, k1, rfl, _, t1⟩ := p1.reads len2
    clear o1 p1
    obtain ⟨RL, hRL⟩ : ∃ x, x = mvL (-1) 1 l c := ⟨_, rfl⟩
    have hRn : RL.length ≤ 10 := by rw [hRL]; exact mvL_le hl10
    have HR := hid hRL
    clear hRL
    go_wp2_with fail
    refine (holdCart_any l c A1 C1 c1 k1 _ q1 t1 (by omega) (by omega)).mono ?_
    rintro e w2 ⟨v2, rfl, o2, b2⟩
    rw [← HR.out] at o2
    obtain ⟨A2, c2, rfl, _, s2⟩ := o2.reads len2
    have D2 := D1.trans (b2.mono D1.size)
    have q2 := (q1.below b2 (Nat.le_refl _)).more b2.size
    have t2 := (t1.below b2 (Nat.le_refl _)).more b2.size
    clear o2 b2 D1 q1 t1
    go_wp2_with fail
    refine (sHoldCart_any l c A1 C1 c1 k1 _ q2 t2 (by omega) (by omega)).mono ?_
    rintro e w3 ⟨v3, rfl, o3, b3⟩
    rw [← HR.out] at o3
    obtain ⟨A3, c3, rfl, _, r3⟩ := o3.reads len2
    have D3 := D2.trans (b3.mono D2.size)
    have q3 := (q2.below b3 (Nat.le_refl _)).more b3.size
    have t3 := (t2.below b3 (Nat.le_refl _)).more b3.size
    have s3 := (s2.below b3 (Nat.le_refl _)).more b3.size
    clear o3 b3 D2 q2 t2 s2
    go_wp2_with fail
    refine (equalStocks_same RL A2 A3 c2 c3 _ s3 r3 (by omega)).mono ?_
    rintro e w4 ⟨rfl, b4⟩
    have D4 := D3.trans (b4.mono D3.size)
    have q4 := (q3.below b4 (Nat.le_refl _)).more b4.size
    have t4 := (t3.below b4 (Nat.le_refl _)).more b4.size
    have s4 := (s3.below b4 (Nat.le_refl _)).more b4.size
    have r4 := (r3.below b4 (Nat.le_refl _)).more b4.size
    clear b4 D3 q3 t3 s3 r3
    by_cases hv : vStock l = true
    · have HV := hid hv
      have HK1 := hid (okMv_nil (-1) 1 hv)
      have HK2 := hid (okMv_nil 1 (-1) hv)
      have HK3 := hid (okMv_nil 0 (-1) hv)
      have HM1 := hid (show mvL (-1) 1 l [] = l by rw [mvL, HK1.out, if_pos rfl]; rfl)
      have HM2 := hid (show mvL 1 (-1) l [] = l by rw [mvL, HK2.out, if_pos rfl]; rfl)
      have HM3 := hid (show mvL 0 (-1) l [] = l by rw [mvL, HK3.out, if_pos rfl]; rfl)
      clear hv s4 r4 t4
      go_wp2_with fail
      refine (validStock_any l A1 c1 _ q4 (by omega)).mono ?_
      rintro e w5 ⟨rfl, b5⟩
      rw [HV.out]
      have D5 := D4.trans (b5.mono D4.size)
      have q5 := (q4.below b5 (Nat.le_refl _)).more b5.size
      clear b5 D4 q4
      go_wp2_with fail
      refine (holdCart_any l [] A1 none c1 0 _ q5 (.inl rfl) (by omega) (by simp)).mono ?_
      rintro e w6 ⟨v6, rfl, o6, b6⟩
      rw [HM1.out] at o6
      rw [HK1.out]
      obtain ⟨A6, c6, rfl, _, x6⟩ := o6.reads len2
      clear o6
      have D6 := D5.trans (b6.mono D5.size)
      have q6 := (q5.below b6 (Nat.le_refl _)).more b6.size
      clear b6 D5 q5
      go_wp2_with fail
      refine (freeCart_any l [] A1 none c1 0 _ q6 (.inl rfl) (by omega) (by simp)).mono ?_
      rintro e w7 ⟨v7, rfl, o7, b7⟩
      rw [HM2.out] at o7
      rw [HK2.out]
      obtain ⟨A7, c7, rfl, _, y7⟩ := o7.reads len2
      clear o7
      have D7 := D6.trans (b7.mono D6.size)
      have q7 := (q6.below b7 (Nat.le_refl _)).more b7.size
      have x7 := (x6.below b7 (Nat.le_refl _)).more b7.size
      clear b7 D6 q6 x6
      go_wp2_with fail
      refine (sellCart_any l [] A1 none c1 0 _ q7 (.inl rfl) (by omega) (by simp)).mono ?_
      rintro e w8 ⟨v8, rfl, o8, b8⟩
      rw [HM3.out] at o8
      rw [HK3.out]
      obtain ⟨A8, c8, rfl, _, z8⟩ := o8.reads len2
      clear o8
      have D8 := D7.trans (b8.mono D7.size)
      have q8 := (q7.below b8 (Nat.le_refl _)).more b8.size
      have x8 := (x7.below b8 (Nat.le_refl _)).more b8.size
      have y8 := (y7.below b8 (Nat.le_refl _)).more b8.size
      clear b8 D7 q7 x7 y7
      go_wp2_with fail
      refine (equalStocks_same l A6 A1 c6 c1 _ x8 q8 (by omega)).mono ?_
      rintro e w9 ⟨rfl, b9⟩
      have D9 := D8.trans (b9.mono D8.size)
      have q9 := (q8.below b9 (Nat.le_refl _)).more b9.size
      have y9 := (y8.below b9 (Nat.le_refl _)).more b9.size
      have z9 := (z8.below b9 (Nat.le_refl _)).more b9.size
      clear x8 b9 D8 q8 y8 z8
      go_wp2_with fail
      refine (equalStocks_same l A7 A1 c7 c1 _ y9 q9 (by omega)).mono ?_
      rintro e w10 ⟨rfl, b10⟩
      have D10 := D9.trans (b10.mono D9.size)
      have q10 := (q9.below b10 (Nat.le_refl _)).more b10.size
      have z10 := (z9.below b10 (Nat.le_refl _)).more b10.size
      clear y9 b10 D9 q9 z9
      go_wp2_with fail
      refine (equalStocks_same l A8 A1 c8 c1 _ z10 q10 (by omega)).mono ?_
      rintro e w11 ⟨rfl, b11⟩
      have D11 := D10.trans (b11.mono D10.size)
      clear z10 q10 b11 D10 
      have DD := hid D11
      clear D11
      go_wp2
      go_ret
      exact ⟨rfl, DD.out⟩
    · have hv' : vStock l = false := by simpa using hv
      have HV := hid hv'
      clear hv hv'
      go_wp2_with fail
      refine (validStock_any l A1 c1 _ q4 (by omega)).mono ?_
      rintro e w5 ⟨rfl, b5⟩
      rw [HV.out]
      have D5 := D4.trans (b5.mono D4.size)
      have s5 := (s4.below b5 (Nat.le_refl _)).more b5.size
      have r5 := (r4.below b5 (Nat.le_refl _)).more b5.size
      clear q4 t4 b5 D4 s4 r4
      go_wp2_with fail
      refine (equalStocks_same RL A2 A3 c2 c3 _ s5 r5 (by omega)).mono ?_
      rintro e w6 ⟨rfl, b6⟩
      have D6 := D5.trans (b6.mono D5.size)
      clear s5 r5 b6 D5 
      have DD := hid D6
      clear D6
      go_wp2
      go_ret
      exact ⟨rfl, DD.out⟩

end Go.Proofs.Ythdmngchfahciaa
