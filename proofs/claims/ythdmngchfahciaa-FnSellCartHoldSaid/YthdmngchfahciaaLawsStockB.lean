/- The walks of the laws on carts that are held. -/
import Derived.Test.YthdmngchfahciaaDrawStock
import Derived.Test.YthdmngchfahciaaHoldCart
import Derived.Test.YthdmngchfahciaaFreeCart
import Derived.Test.YthdmngchfahciaaSellCart
import Derived.Test.YthdmngchfahciaaEqualStock
namespace Go.Proofs.Ythdmngchfahciaa
open Go.RowKit

theorem mvL_le {f h : Int} {l c : List (Int × Int)} (hl : l.length ≤ 10) : (mvL f h l c).length ≤ 10 := by
  unfold mvL
  split
  · rw [mvTo_len]; exact hl
  · simp

set_option maxHeartbeats 3200000 in
set_option maxRecDepth 100000 in
theorem fnHoldCart_walk (w : World) (A : Option Addr) (len cap : Nat) (h : Bytes w w.heap.size A len cap) :
    Calls Try.prog 7 #[.slice A len cap] w fun e w' => e = .returned (.bool true) ∧ Below w.heap.size w w' := by
  by_cases hl : 1048576 < len
  · clear h
    go_enter Try.func7, Try.ntmps7
    go_wp2
    go_ret
    exact ⟨rfl, Below.refl _ _⟩
  · go_enter Try.func7, Try.ntmps7
    go_wp2_with fail
    refine (drawHoldCart_any _ _ _ _ h).mono ?_
    rintro e w1 ⟨l, v, c, u, rfl, hl1, hl10, hc9, o1, p1, D1⟩
    clear h
    obtain ⟨A1, c1, rfl, _, q1⟩ := o1.reads len2
    obtain ⟨C1, k1, rfl, _, t1⟩ := p1.reads len2
    clear o1 p1
    obtain ⟨RL, hRL⟩ : ∃ x, x = mvL (-1) 1 l c := ⟨_, rfl⟩
    have hRn : RL.length ≤ 10 := by rw [hRL]; exact mvL_le hl10
    have HR := hid hRL
    clear hRL
    go_wp2_with fail
    refine (holdCart_any l c A1 C1 c1 k1 _ q1 t1 (by omega) (by omega)).mono ?_
    rintro e w2 ⟨v2, rfl, o2, b2⟩
    rw [← HR.out] at o2
    obtain ⟨A2, c2, rfl, _, s2⟩ := o2.reads len2
    have D2 := D1.trans (b2.mono D1.size)
    have q2 := (q1.below b2 (Nat.le_refl _)).more b2.size
    have t2 := (t1.below b2 (Nat.le_refl _)).more b2.size
    clear o2 b2 D1 q1 t1
    go_wp2_with fail
    refine (sHoldCart_any l c A1 C1 c1 k1 _ q2 t2 (by omega) (by omega)).mono ?_
    rintro e w3 ⟨v3, rfl, o3, b3⟩
    rw [← HR.out] at o3
    obtain ⟨A3, c3, rfl, _, r3⟩ := o3.reads len2
    have D3 := D2.trans (b3.mono D2.size)
    have q3 := (q2.below b3 (Nat.le_refl _)).more b3.size
    have t3 := (t2.below b3 (Nat.le_refl _)).more b3.size
    have s3 := (s2.below b3 (Nat.le_refl _)).more b3.size
    clear o3 b3 D2 q2 t2 s2
    go_wp2_with fail
    refine (equalStocks_same RL A2 A3 c2 c3 _ s3 r3 (by omega)).mono ?_
    rintro e w4 ⟨rfl, b4⟩
    have D4 := D3.trans (b4.mono D3.size)
    have q4 := (q3.below b4 (Nat.le_refl _)).more b4.size
    have t4 := (t3.below b4 (Nat.le_refl _)).more b4.size
    have s4 := (s3.below b4 (Nat.le_refl _)).more b4.size
    have r4 := (r3.below b4 (Nat.le_refl _)).more b4.size
    clear b4 D3 q3 t3 s3 r3
    by_cases hok : okMv (-1) 1 l c = true
    · obtain ⟨hSl, hSc, hSR⟩ := okMv_true.1 hok
      have hRe : RL = mvTo (-1) 1 l c := by rw [HR.out]; simp [mvL, hok]
      have hRl : RL.length = l.length := by rw [hRe, mvTo_len]
      have hvR : vStock RL = true := by rw [hRe]; exact vStock_iff.2 hSR
      have hat : ∀ i, i < l.length → g1 RL i = g1 l i + (-1) * cnt i c ∧ g2 RL i = g2 l i + 1 * cnt i c := fun i hi => by
        rw [hRe]; exact mvTo_at hSc.in_ hi
      have HSL := hid hSl
      have HSC := hid hSc
      have HVR := hid hvR
      have HAT := hid hat
      have HRL := hid hRl
      have HRE := hid hRe
      have hKB : okMv 1 (-1) RL c = true := by
        have h0 := okMv_back (f := -1) (h := 1) hok
        rw [show (- -1 : Int) = 1 from rfl] at h0
        rw [hRe]; exact h0
      have hB : mvL 1 (-1) RL c = l := by
        have h0 := mv_back (-1) 1 hSc
        rw [show (- -1 : Int) = 1 from rfl] at h0
        rw [mvL, hKB, if_pos rfl, hRe]; exact h0
      have HKB := hid hKB
      have HB0 := hid hB
      clear hKB hB
      clear hSl hSc hSR hRe hRl hvR hat r4
      go_wp2_with fail
      go_loopw [9] (fun i wr => ∃ k : Nat, k ≤ l.length ∧ i = .int .i64 k ∧ Below w4.heap.size w4 wr) (fun i _ => l.length - (intOf i).toNat)
      case atStart => exact ⟨0, Nat.zero_le _, rfl, Below.refl _ _⟩
      case round =>
        obtain ⟨k, hk, rfl, hb⟩ := hrel
        have hsz := hb.size
        by_cases hlt : k < l.length
        · skip
          obtain ⟨b, off, rfl, hbb, x1, x2⟩ := q4.get2 hlt
          obtain ⟨b', off', rfl, hbb', y1, y2⟩ := s4.get2 (k := k) (by have := HRL.out; omega)
          have ha := HAT.out k hlt
          have hL := HSL.out.1 k hlt
          have hcb := HSC.out.cnt_bd k
          obtain ⟨X, hX⟩ : ∃ x, g1 l k = x := ⟨_, rfl⟩
          obtain ⟨Y, hY⟩ : ∃ x, g2 l k = x := ⟨_, rfl⟩
          obtain ⟨X', hX'⟩ : ∃ x, g1 RL k = x := ⟨_, rfl⟩
          obtain ⟨Y', hY'⟩ : ∃ x, g2 RL k = x := ⟨_, rfl⟩
          obtain ⟨q, hq⟩ : ∃ x, cnt k c = x := ⟨_, rfl⟩
          rw [hX] at x1
          rw [hY] at x2
          rw [hX'] at y1
          rw [hY'] at y2
          rw [hX, hY, hX', hY', hq] at ha
          rw [hX, hY] at hL
          rw [hq] at hcb
          obtain ⟨ha1, ha2⟩ := ha
          obtain ⟨⟨hL1, hL2⟩, hL3, hL4⟩ := hL
          obtain ⟨hc1, hc2⟩ := hcb
          have d1 : wr.cell? ⟨b, off + k * 2, none⟩ = some (.int .i64 X) := (hb.cell hbb).trans x1
          have d2 : wr.cell? ⟨b, off + k * 2 + 1, none⟩ = some (.int .i64 Y) := (hb.cell hbb).trans x2
          have d3 : wr.cell? ⟨b', off' + k * 2, none⟩ = some (.int .i64 X') := (hb.cell hbb').trans y1
          have d4 : wr.cell? ⟨b', off' + k * 2 + 1, none⟩ = some (.int .i64 Y') := (hb.cell hbb').trans y2
          have hkl : (k : Int) < (l.length : Int) := by omega
          have hkr : (k : Int) < (RL.length : Int) := by have := HRL.out; omega
          have hge : decide (RL.length ≤ k) = false := decide_eq_false (by have := HRL.out; omega)
          clear x1 x2 y1 y2
          have w1 : IntKind.i64.wrap (X' + Y') = X' + Y' := IntWalk.i64_in _ (by omega)
          have w2 : IntKind.i64.wrap (X + Y) = X + Y := IntWalk.i64_in _ (by omega)
          have e1 : (X' + Y' != X + Y) = false := by rw [bne_eq_false_iff_eq]; omega
          have e2 : decide (X < X') = false := decide_eq_false (by omega)
          clear hX hY hX' hY' hq ha1 ha2
          go_wp2_with fail
          go_quiet (fail)
          go_wp2
          go_roundw
          case rel =>
            refine ⟨k + 1, by omega, by go_num, ?_⟩
            repeat (first | exact Below.refl _ _ | (refine Below.alloc ?_ (by (try simp) <;> omega) _) | (refine Below.setCell ?_ (by (try simp) <;> omega) _) | (refine Below.drew ?_) | (refine below_drewN ?_ _) | (refine Below.trans ?_ (Below.mono (by assumption) (by (try simp) <;> omega))))
          case measure => simp [intOf]; omega
        · have hkl : k = l.length := by omega
          subst hkl
          have q5 := (q4.below hb (Nat.le_refl _)).more hb.size
          have t5 := (t4.below hb (Nat.le_refl _)).more hb.size
          have s5 := (s4.below hb (Nat.le_refl _)).more hb.size
          have D5 := D4.trans (hb.mono D4.size)
          clear q4 t4 s4 D4 hb
          go_wp2_with fail
          refine (freeCart_any RL c A2 C1 c2 k1 _ s5 t5 (by omega) (by omega)).mono ?_
          rintro e w6 ⟨v6, rfl, o6, b6⟩
          rw [HB0.out] at o6
          rw [HKB.out]
          obtain ⟨A6, c6, rfl, _, x6⟩ := o6.reads len2
          clear o6
          have D6 := D5.trans (b6.mono D5.size)
          have q6 := (q5.below b6 (Nat.le_refl _)).more b6.size
          have s6 := (s5.below b6 (Nat.le_refl _)).more b6.size
          clear t5 b6 D5 q5 s5
          go_wp2_with fail
          refine (equalStocks_same l A6 A1 c6 c1 _ x6 q6 (by omega)).mono ?_
          rintro e w7 ⟨rfl, b7⟩
          have D7 := D6.trans (b7.mono D6.size)
          have s7 := (s6.below b7 (Nat.le_refl _)).more b7.size
          clear x6 q6 b7 D6 s6
          go_wp2_with fail
          refine (validStock_any RL A2 c2 _ s7 (by omega)).mono ?_
          rintro e w8 ⟨rfl, b8⟩
          rw [HVR.out]
          have D8 := D7.trans (b8.mono D7.size)
          clear s7 b8 D7 
          have DD := hid D8
          clear D8
          go_wp2
          go_ret
          exact ⟨rfl, DD.out⟩
    · have hok' : okMv (-1) 1 l c = false := by simpa using hok
      clear hok
      go_wp2_with fail
      refine (equalStocks_same RL A2 A3 c2 c3 _ s4 r4 (by omega)).mono ?_
      rintro e w5 ⟨rfl, b5⟩
      have D5 := D4.trans (b5.mono D4.size)
      clear q4 t4 s4 r4 b5 D4 
      have DD := hid D5
      clear D5
      go_wp2
      go_ret
      exact ⟨rfl, DD.out⟩

set_option maxHeartbeats 3200000 in
set_option maxRecDepth 100000 in
theorem fnSellCartHold_walk (w : World) (A : Option Addr) (len cap : Nat) (h : Bytes w w.heap.size A len cap) :
    Calls Try.prog 8 #[.slice A len cap] w fun e w' => e = .returned (.bool true) ∧ Below w.heap.size w w' := by
  by_cases hl : 1048576 < len
  · clear h
    go_enter Try.func8, Try.ntmps8
    go_wp2
    go_ret
    exact ⟨rfl, Below.refl _ _⟩
  · go_enter Try.func8, Try.ntmps8
    go_wp2_with fail
    refine (drawHoldCart_any _ _ _ _ h).mono ?_
    rintro e w1 ⟨l, v, c, u, rfl, hl1, hl10, hc9, o1, p1, D1⟩
    clear h
    obtain ⟨A1, c1, rfl, _, q1⟩ := o1.reads len2
    obtain ⟨C1, k1, rfl, _, t1⟩ := p1.reads len2
    clear o1 p1
    obtain ⟨RL, hRL⟩ : ∃ x, x = mvL (-1) 1 l c := ⟨_, rfl⟩
    have hRn : RL.length ≤ 10 := by rw [hRL]; exact mvL_le hl10
    have HR := hid hRL
    clear hRL
    go_wp2_with fail
    refine (holdCart_any l c A1 C1 c1 k1 _ q1 t1 (by omega) (by omega)).mono ?_
    rintro e w2 ⟨v2, rfl, o2, b2⟩
    rw [← HR.out] at o2
    obtain ⟨A2, c2, rfl, _, s2⟩ := o2.reads len2
    have D2 := D1.trans (b2.mono D1.size)
    have q2 := (q1.below b2 (Nat.le_refl _)).more b2.size
    have t2 := (t1.below b2 (Nat.le_refl _)).more b2.size
    clear o2 b2 D1 q1 t1
    go_wp2_with fail
    refine (sHoldCart_any l c A1 C1 c1 k1 _ q2 t2 (by omega) (by omega)).mono ?_
    rintro e w3 ⟨v3, rfl, o3, b3⟩
    rw [← HR.out] at o3
    obtain ⟨A3, c3, rfl, _, r3⟩ := o3.reads len2
    have D3 := D2.trans (b3.mono D2.size)
    have q3 := (q2.below b3 (Nat.le_refl _)).more b3.size
    have t3 := (t2.below b3 (Nat.le_refl _)).more b3.size
    have s3 := (s2.below b3 (Nat.le_refl _)).more b3.size
    clear o3 b3 D2 q2 t2 s2
    go_wp2_with fail
    refine (equalStocks_same RL A2 A3 c2 c3 _ s3 r3 (by omega)).mono ?_
    rintro e w4 ⟨rfl, b4⟩
    have D4 := D3.trans (b4.mono D3.size)
    have q4 := (q3.below b4 (Nat.le_refl _)).more b4.size
    have t4 := (t3.below b4 (Nat.le_refl _)).more b4.size
    have s4 := (s3.below b4 (Nat.le_refl _)).more b4.size
    have r4 := (r3.below b4 (Nat.le_refl _)).more b4.size
    clear b4 D3 q3 t3 s3 r3
    by_cases hok : okMv (-1) 1 l c = true
    · obtain ⟨hSl, hSc, hSR⟩ := okMv_true.1 hok
      have hRe : RL = mvTo (-1) 1 l c := by rw [HR.out]; simp [mvL, hok]
      have hRl : RL.length = l.length := by rw [hRe, mvTo_len]
      have hvR : vStock RL = true := by rw [hRe]; exact vStock_iff.2 hSR
      have hat : ∀ i, i < l.length → g1 RL i = g1 l i + (-1) * cnt i c ∧ g2 RL i = g2 l i + 1 * cnt i c := fun i hi => by
        rw [hRe]; exact mvTo_at hSc.in_ hi
      have HSL := hid hSl
      have HSC := hid hSc
      have HVR := hid hvR
      have HAT := hid hat
      have HRL := hid hRl
      have HRE := hid hRe
      have hKS := okMv_sell hok
      rw [← hRe] at hKS
      obtain ⟨hK1, hK2⟩ := hKS
      obtain ⟨S, hS⟩ : ∃ x, x = mvL 0 (-1) RL c := ⟨_, rfl⟩
      have hSe : S = mvTo 0 (-1) RL c := by rw [hS, mvL, hK1, if_pos rfl]
      have hSl2 : S.length = l.length := by rw [hSe, mvTo_len, hRl]
      rw [← hSe] at hK2
      have HS := hid hS
      have HK1 := hid hK1
      have HK2 := hid hK2
      have HSL2 := hid hSl2
      have hS10 : S.length ≤ 10 := by omega
      clear hS hK1 hK2 hSe hSl2
      clear hSl hSc hSR hRe hRl hvR hat r4
      go_wp2_with fail
      refine (sellCart_any RL c A2 C1 c2 k1 _ s4 t4 (by omega) (by omega)).mono ?_
      rintro e w5 ⟨v5, rfl, o5, b5⟩
      rw [← HS.out] at o5
      rw [HK1.out]
      obtain ⟨A5, c5, rfl, _, x5⟩ := o5.reads len2
      clear o5
      have D5 := D4.trans (b5.mono D4.size)
      have q5 := (q4.below b5 (Nat.le_refl _)).more b5.size
      have s5 := (s4.below b5 (Nat.le_refl _)).more b5.size
      clear t4 b5 D4 q4 s4
      go_wp2_with fail
      go_loopw [11] (fun i wr => ∃ k : Nat, k ≤ S.length ∧ i = .int .i64 k ∧ Below w5.heap.size w5 wr) (fun i _ => S.length - (intOf i).toNat)
      case atStart => exact ⟨0, Nat.zero_le _, rfl, Below.refl _ _⟩
      case round =>
        obtain ⟨k, hk, rfl, hb⟩ := hrel
        have hsz := hb.size
        by_cases hlt : k < S.length
        · have hkl0 : k < l.length := by have := HSL2.out; omega
          obtain ⟨b, off, rfl, hbb, x1, x2⟩ := q5.get2 (k := k) hkl0
          obtain ⟨b', off', rfl, hbb', y1, y2⟩ := s5.get2 (k := k) (by have := HRL.out; omega)
          obtain ⟨b2, off2, rfl, hbb2, z1, z2⟩ := x5.get2 hlt
          have hk2 := HK2.out k hkl0
          obtain ⟨X, hX⟩ : ∃ x, g1 RL k = x := ⟨_, rfl⟩
          obtain ⟨Y, hY⟩ : ∃ x, g2 l k = x := ⟨_, rfl⟩
          rw [hX, hY] at hk2
          rw [hY] at x2
          rw [hX] at y1
          rw [hk2.2] at z1
          rw [hk2.1] at z2
          have d2 : wr.cell? ⟨b, off + k * 2 + 1, none⟩ = some (.int .i64 Y) := (hb.cell hbb).trans x2
          have d3 : wr.cell? ⟨b', off' + k * 2, none⟩ = some (.int .i64 X) := (hb.cell hbb').trans y1
          have d4 : wr.cell? ⟨b2, off2 + k * 2, none⟩ = some (.int .i64 X) := (hb.cell hbb2).trans z1
          have d5 : wr.cell? ⟨b2, off2 + k * 2 + 1, none⟩ = some (.int .i64 Y) := (hb.cell hbb2).trans z2
          have hkl : (k : Int) < (l.length : Int) := by omega
          have hkr : (k : Int) < (RL.length : Int) := by have := HRL.out; omega
          have hks : (k : Int) < (S.length : Int) := by omega
          clear x1 x2 y1 y2 z1 z2 hk2 hX hY
          go_wp2_with fail
          go_quiet (fail)
          go_wp2
          go_roundw
          case rel =>
            refine ⟨k + 1, by omega, by go_num, ?_⟩
            repeat (first | exact Below.refl _ _ | (refine Below.alloc ?_ (by (try simp) <;> omega) _) | (refine Below.setCell ?_ (by (try simp) <;> omega) _) | (refine Below.drew ?_) | (refine below_drewN ?_ _) | (refine Below.trans ?_ (Below.mono (by assumption) (by (try simp) <;> omega))))
          case measure => simp [intOf]; omega
        · have hkl : k = S.length := by omega
          subst hkl
          have hle := HSL2.out
          have DD := hid (D5.trans (hb.mono D5.size))
          clear D5 hb
          go_wp2
          go_ret
          exact ⟨rfl, DD.out⟩
    · have hok' : okMv (-1) 1 l c = false := by simpa using hok
      clear hok
      go_wp2_with fail
      refine (equalStocks_same RL A2 A3 c2 c3 _ s4 r4 (by omega)).mono ?_
      rintro e w5 ⟨rfl, b5⟩
      have D5 := D4.trans (b5.mono D4.size)
      clear q4 t4 s4 r4 b5 D4 
      have DD := hid D5
      clear D5
      go_wp2
      go_ret
      exact ⟨rfl, DD.out⟩

end Go.Proofs.Ythdmngchfahciaa
