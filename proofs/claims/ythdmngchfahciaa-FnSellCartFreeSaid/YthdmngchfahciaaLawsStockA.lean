/- The walks of the laws on carts that are sold. -/
import Derived.Test.YthdmngchfahciaaDrawStock
import Derived.Test.YthdmngchfahciaaSellCart
import Derived.Test.YthdmngchfahciaaEqualStock
namespace Go.Proofs.Ythdmngchfahciaa
open Go.RowKit

theorem mvL_le {f h : Int} {l c : List (Int × Int)} (hl : l.length ≤ 10) : (mvL f h l c).length ≤ 10 := by
  unfold mvL
  split
  · rw [mvTo_len]; exact hl
  · simp

set_option maxHeartbeats 3200000 in
set_option maxRecDepth 100000 in
theorem fnSellCart_walk (w : World) (A : Option Addr) (len cap : Nat) (h : Bytes w w.heap.size A len cap) :
    Calls Try.prog 5 #[.slice A len cap] w fun e w' => e = .returned (.bool true) ∧ Below w.heap.size w w' := by
  by_cases hl : 1048576 < len
  · clear h
    go_enter Try.func5, Try.ntmps5
    go_wp2
    go_ret
    exact ⟨rfl, Below.refl _ _⟩
  · go_enter Try.func5, Try.ntmps5
    go_wp2_with fail
    refine (drawSellCart_any _ _ _ _ h).mono ?_
    rintro e w1 ⟨l, v, c, u, rfl, hl1, hl10, hc9, o1, p1, D1⟩
    clear h
    obtain ⟨A1, c1, rfl, _, q1⟩ := o1.reads len2
    obtain ⟨C1, k1, rfl, _, t1⟩ := p1.reads len2
    clear o1 p1
    obtain ⟨RL, hRL⟩ : ∃ x, x = mvL 0 (-1) l c := ⟨_, rfl⟩
    have hRn : RL.length ≤ 10 := by rw [hRL]; exact mvL_le hl10
    have HR := hid hRL
    clear hRL
    go_wp2_with fail
    refine (sellCart_any l c A1 C1 c1 k1 _ q1 t1 (by omega) (by omega)).mono ?_
    rintro e w2 ⟨v2, rfl, o2, b2⟩
    rw [← HR.out] at o2
    obtain ⟨A2, c2, rfl, _, s2⟩ := o2.reads len2
    have D2 := D1.trans (b2.mono D1.size)
    have q2 := (q1.below b2 (Nat.le_refl _)).more b2.size
    have t2 := (t1.below b2 (Nat.le_refl _)).more b2.size
    clear o2 b2 D1 q1 t1
    go_wp2_with fail
    refine (sSellCart_any l c A1 C1 c1 k1 _ q2 t2 (by omega) (by omega)).mono ?_
    rintro e w3 ⟨v3, rfl, o3, b3⟩
    rw [← HR.out] at o3
    obtain ⟨A3, c3, rfl, _, r3⟩ := o3.reads len2
    have D3 := D2.trans (b3.mono D2.size)
    have q3 := (q2.below b3 (Nat.le_refl _)).more b3.size
    have t3 := (t2.below b3 (Nat.le_refl _)).more b3.size
    have s3 := (s2.below b3 (Nat.le_refl _)).more b3.size
    clear o3 b3 D2 q2 t2 s2
    go_wp2_with fail
    refine (equalStocks_same RL A2 A3 c2 c3 _ s3 r3 (by omega)).mono ?_
    rintro e w4 ⟨rfl, b4⟩
    have D4 := D3.trans (b4.mono D3.size)
    have q4 := (q3.below b4 (Nat.le_refl _)).more b4.size
    have t4 := (t3.below b4 (Nat.le_refl _)).more b4.size
    have s4 := (s3.below b4 (Nat.le_refl _)).more b4.size
    have r4 := (r3.below b4 (Nat.le_refl _)).more b4.size
    clear b4 D3 q3 t3 s3 r3
    by_cases hok : okMv 0 (-1) l c = true
    · obtain ⟨hSl, hSc, hSR⟩ := okMv_true.1 hok
      have hRe : RL = mvTo 0 (-1) l c := by rw [HR.out]; simp [mvL, hok]
      have hRl : RL.length = l.length := by rw [hRe, mvTo_len]
      have hvR : vStock RL = true := by rw [hRe]; exact vStock_iff.2 hSR
      have hat : ∀ i, i < l.length → g1 RL i = g1 l i + 0 * cnt i c ∧ g2 RL i = g2 l i + (-1) * cnt i c := fun i hi => by
        rw [hRe]; exact mvTo_at hSc.in_ hi
      have HSL := hid hSl
      have HSC := hid hSc
      have HVR := hid hvR
      have HAT := hid hat
      have HRL := hid hRl
      have HRE := hid hRe
      have HCA := hid (cntTo_all hSc.in_)
      clear hSl hSc hSR hRe hRl hvR hat r4
      go_wp2_with fail
      go_loopw [9, 10] (fun n i wr => ∃ k : Nat, k ≤ l.length ∧ i = .int .i64 k ∧ n = .int .i64 (cntTo c k) ∧ Below w4.heap.size w4 wr) (fun _ i _ => l.length - (intOf i).toNat)
      case atStart => exact ⟨0, Nat.zero_le _, rfl, rfl, Below.refl _ _⟩
      case round =>
        obtain ⟨k, hk, rfl, rfl, hb⟩ := hrel
        have hsz := hb.size
        by_cases hlt : k < l.length
        · have hct := cntTo_bd HSC.out k
          have hnx : cntTo c (k + 1) = cntTo c k + cnt k c := rfl
          obtain ⟨b, off, rfl, hbb, x1, x2⟩ := q4.get2 hlt
          obtain ⟨b', off', rfl, hbb', y1, y2⟩ := s4.get2 (k := k) (by have := HRL.out; omega)
          have ha := HAT.out k hlt
          have hL := HSL.out.1 k hlt
          have hcb := HSC.out.cnt_bd k
          obtain ⟨X, hX⟩ : ∃ x, g1 l k = x := ⟨_, rfl⟩
          obtain ⟨Y, hY⟩ : ∃ x, g2 l k = x := ⟨_, rfl⟩
          obtain ⟨X', hX'⟩ : ∃ x, g1 RL k = x := ⟨_, rfl⟩
          obtain ⟨Y', hY'⟩ : ∃ x, g2 RL k = x := ⟨_, rfl⟩
          obtain ⟨q, hq⟩ : ∃ x, cnt k c = x := ⟨_, rfl⟩
          rw [hX] at x1
          rw [hY] at x2
          rw [hX'] at y1
          rw [hY'] at y2
          rw [hX, hY, hX', hY', hq] at ha
          rw [hX, hY] at hL
          rw [hq] at hcb
          obtain ⟨ha1, ha2⟩ := ha
          obtain ⟨⟨hL1, hL2⟩, hL3, hL4⟩ := hL
          obtain ⟨hc1, hc2⟩ := hcb
          have d1 : wr.cell? ⟨b, off + k * 2, none⟩ = some (.int .i64 X) := (hb.cell hbb).trans x1
          have d2 : wr.cell? ⟨b, off + k * 2 + 1, none⟩ = some (.int .i64 Y) := (hb.cell hbb).trans x2
          have d3 : wr.cell? ⟨b', off' + k * 2, none⟩ = some (.int .i64 X') := (hb.cell hbb').trans y1
          have d4 : wr.cell? ⟨b', off' + k * 2 + 1, none⟩ = some (.int .i64 Y') := (hb.cell hbb').trans y2
          have hkl : (k : Int) < (l.length : Int) := by omega
          have hkr : (k : Int) < (RL.length : Int) := by have := HRL.out; omega
          have hge : decide (RL.length ≤ k) = false := decide_eq_false (by have := HRL.out; omega)
          clear x1 x2 y1 y2
          obtain ⟨N, hN⟩ : ∃ x, cntTo c k = x := ⟨_, rfl⟩
          rw [hq, hN] at hnx
          rw [hN] at hct ⊢
          have HNX := hid hnx
          have HA2 := hid ha2
          obtain ⟨hn1, hn2⟩ := hct
          have hxx : X' = X := by omega
          subst hxx
          have e1 : decide (Y < Y') = false := decide_eq_false (by omega)
          have w1 : IntKind.i64.wrap (N + Y) = N + Y := IntWalk.i64_in _ (by omega)
          have w2 : IntKind.i64.wrap (N + Y - Y') = N + Y - Y' := IntWalk.i64_in _ (by omega)
          clear hnx hN hX hY hX' hY' hq ha1 ha2
          go_wp2_with fail
          go_quiet (fail)
          go_wp2_with fail
          go_quiet (fail)
          go_wp2
          go_roundw
          case rel =>
            refine ⟨k + 1, by omega, by go_num, ?_, ?_⟩
            · have := HNX.out
              have := HA2.out
              congr 1
              omega
            · repeat (first | exact Below.refl _ _ | (refine Below.alloc ?_ (by (try simp) <;> omega) _) | (refine Below.setCell ?_ (by (try simp) <;> omega) _) | (refine Below.drew ?_) | (refine below_drewN ?_ _) | (refine Below.trans ?_ (Below.mono (by assumption) (by (try simp) <;> omega))))
          case measure => simp [intOf]; omega
        · have hkl : k = l.length := by omega
          subst hkl
          rw [HCA.out]
          go_wp2_with fail
          go_loopw [9, 11] (fun n i wr => ∃ k : Nat, k ≤ c.length ∧ i = .int .i64 k ∧ n = .int .i64 (csum c - csum (c.take k)) ∧ Below w4.heap.size w4 wr) (fun _ i _ => c.length - (intOf i).toNat)
          case atStart => exact ⟨0, Nat.zero_le _, rfl, by simp [csum], hb⟩
          case round =>
            clear hb hsz hlt
            obtain ⟨k, hk, rfl, rfl, hb⟩ := hrel
            have hsz := hb.size
            have hc8 := HSC.out.2.2
            have hS := csum_bd c HSC.out.bd
            have hP := csum_bd (c.take k) (fun x hx => HSC.out.bd x (List.mem_of_mem_take hx))
            have htl : (c.take k).length ≤ 8 := by rw [List.length_take]; omega
            by_cases hlt : k < c.length
            · obtain ⟨b, off, rfl, hbb, x1, x2⟩ := t4.get2 hlt
              have hx := HSC.out.at_ hlt
              have hst := csum_step hlt
              obtain ⟨q, hq⟩ : ∃ x, g2 c k = x := ⟨_, rfl⟩
              obtain ⟨S, hS0⟩ : ∃ x, csum c = x := ⟨_, rfl⟩
              obtain ⟨P, hP0⟩ : ∃ x, csum (c.take k) = x := ⟨_, rfl⟩
              rw [hq] at x2 hst hx
              rw [hP0] at hst hP ⊢
              rw [hS0] at hS ⊢
              have HST := hid hst
              have d2 : wr.cell? ⟨b, off + k * 2 + 1, none⟩ = some (.int .i64 q) := (hb.cell hbb).trans x2
              obtain ⟨_, hx1, hx2⟩ := hx
              obtain ⟨hS1, hS2⟩ := hS
              obtain ⟨hP1, hP2⟩ := hP
              clear x1 x2 hst hq hS0 hP0
              go_wp2
              go_roundw
              case rel =>
                refine ⟨k + 1, by omega, by go_num, ?_, hb⟩
                rw [HST.out]
                congr 1
                omega
              case measure => simp [intOf]; omega
            · have hkl : k = c.length := by omega
              subst hkl
              rw [List.take_length, Int.sub_self]
              have s5 := (s4.below hb (Nat.le_refl _)).more hb.size
              have D5 := D4.trans (hb.mono D4.size)
              clear hP hS htl s4 q4 t4 D4 hb
              go_wp2_with fail
              refine (validStock_any RL A2 c2 _ s5 (by omega)).mono ?_
              rintro e w6 ⟨rfl, b6⟩
              rw [HVR.out]
              have DD := hid (D5.trans (b6.mono D5.size))
              clear D5 b6 s5
              go_wp2
              go_ret
              exact ⟨rfl, DD.out⟩
    · have hok' : okMv 0 (-1) l c = false := by simpa using hok
      clear hok
      go_wp2_with fail
      refine (equalStocks_same RL A2 A3 c2 c3 _ s4 r4 (by omega)).mono ?_
      rintro e w5 ⟨rfl, b5⟩
      have D5 := D4.trans (b5.mono D4.size)
      clear q4 t4 s4 r4 b5 D4 
      have DD := hid D5
      clear D5
      go_wp2
      go_ret
      exact ⟨rfl, DD.out⟩

set_option maxHeartbeats 3200000 in
set_option maxRecDepth 100000 in
theorem fnSellCartFree_walk (w : World) (A : Option Addr) (len cap : Nat) (h : Bytes w w.heap.size A len cap) :
    Calls Try.prog 6 #[.slice A len cap] w fun e w' => e = .returned (.bool true) ∧ Below w.heap.size w w' := by
  by_cases hl : 1048576 < len
  · clear h
    go_enter Try.func6, Try.ntmps6
    go_wp2
    go_ret
    exact ⟨rfl, Below.refl _ _⟩
  · go_enter Try.func6, Try.ntmps6
    go_wp2_with fail
    refine (drawSellCart_any _ _ _ _ h).mono ?_
    rintro e w1 ⟨l, v, c, u, rfl, hl1, hl10, hc9, o1, p1, D1⟩
    clear h
    obtain ⟨A1, c1, rfl, _, q1⟩ := o1.reads len2
    obtain ⟨C1, k1, rfl, _, t1⟩ := p1.reads len2
    clear o1 p1
    obtain ⟨RL, hRL⟩ : ∃ x, x = mvL 0 (-1) l c := ⟨_, rfl⟩
    have hRn : RL.length ≤ 10 := by rw [hRL]; exact mvL_le hl10
    have HR := hid hRL
    clear hRL
    go_wp2_with fail
    refine (sellCart_any l c A1 C1 c1 k1 _ q1 t1 (by omega) (by omega)).mono ?_
    rintro e w2 ⟨v2, rfl, o2, b2⟩
    rw [← HR.out] at o2
    obtain ⟨A2, c2, rfl, _, s2⟩ := o2.reads len2
    have D2 := D1.trans (b2.mono D1.size)
    have q2 := (q1.below b2 (Nat.le_refl _)).more b2.size
    have t2 := (t1.below b2 (Nat.le_refl _)).more b2.size
    clear o2 b2 D1 q1 t1
    go_wp2_with fail
    refine (sSellCart_any l c A1 C1 c1 k1 _ q2 t2 (by omega) (by omega)).mono ?_
    rintro e w3 ⟨v3, rfl, o3, b3⟩
    rw [← HR.out] at o3
    obtain ⟨A3, c3, rfl, _, r3⟩ := o3.reads len2
    have D3 := D2.trans (b3.mono D2.size)
    have q3 := (q2.below b3 (Nat.le_refl _)).more b3.size
    have t3 := (t2.below b3 (Nat.le_refl _)).more b3.size
    have s3 := (s2.below b3 (Nat.le_refl _)).more b3.size
    clear o3 b3 D2 q2 t2 s2
    go_wp2_with fail
    refine (equalStocks_same RL A2 A3 c2 c3 _ s3 r3 (by omega)).mono ?_
    rintro e w4 ⟨rfl, b4⟩
    have D4 := D3.trans (b4.mono D3.size)
    have q4 := (q3.below b4 (Nat.le_refl _)).more b4.size
    have t4 := (t3.below b4 (Nat.le_refl _)).more b4.size
    have s4 := (s3.below b4 (Nat.le_refl _)).more b4.size
    have r4 := (r3.below b4 (Nat.le_refl _)).more b4.size
    clear b4 D3 q3 t3 s3 r3
    by_cases hok : okMv 0 (-1) l c = true
    · obtain ⟨hSl, hSc, hSR⟩ := okMv_true.1 hok
      have hRe : RL = mvTo 0 (-1) l c := by rw [HR.out]; simp [mvL, hok]
      have hRl : RL.length = l.length := by rw [hRe, mvTo_len]
      have hvR : vStock RL = true := by rw [hRe]; exact vStock_iff.2 hSR
      have hat : ∀ i, i < l.length → g1 RL i = g1 l i + 0 * cnt i c ∧ g2 RL i = g2 l i + (-1) * cnt i c := fun i hi => by
        rw [hRe]; exact mvTo_at hSc.in_ hi
      have HSL := hid hSl
      have HSC := hid hSc
      have HVR := hid hvR
      have HAT := hid hat
      have HRL := hid hRl
      have HRE := hid hRe
      have HS8 := hid hSc.2.2
      clear hSl hSc hSR hRe hRl hvR hat r4
      go_wp2_with fail
      go_loopw [9] (fun i wr => ∃ k : Nat, k ≤ c.length ∧ i = .int .i64 k ∧ Below w4.heap.size w4 wr) (fun i _ => c.length - (intOf i).toNat)
      case atStart => exact ⟨0, Nat.zero_le _, rfl, Below.refl _ _⟩
      case round =>
        obtain ⟨m, hk, rfl, hb⟩ := hrel
        have hsz := hb.size
        by_cases hm : m < c.length
        · obtain ⟨b2, off2, rfl, hbb2, z1, z2⟩ := t4.get2 hm
          have hx := HSC.out.at_ hm
          obtain ⟨k, hka⟩ : ∃ a : Nat, g1 c m = a := ⟨(g1 c m).toNat, by omega⟩
          have hone := cnt_one HSC.out.1 (mem12 hm)
          rw [hka] at z1 hx
          dsimp only at hone
          rw [hka] at hone
          rw [← hone] at z2
          have hlt : k < l.length := by omega
          obtain ⟨b, off, rfl, hbb, x1, x2⟩ := q4.get2 hlt
          obtain ⟨b', off', rfl, hbb', y1, y2⟩ := s4.get2 (k := k) (by have := HRL.out; omega)
          have ha := HAT.out k hlt
          have hL := HSL.out.1 k hlt
          have hcb := HSC.out.cnt_bd k
          obtain ⟨X, hX⟩ : ∃ x, g1 l k = x := ⟨_, rfl⟩
          obtain ⟨Y, hY⟩ : ∃ x, g2 l k = x := ⟨_, rfl⟩
          obtain ⟨X', hX'⟩ : ∃ x, g1 RL k = x := ⟨_, rfl⟩
          obtain ⟨Y', hY'⟩ : ∃ x, g2 RL k = x := ⟨_, rfl⟩
          obtain ⟨q, hq⟩ : ∃ x, cnt k c = x := ⟨_, rfl⟩
          rw [hX] at x1
          rw [hY] at x2
          rw [hX'] at y1
          rw [hY'] at y2
          rw [hX, hY, hX', hY', hq] at ha
          rw [hX, hY] at hL
          rw [hq] at hcb
          obtain ⟨ha1, ha2⟩ := ha
          obtain ⟨⟨hL1, hL2⟩, hL3, hL4⟩ := hL
          obtain ⟨hc1, hc2⟩ := hcb
          have d1 : wr.cell? ⟨b, off + k * 2, none⟩ = some (.int .i64 X) := (hb.cell hbb).trans x1
          have d2 : wr.cell? ⟨b, off + k * 2 + 1, none⟩ = some (.int .i64 Y) := (hb.cell hbb).trans x2
          have d3 : wr.cell? ⟨b', off' + k * 2, none⟩ = some (.int .i64 X') := (hb.cell hbb').trans y1
          have d4 : wr.cell? ⟨b', off' + k * 2 + 1, none⟩ = some (.int .i64 Y') := (hb.cell hbb').trans y2
          have hkl : (k : Int) < (l.length : Int) := by omega
          have hkr : (k : Int) < (RL.length : Int) := by have := HRL.out; omega
          have hge : decide (RL.length ≤ k) = false := decide_eq_false (by have := HRL.out; omega)
          clear x1 x2 y1 y2
          rw [hq] at z2
          have f1 : wr.cell? ⟨b2, off2 + m * 2, none⟩ = some (.int .i64 (k : Int)) := (hb.cell hbb2).trans z1
          have f2 : wr.cell? ⟨b2, off2 + m * 2 + 1, none⟩ = some (.int .i64 q) := (hb.cell hbb2).trans z2
          have hmc : (m : Int) < (c.length : Int) := by omega
          have w1 : IntKind.i64.wrap (X' + Y') = X' + Y' := IntWalk.i64_in _ (by omega)
          have w2 : IntKind.i64.wrap (X + Y) = X + Y := IntWalk.i64_in _ (by omega)
          have w3 : IntKind.i64.wrap (X + Y - q) = X + Y - q := IntWalk.i64_in _ (by omega)
          have e1 : (X' + Y' != X + Y - q) = false := by rw [bne_eq_false_iff_eq]; omega
          clear hX hY hX' hY' hq ha1 ha2 hone hka z1 z2 hx
          go_wp2_with fail
          go_quiet (fail)
          go_wp2
          go_roundw
          case rel =>
            refine ⟨m + 1, by omega, by go_num, ?_⟩
            repeat (first | exact Below.refl _ _ | (refine Below.alloc ?_ (by (try simp) <;> omega) _) | (refine Below.setCell ?_ (by (try simp) <;> omega) _) | (refine Below.drew ?_) | (refine below_drewN ?_ _) | (refine Below.trans ?_ (Below.mono (by assumption) (by (try simp) <;> omega))))
          case measure => simp [intOf]; omega
        · have hkl : m = c.length := by omega
          subst hkl
          have DD := hid (D4.trans (hb.mono D4.size))
          clear D4 hb
          go_wp2
          go_ret
          exact ⟨rfl, DD.out⟩
    · have hok' : okMv 0 (-1) l c = false := by simpa using hok
      clear hok
      go_wp2_with fail
      refine (equalStocks_same RL A2 A3 c2 c3 _ s4 r4 (by omega)).mono ?_
      rintro e w5 ⟨rfl, b5⟩
      have D5 := D4.trans (b5.mono D4.size)
      clear q4 t4 s4 r4 b5 D4 
      have DD := hid D5
      clear D5
      go_wp2
      go_ret
      exact ⟨rfl, DD.out⟩

end Go.Proofs.Ythdmngchfahciaa
