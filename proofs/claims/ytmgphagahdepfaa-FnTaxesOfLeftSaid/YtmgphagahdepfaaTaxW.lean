/- Contracts: the tax in an amount, the gross amount of a net amount. -/
import Derived.Test.YtmgphagahdepfaaTaxP
import Derived.Test.YtmgphagahdepfaaMoney
namespace Go.Proofs.Ytmgphagahdepfaa
open Go.RowKit

theorem two_bd {a r : Int} (ha : 0 ≤ a ∧ a ≤ 2000000) (hr : 0 ≤ r ∧ r ≤ 300) : 0 ≤ 2 * a * r ∧ 2 * a * r ≤ 1200000000 := by
  refine ⟨Int.mul_nonneg (by omega) hr.1, ?_⟩
  have : 2 * a * r ≤ 4000000 * 300 := Int.mul_le_mul (by omega) hr.2 hr.1 (by omega)
  omega

set_option maxHeartbeats 400000 in
theorem taxIn_any (a r : Int) (w : World) (ha : 0 ≤ a ∧ a ≤ 2000000) (hr : 0 ≤ r ∧ r ≤ 300) :
    Calls Try.prog 40 #[.int .i64 a, .int .i64 r] w fun e w' => e = .returned (.int .i64 (taxI a r)) ∧ w = w' := by
  obtain ⟨b1, b2⟩ := two_bd ha hr
  obtain ⟨a1, a2⟩ := ha
  obtain ⟨r1, r2⟩ := hr
  go_enter Try.func40, Try.ntmps40
  go_wp2
  go_ret
  exact ⟨ret_int (by unfold taxI; first | rfl | (congr 1 <;> omega)), rfl⟩

set_option maxHeartbeats 400000 in
theorem staxIn_any (a r : Int) (w : World) (ha : 0 ≤ a ∧ a ≤ 2000000) (hr : 0 ≤ r ∧ r ≤ 300) :
    Calls Try.prog 42 #[.int .i64 a, .int .i64 r] w fun e w' => e = .returned (.int .i64 (taxI a r)) ∧ w = w' := by
  obtain ⟨b1, b2⟩ := two_bd ha hr
  obtain ⟨a1, a2⟩ := ha
  obtain ⟨r1, r2⟩ := hr
  go_enter Try.func42, Try.ntmps42
  go_wp2
  go_ret
  exact ⟨ret_int (by unfold taxI; first | rfl | (congr 1; omega) | (congr 1 <;> omega)), rfl⟩

set_option maxHeartbeats 800000 in
theorem grossFor_any (net r : Int) (w : World) :
    Calls Try.prog 31 #[.int .i64 net, .int .i64 r] w fun e w' => e = .returned (.int .i64 (grossI net r)) ∧ w = w' := by
  by_cases hn : withinB net 0 500000 = true
  · by_cases hr : withinB r 0 300 = true
    · obtain ⟨n1, n2⟩ := withinB_true.1 hn
      obtain ⟨r1, r2⟩ := withinB_true.1 hr
      have HN := hid hn
      have HR := hid hr
      have HG := hid (show grossI net r = grossL net r by simp [grossI, hn, hr])
      obtain ⟨g1, g2⟩ := gross_bd ⟨n1, n2⟩ ⟨r1, r2⟩
      have hge := gross_eq (net := net) ⟨r1, r2⟩
      have HI := hid (fun n : Int => left_iff (n := n) (net := net) ⟨r1, r2⟩)
      obtain ⟨L, hL⟩ : ∃ x, grossL net r = x := ⟨_, rfl⟩
      rw [hL] at g1 g2 hge
      have HL := hid hL
      have HGE := hid hge
      clear hn hr hL hge
      go_enter Try.func31, Try.ntmps31
      go_wp2_with fail
      go_at_call 52
      refine (within_yes HN.out _).mono ?_
      rintro e w' ⟨rfl, rfl⟩
      go_wp2_with fail
      go_at_call 52
      refine (within_yes HR.out _).mono ?_
      rintro e w' ⟨rfl, rfl⟩
      go_wp2
      go_loop [5, 6] (fun lo hi => ∃ x y : Int, lo = .int .i64 x ∧ hi = .int .i64 y ∧ 0 ≤ x ∧ x ≤ L ∧ L ≤ y ∧ y ≤ 1000000) (fun lo hi => (intOf hi - intOf lo).toNat)
      case atStart => exact ⟨0, 1000000, rfl, rfl, by omega, by omega, by omega, by omega⟩
      case round =>
        obtain ⟨x, y, rfl, rfl, x1, x2, y1, y2⟩ := hrel
        by_cases hlt : x < y
        · obtain ⟨m, hm⟩ : ∃ m, (x + y) / 2 = m := ⟨_, rfl⟩
          have m1 : x ≤ m := by omega
          have m2 : m < y := by omega
          have hi := HI.out m
          rw [HL.out] at hi
          obtain ⟨t1, t2⟩ := tax_bd (a := m) (r := r) (by omega) ⟨r1, r2⟩
          obtain ⟨t, ht⟩ : ∃ t, taxI m r = t := ⟨_, rfl⟩
          rw [ht] at hi t1 t2
          have HT := hid ht
          have HM := hid hm
          clear ht
          by_cases hc : L ≤ m
          · have hc2 := hi.2 hc
            clear hi
            go_wp2_with (go_at_call 40; refine (taxIn_any m r _ (by omega) ⟨r1, r2⟩).mono ?_; rintro e w' ⟨rfl, rfl⟩; rw [HT.out])
            go_round
            case rel => exact ⟨x, m, rfl, rfl, by omega, by omega, by omega, by omega⟩
            case measure => simp [intOf]; omega
          · have hc2 : ¬ net ≤ m - t := fun h => hc (hi.1 h)
            clear hi
            go_wp2_with (go_at_call 40; refine (taxIn_any m r _ (by omega) ⟨r1, r2⟩).mono ?_; rintro e w' ⟨rfl, rfl⟩; rw [HT.out])
            go_round
            case rel => exact ⟨m + 1, y, rfl, rfl, by omega, by omega, by omega, by omega⟩
            case measure => simp [intOf]; omega
        · obtain rfl : L = x := by omega
          obtain rfl : L = y := by omega
          obtain ⟨t1, t2⟩ := tax_bd (a := L) (r := r) (by omega) ⟨r1, r2⟩
          have hge := HGE.out
          obtain ⟨t, ht⟩ : ∃ t, taxI L r = t := ⟨_, rfl⟩
          rw [ht] at hge t1 t2
          have HT := hid ht
          have e1 : (L - t != net) = false := by rw [bne_eq_false_iff_eq]; exact hge
          clear ht hge
          go_wp2_with (go_at_call 40; refine (taxIn_any L r _ (by omega) ⟨r1, r2⟩).mono ?_; rintro e w' ⟨rfl, rfl⟩; rw [HT.out])
          go_ret
          exact ⟨ret_int (by rw [HG.out, HL.out]), rfl⟩
    · have hr' : withinB r 0 300 = false := by simpa using hr
      have HG := hid (show grossI net r = -1 by simp [grossI, hr'])
      clear hr
      go_enter Try.func31, Try.ntmps31
      go_wp2_with fail
      go_at_call 52
      refine (within_yes hn _).mono ?_
      rintro e w' ⟨rfl, rfl⟩
      go_wp2_with fail
      go_at_call 52
      refine (within_no hr' _).mono ?_
      rintro e w' ⟨rfl, rfl⟩
      go_wp2
      go_ret
      exact ⟨ret_int HG.out.symm, rfl⟩
  · have hn' : withinB net 0 500000 = false := by simpa using hn
    have HG := hid (show grossI net r = -1 by simp [grossI, hn'])
    clear hn
    go_enter Try.func31, Try.ntmps31
    go_wp2_with (go_at_call 52; refine (within_no hn' _).mono ?_; rintro e w' ⟨rfl, rfl⟩)
    go_ret
    exact ⟨ret_int HG.out.symm, rfl⟩

end Go.Proofs.Ytmgphagahdepfaa
