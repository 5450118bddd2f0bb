/- Contracts: the gross amount of a net amount by counting, and the tax in any amount. -/
import Derived.Test.YtmgphagahdepfaaTaxW
namespace Go.Proofs.Ytmgphagahdepfaa
open Go.RowKit

set_option maxHeartbeats 800000 in
theorem sgrossFor_any (net r : Int) (w : World) :
    Calls Try.prog 32 #[.int .i64 net, .int .i64 r] w fun e w' => e = .returned (.int .i64 (grossI net r)) ∧ w = w' := by
  by_cases hn : withinB net 0 500000 = true
  · by_cases hr : withinB r 0 300 = true
    · obtain ⟨n1, n2⟩ := withinB_true.1 hn
      obtain ⟨r1, r2⟩ := withinB_true.1 hr
      have HN := hid hn
      have HR := hid hr
      have HG := hid (show grossI net r = grossL net r by simp [grossI, hn, hr])
      obtain ⟨p1, p2⟩ := prod_ge ⟨n1, n2⟩ ⟨r1, r2⟩
      have hnear := gross_near ⟨n1, n2⟩ ⟨r1, r2⟩
      have hge := gross_eq (net := net) ⟨r1, r2⟩
      have HI := hid (fun n : Int => gross_less (n := n) (net := net) ⟨r1, r2⟩)
      obtain ⟨L, hL⟩ : ∃ x, grossL net r = x := ⟨_, rfl⟩
      rw [hL] at hnear hge
      have HL := hid hL
      have HGE := hid hge
      clear hn hr hL hge
      go_enter Try.func32, Try.ntmps32
      go_wp2_with fail
      go_at_call 53
      refine (inRange_yes HN.out _).mono ?_
      rintro e w' ⟨rfl, rfl⟩
      go_wp2_with fail
      go_at_call 53
      refine (inRange_yes HR.out _).mono ?_
      rintro e w' ⟨rfl, rfl⟩
      go_wp2
      go_loop [5] (fun s => ∃ n : Int, s = .int .i64 n ∧ net * (1000 + r) / 1000 ≤ n ∧ n ≤ L) (fun s => (L - intOf s).toNat)
      case atStart => exact ⟨net * (1000 + r) / 1000, rfl, by omega, by omega⟩
      case round =>
        obtain ⟨n, rfl, x1, x2⟩ := hrel
        obtain ⟨t1, t2⟩ := tax_bd (a := n) (r := r) (by omega) ⟨r1, r2⟩
        have hi := HI.out n
        rw [HL.out] at hi
        by_cases hc : n < L
        · have hlt := hi hc
          obtain ⟨t, ht⟩ : ∃ t, taxI n r = t := ⟨_, rfl⟩
          rw [ht] at hlt t1 t2
          have HT := hid ht
          have e1 : (n - t == net) = false := by rw [beq_eq_false_iff_ne]; omega
          clear hi ht
          go_wp2_with (go_at_call 42; refine (staxIn_any n r _ (by omega) ⟨r1, r2⟩).mono ?_; rintro e w' ⟨rfl, rfl⟩; rw [HT.out])
          go_round
          case rel => exact ⟨n + 1, rfl, by omega, by omega⟩
          case measure => simp [intOf]; omega
        · obtain rfl : L = n := by omega
          have hge := HGE.out
          obtain ⟨t, ht⟩ : ∃ t, taxI L r = t := ⟨_, rfl⟩
          rw [ht] at hge t1 t2
          have HT := hid ht
          have e1 : (L - t == net) = true := by rw [hge]; simp
          clear hi ht hge
          go_wp2_with (go_at_call 42; refine (staxIn_any L r _ (by omega) ⟨r1, r2⟩).mono ?_; rintro e w' ⟨rfl, rfl⟩; rw [HT.out])
          go_ret
          exact ⟨ret_int (by rw [HG.out, HL.out]), rfl⟩
    · have hr' : withinB r 0 300 = false := by simpa using hr
      have HG := hid (show grossI net r = -1 by simp [grossI, hr'])
      clear hr
      go_enter Try.func32, Try.ntmps32
      go_wp2_with fail
      go_at_call 53
      refine (inRange_yes hn _).mono ?_
      rintro e w' ⟨rfl, rfl⟩
      go_wp2_with fail
      go_at_call 53
      refine (inRange_no hr' _).mono ?_
      rintro e w' ⟨rfl, rfl⟩
      go_wp2
      go_ret
      exact ⟨ret_int HG.out.symm, rfl⟩
  · have hn' : withinB net 0 500000 = false := by simpa using hn
    have HG := hid (show grossI net r = -1 by simp [grossI, hn'])
    clear hn
    go_enter Try.func32, Try.ntmps32
    go_wp2_with (go_at_call 53; refine (inRange_no hn' _).mono ?_; rintro e w' ⟨rfl, rfl⟩)
    go_ret
    exact ⟨ret_int HG.out.symm, rfl⟩

set_option maxHeartbeats 400000 in
theorem taxInP_any (a r : Int) (w : World) (ha : 0 ≤ a ∧ a ≤ 1000000) (hr : 0 ≤ r ∧ r ≤ 300) :
    Calls Try.prog 33 #[.int .i64 a, .int .i64 r] w fun e w' => e = .returned (.int .i64 (taxI a r)) ∧ w = w' := by
  have h1 : withinB a 0 1000000 = true := withinB_true.2 ha
  have h2 : withinB r 0 300 = true := withinB_true.2 hr
  have HA := hid ha
  have HR := hid hr
  have H1 := hid h1
  clear ha hr
  go_enter Try.func33, Try.ntmps33
  go_wp2_with fail
  refine (money_any _ _).mono ?_
  rintro e w' ⟨rfl, rfl⟩
  rw [H1.out]
  clear h1
  go_wp2_with fail
  go_at_call 52
  refine (within_yes h2 _).mono ?_
  rintro e w' ⟨rfl, rfl⟩
  go_wp2_with fail
  refine (taxIn_any a r _ ⟨HA.out.1, by have := HA.out.2; omega⟩ HR.out).mono ?_
  rintro e w' ⟨rfl, rfl⟩
  go_wp2
  go_ret
  exact ⟨rfl, rfl⟩

end Go.Proofs.Ytmgphagahdepfaa
