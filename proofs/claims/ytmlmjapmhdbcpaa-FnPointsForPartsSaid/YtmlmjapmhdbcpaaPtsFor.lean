/- Contracts: the points for an amount; and the walks of their laws. -/
import Derived.Test.YtmlmjapmhdbcpaaMoney
namespace Go.Proofs.Ytmlmjapmhdbcpaa
open Go.RowKit

def ptsI (a t : Int) : Int := if withinB a 0 1000000 && withinB t 0 1000000 then (if 200000 ≤ t then 3 * (a / 100) else if 50000 ≤ t then 2 * (a / 100) else a / 100) else -1

set_option maxHeartbeats 800000 in
theorem pointsFor_any (a t : Int) (w : World) :
    Calls Try.prog 12 #[.int .i64 a, .int .i64 t] w fun e w' => e = .returned (.int .i64 (ptsI a t)) ∧ w = w' := by
  by_cases ha : withinB a 0 1000000 = true
  · by_cases ht : withinB t 0 1000000 = true
    · obtain ⟨a1, a2⟩ := withinB_true.1 ha
      have q1 : 0 ≤ a / 100 := by omega
      have q2 : a / 100 ≤ 10000 := by omega
      by_cases h3 : 200000 ≤ t
      · have HP := hid (show ptsI a t = 3 * (a / 100) by simp [ptsI, ha, ht, h3])
        go_enter Try.func12, Try.ntmps12
        go_wp2_with (go_at_call 28; refine (money_any _ _).mono ?_; rintro e w' ⟨rfl, rfl⟩)
        go_ret
        exact ⟨ret_int HP.out.symm, rfl⟩
      · by_cases h2 : 50000 ≤ t
        · have HP := hid (show ptsI a t = 2 * (a / 100) by simp [ptsI, ha, ht, h3, h2])
          go_enter Try.func12, Try.ntmps12
          go_wp2_with (go_at_call 28; refine (money_any _ _).mono ?_; rintro e w' ⟨rfl, rfl⟩)
          go_ret
          exact ⟨ret_int HP.out.symm, rfl⟩
        · have HP := hid (show ptsI a t = a / 100 by simp [ptsI, ha, ht, h3, h2])
          go_enter Try.func12, Try.ntmps12
          go_wp2_with (go_at_call 28; refine (money_any _ _).mono ?_; rintro e w' ⟨rfl, rfl⟩)
          go_ret
          exact ⟨ret_int HP.out.symm, rfl⟩
    · have ht' : withinB t 0 1000000 = false := by simpa using ht
      have HP := hid (show ptsI a t = -1 by simp [ptsI, ht'])
      go_enter Try.func12, Try.ntmps12
      go_wp2_with (go_at_call 28; refine (money_any _ _).mono ?_; rintro e w' ⟨rfl, rfl⟩)
      go_ret
      exact ⟨ret_int HP.out.symm, rfl⟩
  · have ha' : withinB a 0 1000000 = false := by simpa using ha
    have HP := hid (show ptsI a t = -1 by simp [ptsI, ha'])
    go_enter Try.func12, Try.ntmps12
    go_wp2_with (go_at_call 28; refine (money_any _ _).mono ?_; rintro e w' ⟨rfl, rfl⟩)
    go_ret
    exact ⟨ret_int HP.out.symm, rfl⟩

set_option maxHeartbeats 800000 in
theorem specPointsFor_any (a t : Int) (w : World) :
    Calls Try.prog 11 #[.int .i64 a, .int .i64 t] w fun e w' => e = .returned (.int .i64 (ptsI a t)) ∧ w = w' := by
  by_cases ha : withinB a 0 1000000 = true
  · by_cases ht : withinB t 0 1000000 = true
    · obtain ⟨a1, a2⟩ := withinB_true.1 ha
      have q1 : 0 ≤ a / 100 := by omega
      have q2 : a / 100 ≤ 10000 := by omega
      by_cases h3 : 200000 ≤ t
      · have HP := hid (show ptsI a t = 3 * (a / 100) by simp [ptsI, ha, ht, h3])
        go_enter Try.func11, Try.ntmps11
        go_wp2_with (go_at_call 27; refine (inRange_any _ _ _ _).mono ?_; rintro e w' ⟨rfl, rfl⟩)
        go_ret
        exact ⟨ret_int HP.out.symm, rfl⟩
      · by_cases h2 : 50000 ≤ t
        · have HP := hid (show ptsI a t = 2 * (a / 100) by simp [ptsI, ha, ht, h3, h2])
          go_enter Try.func11, Try.ntmps11
          go_wp2_with (go_at_call 27; refine (inRange_any _ _ _ _).mono ?_; rintro e w' ⟨rfl, rfl⟩)
          go_ret
          exact ⟨ret_int HP.out.symm, rfl⟩
        · have HP := hid (show ptsI a t = a / 100 by simp [ptsI, ha, ht, h3, h2])
          go_enter Try.func11, Try.ntmps11
          go_wp2_with (go_at_call 27; refine (inRange_any _ _ _ _).mono ?_; rintro e w' ⟨rfl, rfl⟩)
          go_ret
          exact ⟨ret_int HP.out.symm, rfl⟩
    · have ht' : withinB t 0 1000000 = false := by simpa using ht
      have HP := hid (show ptsI a t = -1 by simp [ptsI, ht'])
      go_enter Try.func11, Try.ntmps11
      go_wp2_with (go_at_call 27; refine (inRange_any _ _ _ _).mono ?_; rintro e w' ⟨rfl, rfl⟩)
      go_ret
      exact ⟨ret_int HP.out.symm, rfl⟩
  · have ha' : withinB a 0 1000000 = false := by simpa using ha
    have HP := hid (show ptsI a t = -1 by simp [ptsI, ha'])
    go_enter Try.func11, Try.ntmps11
    go_wp2_with (go_at_call 27; refine (inRange_any _ _ _ _).mono ?_; rintro e w' ⟨rfl, rfl⟩)
    go_ret
    exact ⟨ret_int HP.out.symm, rfl⟩

set_option maxHeartbeats 400000 in
theorem fnExactPointsFor_walk (w : World) (a : Int) (_ : -9223372036854775808 ≤ a ∧ a ≤ 9223372036854775807) (t : Int) (_ : -9223372036854775808 ≤ t ∧ t ≤ 9223372036854775807) :
    Calls Try.prog 3 #[.int .i64 a, .int .i64 t] w fun e w' => e = .returned (.bool true) ∧ Below w.heap.size w w' := by
  go_enter Try.func3, Try.ntmps3
  go_wp2_with (first | (go_at_call 11; refine (specPointsFor_any _ _ _).mono ?_; rintro e w' ⟨rfl, rfl⟩) | (go_at_call 12; refine (pointsFor_any _ _ _).mono ?_; rintro e w' ⟨rfl, rfl⟩))
  go_ret
  exact ⟨rfl, Below.refl _ _⟩

end Go.Proofs.Ytmlmjapmhdbcpaa
