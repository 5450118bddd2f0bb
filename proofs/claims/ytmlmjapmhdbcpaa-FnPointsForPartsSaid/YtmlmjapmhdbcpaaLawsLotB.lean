/- The walks of the laws: valid lots, points for amounts, points on a day. -/
import Derived.Test.YtmlmjapmhdbcpaaDrawLotA
import Derived.Test.YtmlmjapmhdbcpaaLotsV
import Derived.Test.YtmlmjapmhdbcpaaLotsL
import Derived.Test.YtmlmjapmhdbcpaaPtsFor
namespace Go.Proofs.Ytmlmjapmhdbcpaa
open Go.RowKit

theorem ptsI_yes {a t : Int} (h : withinB a 0 1000000 = true) (k : withinB t 0 1000000 = true) : ptsI a t = (if 200000 ≤ t then 3 * (a / 100) else if 50000 ≤ t then 2 * (a / 100) else a / 100) := by
  simp [ptsI, h, k]
theorem ptsI_no {a t : Int} (h : (withinB a 0 1000000 && withinB t 0 1000000) = false) : ptsI a t = -1 := by
  simp only [ptsI]; rw [h]; rfl

set_option maxHeartbeats 800000 in
theorem fnPointsFor_walk (w : World) (A : Option Addr) (len cap : Nat) (h : Bytes w w.heap.size A len cap) :
    Calls Try.prog 6 #[.slice A len cap] w fun e w' => e = .returned (.bool true) ∧ Below w.heap.size w w' := by
  by_cases hl : 1048576 < len
  · clear h
    go_enter Try.func6, Try.ntmps6
    go_wp2
    go_ret
    exact ⟨rfl, Below.refl _ _⟩
  · go_enter Try.func6, Try.ntmps6
    go_wp2_with fail
    refine (drawPointsFor_any _ _ _ _ h).mono ?_
    rintro e w1 ⟨a, t, rfl, a1, a2, t1, t2, b1⟩
    have B1 := hid b1
    clear h b1
    by_cases hok : (withinB a 0 1000000 && withinB t 0 1000000) = true
    · obtain ⟨ha, ht⟩ := Bool.and_eq_true_iff.1 hok
      obtain ⟨c1, c2⟩ := withinB_true.1 ha
      obtain ⟨c3, c4⟩ := withinB_true.1 ht
      have hm : ∃ m, (a + 50 ≤ 1000000 ∧ m = a + 50) ∨ (1000000 < a + 50 ∧ m = 1000000) := ⟨min (a + 50) 1000000, by omega⟩
      obtain ⟨m, hm⟩ := hm
      have q := ptsI_yes ha ht
      have q0 := ptsI_yes ha (t := 0) (withinB_true.2 (by omega))
      have qm := ptsI_yes ha (t := 1000000) (withinB_true.2 (by omega))
      have qn := ptsI_yes (a := m) (withinB_true.2 (by omega)) ht
      rw [if_neg (by omega), if_neg (by omega)] at q0
      rw [if_pos (by omega)] at qm
      obtain ⟨n, hN⟩ : ∃ n, ptsI a t = n := ⟨_, rfl⟩
      obtain ⟨x, hX⟩ : ∃ x, ptsI a 0 = x := ⟨_, rfl⟩
      obtain ⟨y, hY⟩ : ∃ y, ptsI a 1000000 = y := ⟨_, rfl⟩
      obtain ⟨z, hZ⟩ : ∃ z, ptsI m t = z := ⟨_, rfl⟩
      rw [hN] at q
      rw [hX] at q0
      rw [hY] at qm
      rw [hZ] at qn
      have n0 : 0 ≤ n ∧ n ≤ 100000 ∧ n ≤ y ∧ n ≤ z ∧ 0 ≤ x ∧ x ≤ 10000 := by
        split at q <;> split at qn <;> (try split at q) <;> (try split at qn) <;> omega
      obtain ⟨n1, n2, n3, n4, n5, n6⟩ := n0
      have HX := hid hX
      have HQ := hid q0
      have HF := hid (show (x == a / 100) = true by rw [HQ.out]; simp)
      have HY := hid hY
      have HZ := hid hZ
      have HN := hid hN
      have hcase : n = x ∨ (n ≠ x ∧ n = 2 * x) ∨ (n ≠ x ∧ n ≠ 2 * x ∧ n = 3 * x) := by
        split at q <;> (try split at q) <;> omega
      clear q q0 qm qn hN hX hY hZ ha ht hok
      have e1 : ¬ n < 0 := by omega
      have e2 : decide (n ≤ y) = true := by simp; omega
      have e3 : decide (n ≤ z) = true := by simp; omega
      rcases hm with ⟨m1, rfl⟩ | ⟨m1, rfl⟩
      all_goals rcases hcase with rfl | ⟨hc1, rfl⟩ | ⟨hc1, hc2, rfl⟩
      all_goals (try have f2 := beq_eq_false_iff_ne.2 hc1)
      all_goals (try have f3 := beq_eq_false_iff_ne.2 hc2)
      all_goals (try clear hc1)
      all_goals (try clear hc2)
      all_goals (go_wp2_with (first | (go_at_call 11; refine (specPointsFor_any _ _ _).mono ?_; rintro e w' ⟨rfl, rfl⟩; rw [HN.out]) | (go_at_call 12; refine (pointsFor_any _ _ _).mono ?_; rintro e w' ⟨rfl, rfl⟩; first | rw [HX.out] | rw [HY.out] | rw [HZ.out] | rw [HN.out])))
      all_goals (go_ret; exact ⟨ret_bool HF.out, B1.out⟩)
    · have HN := hid (ptsI_no (a := a) (t := t) (by simpa using hok))
      clear hok
      go_wp2_with (first | (go_at_call 11; refine (specPointsFor_any _ _ _).mono ?_; rintro e w' ⟨rfl, rfl⟩; rw [HN.out]) | (go_at_call 12; refine (pointsFor_any _ _ _).mono ?_; rintro e w' ⟨rfl, rfl⟩; rw [HN.out]))
      go_ret
      exact ⟨rfl, B1.out⟩

set_option maxHeartbeats 800000 in
theorem fnPointsForParts_walk (w : World) (A : Option Addr) (len cap : Nat) (h : Bytes w w.heap.size A len cap) :
    Calls Try.prog 7 #[.slice A len cap] w fun e w' => e = .returned (.bool true) ∧ Below w.heap.size w w' := by
  by_cases hl : 1048576 < len
  · clear h
    go_enter Try.func7, Try.ntmps7
    go_wp2
    go_ret
    exact ⟨rfl, Below.refl _ _⟩
  · go_enter Try.func7, Try.ntmps7
    go_wp2_with fail
    refine (drawPointsFor_any _ _ _ _ h).mono ?_
    rintro e w1 ⟨a, t, rfl, a1, a2, t1, t2, b1⟩
    have B1 := hid b1
    clear h b1
    by_cases hok : (withinB a 0 1000000 && withinB t 0 1000000) = true
    · obtain ⟨ha, ht⟩ := Bool.and_eq_true_iff.1 hok
      obtain ⟨c1, c2⟩ := withinB_true.1 ha
      obtain ⟨c3, c4⟩ := withinB_true.1 ht
      have q := ptsI_yes ha ht
      have qx := ptsI_yes (a := a / 2) (withinB_true.2 (by omega)) ht
      have qy := ptsI_yes (a := a - a / 2) (withinB_true.2 (by omega)) ht
      obtain ⟨n, hN⟩ : ∃ n, ptsI a t = n := ⟨_, rfl⟩
      obtain ⟨x, hX⟩ : ∃ x, ptsI (a / 2) t = x := ⟨_, rfl⟩
      obtain ⟨y, hY⟩ : ∃ y, ptsI (a - a / 2) t = y := ⟨_, rfl⟩
      rw [hN] at q
      rw [hX] at qx
      rw [hY] at qy
      have n0 : 0 ≤ n ∧ 0 ≤ x ∧ x ≤ 100000 ∧ 0 ≤ y ∧ y ≤ 100000 ∧ x + y ≤ n := by
        split at q <;> (try split at q) <;> simp_all <;> omega
      obtain ⟨n1, n2, n3, n4, n5, n6⟩ := n0
      have HX := hid hX
      have HY := hid hY
      have HN := hid hN
      clear q qx qy hN hX hY ha ht hok
      have e1 : ¬ n < 0 := by omega
      have HE := hid (show decide (x + y ≤ n) = true by simp; omega)
      clear n6
      go_wp2_with (first | (go_at_call 11; refine (specPointsFor_any _ _ _).mono ?_; rintro e w' ⟨rfl, rfl⟩; rw [HN.out]) | (go_at_call 12; refine (pointsFor_any _ _ _).mono ?_; rintro e w' ⟨rfl, rfl⟩; first | rw [HN.out] | rw [HX.out] | rw [HY.out]))
      go_ret
      exact ⟨ret_bool HE.out, B1.out⟩
    · have HN := hid (ptsI_no (a := a) (t := t) (by simpa using hok))
      clear hok
      go_wp2_with (first | (go_at_call 11; refine (specPointsFor_any _ _ _).mono ?_; rintro e w' ⟨rfl, rfl⟩; rw [HN.out]) | (go_at_call 12; refine (pointsFor_any _ _ _).mono ?_; rintro e w' ⟨rfl, rfl⟩; rw [HN.out]))
      go_ret
      exact ⟨rfl, B1.out⟩

end Go.Proofs.Ytmlmjapmhdbcpaa
