/- Contracts of the functions on sold lines: each computes what the plain law says. -/
import Derived.Test.YtgeffidkamklaaaMoney
import Derived.Test.YtgeffidkamklaaaSaleP
namespace Go.Proofs.Ytgeffidkamklaaa
open Go.RowKit

set_option maxHeartbeats 400000 in
theorem validSale_any (c p b : Int) (w : World) :
    Calls Try.prog 17 #[.agg #[.int .i64 c, .int .i64 p, .int .i64 b]] w fun e w' => e = .returned (.bool (vSale c p b)) ∧ Below w.heap.size w w' := by
  go_enter Try.func17, Try.ntmps17
  go_wp2_with (first | (go_at_call 30; refine (within_any _ _ _ _).mono ?_; rintro e w' ⟨rfl, rfl⟩) | (go_at_call 31; refine (money_any _ _).mono ?_; rintro e w' ⟨rfl, rfl⟩))
  all_goals (go_ret; refine ⟨ret_bool (by simp [vSale, *]), ?_⟩; repeat (first | exact Below.refl _ _ | (refine Below.alloc ?_ (by (try simp) <;> omega) _) | (refine Below.setCell ?_ (by (try simp) <;> omega) _) | (refine Below.drew ?_) | (refine below_drewN ?_ _) | (refine Below.trans ?_ (Below.mono (by assumption) (by (try simp) <;> omega)))))

set_option maxHeartbeats 400000 in
theorem svalidSale_any (c p b : Int) (w : World) :
    Calls Try.prog 29 #[.agg #[.int .i64 c, .int .i64 p, .int .i64 b]] w fun e w' => e = .returned (.bool (vSale c p b)) ∧ Below w.heap.size w w' := by
  go_enter Try.func29, Try.ntmps29
  go_wp2_with (go_at_call 33; refine (inRange_any _ _ _ _).mono ?_; rintro e w' ⟨rfl, rfl⟩)
  all_goals (go_ret; refine ⟨ret_bool (by simp [vSale, *]), ?_⟩; repeat (first | exact Below.refl _ _ | (refine Below.alloc ?_ (by (try simp) <;> omega) _) | (refine Below.setCell ?_ (by (try simp) <;> omega) _) | (refine Below.drew ?_) | (refine below_drewN ?_ _) | (refine Below.trans ?_ (Below.mono (by assumption) (by (try simp) <;> omega)))))

set_option maxHeartbeats 400000 in
theorem specValidSale_any (c p b : Int) (w : World) :
    Calls Try.prog 15 #[.agg #[.int .i64 c, .int .i64 p, .int .i64 b]] w fun e w' => e = .returned (.bool (vSale c p b)) ∧ Below w.heap.size w w' := by
  go_enter Try.func15, Try.ntmps15
  go_wp2_with (go_at_call 29; refine (svalidSale_any _ _ _ _).mono ?_; rintro e w1 ⟨rfl, hb1⟩)
  go_ret
  refine ⟨rfl, ?_⟩
  repeat (first | exact Below.refl _ _ | (refine Below.alloc ?_ (by (try simp) <;> omega) _) | (refine Below.setCell ?_ (by (try simp) <;> omega) _) | (refine Below.drew ?_) | (refine below_drewN ?_ _) | (refine Below.trans ?_ (Below.mono (by assumption) (by (try simp) <;> omega))))

set_option maxHeartbeats 400000 in
theorem partOf_any (c p b n : Int) (w : World) (h1 : 1 ≤ c) (h2 : 0 ≤ p * n) (h3 : p * n ≤ 20000000) :
    Calls Try.prog 32 #[.agg #[.int .i64 c, .int .i64 p, .int .i64 b], .int .i64 n] w fun e w' => e = .returned (.int .i64 (partI p n c)) ∧ Below w.heap.size w w' := by
  have hc : (c == 0) = false := by simp; omega
  go_enter Try.func32, Try.ntmps32
  go_wp2
  go_ret
  refine ⟨rfl, ?_⟩
  repeat (first | exact Below.refl _ _ | (refine Below.alloc ?_ (by (try simp) <;> omega) _) | (refine Below.setCell ?_ (by (try simp) <;> omega) _) | (refine Below.drew ?_) | (refine below_drewN ?_ _) | (refine Below.trans ?_ (Below.mono (by assumption) (by (try simp) <;> omega))))

set_option maxHeartbeats 400000 in
theorem keptOf_any (c p b : Int) (w : World) :
    Calls Try.prog 19 #[.agg #[.int .i64 c, .int .i64 p, .int .i64 b]] w fun e w' => e = .returned (.int .i64 (keptI c p b)) ∧ Below w.heap.size w w' := by
  by_cases hv : vSale c p b = true
  · obtain ⟨a1, a2, a3, a4, a5, a6⟩ := vSale_true hv
    obtain ⟨m1, m2⟩ := mul_bd a3 a4 a5 (by omega : b ≤ 20)
    obtain ⟨q1, q2⟩ := part_bd (c := c) a1 a3 a5 a6
    unfold partI at q1 q2
    have hc : (c == 0) = false := by simp; omega
    go_enter Try.func19, Try.ntmps19
    go_wp2_with (go_at_call 17; refine (validSale_any _ _ _ _).mono ?_; rintro e w1 ⟨rfl, hb1⟩; obtain ⟨hc1, hf1⟩ := bcell hb1; have hz1 : w.heap.size < w1.heap.size := (by have := hb1.size; (try simp at this); (try simp) <;> omega))
    go_quiet (fail)
    go_wp2
    go_ret
    refine ⟨ret_int (by simp [keptI, hv, partI]), ?_⟩
    repeat (first | exact Below.refl _ _ | (refine Below.alloc ?_ (by (try simp) <;> omega) _) | (refine Below.setCell ?_ (by (try simp) <;> omega) _) | (refine Below.drew ?_) | (refine below_drewN ?_ _) | (refine Below.trans ?_ (Below.mono (by assumption) (by (try simp) <;> omega))))
  · have hv' : vSale c p b = false := by simpa using hv
    go_enter Try.func19, Try.ntmps19
    go_wp2_with (go_at_call 17; refine (validSale_any _ _ _ _).mono ?_; rintro e w1 ⟨rfl, hb1⟩; obtain ⟨hc1, hf1⟩ := bcell hb1; have hz1 : w.heap.size < w1.heap.size := (by have := hb1.size; (try simp at this); (try simp) <;> omega))
    go_ret
    refine ⟨ret_int (by simp [keptI, hv']), ?_⟩
    repeat (first | exact Below.refl _ _ | (refine Below.alloc ?_ (by (try simp) <;> omega) _) | (refine Below.setCell ?_ (by (try simp) <;> omega) _) | (refine Below.drew ?_) | (refine below_drewN ?_ _) | (refine Below.trans ?_ (Below.mono (by assumption) (by (try simp) <;> omega))))

end Go.Proofs.Ytgeffidkamklaaa
