/- The walks of the laws that the program's functions on sold lines return what the reference's return. -/
import Derived.Test.YtgeffidkamklaaaSaleW3
namespace Go.Proofs.Ytgeffidkamklaaa
open Go.RowKit

set_option maxHeartbeats 800000 in
theorem fnExactValidSale_walk (w : World) (c p b : Int) :
    Calls Try.prog 3 #[.agg #[.int .i64 c, .int .i64 p, .int .i64 b]] w fun e w' => e = .returned (.bool true) ∧ Below w.heap.size w w' := by
  go_enter Try.func3, Try.ntmps3
  go_wp2_with fail; refine (toSale_any _ _ _ _).mono ?_; rintro e w1 ⟨rfl, b1⟩
  have K1 := (Blk.new w 23 #[.int .i64 c, .int .i64 p, .int .i64 b]).below b1 (by simp)
  have zK1 := K1.lt
  go_wp2_with fail; refine (specValidSale_any _ _ _ _).mono ?_; rintro e w2 ⟨rfl, b2⟩
  have K2 := K1.below b2 (by have := K1.lt; (try simp) <;> omega); have zK2 := K2.lt
  obtain ⟨K2a, K2b, K2c, K2f⟩ := K2.three
  go_wp2_with fail; refine (toSale_any _ _ _ _).mono ?_; rintro e w3 ⟨rfl, b3⟩
  have K3 := K2.below b3 (by have := K2.lt; (try simp) <;> omega); have zK3 := K3.lt
  go_wp2_with fail; refine (validSale_any _ _ _ _).mono ?_; rintro e w4 ⟨rfl, b4⟩
  have K4 := K3.below b4 (by have := K3.lt; (try simp) <;> omega); have zK4 := K4.lt
  go_wp2
  go_ret
  refine ⟨rfl, ?_⟩
  repeat (first | exact Below.refl _ _ | (refine Below.alloc ?_ (by (try simp) <;> omega) _) | (refine Below.setCell ?_ (by (try simp) <;> omega) _) | (refine Below.drew ?_) | (refine below_drewN ?_ _) | (refine Below.trans ?_ (Below.mono (by assumption) (by (try simp) <;> omega))))

set_option maxHeartbeats 800000 in
theorem fnExactKeptOf_walk (w : World) (c p b : Int) :
    Calls Try.prog 4 #[.agg #[.int .i64 c, .int .i64 p, .int .i64 b]] w fun e w' => e = .returned (.bool true) ∧ Below w.heap.size w w' := by
  go_enter Try.func4, Try.ntmps4
  go_wp2_with fail; refine (toSale_any _ _ _ _).mono ?_; rintro e w1 ⟨rfl, b1⟩
  have K1 := (Blk.new w 23 #[.int .i64 c, .int .i64 p, .int .i64 b]).below b1 (by simp)
  have zK1 := K1.lt
  go_wp2_with fail; refine (specKeptOf_any _ _ _ _).mono ?_; rintro e w2 ⟨rfl, b2⟩
  have K2 := K1.below b2 (by have := K1.lt; (try simp) <;> omega); have zK2 := K2.lt
  obtain ⟨K2a, K2b, K2c, K2f⟩ := K2.three
  go_wp2_with fail; refine (toSale_any _ _ _ _).mono ?_; rintro e w3 ⟨rfl, b3⟩
  have K3 := K2.below b3 (by have := K2.lt; (try simp) <;> omega); have zK3 := K3.lt
  go_wp2_with fail; refine (keptOf_any _ _ _ _).mono ?_; rintro e w4 ⟨rfl, b4⟩
  have K4 := K3.below b4 (by have := K3.lt; (try simp) <;> omega); have zK4 := K4.lt
  go_wp2
  go_ret
  refine ⟨rfl, ?_⟩
  repeat (first | exact Below.refl _ _ | (refine Below.alloc ?_ (by (try simp) <;> omega) _) | (refine Below.setCell ?_ (by (try simp) <;> omega) _) | (refine Below.drew ?_) | (refine below_drewN ?_ _) | (refine Below.trans ?_ (Below.mono (by assumption) (by (try simp) <;> omega))))

set_option maxHeartbeats 800000 in
theorem fnExactRefundFor_walk (w : World) (c p b n : Int) (_ : -9223372036854775808 ≤ n ∧ n ≤ 9223372036854775807) :
    Calls Try.prog 5 #[.agg #[.int .i64 c, .int .i64 p, .int .i64 b], .int .i64 n] w fun e w' => e = .returned (.bool true) ∧ Below w.heap.size w w' := by
  go_enter Try.func5, Try.ntmps5
  go_wp2_with fail; refine (toSale_any _ _ _ _).mono ?_; rintro e w1 ⟨rfl, b1⟩
  have K1 := (Blk.new w 23 #[.int .i64 c, .int .i64 p, .int .i64 b]).below b1 (by simp)
  have zK1 := K1.lt
  go_wp2_with fail; refine (specRefundFor_any _ _ _ _ _).mono ?_; rintro e w2 ⟨rfl, b2⟩
  have K2 := K1.below b2 (by have := K1.lt; (try simp) <;> omega); have zK2 := K2.lt
  obtain ⟨K2a, K2b, K2c, K2f⟩ := K2.three
  go_wp2_with fail; refine (toSale_any _ _ _ _).mono ?_; rintro e w3 ⟨rfl, b3⟩
  have K3 := K2.below b3 (by have := K2.lt; (try simp) <;> omega); have zK3 := K3.lt
  go_wp2_with fail; refine (refundFor_any _ _ _ _ _).mono ?_; rintro e w4 ⟨rfl, b4⟩
  have K4 := K3.below b4 (by have := K3.lt; (try simp) <;> omega); have zK4 := K4.lt
  go_wp2
  go_ret
  refine ⟨rfl, ?_⟩
  repeat (first | exact Below.refl _ _ | (refine Below.alloc ?_ (by (try simp) <;> omega) _) | (refine Below.setCell ?_ (by (try simp) <;> omega) _) | (refine Below.drew ?_) | (refine below_drewN ?_ _) | (refine Below.trans ?_ (Below.mono (by assumption) (by (try simp) <;> omega))))

set_option maxHeartbeats 1600000 in
theorem fnExactGiveBack_walk (w : World) (c p b n : Int) (_ : -9223372036854775808 ≤ n ∧ n ≤ 9223372036854775807) :
    Calls Try.prog 6 #[.agg #[.int .i64 c, .int .i64 p, .int .i64 b], .int .i64 n] w fun e w' => e = .returned (.bool true) ∧ Below w.heap.size w w' := by
  obtain ⟨c', p', b', o, hg⟩ : ∃ c' p' b' o, giveV c p b n = .tuple #[.agg #[.int .i64 c', .int .i64 p', .int .i64 b'], .bool o] := by
    unfold giveV; split <;> exact ⟨_, _, _, _, rfl⟩
  have HG := hid hg
  clear hg
  go_enter Try.func6, Try.ntmps6
  go_wp2_with fail; refine (toSale_any _ _ _ _).mono ?_; rintro e w1 ⟨rfl, b1⟩
  have K1 := (Blk.new w 23 #[.int .i64 c, .int .i64 p, .int .i64 b]).below b1 (by simp)
  have zK1 := K1.lt
  go_wp2_with fail; refine (specGiveBack_any _ _ _ _ _).mono ?_; rintro e w2 ⟨rfl, b2⟩
  rw [HG.out]
  have K2 := K1.below b2 (by have := K1.lt; (try simp) <;> omega); have zK2 := K2.lt
  obtain ⟨K2a, K2b, K2c, K2f⟩ := K2.three
  have L2 := (K2.alloc (.cells #[.int .i64 c', .int .i64 p', .int .i64 b'] 25))
  have M2 := Blk.new w2 25 #[.int .i64 c', .int .i64 p', .int .i64 b']
  go_wp2_with fail; refine (toSale_any _ _ _ _).mono ?_; rintro e w3 ⟨rfl, b3⟩
  have L3 := L2.below b3 (by have := L2.lt; (try simp) <;> omega); have zL3 := L3.lt
  have M3 := M2.below b3 (by have := M2.lt; (try simp) <;> omega); have zM3 := M3.lt
  go_wp2_with fail; refine (giveBack_any _ _ _ _ _).mono ?_; rintro e w4 ⟨rfl, b4⟩
  rw [HG.out]
  have L4 := L3.below b4 (by have := L3.lt; (try simp) <;> omega); have zL4 := L4.lt
  have M4 := M3.below b4 (by have := M3.lt; (try simp) <;> omega); have zM4 := M4.lt
  have N4 := M4.alloc (.cells #[.int .i64 c', .int .i64 p', .int .i64 b'] 25)
  have O4 := Blk.new w4 25 #[.int .i64 c', .int .i64 p', .int .i64 b']
  obtain ⟨N4a, N4b, N4c, N4f⟩ := N4.three
  go_wp2_with fail; refine (eqSale_same _ _ _ _).mono ?_; rintro e w5 ⟨rfl, b5⟩
  go_wp2
  go_ret
  refine ⟨rfl, ?_⟩
  repeat (first | exact Below.refl _ _ | (refine Below.alloc ?_ (by (try simp) <;> omega) _) | (refine Below.setCell ?_ (by (try simp) <;> omega) _) | (refine Below.drew ?_) | (refine below_drewN ?_ _) | (refine Below.trans ?_ (Below.mono (by assumption) (by (try simp) <;> omega))))

end Go.Proofs.Ytgeffidkamklaaa
