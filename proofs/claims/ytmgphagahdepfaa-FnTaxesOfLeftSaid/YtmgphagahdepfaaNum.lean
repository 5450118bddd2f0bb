/- Contracts of the functions on numbers alone: a number is in a range. -/
import Derived.Test.YtmgphagahdepfaaProg
import Derived.Test.YtmgphagahdepfaaBase
namespace Go.Proofs.Ytmgphagahdepfaa
open Go.RowKit

def withinB (n lo hi : Int) : Bool := decide (lo ≤ n ∧ n ≤ hi)
theorem withinB_true {n lo hi : Int} : withinB n lo hi = true ↔ lo ≤ n ∧ n ≤ hi := by simp [withinB]
theorem withinB_false {n lo hi : Int} : withinB n lo hi = false ↔ ¬ (lo ≤ n ∧ n ≤ hi) := by simp [withinB]

set_option maxHeartbeats 400000 in
theorem within_any (n lo hi : Int) (w : World) :
    Calls Try.prog 52 #[.int .i64 n, .int .i64 lo, .int .i64 hi] w fun e w' => e = .returned (.bool (withinB n lo hi)) ∧ w = w' := by
  go_enter Try.func52, Try.ntmps52
  go_wp2
  all_goals (go_ret; simp [withinB, *])
  all_goals omega

set_option maxHeartbeats 400000 in
theorem inRange_any (n lo hi : Int) (w : World) :
    Calls Try.prog 53 #[.int .i64 n, .int .i64 lo, .int .i64 hi] w fun e w' => e = .returned (.bool (withinB n lo hi)) ∧ w = w' := by
  go_enter Try.func53, Try.ntmps53
  go_wp2
  all_goals (go_ret; simp [withinB, *])
  all_goals omega

/-! ### The same with the answer decided, and inside a region that draws its order -/
theorem within_yes {n lo hi : Int} (h : withinB n lo hi = true) (w : World) :
    Calls Try.prog 52 #[.int .i64 n, .int .i64 lo, .int .i64 hi] w fun e w' => e = .returned (.bool true) ∧ w = w' := by
  have := within_any n lo hi w; rwa [h] at this
theorem within_no {n lo hi : Int} (h : withinB n lo hi = false) (w : World) :
    Calls Try.prog 52 #[.int .i64 n, .int .i64 lo, .int .i64 hi] w fun e w' => e = .returned (.bool false) ∧ w = w' := by
  have := within_any n lo hi w; rwa [h] at this
theorem inRange_yes {n lo hi : Int} (h : withinB n lo hi = true) (w : World) :
    Calls Try.prog 53 #[.int .i64 n, .int .i64 lo, .int .i64 hi] w fun e w' => e = .returned (.bool true) ∧ w = w' := by
  have := inRange_any n lo hi w; rwa [h] at this
theorem inRange_no {n lo hi : Int} (h : withinB n lo hi = false) (w : World) :
    Calls Try.prog 53 #[.int .i64 n, .int .i64 lo, .int .i64 hi] w fun e w' => e = .returned (.bool false) ∧ w = w' := by
  have := inRange_any n lo hi w; rwa [h] at this
theorem quiet_same {P : Program} {f : FuncId} {args : Array Value} {w : World} {n : Nat} {v : Value}
    (h : Calls P f args (w.drewN n) fun e w' => e = .returned v ∧ w.drewN n = w') : Calls P f args (w.drewN n) fun e w'' => e = .returned v ∧ ∃ m, w'' = w.drewN m :=
  h.mono fun _ _ ⟨he, hm⟩ => ⟨he, n, hm.symm⟩

end Go.Proofs.Ytmgphagahdepfaa
