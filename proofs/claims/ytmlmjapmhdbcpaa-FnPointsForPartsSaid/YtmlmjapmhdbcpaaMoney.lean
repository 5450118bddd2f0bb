/- Contract of the function that tells amounts. -/
import Derived.Test.YtmlmjapmhdbcpaaNum
namespace Go.Proofs.Ytmlmjapmhdbcpaa
open Go.RowKit

set_option maxHeartbeats 400000 in
theorem money_any (n : Int) (w : World) :
    Calls Try.prog 28 #[.int .i64 n] w fun e w' => e = .returned (.bool (withinB n 0 1000000)) ∧ w = w' := by
  go_enter Try.func28, Try.ntmps28
  go_wp2_with (go_at_call 31; refine (within_any _ _ _ _).mono ?_; rintro e w' ⟨rfl, rfl⟩)
  go_ret
  exact ⟨rfl, rfl⟩

end Go.Proofs.Ytmlmjapmhdbcpaa
