/- Contract: valid tills, as the reference tells them. -/
import Derived.Test.YtcjcolkhhmpmjaaTillW
namespace Go.Proofs.Ytcjcolkhhmpmjaa
open Go.RowKit

set_option maxHeartbeats 400000 in
theorem specValidTill_any (l : List (Int × Int)) (A : Option Addr) (cap : Nat) (w : World) (h : Sl enc2 2 w w.heap.size A l) (hl : l.length ≤ 9223372036854775807) :
    Calls Try.prog 16 #[.slice A l.length cap] w fun e w' => e = .returned (.bool (vTill l)) ∧ Below w.heap.size w w' := by
  go_enter Try.func16, Try.ntmps16
  go_wp2_with fail
  refine (svalidTill_any l A cap _ h hl).mono ?_
  rintro e w1 ⟨rfl, b1⟩
  go_wp2
  go_ret
  exact ⟨rfl, b1⟩

end Go.Proofs.Ytcjcolkhhmpmjaa
