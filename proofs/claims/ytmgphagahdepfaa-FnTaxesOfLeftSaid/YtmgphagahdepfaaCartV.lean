/- Contract: valid carts of a shop. -/
import Derived.Test.YtmgphagahdepfaaShopW
import Derived.Test.YtmgphagahdepfaaCartI
namespace Go.Proofs.Ytmgphagahdepfaa
open Go.RowKit

set_option maxHeartbeats 1600000 in
theorem validCartI_any (s : List (Int × Int × Int × Int)) (c : List (Int × Int)) (A Ac : Option Addr) (cap capc : Nat) (w : World) (hA : Sl enc4 4 w w.heap.size A s) (hC : Sl enc2 2 w w.heap.size Ac c) (hl : s.length ≤ 1048576) (hc : c.length ≤ 1048576) :
    Calls Try.prog 58 #[.slice A s.length cap, .slice Ac c.length capc] w fun e w' => e = .returned (.bool (vShop s && vCart s.length c)) ∧ Below w.heap.size w w' := by
  by_cases hs : vShop s = true
  · have HS := hid hs
    clear hs
    go_enter Try.func58, Try.ntmps58
    go_wp2_with fail
    refine (validShop_any s A cap _ hA (by omega)).mono ?_
    rintro e w1 ⟨rfl, b1⟩
    rw [HS.out]
    have z1 := b1.size
    go_wp2_with fail
    refine (linesOk_any c Ac capc s.length _ ((hC.below b1 (Nat.le_refl _)).more b1.size) (by omega) (by omega)).mono ?_
    rintro e w2 ⟨rfl, b2⟩
    have D2 := hid (b1.trans (b2.mono z1))
    clear b1 b2
    go_wp2
    go_ret
    exact ⟨ret_bool (by rw [HS.out]; rfl), D2.out⟩
  · have hs' : vShop s = false := by simpa using hs
    have HS := hid hs'
    clear hs hs'
    go_enter Try.func58, Try.ntmps58
    go_wp2_with fail
    refine (validShop_any s A cap _ hA (by omega)).mono ?_
    rintro e w1 ⟨rfl, b1⟩
    rw [HS.out]
    go_wp2
    go_ret
    exact ⟨ret_bool (by rw [HS.out]; rfl), b1⟩

end Go.Proofs.Ytmgphagahdepfaa
