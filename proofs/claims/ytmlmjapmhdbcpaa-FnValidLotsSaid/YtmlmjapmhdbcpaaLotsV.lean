/- Contracts of the reference's functions: valid lots, the points on a day. -/
import Derived.Test.YtmlmjapmhdbcpaaLotsW2
namespace Go.Proofs.Ytmlmjapmhdbcpaa
open Go.RowKit

set_option maxHeartbeats 400000 in
theorem specValidLots_any (l : List (Int × Int)) (A : Option Addr) (cap : Nat) (w : World) (h : Sl enc2 2 w w.heap.size A l) (hl : l.length ≤ 9223372036854775807) :
    Calls Try.prog 14 #[.slice A l.length cap] w fun e w' => e = .returned (.bool (vLots l)) ∧ Below w.heap.size w w' := by
  go_enter Try.func14, Try.ntmps14
  go_wp2_with fail
  refine (svalidLots_any l A cap _ h hl).mono ?_
  rintro e w1 ⟨rfl, b1⟩
  go_wp2
  go_ret
  exact ⟨rfl, b1⟩

set_option maxHeartbeats 1600000 in
theorem specPointsOn_any (l : List (Int × Int)) (A : Option Addr) (cap : Nat) (d : Int) (w : World) (h : Sl enc2 2 w w.heap.size A l) (hl : l.length ≤ 9223372036854775807) :
    Calls Try.prog 20 #[.slice A l.length cap, .int .i64 d] w fun e w' => e = .returned (.int .i64 (pOnI l d)) ∧ Below w.heap.size w w' := by
  by_cases hv : vLots l = true
  · by_cases hd : withinB d 0 999 = true
    · have HP := hid (show pOnI l d = ptsW d l by simp [pOnI, hv, hd])
      go_enter Try.func20, Try.ntmps20
      go_wp2_with (first | (go_at_call 29; refine (svalidLots_any l A cap _ h hl).mono ?_; rintro e w1 ⟨rfl, b1⟩) | (go_at_call 27; refine (inRange_any _ _ _ _).mono ?_; rintro e w' ⟨rfl, rfl⟩))
      refine (spointsOn_any l A cap d _ ((h.below b1 (Nat.le_refl _)).more b1.size) hl).mono ?_
      rintro e w2 ⟨rfl, b2⟩
      have z1 := b1.size
      go_wp2
      go_ret
      refine ⟨ret_int HP.out.symm, ?_⟩
      repeat (first | exact Below.refl _ _ | (refine Below.alloc ?_ (by (try simp) <;> omega) _) | (refine Below.setCell ?_ (by (try simp) <;> omega) _) | (refine Below.drew ?_) | (refine below_drewN ?_ _) | (refine Below.trans ?_ (Below.mono (by assumption) (by (try simp) <;> omega))))
    · have hd' : withinB d 0 999 = false := by simpa using hd
      have HP := hid (show pOnI l d = -1 by simp [pOnI, hd'])
      clear hd
      go_enter Try.func20, Try.ntmps20
      go_wp2_with (first | (go_at_call 29; refine (svalidLots_any l A cap _ h hl).mono ?_; rintro e w1 ⟨rfl, b1⟩) | (go_at_call 27; refine (inRange_any _ _ _ _).mono ?_; rintro e w' ⟨rfl, rfl⟩))
      go_ret
      exact ⟨ret_int HP.out.symm, b1⟩
  · have hv' : vLots l = false := by simpa using hv
    have HP := hid (show pOnI l d = -1 by simp [pOnI, hv'])
    clear hv
    go_enter Try.func20, Try.ntmps20
    go_wp2_with (first | (go_at_call 29; refine (svalidLots_any l A cap _ h hl).mono ?_; rintro e w1 ⟨rfl, b1⟩) | (go_at_call 27; refine (inRange_any _ _ _ _).mono ?_; rintro e w' ⟨rfl, rfl⟩))
    go_ret
    exact ⟨ret_int HP.out.symm, b1⟩

end Go.Proofs.Ytmlmjapmhdbcpaa
