/- Contracts: slices of numbers compared and summed. -/
import Derived.Test.YtmgphagahdepfaaNum
import Derived.Test.YtmgphagahdepfaaOwn
import Derived.Deep.RegionHeld3
namespace Go.Proofs.Ytmgphagahdepfaa
open Go.RowKit

set_option maxHeartbeats 1600000 in
theorem eqIntS_same (l : List Int) (A A' : Option Addr) (cap cap' : Nat) (w : World) (h : Sl enc1 1 w w.heap.size A l) (h' : Sl enc1 1 w w.heap.size A' l) (hl : l.length ≤ 1048576) :
    Calls Try.prog 24 #[.slice A l.length cap, .slice A' l.length cap'] w fun e w' => e = .returned (.bool true) ∧ Below w.heap.size w w' := by
  go_enter Try.func24, Try.ntmps24
  go_wp2_with fail
  go_loopw [5] (fun i wr => ∃ k : Nat, k ≤ l.length ∧ i = .int .i64 k ∧ Below w.heap.size w wr) (fun i _ => l.length - (intOf i).toNat)
  case atStart => exact ⟨0, Nat.zero_le _, rfl, Below.refl _ _⟩
  case round =>
    obtain ⟨k, hk, rfl, hb⟩ := hrel
    by_cases hlt : k < l.length
    · obtain ⟨b, off, rfl, hbb, c1⟩ := h.get1 hlt
      obtain ⟨b', off', rfl, hbb', c3⟩ := h'.get1 hlt
      have d1 : wr.cell? ⟨b, off + k, none⟩ = some (.int .i64 (g0 l k)) := (hb.cell hbb).trans c1
      have d3 : wr.cell? ⟨b', off' + k, none⟩ = some (.int .i64 (g0 l k)) := (hb.cell hbb').trans c3
      have hkl : (k : Int) < (l.length : Int) := by omega
      clear c1 c3
      go_wp2_with fail
      go_quiet (fail)
      go_wp2
      go_roundw
      case rel =>
        refine ⟨k + 1, by omega, by go_num, ?_⟩
        repeat (first | exact Below.refl _ _ | (refine Below.alloc ?_ (by (try simp) <;> omega) _) | (refine Below.setCell ?_ (by (try simp) <;> omega) _) | (refine Below.drew ?_) | (refine below_drewN ?_ _) | (refine Below.trans ?_ (Below.mono (by assumption) (by (try simp) <;> omega))))
      case measure => simp [intOf]; omega
    · have hkl : k = l.length := by omega
      subst hkl
      go_wp2
      go_ret
      exact ⟨rfl, hb⟩

end Go.Proofs.Ytmgphagahdepfaa
