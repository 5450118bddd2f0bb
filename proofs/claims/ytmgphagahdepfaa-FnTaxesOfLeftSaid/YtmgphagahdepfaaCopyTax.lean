/- Contracts: slices of Tax copied, compared. -/
import Derived.Test.YtmgphagahdepfaaNum
import Derived.Test.YtmgphagahdepfaaApp
import Derived.Test.YtmgphagahdepfaaSl34
import Derived.Deep.RegionHeld3
namespace Go.Proofs.Ytmgphagahdepfaa
open Go.RowKit

set_option maxHeartbeats 400000 in
theorem eqTax_same (x0 x1 x2 : Int) (w : World) :
    Calls Try.prog 45 #[.agg #[.int .i64 x0, .int .i64 x1, .int .i64 x2], .agg #[.int .i64 x0, .int .i64 x1, .int .i64 x2]] w fun e w' => e = .returned (.bool true) ∧ Below w.heap.size w w' := by
  go_enter Try.func45, Try.ntmps45
  go_wp2
  go_ret
  refine ⟨rfl, ?_⟩
  repeat (first | exact Below.refl _ _ | (refine Below.alloc ?_ (by (try simp) <;> omega) _) | (refine Below.setCell ?_ (by (try simp) <;> omega) _) | (refine Below.drew ?_) | (refine below_drewN ?_ _) | (refine Below.trans ?_ (Below.mono (by assumption) (by (try simp) <;> omega))))

set_option maxHeartbeats 1600000 in
theorem eqTaxS_same (l : List (Int × Int × Int)) (A A' : Option Addr) (cap cap' : Nat) (w : World) (h : Sl enc3 3 w w.heap.size A l) (h' : Sl enc3 3 w w.heap.size A' l) (hl : l.length ≤ 1048576) :
    Calls Try.prog 21 #[.slice A l.length cap, .slice A' l.length cap'] w fun e w' => e = .returned (.bool true) ∧ Below w.heap.size w w' := by
  go_enter Try.func21, Try.ntmps21
  go_wp2_with fail
  go_loopw [5] (fun i wr => ∃ k : Nat, k ≤ l.length ∧ i = .int .i64 k ∧ Below w.heap.size w wr) (fun i _ => l.length - (intOf i).toNat)
  case atStart => exact ⟨0, Nat.zero_le _, rfl, Below.refl _ _⟩
  case round =>
    obtain ⟨k, hk, rfl, hb⟩ := hrel
    have hsz := hb.size
    by_cases hlt : k < l.length
    · obtain ⟨b, off, rfl, hbb, c0, c1, c2⟩ := h.get3 hlt
      obtain ⟨b', off', rfl, hbb', u0, u1, u2⟩ := h'.get3 hlt
      have d0 : wr.cell? ⟨b, off + k * 3, none⟩ = some (.int .i64 (t1 l k)) := (hb.cell hbb).trans c0
      have d1 : wr.cell? ⟨b, off + k * 3 + 1, none⟩ = some (.int .i64 (t2 l k)) := (hb.cell hbb).trans c1
      have d2 : wr.cell? ⟨b, off + k * 3 + 2, none⟩ = some (.int .i64 (t3 l k)) := (hb.cell hbb).trans c2
      have v0 : wr.cell? ⟨b', off' + k * 3, none⟩ = some (.int .i64 (t1 l k)) := (hb.cell hbb').trans u0
      have v1 : wr.cell? ⟨b', off' + k * 3 + 1, none⟩ = some (.int .i64 (t2 l k)) := (hb.cell hbb').trans u1
      have v2 : wr.cell? ⟨b', off' + k * 3 + 2, none⟩ = some (.int .i64 (t3 l k)) := (hb.cell hbb').trans u2
      have hkl : (k : Int) < (l.length : Int) := by omega
      have y1 : b < wr.heap.size := by omega
      have y2 : b' < wr.heap.size := by omega
      clear c0 c1 c2 u0 u1 u2
      go_wp2_with fail
      go_region_held3 (fun x => x.cell? ⟨b, off + k * 3, none⟩ = some (.int .i64 (t1 l k)) ∧ x.cell? ⟨b, off + k * 3 + 1, none⟩ = some (.int .i64 (t2 l k)) ∧ x.cell? ⟨b, off + k * 3 + 2, none⟩ = some (.int .i64 (t3 l k)) ∧ x.cell? ⟨b', off' + k * 3, none⟩ = some (.int .i64 (t1 l k)) ∧ x.cell? ⟨b', off' + k * 3 + 1, none⟩ = some (.int .i64 (t2 l k)) ∧ x.cell? ⟨b', off' + k * 3 + 2, none⟩ = some (.int .i64 (t3 l k))) (((repeat' apply And.intro) <;> first | assumption | (simp [go_sem, *]; done))) ((go_at_call 45; refine (eqTax_same _ _ _ _).mono ?_; rintro e w5 ⟨rfl, b5⟩; have e0 : w5.cell? ⟨b, off + k * 3, none⟩ = some (.int .i64 (t1 l k)) := (b5.cell (p := ⟨b, off + k * 3, none⟩) (by (try simp) <;> omega)).trans (by assumption); have e1 : w5.cell? ⟨b, off + k * 3 + 1, none⟩ = some (.int .i64 (t2 l k)) := (b5.cell (p := ⟨b, off + k * 3 + 1, none⟩) (by (try simp) <;> omega)).trans (by assumption); have e2 : w5.cell? ⟨b, off + k * 3 + 2, none⟩ = some (.int .i64 (t3 l k)) := (b5.cell (p := ⟨b, off + k * 3 + 2, none⟩) (by (try simp) <;> omega)).trans (by assumption); have e3 : w5.cell? ⟨b', off' + k * 3, none⟩ = some (.int .i64 (t1 l k)) := (b5.cell (p := ⟨b', off' + k * 3, none⟩) (by (try simp) <;> omega)).trans (by assumption); have e4 : w5.cell? ⟨b', off' + k * 3 + 1, none⟩ = some (.int .i64 (t2 l k)) := (b5.cell (p := ⟨b', off' + k * 3 + 1, none⟩) (by (try simp) <;> omega)).trans (by assumption); have e5 : w5.cell? ⟨b', off' + k * 3 + 2, none⟩ = some (.int .i64 (t3 l k)) := (b5.cell (p := ⟨b', off' + k * 3 + 2, none⟩) (by (try simp) <;> omega)).trans (by assumption)))
      go_wp2
      go_roundw
      case rel =>
        refine ⟨k + 1, by omega, by go_num, ?_⟩
        repeat (first | exact Below.refl _ _ | (refine Below.alloc ?_ (by (try simp) <;> omega) _) | (refine Below.setCell ?_ (by (try simp) <;> omega) _) | (refine Below.drew ?_) | (refine below_drewN ?_ _) | (refine Below.trans ?_ (Below.mono (by assumption) (by (try simp) <;> omega))))
      case measure => simp [intOf]; omega
    · have hkl : k = l.length := by omega
      subst hkl
      go_wp2
      go_ret
      exact ⟨rfl, hb⟩

set_option maxHeartbeats 1600000 in
theorem equalTaxes_same (l : List (Int × Int × Int)) (A A' : Option Addr) (cap cap' : Nat) (w : World) (h : Sl enc3 3 w w.heap.size A l) (h' : Sl enc3 3 w w.heap.size A' l) (hl : l.length ≤ 1048576) :
    Calls Try.prog 35 #[.slice A l.length cap, .slice A' l.length cap'] w fun e w' => e = .returned (.bool true) ∧ Below w.heap.size w w' := by
  go_enter Try.func35, Try.ntmps35
  go_wp2_with fail
  go_loopw [5] (fun i wr => ∃ k : Nat, k ≤ l.length ∧ i = .int .i64 k ∧ Below w.heap.size w wr) (fun i _ => l.length - (intOf i).toNat)
  case atStart => exact ⟨0, Nat.zero_le _, rfl, Below.refl _ _⟩
  case round =>
    obtain ⟨k, hk, rfl, hb⟩ := hrel
    by_cases hlt : k < l.length
    · obtain ⟨b, off, rfl, hbb, c0, c1, c2⟩ := h.get3 hlt
      obtain ⟨b', off', rfl, hbb', u0, u1, u2⟩ := h'.get3 hlt
      have d0 : wr.cell? ⟨b, off + k * 3, none⟩ = some (.int .i64 (t1 l k)) := (hb.cell hbb).trans c0
      have d1 : wr.cell? ⟨b, off + k * 3 + 1, none⟩ = some (.int .i64 (t2 l k)) := (hb.cell hbb).trans c1
      have d2 : wr.cell? ⟨b, off + k * 3 + 2, none⟩ = some (.int .i64 (t3 l k)) := (hb.cell hbb).trans c2
      have v0 : wr.cell? ⟨b', off' + k * 3, none⟩ = some (.int .i64 (t1 l k)) := (hb.cell hbb').trans u0
      have v1 : wr.cell? ⟨b', off' + k * 3 + 1, none⟩ = some (.int .i64 (t2 l k)) := (hb.cell hbb').trans u1
      have v2 : wr.cell? ⟨b', off' + k * 3 + 2, none⟩ = some (.int .i64 (t3 l k)) := (hb.cell hbb').trans u2
      have hkl : (k : Int) < (l.length : Int) := by omega
      clear c0 c1 c2 u0 u1 u2
      go_wp2_with fail
      go_quiet (fail)
      go_wp2
      go_roundw
      case rel =>
        refine ⟨k + 1, by omega, by go_num, ?_⟩
        repeat (first | exact Below.refl _ _ | (refine Below.alloc ?_ (by (try simp) <;> omega) _) | (refine Below.setCell ?_ (by (try simp) <;> omega) _) | (refine Below.drew ?_) | (refine below_drewN ?_ _) | (refine Below.trans ?_ (Below.mono (by assumption) (by (try simp) <;> omega))))
      case measure => simp [intOf]; omega
    · have hkl : k = l.length := by omega
      subst hkl
      go_wp2
      go_ret
      exact ⟨rfl, hb⟩

end Go.Proofs.Ytmgphagahdepfaa
