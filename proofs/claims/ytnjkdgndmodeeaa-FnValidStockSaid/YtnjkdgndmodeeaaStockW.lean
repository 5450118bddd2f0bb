/- Contracts: valid stocks. -/
import Derived.Test.YtnjkdgndmodeeaaStockP
namespace Go.Proofs.Ytnjkdgndmodeeaa
open Go.RowKit

set_option maxHeartbeats 3200000 in
theorem validStock_any (l : List (Int × Int)) (A : Option Addr) (cap : Nat) (w : World) (h : Sl enc2 2 w w.heap.size A l) (hl : l.length ≤ 9223372036854775807) :
    Calls Try.prog 6 #[.slice A l.length cap] w fun e w' => e = .returned (.bool (vStock l)) ∧ Below w.heap.size w w' := by
  go_enter Try.func6, Try.ntmps6
  go_wp2_with fail
  go_loopw [7] (fun i wr => ∃ k : Nat, k ≤ l.length ∧ i = .int .i64 k ∧ (List.range k).all (stockOk l) = true ∧ Below w.heap.size w wr) (fun i _ => l.length - (intOf i).toNat)
  case atStart => exact ⟨0, Nat.zero_le _, rfl, rfl, Below.refl _ _⟩
  case round =>
    obtain ⟨k, hk, rfl, hall, hb⟩ := hrel
    have HA := hid hall
    clear hall
    by_cases hlt : k < l.length
    · obtain ⟨b, off, rfl, hbb, c1, c2⟩ := h.get2 hlt
      have d1 : wr.cell? ⟨b, off + k * 2, none⟩ = some (.int .i64 (g1 l k)) := (hb.cell hbb).trans c1
      have d2 : wr.cell? ⟨b, off + k * 2 + 1, none⟩ = some (.int .i64 (g2 l k)) := (hb.cell hbb).trans c2
      have hbw : b < wr.heap.size := by have := hb.size; omega
      have hsz := hb.size
      clear c1 c2
      by_cases ha : withinB (g1 l k) 0 100 = true
      · by_cases hq : withinB (g2 l k) 0 100 = true
        · go_wp2_with ((go_at_call 13; (first | (refine (within_yes (by assumption) _).mono ?_) | (refine (within_no (by assumption) _).mono ?_)); rintro e w' ⟨rfl, rfl⟩))
          go_roundw
          case rel =>
            refine ⟨k + 1, by omega, by go_num, range_all_succ HA.out (by simp [stockOk, ha, hq]), ?_⟩
            repeat (first | exact Below.refl _ _ | (refine Below.alloc ?_ (by (try simp) <;> omega) _) | (refine Below.setCell ?_ (by (try simp) <;> omega) _) | (refine Below.drew ?_) | (refine below_drewN ?_ _) | (refine Below.trans ?_ (Below.mono (by assumption) (by (try simp) <;> omega))))
          case measure => simp [intOf]; omega
        · have hq' : withinB (g2 l k) 0 100 = false := by simpa using hq
          clear hq
          go_wp2_with ((go_at_call 13; (first | (refine (within_yes (by assumption) _).mono ?_) | (refine (within_no (by assumption) _).mono ?_)); rintro e w' ⟨rfl, rfl⟩))
          go_ret
          refine ⟨ret_bool ?_, ?_⟩
          · unfold vStock
            rw [range_all_no hlt (by simp [stockOk, hq'])]; rfl
          · repeat (first | exact Below.refl _ _ | (refine Below.alloc ?_ (by (try simp) <;> omega) _) | (refine Below.setCell ?_ (by (try simp) <;> omega) _) | (refine Below.drew ?_) | (refine below_drewN ?_ _) | (refine Below.trans ?_ (Below.mono (by assumption) (by (try simp) <;> omega))))
      · have ha' : withinB (g1 l k) 0 100 = false := by simpa using ha
        clear ha
        go_wp2_with ((go_at_call 13; (first | (refine (within_yes (by assumption) _).mono ?_) | (refine (within_no (by assumption) _).mono ?_)); rintro e w' ⟨rfl, rfl⟩))
        go_ret
        refine ⟨ret_bool ?_, ?_⟩
        · unfold vStock
          rw [range_all_no hlt (by simp [stockOk, ha'])]; rfl
        · repeat (first | exact Below.refl _ _ | (refine Below.alloc ?_ (by (try simp) <;> omega) _) | (refine Below.setCell ?_ (by (try simp) <;> omega) _) | (refine Below.drew ?_) | (refine below_drewN ?_ _) | (refine Below.trans ?_ (Below.mono (by assumption) (by (try simp) <;> omega))))
    · have hkl : k = l.length := by omega
      subst hkl
      go_wp2_with (go_at_call 13; refine (within_any _ _ _ _).mono ?_; rintro e w' ⟨rfl, rfl⟩)
      go_ret
      refine ⟨ret_bool ?_, hb⟩
      unfold vStock
      rw [HA.out, Bool.true_and]

set_option maxHeartbeats 3200000 in
theorem svalidStock_any (l : List (Int × Int)) (A : Option Addr) (cap : Nat) (w : World) (h : Sl enc2 2 w w.heap.size A l) (hl : l.length ≤ 9223372036854775807) :
    Calls Try.prog 14 #[.slice A l.length cap] w fun e w' => e = .returned (.bool (vStock l)) ∧ Below w.heap.size w w' := by
  go_enter Try.func14, Try.ntmps14
  go_wp2_with fail
  go_loopw [3] (fun i wr => ∃ k : Nat, k ≤ l.length ∧ i = .int .i64 k ∧ (List.range k).all (stockOk l) = true ∧ Below w.heap.size w wr) (fun i _ => l.length - (intOf i).toNat)
  case atStart => exact ⟨0, Nat.zero_le _, rfl, rfl, Below.refl _ _⟩
  case round =>
    obtain ⟨k, hk, rfl, hall, hb⟩ := hrel
    have HA := hid hall
    clear hall
    by_cases hlt : k < l.length
    · obtain ⟨b, off, rfl, hbb, c1, c2⟩ := h.get2 hlt
      have d1 : wr.cell? ⟨b, off + k * 2, none⟩ = some (.int .i64 (g1 l k)) := (hb.cell hbb).trans c1
      have d2 : wr.cell? ⟨b, off + k * 2 + 1, none⟩ = some (.int .i64 (g2 l k)) := (hb.cell hbb).trans c2
      have hbw : b < wr.heap.size := by have := hb.size; omega
      have hsz := hb.size
      clear c1 c2
      by_cases ha : withinB (g1 l k) 0 100 = true
      · by_cases hq : withinB (g2 l k) 0 100 = true
        · go_wp2_with ((go_at_call 19; (first | (refine (inRange_yes (by assumption) _).mono ?_) | (refine (inRange_no (by assumption) _).mono ?_)); rintro e w' ⟨rfl, rfl⟩))
          go_roundw
          case rel =>
            refine ⟨k + 1, by omega, by go_num, range_all_succ HA.out (by simp [stockOk, ha, hq]), ?_⟩
            repeat (first | exact Below.refl _ _ | (refine Below.alloc ?_ (by (try simp) <;> omega) _) | (refine Below.setCell ?_ (by (try simp) <;> omega) _) | (refine Below.drew ?_) | (refine below_drewN ?_ _) | (refine Below.trans ?_ (Below.mono (by assumption) (by (try simp) <;> omega))))
          case measure => simp [intOf]; omega
        · have hq' : withinB (g2 l k) 0 100 = false := by simpa using hq
          clear hq
          go_wp2_with ((go_at_call 19; (first | (refine (inRange_yes (by assumption) _).mono ?_) | (refine (inRange_no (by assumption) _).mono ?_)); rintro e w' ⟨rfl, rfl⟩))
          go_ret
          refine ⟨ret_bool ?_, ?_⟩
          · unfold vStock
            rw [range_all_no hlt (by simp [stockOk, hq'])]; rfl
          · repeat (first | exact Below.refl _ _ | (refine Below.alloc ?_ (by (try simp) <;> omega) _) | (refine Below.setCell ?_ (by (try simp) <;> omega) _) | (refine Below.drew ?_) | (refine below_drewN ?_ _) | (refine Below.trans ?_ (Below.mono (by assumption) (by (try simp) <;> omega))))
      · have ha' : withinB (g1 l k) 0 100 = false := by simpa using ha
        clear ha
        go_wp2_with ((go_at_call 19; (first | (refine (inRange_yes (by assumption) _).mono ?_) | (refine (inRange_no (by assumption) _).mono ?_)); rintro e w' ⟨rfl, rfl⟩))
        go_ret
        refine ⟨ret_bool ?_, ?_⟩
        · unfold vStock
          rw [range_all_no hlt (by simp [stockOk, ha'])]; rfl
        · repeat (first | exact Below.refl _ _ | (refine Below.alloc ?_ (by (try simp) <;> omega) _) | (refine Below.setCell ?_ (by (try simp) <;> omega) _) | (refine Below.drew ?_) | (refine below_drewN ?_ _) | (refine Below.trans ?_ (Below.mono (by assumption) (by (try simp) <;> omega))))
    · have hkl : k = l.length := by omega
      subst hkl
      go_wp2_with (go_at_call 19; refine (inRange_any _ _ _ _).mono ?_; rintro e w' ⟨rfl, rfl⟩)
      go_ret
      refine ⟨ret_bool ?_, hb⟩
      unfold vStock
      rw [HA.out, Bool.true_and]

end Go.Proofs.Ytnjkdgndmodeeaa
