/- Contracts: valid shops. -/
import Derived.Test.YtmgphagahdepfaaTaxL
namespace Go.Proofs.Ytmgphagahdepfaa
open Go.RowKit

set_option maxHeartbeats 3200000 in
theorem validShop_any (l : List (Int × Int × Int × Int)) (A : Option Addr) (cap : Nat) (w : World) (h : Sl enc4 4 w w.heap.size A l) (hl : l.length ≤ 1000000000000) :
    Calls Try.prog 64 #[.slice A l.length cap] w fun e w' => e = .returned (.bool (vShop l)) ∧ Below w.heap.size w w' := by
  go_enter Try.func64, Try.ntmps64
  go_wp2_with fail
  go_loopw [7] (fun i wr => ∃ k : Nat, k ≤ l.length ∧ i = .int .i64 k ∧ (List.range k).all (artOk l) = true ∧ Below w.heap.size w wr) (fun i _ => l.length - (intOf i).toNat)
  case atStart => exact ⟨0, Nat.zero_le _, rfl, rfl, Below.refl _ _⟩
  case round =>
    obtain ⟨k, hk, rfl, hall, hb⟩ := hrel
    have HA := hid hall
    clear hall
    by_cases hlt : k < l.length
    · obtain ⟨b, off, rfl, hbb, c1, c2, c3, c4⟩ := h.get4 hlt
      have d1 : wr.cell? ⟨b, off + k * 4, none⟩ = some (.int .i64 (q1 l k)) := (hb.cell hbb).trans c1
      have d2 : wr.cell? ⟨b, off + k * 4 + 1, none⟩ = some (.int .i64 (q2 l k)) := (hb.cell hbb).trans c2
      have d3 : wr.cell? ⟨b, off + k * 4 + 2, none⟩ = some (.int .i64 (q3 l k)) := (hb.cell hbb).trans c3
      have d4 : wr.cell? ⟨b, off + k * 4 + 3, none⟩ = some (.int .i64 (q4 l k)) := (hb.cell hbb).trans c4
      have hbw : b < wr.heap.size := by have := hb.size; omega
      have hsz := hb.size
      clear c1 c2 c3 c4
      by_cases ha0 : withinB (q1 l k) 1 5000 = true
      · skip
        by_cases ha1 : withinB (q2 l k) 0 2 = true
        · skip
          by_cases ha2 : withinB (q3 l k) 0 300 = true
          · skip
            by_cases ha3 : withinB (q4 l k) 0 5000 = true
            · skip
              go_wp2_with ((go_at_call 52; (first | (refine (within_yes (by assumption) _).mono ?_) | (refine (within_no (by assumption) _).mono ?_)); rintro e w' ⟨rfl, rfl⟩))
              go_roundw
              case rel =>
                refine ⟨k + 1, by omega, by go_num, range_all_succ HA.out (by simp [artOk, ha0, ha1, ha2, ha3]), ?_⟩
                repeat (first | exact Below.refl _ _ | (refine Below.alloc ?_ (by (try simp) <;> omega) _) | (refine Below.setCell ?_ (by (try simp) <;> omega) _) | (refine Below.drew ?_) | (refine below_drewN ?_ _) | (refine Below.trans ?_ (Below.mono (by assumption) (by (try simp) <;> omega))))
              case measure => simp [intOf]; omega
            · have hn : withinB (q4 l k) 0 5000 = false := by simpa using ha3
              clear ha3
              go_wp2_with ((go_at_call 52; (first | (refine (within_yes (by assumption) _).mono ?_) | (refine (within_no (by assumption) _).mono ?_)); rintro e w' ⟨rfl, rfl⟩))
              go_ret
              refine ⟨ret_bool ?_, ?_⟩
              · unfold vShop
                rw [range_all_no hlt (by simp [artOk, hn])]; rfl
              · repeat (first | exact Below.refl _ _ | (refine Below.alloc ?_ (by (try simp) <;> omega) _) | (refine Below.setCell ?_ (by (try simp) <;> omega) _) | (refine Below.drew ?_) | (refine below_drewN ?_ _) | (refine Below.trans ?_ (Below.mono (by assumption) (by (try simp) <;> omega))))
          · have hn : withinB (q3 l k) 0 300 = false := by simpa using ha2
            clear ha2
            go_wp2_with ((go_at_call 52; (first | (refine (within_yes (by assumption) _).mono ?_) | (refine (within_no (by assumption) _).mono ?_)); rintro e w' ⟨rfl, rfl⟩))
            go_ret
            refine ⟨ret_bool ?_, ?_⟩
            · unfold vShop
              rw [range_all_no hlt (by simp [artOk, hn])]; rfl
            · repeat (first | exact Below.refl _ _ | (refine Below.alloc ?_ (by (try simp) <;> omega) _) | (refine Below.setCell ?_ (by (try simp) <;> omega) _) | (refine Below.drew ?_) | (refine below_drewN ?_ _) | (refine Below.trans ?_ (Below.mono (by assumption) (by (try simp) <;> omega))))
        · have hn : withinB (q2 l k) 0 2 = false := by simpa using ha1
          clear ha1
          go_wp2_with ((go_at_call 52; (first | (refine (within_yes (by assumption) _).mono ?_) | (refine (within_no (by assumption) _).mono ?_)); rintro e w' ⟨rfl, rfl⟩))
          go_ret
          refine ⟨ret_bool ?_, ?_⟩
          · unfold vShop
            rw [range_all_no hlt (by simp [artOk, hn])]; rfl
          · repeat (first | exact Below.refl _ _ | (refine Below.alloc ?_ (by (try simp) <;> omega) _) | (refine Below.setCell ?_ (by (try simp) <;> omega) _) | (refine Below.drew ?_) | (refine below_drewN ?_ _) | (refine Below.trans ?_ (Below.mono (by assumption) (by (try simp) <;> omega))))
      · have hn : withinB (q1 l k) 1 5000 = false := by simpa using ha0
        clear ha0
        go_wp2_with ((go_at_call 52; (first | (refine (within_yes (by assumption) _).mono ?_) | (refine (within_no (by assumption) _).mono ?_)); rintro e w' ⟨rfl, rfl⟩))
        go_ret
        refine ⟨ret_bool ?_, ?_⟩
        · unfold vShop
          rw [range_all_no hlt (by simp [artOk, hn])]; rfl
        · repeat (first | exact Below.refl _ _ | (refine Below.alloc ?_ (by (try simp) <;> omega) _) | (refine Below.setCell ?_ (by (try simp) <;> omega) _) | (refine Below.drew ?_) | (refine below_drewN ?_ _) | (refine Below.trans ?_ (Below.mono (by assumption) (by (try simp) <;> omega))))
    · have hkl : k = l.length := by omega
      subst hkl
      by_cases hz : withinB (l.length : Int) 1 10 = true
      · go_wp2_with ((go_at_call 52; (first | (refine (within_yes (by assumption) _).mono ?_) | (refine (within_no (by assumption) _).mono ?_)); rintro e w' ⟨rfl, rfl⟩))
        go_ret
        refine ⟨ret_bool ?_, hb⟩
        unfold vShop
        rw [HA.out, hz]; rfl
      · have hn : withinB (l.length : Int) 1 10 = false := by simpa using hz
        clear hz
        go_wp2_with ((go_at_call 52; (first | (refine (within_yes (by assumption) _).mono ?_) | (refine (within_no (by assumption) _).mono ?_)); rintro e w' ⟨rfl, rfl⟩))
        go_ret
        refine ⟨ret_bool ?_, hb⟩
        unfold vShop
        rw [HA.out, hn]; rfl

end Go.Proofs.Ytmgphagahdepfaa
