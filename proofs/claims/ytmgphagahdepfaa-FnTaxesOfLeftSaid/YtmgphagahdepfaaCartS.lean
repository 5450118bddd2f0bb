/- Contracts: lines of carts of a shop. -/
import Derived.Test.YtmgphagahdepfaaCartP
namespace Go.Proofs.Ytmgphagahdepfaa
open Go.RowKit

set_option maxHeartbeats 3200000 in
theorem svalidCart_any (l : List (Int × Int)) (A : Option Addr) (cap : Nat) (n cs : Nat) (As : Option Addr) (w : World) (h : Sl enc2 2 w w.heap.size A l) (hl : l.length ≤ 9223372036854775807) (hn : n ≤ 1000000000000) :
    Calls Try.prog 38 #[.slice As n cs, .slice A l.length cap] w fun e w' => e = .returned (.bool (vCart n l)) ∧ Below w.heap.size w w' := by
  have hw : IntKind.i64.wrap ((n : Int) - 1) = (n : Int) - 1 := IntWalk.i64_in _ (by omega)
  go_enter Try.func38, Try.ntmps38
  go_wp2_with fail
  go_loopw [5] (fun i wr => ∃ k : Nat, k ≤ l.length ∧ i = .int .i64 k ∧ (List.range k).all (lineOk n l) = true ∧ Below w.heap.size w wr) (fun i _ => l.length - (intOf i).toNat)
  case atStart => exact ⟨0, Nat.zero_le _, rfl, rfl, Below.refl _ _⟩
  case round =>
    obtain ⟨k, hk, rfl, hall, hb⟩ := hrel
    have HA := hid hall
    clear hall
    by_cases hlt : k < l.length
    · obtain ⟨b, off, rfl, hbb, c1, c2⟩ := h.get2 hlt
      have d1 : wr.cell? ⟨b, off + k * 2, none⟩ = some (.int .i64 (g1 l k)) := (hb.cell hbb).trans c1
      have d2 : wr.cell? ⟨b, off + k * 2 + 1, none⟩ = some (.int .i64 (g2 l k)) := (hb.cell hbb).trans c2
      have hbw : b < wr.heap.size := by have := hb.size; omega
      have hsz := hb.size
      clear c1 c2
      by_cases ha : withinB (g1 l k) 0 ((n : Int) - 1) = true
      · by_cases hq : withinB (g2 l k) 1 20 = true
        · by_cases h0 : k = 0
          · have e0 : decide (0 < k) = false := by simp; omega
            have HZ := hid h0
            clear h0
            go_wp2_with fail
            go_quiet ((go_at_call 53; first | exact quiet_same (inRange_yes (by assumption) _) | exact quiet_same (inRange_no (by assumption) _)))
            go_wp2
            go_roundw
            case rel =>
              refine ⟨k + 1, by omega, by go_num, range_all_succ HA.out (by simp [lineOk, ha, hq]; exact Or.inl HZ.out), ?_⟩
              repeat (first | exact Below.refl _ _ | (refine Below.alloc ?_ (by (try simp) <;> omega) _) | (refine Below.setCell ?_ (by (try simp) <;> omega) _) | (refine Below.drew ?_) | (refine below_drewN ?_ _) | (refine Below.trans ?_ (Below.mono (by assumption) (by (try simp) <;> omega))))
            case measure => simp [intOf]; omega
          · have e0 : decide (0 < k) = true := by simp; omega
            have e2 : 0 < k := by omega
            have hk1 : k - 1 < l.length := by omega
            obtain ⟨b', off', he, _, c3, _⟩ := h.get2 hk1
            obtain ⟨rfl, rfl⟩ : b = b' ∧ off = off' := by simpa using he
            have d3 : wr.cell? ⟨b, off + (k - 1) * 2, none⟩ = some (.int .i64 (g1 l (k - 1))) := (hb.cell hbb).trans c3
            clear c3 he
            by_cases hd : g1 l (k - 1) < g1 l k
            · have HD := hid hd
              have e1 : decide (g1 l k ≤ g1 l (k - 1)) = false := by simp; omega
              clear hd
              go_wp2_with fail
              go_quiet ((go_at_call 53; first | exact quiet_same (inRange_yes (by assumption) _) | exact quiet_same (inRange_no (by assumption) _)))
              go_wp2
              go_roundw
              case rel =>
                refine ⟨k + 1, by omega, by go_num, range_all_succ HA.out (by simp [lineOk, ha, hq, HD.out]), ?_⟩
                repeat (first | exact Below.refl _ _ | (refine Below.alloc ?_ (by (try simp) <;> omega) _) | (refine Below.setCell ?_ (by (try simp) <;> omega) _) | (refine Below.drew ?_) | (refine below_drewN ?_ _) | (refine Below.trans ?_ (Below.mono (by assumption) (by (try simp) <;> omega))))
              case measure => simp [intOf]; omega
            · have HD := hid (show decide (g1 l (k - 1) < g1 l k) = false by simpa using hd)
              have HZ := hid h0
              have e1 : decide (g1 l k ≤ g1 l (k - 1)) = true := by simp; omega
              clear hd h0
              go_wp2_with fail
              go_quiet ((go_at_call 53; first | exact quiet_same (inRange_yes (by assumption) _) | exact quiet_same (inRange_no (by assumption) _)))
              go_wp2
              go_ret
              refine ⟨ret_bool ?_, ?_⟩
              · unfold vCart
                rw [range_all_no hlt (by simp [lineOk, HD.out, HZ.out])]; rfl
              · repeat (first | exact Below.refl _ _ | (refine Below.alloc ?_ (by (try simp) <;> omega) _) | (refine Below.setCell ?_ (by (try simp) <;> omega) _) | (refine Below.drew ?_) | (refine below_drewN ?_ _) | (refine Below.trans ?_ (Below.mono (by assumption) (by (try simp) <;> omega))))
        · have hq' : withinB (g2 l k) 1 20 = false := by simpa using hq
          clear hq
          go_wp2_with fail
          go_quiet ((go_at_call 53; first | exact quiet_same (inRange_yes (by assumption) _) | exact quiet_same (inRange_no (by assumption) _)))
          go_wp2
          go_ret
          refine ⟨ret_bool ?_, ?_⟩
          · unfold vCart
            rw [range_all_no hlt (by simp [lineOk, hq'])]; rfl
          · repeat (first | exact Below.refl _ _ | (refine Below.alloc ?_ (by (try simp) <;> omega) _) | (refine Below.setCell ?_ (by (try simp) <;> omega) _) | (refine Below.drew ?_) | (refine below_drewN ?_ _) | (refine Below.trans ?_ (Below.mono (by assumption) (by (try simp) <;> omega))))
      · have ha' : withinB (g1 l k) 0 ((n : Int) - 1) = false := by simpa using ha
        clear ha
        go_wp2_with fail
        go_quiet ((go_at_call 53; first | exact quiet_same (inRange_yes (by assumption) _) | exact quiet_same (inRange_no (by assumption) _)))
        go_wp2
        go_ret
        refine ⟨ret_bool ?_, ?_⟩
        · unfold vCart
          rw [range_all_no hlt (by simp [lineOk, ha'])]; rfl
        · repeat (first | exact Below.refl _ _ | (refine Below.alloc ?_ (by (try simp) <;> omega) _) | (refine Below.setCell ?_ (by (try simp) <;> omega) _) | (refine Below.drew ?_) | (refine below_drewN ?_ _) | (refine Below.trans ?_ (Below.mono (by assumption) (by (try simp) <;> omega))))
    · have hkl : k = l.length := by omega
      subst hkl
      go_wp2
      go_ret
      refine ⟨ret_bool ?_, hb⟩
      unfold vCart
      rw [HA.out, Bool.true_and, decide_eq_decide]
      omega

end Go.Proofs.Ytmgphagahdepfaa
