/- Contracts: the points on a day. -/
import Derived.Test.YtdnfhpgiphobgaaLotsW
namespace Go.Proofs.Ytdnfhpgiphobgaa
open Go.RowKit

def pOnI (l : List (Int × Int)) (d : Int) : Int := if vLots l && withinB d 0 999 then ptsW d l else -1

set_option maxHeartbeats 1600000 in
theorem pointsOn_any (l : List (Int × Int)) (A : Option Addr) (cap : Nat) (d : Int) (w : World) (h : Sl enc2 2 w w.heap.size A l) (hl : l.length ≤ 9223372036854775807) :
    Calls Try.prog 19 #[.slice A l.length cap, .int .i64 d] w fun e w' => e = .returned (.int .i64 (pOnI l d)) ∧ Below w.heap.size w w' := by
  by_cases hv : vLots l = true
  · by_cases hd : withinB d 0 999 = true
    · have HP := hid (show pOnI l d = ptsW d l by simp [pOnI, hv, hd])
      go_enter Try.func19, Try.ntmps19
      go_wp2_with (first | (go_at_call 18; refine (validLots_any l A cap _ h hl).mono ?_; rintro e w1 ⟨rfl, b1⟩) | (go_at_call 30; refine (within_any _ _ _ _).mono ?_; rintro e w' ⟨rfl, rfl⟩))
      have h1 := h.below b1 (Nat.le_refl _)
      have z1 := b1.size
      go_loopw [18, 5] (fun i v wr => ∃ k : Nat, k ≤ l.length ∧ i = .int .i64 k ∧ v = .int .i64 (ptsW d (l.take k)) ∧ Below w.heap.size w wr) (fun i _ _ => l.length - (intOf i).toNat)
      case atStart => exact ⟨0, Nat.zero_le _, rfl, rfl, b1⟩
      case round =>
        obtain ⟨k, hk, rfl, rfl, hb⟩ := hrel
        have hsz := hb.size
        by_cases hlt : k < l.length
        · obtain ⟨b, off, rfl, hbb, c1, c2⟩ := h.get2 hlt
          have d1 : wr.cell? ⟨b, off + k * 2, none⟩ = some (.int .i64 (g1 l k)) := (hb.cell hbb).trans c1
          have d2 : wr.cell? ⟨b, off + k * 2 + 1, none⟩ = some (.int .i64 (g2 l k)) := (hb.cell hbb).trans c2
          have hbw : b < wr.heap.size := by omega
          have HS := hid (ptsW_step (day := d) hlt)
          clear c1 c2
          by_cases hq : d ≤ g1 l k
          · go_wp2
            go_roundw
            case rel =>
              refine ⟨k + 1, by omega, by go_num, ?_, ?_⟩
              · rw [HS.out, if_pos hq]
              · repeat (first | exact Below.refl _ _ | (refine Below.alloc ?_ (by (try simp) <;> omega) _) | (refine Below.setCell ?_ (by (try simp) <;> omega) _) | (refine Below.drew ?_) | (refine below_drewN ?_ _) | (refine Below.trans ?_ (Below.mono (by assumption) (by (try simp) <;> omega))))
            case measure => simp [intOf]; omega
          · have HQ := hid hq
            go_wp2
            go_roundw
            case rel =>
              refine ⟨k + 1, by omega, by go_num, ?_, ?_⟩
              · rw [HS.out, if_neg HQ.out]
              · repeat (first | exact Below.refl _ _ | (refine Below.alloc ?_ (by (try simp) <;> omega) _) | (refine Below.setCell ?_ (by (try simp) <;> omega) _) | (refine Below.drew ?_) | (refine below_drewN ?_ _) | (refine Below.trans ?_ (Below.mono (by assumption) (by (try simp) <;> omega))))
            case measure => simp [intOf]; omega
        · have hkl : k = l.length := by omega
          subst hkl
          go_wp2
          go_ret
          refine ⟨ret_int ?_, hb⟩
          rw [HP.out, List.take_length]
    · have hd' : withinB d 0 999 = false := by simpa using hd
      have HP := hid (show pOnI l d = -1 by simp [pOnI, hd'])
      clear hd
      go_enter Try.func19, Try.ntmps19
      go_wp2_with (first | (go_at_call 18; refine (validLots_any l A cap _ h hl).mono ?_; rintro e w1 ⟨rfl, b1⟩) | (go_at_call 30; refine (within_any _ _ _ _).mono ?_; rintro e w' ⟨rfl, rfl⟩))
      go_ret
      exact ⟨ret_int HP.out.symm, b1⟩
  · have hv' : vLots l = false := by simpa using hv
    have HP := hid (show pOnI l d = -1 by simp [pOnI, hv'])
    clear hv
    go_enter Try.func19, Try.ntmps19
    go_wp2_with (first | (go_at_call 18; refine (validLots_any l A cap _ h hl).mono ?_; rintro e w1 ⟨rfl, b1⟩) | (go_at_call 30; refine (within_any _ _ _ _).mono ?_; rintro e w' ⟨rfl, rfl⟩))
    go_ret
    exact ⟨ret_int HP.out.symm, b1⟩

set_option maxHeartbeats 1600000 in
theorem spointsOn_any (l : List (Int × Int)) (A : Option Addr) (cap : Nat) (d : Int) (w : World) (h : Sl enc2 2 w w.heap.size A l) (hl : l.length ≤ 9223372036854775807) :
    Calls Try.prog 33 #[.slice A l.length cap, .int .i64 d] w fun e w' => e = .returned (.int .i64 (ptsW d l)) ∧ Below w.heap.size w w' := by
  go_enter Try.func33, Try.ntmps33
  go_wp2_with fail
  go_loopw [6, 5] (fun i v wr => ∃ k : Nat, k ≤ l.length ∧ i = .int .i64 k ∧ v = .int .i64 (ptsW d (l.take k)) ∧ Below w.heap.size w wr) (fun i _ _ => l.length - (intOf i).toNat)
  case atStart => exact ⟨0, Nat.zero_le _, rfl, rfl, Below.refl _ _⟩
  case round =>
    obtain ⟨k, hk, rfl, rfl, hb⟩ := hrel
    have hsz := hb.size
    by_cases hlt : k < l.length
    · obtain ⟨b, off, rfl, hbb, c1, c2⟩ := h.get2 hlt
      have d1 : wr.cell? ⟨b, off + k * 2, none⟩ = some (.int .i64 (g1 l k)) := (hb.cell hbb).trans c1
      have d2 : wr.cell? ⟨b, off + k * 2 + 1, none⟩ = some (.int .i64 (g2 l k)) := (hb.cell hbb).trans c2
      have HS := hid (ptsW_step (day := d) hlt)
      clear c1 c2
      by_cases hq : d ≤ g1 l k
      · go_wp2
        go_roundw
        case rel =>
          refine ⟨k + 1, by omega, by go_num, ?_, ?_⟩
          · rw [HS.out, if_pos hq]
          · repeat (first | exact Below.refl _ _ | (refine Below.alloc ?_ (by (try simp) <;> omega) _) | (refine Below.setCell ?_ (by (try simp) <;> omega) _) | (refine Below.drew ?_) | (refine below_drewN ?_ _) | (refine Below.trans ?_ (Below.mono (by assumption) (by (try simp) <;> omega))))
        case measure => simp [intOf]; omega
      · have HQ := hid hq
        go_wp2
        go_roundw
        case rel =>
          refine ⟨k + 1, by omega, by go_num, ?_, ?_⟩
          · rw [HS.out, if_neg HQ.out]
          · repeat (first | exact Below.refl _ _ | (refine Below.alloc ?_ (by (try simp) <;> omega) _) | (refine Below.setCell ?_ (by (try simp) <;> omega) _) | (refine Below.drew ?_) | (refine below_drewN ?_ _) | (refine Below.trans ?_ (Below.mono (by assumption) (by (try simp) <;> omega))))
        case measure => simp [intOf]; omega
    · have hkl : k = l.length := by omega
      subst hkl
      go_wp2
      go_ret
      refine ⟨ret_int ?_, hb⟩
      rw [List.take_length]

end Go.Proofs.Ytdnfhpgiphobgaa
