/- Contract: what is left of the lines, as the paper says it. -/
import Derived.Test.YtmgphagahdepfaaAmtsS
namespace Go.Proofs.Ytmgphagahdepfaa
open Go.RowKit

theorem amts_len (s : List (Int × Int × Int × Int)) (c : List (Int × Int)) : (amts s c).length = c.length := by simp [amts]
theorem amts_at {s : List (Int × Int × Int × Int)} {c : List (Int × Int)} {k : Nat} (h : k < c.length) : g0 (amts s c) k = amt s c k := by
  simp [g0, amts, List.getD, h]
theorem vLeft_no {s : List (Int × Int × Int × Int)} {c : List (Int × Int)} {l : List Int} (h : l.length ≠ c.length) : vLeft s c l = false := by
  simp [vLeft, h]
theorem vLeft_yes {s : List (Int × Int × Int × Int)} {c : List (Int × Int)} {l : List Int} (h : l.length = c.length) (ha : (List.range c.length).all (lftOk s c l) = true) : vLeft s c l = true := by
  unfold vLeft; rw [ha]; simp [h]
theorem vLeft_bad {s : List (Int × Int × Int × Int)} {c : List (Int × Int)} {l : List Int} {k : Nat} (h : k < c.length) (ha : lftOk s c l k = false) : vLeft s c l = false := by
  unfold vLeft; rw [range_all_no h ha]; rfl

set_option maxHeartbeats 3200000 in
set_option maxRecDepth 100000 in
theorem svalidLeft_any (s : List (Int × Int × Int × Int)) (c : List (Int × Int)) (l : List Int) (A Ac Al : Option Addr) (cap capc capl : Nat) (w : World) (hA : Sl enc4 4 w w.heap.size A s) (hC : Sl enc2 2 w w.heap.size Ac c) (hL : Sl enc1 1 w w.heap.size Al l) (hs : vShop s = true) (hc : vCart s.length c = true) (hl : l.length ≤ 1048576) :
    Calls Try.prog 39 #[.slice A s.length cap, .slice Ac c.length capc, .slice Al l.length capl] w fun e w' => e = .returned (.bool (vLeft s c l)) ∧ Below w.heap.size w w' := by
  have hc8 := (vCart_iff.1 hc).2.2
  go_enter Try.func39, Try.ntmps39
  go_wp2_with fail
  refine (slineAmounts_any s c A Ac cap capc _ hA hC hs hc).mono ?_
  rintro e w1 ⟨v, rfl, o1, b1⟩
  obtain ⟨Aa, ca, rfl, _, _⟩ := o1.reads len1
  have SA := o1.sl len1
  have hL1 := (hL.below b1 (Nat.le_refl _)).more b1.size
  have B1 := hid b1
  obtain ⟨m, hm⟩ : ∃ m, amts s c = m := ⟨_, rfl⟩
  have hml := amts_len s c
  have HM := hid (fun k (h : k < c.length) => amts_at (s := s) h)
  rw [hm] at SA hml HM
  rw [hm]
  clear o1 b1 hm hs hc hA hC hL
  go_wp2_with fail
  go_loopw [8] (fun i wr => ∃ k : Nat, k ≤ l.length ∧ k ≤ c.length ∧ i = .int .i64 k ∧ (List.range k).all (lftOk s c l) = true ∧ Below w1.heap.size w1 wr) (fun i _ => l.length - (intOf i).toNat)
  case atStart => exact ⟨0, Nat.zero_le _, Nat.zero_le _, rfl, rfl, Below.refl _ _⟩
  case round =>
    obtain ⟨k, hk, hk2, rfl, hall, hb⟩ := hrel
    have HA := hid hall
    have HB := hid (B1.out.trans (hb.mono B1.out.size))
    have hsz := hb.size
    clear hall
    by_cases hlt : k < l.length
    · by_cases hlt2 : k < m.length
      · have hlc : k < c.length := by omega
        obtain ⟨b, off, rfl, hbb, c1⟩ := hL1.get1 hlt
        obtain ⟨b', off', rfl, hbb', c2⟩ := SA.get1 hlt2
        have hg := HM.out k hlc
        rw [hg] at c2
        have d1 : wr.cell? ⟨b, off + k, none⟩ = some (.int .i64 (g0 l k)) := (hb.cell hbb).trans c1
        have d2 : wr.cell? ⟨b', off' + k, none⟩ = some (.int .i64 (amt s c k)) := (hb.cell hbb').trans c2
        have hbw : b < wr.heap.size := by omega
        have hbw' : b' < wr.heap.size := by omega
        clear c1 c2 hg
        by_cases ha : withinB (g0 l k) 0 (amt s c k) = true
        · have HF := hid (show lftOk s c l k = true from ha)
          go_wp2_with fail
          go_quiet ((go_at_call 53; first | exact quiet_same (inRange_yes (by assumption) _) | exact quiet_same (inRange_no (by assumption) _)))
          go_wp2
          go_roundw
          case rel =>
            refine ⟨k + 1, by omega, by omega, by go_num, range_all_succ HA.out HF.out, ?_⟩
            first | exact hb | exact below_drewN hb _ | exact hb.drew
          case measure => simp [intOf]; omega
        · have ha' : withinB (g0 l k) 0 (amt s c k) = false := by simpa using ha
          have HF := hid (vLeft_bad (s := s) (c := c) (l := l) hlc ha')
          clear ha
          go_wp2_with fail
          go_quiet ((go_at_call 53; first | exact quiet_same (inRange_yes (by assumption) _) | exact quiet_same (inRange_no (by assumption) _)))
          go_wp2
          go_ret
          refine ⟨ret_bool ?_, ?_⟩
          · rw [HF.out]
          · first | exact HB.out | exact below_drewN HB.out _ | exact HB.out.drew
      · have HF := hid (vLeft_no (s := s) (c := c) (l := l) (by omega))
        have e1 : ((l.length : Int) == (m.length : Int)) = false := by simp; omega
        go_wp2
        go_ret
        refine ⟨ret_bool ?_, HB.out⟩
        refine Eq.trans ?_ HF.out.symm
        first | rfl | exact e1 | (simp; done) | (simp; omega)
    · have hkl : k = l.length := by omega
      subst hkl
      by_cases he : l.length = c.length
      · have HF := hid (vLeft_yes (s := s) he (by rw [← he]; exact HA.out))
        have e1 : ((l.length : Int) == (m.length : Int)) = true := by (try simp) <;> omega
        go_wp2
        go_ret
        refine ⟨ret_bool ?_, HB.out⟩
        refine Eq.trans ?_ HF.out.symm
        first | rfl | exact e1 | (simp; done) | (simp; omega)
      · have HF := hid (vLeft_no (s := s) (c := c) (l := l) he)
        have e1 : ((l.length : Int) == (m.length : Int)) = false := by simp; omega
        go_wp2
        go_ret
        refine ⟨ret_bool ?_, HB.out⟩
        refine Eq.trans ?_ HF.out.symm
        first | rfl | exact e1 | (simp; done) | (simp; omega)

end Go.Proofs.Ytmgphagahdepfaa
