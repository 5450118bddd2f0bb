/- Contract: what is left of the lines, as the program does it. -/
import Derived.Test.YtmgphagahdepfaaAmtsI
import Derived.Test.YtmgphagahdepfaaLeftS
namespace Go.Proofs.Ytmgphagahdepfaa
open Go.RowKit

theorem fitTax_no1 {s : List (Int × Int × Int × Int)} {c : List (Int × Int)} {l : List Int} (h : (vShop s && vCart s.length c) = false) : fitTax s c l = false := by
  unfold fitTax; rw [h]; rfl
theorem fitTax_yes {s : List (Int × Int × Int × Int)} {c : List (Int × Int)} {l : List Int} (h : (vShop s && vCart s.length c) = true) : fitTax s c l = vLeft s c l := by
  unfold fitTax; rw [h]; rfl

set_option maxHeartbeats 3200000 in
set_option maxRecDepth 100000 in
theorem leftOk_any (s : List (Int × Int × Int × Int)) (c : List (Int × Int)) (l : List Int) (A Ac Al : Option Addr) (cap capc capl : Nat) (w : World) (hA : Sl enc4 4 w w.heap.size A s) (hC : Sl enc2 2 w w.heap.size Ac c) (hL : Sl enc1 1 w w.heap.size Al l) (hs : s.length ≤ 1048576) (hc : c.length ≤ 1048576) (hl : l.length ≤ 1048576) :
    Calls Try.prog 36 #[.slice A s.length cap, .slice Ac c.length capc, .slice Al l.length capl] w fun e w' => e = .returned (.bool (fitTax s c l)) ∧ Below w.heap.size w w' := by
  go_enter Try.func36, Try.ntmps36
  go_wp2_with fail
  refine (lineAmounts_any s c A Ac cap capc _ hA hC hs hc).mono ?_
  rintro e w1 ⟨v, rfl, o1, b1⟩
  obtain ⟨Aa, ca, rfl, _, _⟩ := o1.reads len1
  have SA := o1.sl len1
  have hA1 := (hA.below b1 (Nat.le_refl _)).more b1.size
  have hC1 := (hC.below b1 (Nat.le_refl _)).more b1.size
  have hL1 := (hL.below b1 (Nat.le_refl _)).more b1.size
  have B1 := hid b1
  clear o1 b1 hA hC hL
  by_cases hok : (vShop s && vCart s.length c) = true
  · have HOK := hid hok
    have HF := hid (fitTax_yes (l := l) hok)
    have HM := hid (fun k (h : k < c.length) => amts_at (s := s) h)
    have hml := amts_len s c
    obtain ⟨m, hm⟩ : ∃ m, amts s c = m := ⟨_, rfl⟩
    have hmi : amtsI s c = m := by unfold amtsI; rw [if_pos hok]; exact hm
    rw [hm] at hml HM
    rw [hmi] at SA
    rw [hmi]
    clear hok hm hmi
    have SA1 := SA
    go_wp2_with fail
    refine (validCartI_any s c A Ac cap capc _ hA1 hC1 hs hc).mono ?_
    rintro e w2 ⟨rfl, b2⟩
    rw [HOK.out]
    have hL2 := (hL1.below b2 (Nat.le_refl _)).more b2.size
    have SA2 := (SA.below b2 (Nat.le_refl _)).more b2.size
    have B2 := hid (B1.out.trans (b2.mono B1.out.size))
    clear b2 hA1 hC1 hL1 SA SA1
    by_cases he : l.length = c.length
    · have HE := hid he
      have e1 : ((l.length : Int) != (c.length : Int)) = false := by rw [he]; simp
      have e2 : ((l.length : Int) == (c.length : Int)) = true := by rw [he]; simp
      clear he
      go_wp2_with fail
      go_loopw [26] (fun i wr => ∃ k : Nat, k ≤ l.length ∧ i = .int .i64 k ∧ (List.range k).all (lftOk s c l) = true ∧ Below w2.heap.size w2 wr) (fun i _ => l.length - (intOf i).toNat)
      case atStart => exact ⟨0, Nat.zero_le _, rfl, rfl, Below.refl _ _⟩
      case round =>
        obtain ⟨k, hk, rfl, hall, hb⟩ := hrel
        have HA := hid hall
        have HB := hid (B2.out.trans (hb.mono B2.out.size))
        have hsz := hb.size
        have hle := hid HE.out
        clear hall
        by_cases hlt : k < l.length
        · have hlc : k < c.length := by have := HE.out; omega
          obtain ⟨b, off, rfl, hbb, c1⟩ := hL2.get1 hlt
          obtain ⟨b', off', rfl, hbb', c2⟩ := SA2.get1 (k := k) (by omega)
          have hg := HM.out k hlc
          rw [hg] at c2
          have d1 : wr.cell? ⟨b, off + k, none⟩ = some (.int .i64 (g0 l k)) := (hb.cell hbb).trans c1
          have d2 : wr.cell? ⟨b', off' + k, none⟩ = some (.int .i64 (amt s c k)) := (hb.cell hbb').trans c2
          have hbw : b < wr.heap.size := by omega
          have hbw' : b' < wr.heap.size := by omega
          clear c1 c2 hg
          by_cases ha : withinB (g0 l k) 0 (amt s c k) = true
          · have HF2 := hid (show lftOk s c l k = true from ha)
            go_wp2_with ((go_at_call 52; (first | (refine (within_yes (by assumption) _).mono ?_) | (refine (within_no (by assumption) _).mono ?_)); rintro e w' ⟨rfl, rfl⟩))
            go_roundw
            case rel =>
              refine ⟨k + 1, by omega, by go_num, range_all_succ HA.out HF2.out, ?_⟩
              first | exact hb | exact below_drewN hb _ | exact hb.drew
            case measure => simp [intOf]; omega
          · have ha' : withinB (g0 l k) 0 (amt s c k) = false := by simpa using ha
            have HF2 := hid (vLeft_bad (s := s) (c := c) (l := l) hlc ha')
            clear ha
            go_wp2_with ((go_at_call 52; (first | (refine (within_yes (by assumption) _).mono ?_) | (refine (within_no (by assumption) _).mono ?_)); rintro e w' ⟨rfl, rfl⟩))
            go_ret
            refine ⟨ret_bool ?_, ?_⟩
            · rw [HF.out, HF2.out]
            · first | exact HB.out | exact below_drewN HB.out _ | exact HB.out.drew
        · have hkl : k = l.length := by omega
          subst hkl
          have HF2 := hid (vLeft_yes (s := s) HE.out (by rw [← HE.out]; exact HA.out))
          go_wp2
          go_ret
          exact ⟨ret_bool (by rw [HF.out, HF2.out]), HB.out⟩
    · have HF2 := hid (vLeft_no (s := s) (c := c) (l := l) he)
      have e1 : ((l.length : Int) != (c.length : Int)) = true := by simp; omega
      have e2 : ((l.length : Int) == (c.length : Int)) = false := by simp; omega
      clear he
      go_wp2
      go_ret
      exact ⟨ret_bool (by rw [HF.out, HF2.out]), B2.out⟩
  · have hok' : (vShop s && vCart s.length c) = false := by simpa using hok
    have HOK := hid hok'
    have HF := hid (fitTax_no1 (l := l) hok')
    clear hok hok'
    go_wp2_with fail
    refine (validCartI_any s c A Ac cap capc _ hA1 hC1 hs hc).mono ?_
    rintro e w2 ⟨rfl, b2⟩
    rw [HOK.out]
    have B2 := hid (B1.out.trans (b2.mono B1.out.size))
    clear b2 hA1 hC1 hL1 SA
    go_wp2
    go_ret
    exact ⟨ret_bool (by rw [HF.out]), B2.out⟩

end Go.Proofs.Ytmgphagahdepfaa
