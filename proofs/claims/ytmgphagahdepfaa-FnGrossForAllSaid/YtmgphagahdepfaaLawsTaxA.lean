/- The walks of the laws on gross amounts. -/
import Derived.Test.YtmgphagahdepfaaDrawGross
import Derived.Test.YtmgphagahdepfaaTaxS
namespace Go.Proofs.Ytmgphagahdepfaa
open Go.RowKit

theorem grossI_no {a t : Int} (h : ¬ (withinB a 0 500000 = true ∧ withinB t 0 300 = true)) : grossI a t = -1 := by
  unfold grossI; rw [if_neg]; simpa using h
theorem grossI_yes {a t : Int} (h : withinB a 0 500000 = true ∧ withinB t 0 300 = true) : grossI a t = grossL a t := by
  unfold grossI; rw [if_pos]; simpa using h

set_option maxHeartbeats 800000 in
theorem fnGrossFor_walk (w : World) (A : Option Addr) (len cap : Nat) (h : Bytes w w.heap.size A len cap) :
    Calls Try.prog 6 #[.slice A len cap] w fun e w' => e = .returned (.bool true) ∧ Below w.heap.size w w' := by
  by_cases hl : 1048576 < len
  · clear h
    go_enter Try.func6, Try.ntmps6
    go_wp2
    go_ret
    exact ⟨rfl, Below.refl _ _⟩
  · go_enter Try.func6, Try.ntmps6
    go_wp2_with fail
    refine (drawGrossFor_any _ _ _ _ h).mono ?_
    rintro e w1 ⟨a, t, rfl, a1, a2, t1, t2, b1⟩
    have B1 := hid b1
    clear h b1
    by_cases hok : withinB a 0 500000 = true ∧ withinB t 0 300 = true
    · have HG := hid (grossI_yes hok)
      obtain ⟨ha, ht⟩ := hok
      have c1 := withinB_true.1 ha
      have c2 := withinB_true.1 ht
      have hb := gross_bd c1 c2
      have he := gross_eq (net := a) c2
      have hx := gross_less (n := grossL a t - 1) (net := a) c2 (by omega)
      obtain ⟨L, hL⟩ : ∃ x, grossL a t = x := ⟨_, rfl⟩
      rw [hL] at hb he hx
      have HG2 := hid (show grossI a t = L by rw [HG.out, hL])
      obtain ⟨l1, l2⟩ := hb
      obtain ⟨d1, d2⟩ := c1
      obtain ⟨d3, d4⟩ := c2
      obtain ⟨x1, x2⟩ := tax_bd (a := L) (r := t) (by omega) ⟨d3, d4⟩
      obtain ⟨x, hX⟩ : ∃ x, taxI L t = x := ⟨_, rfl⟩
      rw [hX] at he x1 x2
      have HX := hid hX
      have e1 : (L - x == a) = true := by rw [he]; simp
      have e2 : ¬ L < 0 := by omega
      clear ha ht he hL hX HG
      by_cases hz : L = 0
      · have e3 : (L == 0) = true := by rw [hz]; rfl
        clear hz hx
        go_wp2_with fail
        go_at_call 31
        refine (grossFor_any _ _ _).mono ?_
        rintro e w' ⟨rfl, rfl⟩
        rw [HG2.out]
        go_wp2_with fail
        go_at_call 32
        refine (sgrossFor_any _ _ _).mono ?_
        rintro e w' ⟨rfl, rfl⟩
        rw [HG2.out]
        go_wp2_with fail
        go_at_call 33
        refine (taxInP_any L t _ (by omega) (by omega)).mono ?_
        rintro e w' ⟨rfl, rfl⟩
        rw [HX.out]
        go_wp2
        go_ret
        exact ⟨rfl, B1.out⟩
      · have e3 : (L == 0) = false := beq_eq_false_iff_ne.2 hz
        obtain ⟨y1, y2⟩ := tax_bd (a := L - 1) (r := t) (by omega) ⟨d3, d4⟩
        obtain ⟨y, hY⟩ : ∃ y, taxI (L - 1) t = y := ⟨_, rfl⟩
        rw [hY] at hx y1 y2
        have HY := hid hY
        have l0 : 1 ≤ L := by omega
        clear hY hz
        go_wp2_with fail
        go_at_call 31
        refine (grossFor_any _ _ _).mono ?_
        rintro e w' ⟨rfl, rfl⟩
        rw [HG2.out]
        go_wp2_with fail
        go_at_call 32
        refine (sgrossFor_any _ _ _).mono ?_
        rintro e w' ⟨rfl, rfl⟩
        rw [HG2.out]
        go_wp2_with fail
        go_at_call 33
        refine (taxInP_any L t _ (by omega) (by omega)).mono ?_
        rintro e w' ⟨rfl, rfl⟩
        rw [HX.out]
        go_wp2_with fail
        go_at_call 33
        refine (taxInP_any (L - 1) t _ (by omega) (by omega)).mono ?_
        rintro e w' ⟨rfl, rfl⟩
        rw [HY.out]
        go_wp2
        go_ret
        exact ⟨rfl, B1.out⟩
    · have HG := hid (grossI_no hok)
      obtain ⟨q, hq⟩ : ∃ q : Int, q = -1 := ⟨_, rfl⟩
      have HG2 := hid (show grossI a t = q by rw [HG.out, hq])
      have e2 : q < 0 := by omega
      clear hok HG hq
      go_wp2_with fail
      go_at_call 31
      refine (grossFor_any _ _ _).mono ?_
      rintro e w' ⟨rfl, rfl⟩
      rw [HG2.out]
      go_wp2_with fail
      go_at_call 32
      refine (sgrossFor_any _ _ _).mono ?_
      rintro e w' ⟨rfl, rfl⟩
      rw [HG2.out]
      go_wp2_with fail
      go_at_call 32
      refine (sgrossFor_any _ _ _).mono ?_
      rintro e w' ⟨rfl, rfl⟩
      rw [HG2.out]
      go_wp2
      go_ret
      exact ⟨by simp, B1.out⟩

set_option maxHeartbeats 800000 in
theorem fnGrossForAll_walk (w : World) (A : Option Addr) (len cap : Nat) (h : Bytes w w.heap.size A len cap) :
    Calls Try.prog 5 #[.slice A len cap] w fun e w' => e = .returned (.bool true) ∧ Below w.heap.size w w' := by
  by_cases hl : 1048576 < len
  · clear h
    go_enter Try.func5, Try.ntmps5
    go_wp2
    go_ret
    exact ⟨rfl, Below.refl _ _⟩
  · go_enter Try.func5, Try.ntmps5
    go_wp2_with fail
    refine (drawGrossFor_any _ _ _ _ h).mono ?_
    rintro e w1 ⟨a, t, rfl, a1, a2, t1, t2, b1⟩
    have B1 := hid b1
    clear h b1
    by_cases hok : withinB a 0 500000 = true ∧ withinB t 0 300 = true
    · have HG := hid (grossI_yes hok)
      have HZ := hid (show grossI a 0 = a by rw [grossI_yes ⟨hok.1, rfl⟩]; exact gross_zero)
      obtain ⟨ha, ht⟩ := hok
      have c1 := withinB_true.1 ha
      have c2 := withinB_true.1 ht
      have hb := gross_bd c1 c2
      obtain ⟨L, hL⟩ : ∃ x, grossL a t = x := ⟨_, rfl⟩
      rw [hL] at hb
      have HG2 := hid (show grossI a t = L by rw [HG.out, hL])
      obtain ⟨l1, l2⟩ := hb
      obtain ⟨d1, d2⟩ := c1
      obtain ⟨d3, d4⟩ := c2
      have e2 : ¬ a < 0 := by omega
      have e3 : ¬ 500000 < a := by omega
      have e4 : ¬ t < 0 := by omega
      have e5 : ¬ 300 < t := by omega
      clear ha ht hL HG
      go_wp2_with fail
      go_at_call 31
      refine (grossFor_any _ _ _).mono ?_
      rintro e w' ⟨rfl, rfl⟩
      rw [HG2.out]
      go_wp2_with fail
      go_at_call 32
      refine (sgrossFor_any _ _ _).mono ?_
      rintro e w' ⟨rfl, rfl⟩
      rw [HG2.out]
      go_wp2_with fail
      go_at_call 31
      refine (grossFor_any _ _ _).mono ?_
      rintro e w' ⟨rfl, rfl⟩
      rw [HZ.out]
      go_wp2
      go_ret
      exact ⟨by simp, B1.out⟩
    · have HG := hid (grossI_no hok)
      obtain ⟨q, hq⟩ : ∃ q : Int, q = -1 := ⟨_, rfl⟩
      have HG2 := hid (show grossI a t = q by rw [HG.out, hq])
      have hc : a < 0 ∨ (¬ a < 0 ∧ 500000 < a) ∨ (¬ a < 0 ∧ ¬ 500000 < a ∧ t < 0) ∨ (¬ a < 0 ∧ ¬ 500000 < a ∧ ¬ t < 0 ∧ 300 < t) := by
        simp only [withinB_true] at hok
        omega
      clear hok HG hq
      rcases hc with c1 | ⟨c1, c2⟩ | ⟨c1, c2, c3⟩ | ⟨c1, c2, c3, c4⟩
      all_goals (go_wp2_with fail; go_at_call 31; refine (grossFor_any _ _ _).mono ?_; rintro e w' ⟨rfl, rfl⟩; rw [HG2.out]; go_wp2_with fail; go_at_call 32; refine (sgrossFor_any _ _ _).mono ?_; rintro e w' ⟨rfl, rfl⟩; rw [HG2.out]; go_wp2_with fail; go_at_call 32; refine (sgrossFor_any _ _ _).mono ?_; rintro e w' ⟨rfl, rfl⟩; rw [HG2.out]; go_wp2)
      all_goals go_ret
      all_goals exact ⟨by simp, B1.out⟩

end Go.Proofs.Ytmgphagahdepfaa
