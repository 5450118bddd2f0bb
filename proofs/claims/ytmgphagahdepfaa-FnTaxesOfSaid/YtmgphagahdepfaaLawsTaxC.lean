/- The walk of the law that every line has a tax. -/
import Derived.Test.YtmgphagahdepfaaDrawLeft
import Derived.Test.YtmgphagahdepfaaTaxesS
import Derived.Test.YtmgphagahdepfaaTaxS
import Derived.Test.YtmgphagahdepfaaCopyTax
import Derived.Test.YtmgphagahdepfaaSumTot
namespace Go.Proofs.Ytmgphagahdepfaa
open Go.RowKit

theorem taxInP_eq {a r z : Int} (h : taxI a r = z) (ha : 0 ≤ a ∧ a ≤ 1000000) (hr : 0 ≤ r ∧ r ≤ 300) (w : World) :
    Calls Try.prog 33 #[.int .i64 a, .int .i64 r] w fun e w' => e = .returned (.int .i64 z) ∧ w = w' := by
  have := taxInP_any a r w ha hr; rwa [h] at this
def GrossRel (w : World) (L : List (Int × Int × Int)) (n i : Value) (wr : World) : Prop :=
  ∃ k : Nat, k ≤ L.length ∧ i = .int .i64 k ∧ n = .int .i64 (sgr (L.take k)) ∧ Below w.heap.size w wr

set_option maxHeartbeats 3200000 in
set_option maxRecDepth 100000 in
theorem fnTaxesOf_walk (w : World) (A : Option Addr) (len cap : Nat) (h : Bytes w w.heap.size A len cap) :
    Calls Try.prog 8 #[.slice A len cap] w fun e w' => e = .returned (.bool true) ∧ Below w.heap.size w w' := by
  by_cases hl : 1048576 < len
  · clear h
    go_enter Try.func8, Try.ntmps8
    go_wp2
    go_ret
    exact ⟨rfl, Below.refl _ _⟩
  · go_enter Try.func8, Try.ntmps8
    go_wp2_with fail
    refine (drawTaxesOf_any _ _ _ _ h).mono ?_
    rintro e w1 ⟨s, c, l, A1, A2, A3, c1, c2, c3, rfl, x1, x2, x3, S1, C1, L1, b1⟩
    have D1 := hid b1
    clear h b1
    have hlen := taxesI_len s c l
    obtain ⟨L, hLL⟩ : ∃ x, taxesI s c l = x := ⟨_, rfl⟩
    have HL := hid hLL
    rw [hLL] at hlen
    clear hLL
    go_wp2_with fail
    refine (taxesOf_any s c l A1 A2 A3 c1 c2 c3 _ S1 C1 L1 (by omega) (by omega) (by omega)).mono ?_
    rintro e w2 ⟨v, rfl, O2, b2⟩
    rw [HL.out] at O2
    obtain ⟨A4, c4, rfl, _, T2⟩ := O2.reads len3
    have S2 := (S1.below b2 (Nat.le_refl _)).more b2.size
    have C2 := (C1.below b2 (Nat.le_refl _)).more b2.size
    have L2 := (L1.below b2 (Nat.le_refl _)).more b2.size
    have D2 := hid (D1.out.trans (b2.mono D1.out.size))
    clear b2 S1 C1 L1 O2
    go_wp2_with fail
    refine (staxesOf_any s c l A1 A2 A3 c1 c2 c3 _ S2 C2 L2 (by omega) (by omega) (by omega)).mono ?_
    rintro e w3 ⟨v, rfl, O3, b3⟩
    rw [HL.out] at O3
    obtain ⟨A5, c5, rfl, _, U3⟩ := O3.reads len3
    have S3 := (S2.below b3 (Nat.le_refl _)).more b3.size
    have C3 := (C2.below b3 (Nat.le_refl _)).more b3.size
    have L3 := (L2.below b3 (Nat.le_refl _)).more b3.size
    have T3 := (T2.below b3 (Nat.le_refl _)).more b3.size
    have D3 := hid (D2.out.trans (b3.mono D2.out.size))
    clear b3 S2 C2 L2 O3 T2
    go_wp2_with fail
    refine (equalTaxes_same L A4 A5 c4 c5 _ T3 U3 (by omega)).mono ?_
    rintro e w4 ⟨rfl, b4⟩
    have S4 := (S3.below b4 (Nat.le_refl _)).more b4.size
    have C4 := (C3.below b4 (Nat.le_refl _)).more b4.size
    have L4 := (L3.below b4 (Nat.le_refl _)).more b4.size
    have T4 := (T3.below b4 (Nat.le_refl _)).more b4.size
    have D4 := hid (D3.out.trans (b4.mono D3.out.size))
    clear b4 S3 C3 L3 T3 U3
    by_cases hz : L.length = 0
    · have e0 : ((L.length : Int) == 0) = true := by rw [hz]; rfl
      clear hz
      go_wp2_with fail
      refine (staxesOf_any s c l A1 A2 A3 c1 c2 c3 _ S4 C4 L4 (by omega) (by omega) (by omega)).mono ?_
      rintro e w5 ⟨v, rfl, O5, b5⟩
      rw [HL.out] at O5
      obtain ⟨A6, c6, rfl, _, U5⟩ := O5.reads len3
      have T5 := (T4.below b5 (Nat.le_refl _)).more b5.size
      have D5 := hid (D4.out.trans (b5.mono D4.out.size))
      clear b5 S4 C4 L4 O5 T4 e0
      go_wp2_with fail
      refine (equalTaxes_same L A4 A6 c4 c6 _ T5 U5 (by omega)).mono ?_
      rintro e w6 ⟨rfl, b6⟩
      have D6 := hid (D5.out.trans (b6.mono D5.out.size))
      clear b6 T5 U5
      go_wp2
      go_ret
      exact ⟨rfl, D6.out⟩
    · have e0 : ((L.length : Int) == 0) = false := beq_eq_false_iff_ne.2 (by omega)
      have hok : fitTax s c l = true := by
        by_cases h : fitTax s c l = true
        · exact h
        · exact absurd (by rw [← HL.out, taxes_no (by simpa using h)]; rfl) hz
      have HT := hid (fun i (hi : i < L.length) => taxes_lim (s := s) (c := c) (l := l) hok (i := i) (by rw [HL.out]; exact hi))
      have HA := hid (fun i (hi : i < L.length) => taxes_at (s := s) (c := c) (l := l) hok (i := i) (by rw [HL.out]; exact hi))
      have HC := hid (fun i (hi : i + 1 < L.length) => taxes_asc (s := s) (c := c) (l := l) hok (i := i) (by rw [HL.out]; exact hi))
      have HS := hid (sgr_taxes hok)
      rw [HL.out] at HT HA HC HS
      have HLB := hid (fun k (hk : k < l.length) => left_at (fit_parts hok).1 (fit_parts hok).2.1 (fit_parts hok).2.2 (k := k) (by rw [← vLeft_len (fit_parts hok).2.2]; exact hk))
      clear hz hok S4 C4
      go_wp2_with fail
      go_loopw [7, 8] (fun n i wr => GrossRel w4 L n i wr) (fun _ i _ => L.length - (intOf i).toNat)
      case atStart => exact ⟨0, Nat.zero_le _, rfl, by simp [sgr], Below.refl _ _⟩
      case round =>
        obtain ⟨k, hk, rfl, rfl, hb⟩ := hrel
        have hsz := hb.size
        have HB := hid hb
        have hsb := sgr_bd HT.out k hk
        obtain ⟨X, hX⟩ : ∃ x, sgr (L.take k) = x := ⟨_, rfl⟩
        rw [hX] at hsb ⊢
        have HX := hid hX
        clear hX
        by_cases hlt : k < L.length
        · obtain ⟨b, off, rfl, hbb, c1, c2, c3⟩ := T4.get3 hlt
          have ht := HT.out k hlt
          have ha := HA.out k hlt
          have hc := HC.out (k - 1)
          have hsu := sgr_succ hlt
          obtain ⟨x, hx⟩ : ∃ x, t1 L k = x := ⟨_, rfl⟩
          obtain ⟨y, hy⟩ : ∃ x, t2 L k = x := ⟨_, rfl⟩
          obtain ⟨z, hz⟩ : ∃ x, t3 L k = x := ⟨_, rfl⟩
          rw [hx] at c1 ha
          rw [hy] at c2 ht ha hsu
          rw [hz] at c3 ht ha
          have HX1 := hid hx
          obtain ⟨r0, r1, y0, y1, hzt, hgr⟩ := ha
          clear hgr
          have HZ := hid hzt.symm
          have HST := hid (show sgr (L.take (k + 1)) = X + y by rw [hsu, HX.out])
          have HC1 := hid hc
          have hyb : 0 ≤ y ∧ y ≤ 1000000 := by omega
          have hrb : 0 ≤ x ∧ x ≤ 300 := ⟨r0, r1⟩
          have d1 : wr.cell? ⟨b, off + k * 3, none⟩ = some (.int .i64 x) := (hb.cell hbb).trans c1
          have d2 : wr.cell? ⟨b, off + k * 3 + 1, none⟩ = some (.int .i64 y) := (hb.cell hbb).trans c2
          have d3 : wr.cell? ⟨b, off + k * 3 + 2, none⟩ = some (.int .i64 z) := (hb.cell hbb).trans c3
          have hbw : b < wr.heap.size := by omega
          clear hx hy hz hzt hsu hc ht c1 c2 c3
          by_cases h0 : k = 0
          · have e1 : decide (0 < k) = false := by simp; omega
            have HZ0 := hid h0
            clear h0 hb
            go_wp2_with fail
            go_quiet ((go_at_call 33; exact quiet_same (taxInP_eq HZ.out hyb hrb _)))
            go_wp2
            go_roundw
            case rel =>
              refine ⟨k + 1, by omega, by go_num, by rw [HST.out], ?_⟩
              first | exact HB.out | exact below_drewN HB.out _ | exact HB.out.drew
            case measure => simp [intOf]; omega
          · have e1 : decide (0 < k) = true := by simp; omega
            have e2 : 0 < k := by omega
            have hk1 : k - 1 < L.length := by omega
            obtain ⟨b', off', he, _, c4, _, _⟩ := T4.get3 hk1
            obtain ⟨rfl, rfl⟩ : b = b' ∧ off = off' := by simpa using he
            have hasc := HC1.out (by omega)
            rw [show k - 1 + 1 = k by omega, HX1.out] at hasc
            obtain ⟨x', hx'⟩ : ∃ x, t1 L (k - 1) = x := ⟨_, rfl⟩
            rw [hx'] at c4 hasc
            have d4 : wr.cell? ⟨b, off + (k - 1) * 3, none⟩ = some (.int .i64 x') := (hb.cell hbb).trans c4
            have e3 : decide (x ≤ x') = false := by simp; omega
            clear c4 he hx' h0 hb
            go_wp2_with fail
            go_quiet ((go_at_call 33; exact quiet_same (taxInP_eq HZ.out hyb hrb _)))
            go_wp2
            go_roundw
            case rel =>
              refine ⟨k + 1, by omega, by go_num, by rw [HST.out], ?_⟩
              first | exact HB.out | exact below_drewN HB.out _ | exact HB.out.drew
            case measure => simp [intOf]; omega
        · have hkl : k = L.length := by omega
          subst hkl
          have L5 := (L4.below hb (Nat.le_refl _)).more hsz
          have D5 := hid (D4.out.trans (hb.mono D4.out.size))
          have HE := hid (show tot (g0 l) l.length = X by rw [← HS.out, ← HX.out, List.take_length])
          clear hb L4
          go_wp2_with fail
          refine (sumT_any l A3 c3 _ L5 (by omega) HLB.out).mono ?_
          rintro e w' ⟨rfl, rfl⟩
          rw [HE.out]
          go_wp2
          go_ret
          exact ⟨ret_bool (by simp), D5.out⟩

end Go.Proofs.Ytmgphagahdepfaa
