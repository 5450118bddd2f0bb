/- The walk of the law that nothing is taxed with the same rates. -/
import Derived.Test.YtmgphagahdepfaaDrawLeft
import Derived.Test.YtmgphagahdepfaaTaxesS
import Derived.Test.YtmgphagahdepfaaCopyTax
namespace Go.Proofs.Ytmgphagahdepfaa
open Go.RowKit

set_option maxHeartbeats 3200000 in
set_option maxRecDepth 100000 in
theorem fnTaxesOfLeft_walk (w : World) (A : Option Addr) (len cap : Nat) (h : Bytes w w.heap.size A len cap) :
    Calls Try.prog 7 #[.slice A len cap] w fun e w' => e = .returned (.bool true) ∧ Below w.heap.size w w' := by
  by_cases hl : 1048576 < len
  · clear h
    go_enter Try.func7, Try.ntmps7
    go_wp2
    go_ret
    exact ⟨rfl, Below.refl _ _⟩
  · go_enter Try.func7, Try.ntmps7
    go_wp2_with fail
    refine (drawTaxesOf_any _ _ _ _ h).mono ?_
    rintro e w1 ⟨s, c, l, A1, A2, A3, c1, c2, c3, rfl, x1, x2, x3, S1, C1, L1, b1⟩
    have D1 := hid b1
    clear h b1
    have hlen := taxesI_len s c l
    obtain ⟨L, hLL⟩ : ∃ x, taxesI s c l = x := ⟨_, rfl⟩
    have HL := hid hLL
    rw [hLL] at hlen
    clear hLL
    go_wp2_with fail
    refine (taxesOf_any s c l A1 A2 A3 c1 c2 c3 _ S1 C1 L1 (by omega) (by omega) (by omega)).mono ?_
    rintro e w2 ⟨v, rfl, O2, b2⟩
    rw [HL.out] at O2
    obtain ⟨A4, c4, rfl, _, T2⟩ := O2.reads len3
    have S2 := (S1.below b2 (Nat.le_refl _)).more b2.size
    have C2 := (C1.below b2 (Nat.le_refl _)).more b2.size
    have L2 := (L1.below b2 (Nat.le_refl _)).more b2.size
    have D2 := hid (D1.out.trans (b2.mono D1.out.size))
    clear b2 S1 C1 L1 O2
    go_wp2_with fail
    refine (staxesOf_any s c l A1 A2 A3 c1 c2 c3 _ S2 C2 L2 (by omega) (by omega) (by omega)).mono ?_
    rintro e w3 ⟨v, rfl, O3, b3⟩
    rw [HL.out] at O3
    obtain ⟨A5, c5, rfl, _, U3⟩ := O3.reads len3
    have S3 := (S2.below b3 (Nat.le_refl _)).more b3.size
    have C3 := (C2.below b3 (Nat.le_refl _)).more b3.size
    have L3 := (L2.below b3 (Nat.le_refl _)).more b3.size
    have T3 := (T2.below b3 (Nat.le_refl _)).more b3.size
    have D3 := hid (D2.out.trans (b3.mono D2.out.size))
    clear b3 S2 C2 L2 O3 T2
    go_wp2_with fail
    refine (equalTaxes_same L A4 A5 c4 c5 _ T3 U3 (by omega)).mono ?_
    rintro e w4 ⟨rfl, b4⟩
    have S4 := (S3.below b4 (Nat.le_refl _)).more b4.size
    have C4 := (C3.below b4 (Nat.le_refl _)).more b4.size
    have L4 := (L3.below b4 (Nat.le_refl _)).more b4.size
    have T4 := (T3.below b4 (Nat.le_refl _)).more b4.size
    have D4 := hid (D3.out.trans (b4.mono D3.out.size))
    clear b4 S3 C3 L3 T3 U3
    by_cases hz : L.length = 0
    · have e0 : ((L.length : Int) == 0) = true := by rw [hz]; rfl
      clear hz
      go_wp2_with fail
      refine (staxesOf_any s c l A1 A2 A3 c1 c2 c3 _ S4 C4 L4 (by omega) (by omega) (by omega)).mono ?_
      rintro e w5 ⟨v, rfl, O5, b5⟩
      rw [HL.out] at O5
      obtain ⟨A6, c6, rfl, _, U5⟩ := O5.reads len3
      have T5 := (T4.below b5 (Nat.le_refl _)).more b5.size
      have D5 := hid (D4.out.trans (b5.mono D4.out.size))
      clear b5 S4 C4 L4 O5 T4 e0
      go_wp2_with fail
      refine (equalTaxes_same L A4 A6 c4 c6 _ T5 U5 (by omega)).mono ?_
      rintro e w6 ⟨rfl, b6⟩
      have D6 := hid (D5.out.trans (b6.mono D5.out.size))
      clear b6 T5 U5
      go_wp2
      go_ret
      exact ⟨rfl, D6.out⟩
    · have e0 : ((L.length : Int) == 0) = false := beq_eq_false_iff_ne.2 (by omega)
      have hok : fitTax s c l = true := by
        by_cases h : fitTax s c l = true
        · exact h
        · exact absurd (by rw [← HL.out, taxes_no (by simpa using h)]; rfl) hz
      obtain ⟨Z, hZ⟩ : ∃ Z, Z = List.replicate l.length (0 : Int) := ⟨_, rfl⟩
      have hzl : Z.length = l.length := by rw [hZ, List.length_replicate]
      obtain ⟨M, hM⟩ : ∃ M, taxesI s c Z = M := ⟨_, rfl⟩
      have hzt := zero_taxes hok
      rw [← hZ, hM, HL.out] at hzt
      have HZT := hid hzt.2
      have HML := hid hzt.1
      have HZ := hid hZ
      have HZL := hid hzl
      have HM := hid hM
      clear hz hok hzt hZ hzl hM
      go_wp2_with (at_make; refine wpList_makeL len1 (by omega) rfl (.tmp 43) (.tmp 43) _ rfl Try.underlying25 infoInt (by omega) (y := 0) rfl (base := w4.heap.size) (n := l.length) rfl rfl (by omega) (Nat.le_refl _) ?_)
      intro w5 P5 g5
      have b5 := only_below g5
      have S5 := (S4.below b5 (Nat.le_refl _)).more b5.size
      have C5 := (C4.below b5 (Nat.le_refl _)).more b5.size
      have T5 := (T4.below b5 (Nat.le_refl _)).more b5.size
      have Q5 := P5.sl len1
      rw [← HZ.out] at Q5
      have D5 := hid (D4.out.trans (b5.mono D4.out.size))
      have key := taxesOf_any s c Z A1 A2 (some ⟨w4.heap.size, 0, none⟩) c1 c2 l.length w5 S5 C5 Q5 (by omega) (by omega) (by have := HZL.out; omega)
      rw [HZL.out, HM.out] at key
      have HKEY := hid key
      clear b5 g5 P5 S4 C4 L4 T4 key S5 C5 Q5
      go_wp2_with fail
      refine HKEY.out.mono ?_
      rintro e w6 ⟨v, rfl, O6, b6⟩
      obtain ⟨A7, c7, rfl, _, M6⟩ := O6.reads len3
      have T6 := (T5.below b6 (Nat.le_refl _)).more b6.size
      have D6 := hid (D5.out.trans (b6.mono D5.out.size))
      have hml : M.length ≤ 301 := by rw [HML.out]; exact hlen
      clear b6 T5 O6 HKEY
      go_wp2_with fail
      go_loopw [8] (fun i wr => ∃ k : Nat, k ≤ M.length ∧ i = .int .i64 k ∧ Below w6.heap.size w6 wr) (fun i _ => M.length - (intOf i).toNat)
      case atStart => exact ⟨0, Nat.zero_le _, rfl, Below.refl _ _⟩
      case round =>
        obtain ⟨k, hk, rfl, hb⟩ := hrel
        have hsz := hb.size
        have HB := hid hb
        by_cases hlt : k < M.length
        · have hlt2 : k < L.length := by rw [← HML.out]; exact hlt
          obtain ⟨b, off, rfl, hbb, c1, c2, c3⟩ := M6.get3 hlt
          obtain ⟨b', off', rfl, hbb', c4, _, _⟩ := T6.get3 hlt2
          obtain ⟨z1, z2, z3⟩ := HZT.out k hlt2
          rw [z1] at c1
          rw [z2] at c2
          rw [z3] at c3
          obtain ⟨x, hx⟩ : ∃ x, t1 L k = x := ⟨_, rfl⟩
          rw [hx] at c1 c4
          have d1 : wr.cell? ⟨b, off + k * 3, none⟩ = some (.int .i64 x) := (hb.cell hbb).trans c1
          have d2 : wr.cell? ⟨b, off + k * 3 + 1, none⟩ = some (.int .i64 0) := (hb.cell hbb).trans c2
          have d3 : wr.cell? ⟨b, off + k * 3 + 2, none⟩ = some (.int .i64 0) := (hb.cell hbb).trans c3
          have d4 : wr.cell? ⟨b', off' + k * 3, none⟩ = some (.int .i64 x) := (hb.cell hbb').trans c4
          have hbw : b < wr.heap.size := by omega
          have hbw' : b' < wr.heap.size := by omega
          have e1 : decide (L.length ≤ k) = false := by simp; omega
          clear hx z1 z2 z3 c1 c2 c3 c4 hb
          go_wp2_with fail
          go_quiet (fail)
          go_wp2
          go_roundw
          case rel =>
            refine ⟨k + 1, by omega, by go_num, ?_⟩
            first | exact HB.out | exact below_drewN HB.out _ | exact HB.out.drew
          case measure => simp [intOf]; omega
        · have hkl : k = M.length := by omega
          subst hkl
          have D7 := hid (D6.out.trans (hb.mono D6.out.size))
          have e1 : ((M.length : Int) == (L.length : Int)) = true := by rw [HML.out]; simp
          clear hb
          go_wp2
          go_ret
          exact ⟨ret_bool (by first | rfl | exact e1), D7.out⟩

end Go.Proofs.Ytmgphagahdepfaa
