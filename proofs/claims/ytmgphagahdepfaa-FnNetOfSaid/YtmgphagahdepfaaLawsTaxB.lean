/- The walk of the law on net amounts. -/
import Derived.Test.YtmgphagahdepfaaDrawLeft
import Derived.Test.YtmgphagahdepfaaNetS
import Derived.Test.YtmgphagahdepfaaSumTot
namespace Go.Proofs.Ytmgphagahdepfaa
open Go.RowKit

def AllRel (w : World) (N : Int) (L : List (Int × Int × Int)) (n i : Value) (wr : World) : Prop :=
  ∃ k : Nat, k ≤ L.length ∧ i = .int .i64 k ∧ n = .int .i64 (N + sta (L.take k)) ∧ wr = w

set_option maxHeartbeats 3200000 in
set_option maxRecDepth 100000 in
theorem fnNetOf_walk (w : World) (A : Option Addr) (len cap : Nat) (h : Bytes w w.heap.size A len cap) :
    Calls Try.prog 3 #[.slice A len cap] w fun e w' => e = .returned (.bool true) ∧ Below w.heap.size w w' := by
  by_cases hl : 1048576 < len
  · clear h
    go_enter Try.func3, Try.ntmps3
    go_wp2
    go_ret
    exact ⟨rfl, Below.refl _ _⟩
  · go_enter Try.func3, Try.ntmps3
    go_wp2_with fail
    refine (drawNetOf_any _ _ _ _ h).mono ?_
    rintro e w1 ⟨s, c, l, A1, A2, A3, c1, c2, c3, rfl, x1, x2, x3, S1, C1, L1, b1⟩
    have D1 := hid b1
    clear h b1
    obtain ⟨N, hN⟩ : ∃ x, netI s c l = x := ⟨_, rfl⟩
    have HN := hid hN
    clear hN
    go_wp2_with fail
    refine (netOf_any s c l A1 A2 A3 c1 c2 c3 _ S1 C1 L1 (by omega) (by omega) (by omega)).mono ?_
    rintro e w2 ⟨rfl, b2⟩
    rw [HN.out]
    have S2 := (S1.below b2 (Nat.le_refl _)).more b2.size
    have C2 := (C1.below b2 (Nat.le_refl _)).more b2.size
    have L2 := (L1.below b2 (Nat.le_refl _)).more b2.size
    have D2 := hid (D1.out.trans (b2.mono D1.out.size))
    clear b2 S1 C1 L1
    go_wp2_with fail
    refine (snetOf_any s c l A1 A2 A3 c1 c2 c3 _ S2 C2 L2 (by omega) (by omega) (by omega)).mono ?_
    rintro e w3 ⟨rfl, b3⟩
    rw [HN.out]
    have S3 := (S2.below b3 (Nat.le_refl _)).more b3.size
    have C3 := (C2.below b3 (Nat.le_refl _)).more b3.size
    have L3 := (L2.below b3 (Nat.le_refl _)).more b3.size
    have D3 := hid (D2.out.trans (b3.mono D2.out.size))
    clear b3 S2 C2 L2
    by_cases hok : fitTax s c l = true
    · have HT := hid (fun i (hi : i < (taxesI s c l).length) => taxes_lim hok hi)
      have HI := hid ((netI_fit hok).symm.trans HN.out)
      have HS := hid (sgr_taxes hok)
      have HLB := hid (fun k (hk : k < l.length) => left_at (fit_parts hok).1 (fit_parts hok).2.1 (fit_parts hok).2.2 (k := k) (by rw [← vLeft_len (fit_parts hok).2.2]; exact hk))
      have hn := snt_bd HT.out _ (Nat.le_refl _)
      rw [List.take_length, HI.out] at hn
      have hlen := taxesI_len s c l
      have n0 : ¬ N < 0 := by omega
      clear hok
      go_wp2_with fail
      refine (taxesOf_any s c l A1 A2 A3 c1 c2 c3 _ S3 C3 L3 (by omega) (by omega) (by omega)).mono ?_
      rintro e w4 ⟨v, rfl, O4, b4⟩
      have L4 := (L3.below b4 (Nat.le_refl _)).more b4.size
      have D4 := hid (D3.out.trans (b4.mono D3.out.size))
      obtain ⟨L, hLL⟩ : ∃ x, taxesI s c l = x := ⟨_, rfl⟩
      rw [hLL] at O4 hlen HT HS HI hn
      clear hLL b4 S3 C3 L3
      obtain ⟨A4, c4, rfl, _, S4⟩ := O4.reads len3
      clear O4
      obtain ⟨T, hT⟩ : ∃ x, tot (g0 l) l.length = x := ⟨_, rfl⟩
      have HTT := hid hT
      rw [hT] at HS
      clear hT
      go_wp2_with fail
      go_loopw [8, 9] (fun n i wr => AllRel w4 N L n i wr) (fun _ i _ => L.length - (intOf i).toNat)
      case atStart => exact ⟨0, Nat.zero_le _, rfl, by simp [sta], rfl⟩
      case round =>
        obtain ⟨k, hk, rfl, rfl, rfl⟩ := hrel
        have hsb := sta_bd HT.out k hk
        obtain ⟨X, hX⟩ : ∃ x, sta (L.take k) = x := ⟨_, rfl⟩
        rw [hX] at hsb ⊢
        have HX := hid hX
        clear hX
        by_cases hlt : k < L.length
        · obtain ⟨b, off, rfl, hbb, _, _, e3⟩ := S4.get3 hlt
          have ht := HT.out k hlt
          obtain ⟨z, hz⟩ : ∃ x, t3 L k = x := ⟨_, rfl⟩
          rw [hz] at e3 ht
          obtain ⟨z1, z2, z3⟩ := ht
          have HST := hid (show N + sta (L.take (k + 1)) = N + X + z by rw [sta_succ hlt, HX.out, hz]; omega)
          have z4 : z ≤ 800000 := by omega
          clear hz z2 z3
          go_wp2
          go_roundw
          case rel => exact ⟨k + 1, by omega, by go_num, by rw [HST.out], rfl⟩
          case measure => simp [intOf]; omega
        · have hkl : k = L.length := by omega
          subst hkl
          have HE := hid (show N + X = T ∧ N ≤ T by
            have h1 := HX.out
            have h2 := HI.out
            have h3 := HS.out
            rw [List.take_length] at h1
            unfold snt at h2
            omega)
          have e1 : (N + X == T) = true := by rw [HE.out.1]; simp
          have e2 : decide (N ≤ T) = true := decide_eq_true HE.out.2
          go_wp2_with (go_at_call 14; refine (sumT_any l A3 c3 _ L4 (by omega) HLB.out).mono ?_; rintro e w' ⟨rfl, rfl⟩; rw [HTT.out])
          go_ret
          exact ⟨ret_bool (by first | rfl | simp [HE.out.2]), D4.out⟩
    · have HI := hid ((netI_no (by simpa using hok)).symm.trans HN.out)
      have n0 : N < 0 := by have := HI.out; omega
      clear hok
      go_wp2_with fail
      refine (snetOf_any s c l A1 A2 A3 c1 c2 c3 _ S3 C3 L3 (by omega) (by omega) (by omega)).mono ?_
      rintro e w4 ⟨rfl, b4⟩
      rw [HN.out]
      have D4 := hid (D3.out.trans (b4.mono D3.out.size))
      clear b4 S3 C3 L3
      go_wp2
      go_ret
      exact ⟨ret_bool (by simp), D4.out⟩

end Go.Proofs.Ytmgphagahdepfaa
