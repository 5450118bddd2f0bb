/- Contract: the net amount of a cart, as the paper says it. -/
import Derived.Test.YtmgphagahdepfaaTaxesS
import Derived.Test.YtmgphagahdepfaaNetI
namespace Go.Proofs.Ytmgphagahdepfaa
open Go.RowKit

set_option maxHeartbeats 3200000 in
set_option maxRecDepth 100000 in
theorem snetOf_no (s : List (Int × Int × Int × Int)) (c : List (Int × Int)) (l : List Int) (A Ac Al : Option Addr) (cap capc capl : Nat) (w : World) (hA : Sl enc4 4 w w.heap.size A s) (hC : Sl enc2 2 w w.heap.size Ac c) (hL : Sl enc1 1 w w.heap.size Al l) (hs : s.length ≤ 1048576) (hc : c.length ≤ 1048576) (hl : l.length ≤ 1048576) (hno : fitTax s c l = false) :
    Calls Try.prog 12 #[.slice A s.length cap, .slice Ac c.length capc, .slice Al l.length capl] w fun e w' => e = .returned (.int .i64 (netI s c l)) ∧ Below w.heap.size w w' := by
  have hA0 := hA
  have hC0 := hC
  have hL0 := hL
  have HNO := hid (netI_no hno)
  have HN := hid hno
  clear hno hA hC hL
  by_cases hv1 : vShop s = true
  · have H1 := hid hv1
    clear hv1
    by_cases hv2 : vCart s.length c = true
    · have H2 := hid hv2
      have H3 := hid (show vLeft s c l = false by
        by_cases h : vLeft s c l = true
        · exact absurd (fit_all H1.out hv2 h) (by simp [HN.out])
        · simpa using h)
      clear hv2
      go_enter Try.func12, Try.ntmps12
      go_wp2_with fail
      refine (svalidShop_any s A cap _ hA0 (by omega)).mono ?_
      rintro e w1 ⟨rfl, b1⟩
      rw [H1.out]
      have hA1 := (hA0.below b1 (Nat.le_refl _)).more b1.size
      have hC1 := (hC0.below b1 (Nat.le_refl _)).more b1.size
      have hL1 := (hL0.below b1 (Nat.le_refl _)).more b1.size
      have D1 := hid b1
      clear b1 hA0 hC0 hL0
      go_wp2_with fail
      refine (svalidCart_any c Ac capc s.length cap A _ hC1 (by omega) (by omega)).mono ?_
      rintro e w2 ⟨rfl, b2⟩
      rw [H2.out]
      have hA2 := (hA1.below b2 (Nat.le_refl _)).more b2.size
      have hC2 := (hC1.below b2 (Nat.le_refl _)).more b2.size
      have hL2 := (hL1.below b2 (Nat.le_refl _)).more b2.size
      have D2 := hid (D1.out.trans (b2.mono D1.out.size))
      clear b2 hA1 hC1 hL1
      go_wp2_with fail
      refine (svalidLeft_any s c l A Ac Al cap capc capl _ hA2 hC2 hL2 H1.out H2.out hl).mono ?_
      rintro e w3 ⟨rfl, b3⟩
      rw [H3.out]
      have D3 := hid (D2.out.trans (b3.mono D2.out.size))
      clear b3 hA2 hC2 hL2
      go_wp2
      go_ret
      exact ⟨ret_int HNO.out.symm, D3.out⟩
    · have H2 := hid (show vCart s.length c = false by simpa using hv2)
      clear hv2
      go_enter Try.func12, Try.ntmps12
      go_wp2_with fail
      refine (svalidShop_any s A cap _ hA0 (by omega)).mono ?_
      rintro e w1 ⟨rfl, b1⟩
      rw [H1.out]
      have hC1 := (hC0.below b1 (Nat.le_refl _)).more b1.size
      have D1 := hid b1
      clear b1 hA0 hC0 hL0
      go_wp2_with fail
      refine (svalidCart_any c Ac capc s.length cap A _ hC1 (by omega) (by omega)).mono ?_
      rintro e w2 ⟨rfl, b2⟩
      rw [H2.out]
      have D2 := hid (D1.out.trans (b2.mono D1.out.size))
      clear b2 hC1
      go_wp2
      go_ret
      exact ⟨ret_int HNO.out.symm, D2.out⟩
  · have H1 := hid (show vShop s = false by simpa using hv1)
    clear hv1
    go_enter Try.func12, Try.ntmps12
    go_wp2_with fail
    refine (svalidShop_any s A cap _ hA0 (by omega)).mono ?_
    rintro e w1 ⟨rfl, b1⟩
    rw [H1.out]
    have D1 := hid b1
    clear b1 hA0 hC0 hL0
    go_wp2
    go_ret
    exact ⟨ret_int HNO.out.symm, D1.out⟩

set_option maxHeartbeats 3200000 in
set_option maxRecDepth 100000 in
theorem snetOf_yes (s : List (Int × Int × Int × Int)) (c : List (Int × Int)) (l : List Int) (A Ac Al : Option Addr) (cap capc capl : Nat) (w : World) (hA : Sl enc4 4 w w.heap.size A s) (hC : Sl enc2 2 w w.heap.size Ac c) (hL : Sl enc1 1 w w.heap.size Al l) (hs : s.length ≤ 1048576) (hc : c.length ≤ 1048576) (hl : l.length ≤ 1048576) (hok : fitTax s c l = true) :
    Calls Try.prog 12 #[.slice A s.length cap, .slice Ac c.length capc, .slice Al l.length capl] w fun e w' => e = .returned (.int .i64 (netI s c l)) ∧ Below w.heap.size w w' := by
  obtain ⟨hv1, hv2, hv3⟩ := fit_parts hok
  have HI := hid (netI_fit hok)
  have HT := hid (fun i (hi : i < (taxesI s c l).length) => taxes_lim hok hi)
  have H1 := hid hv1
  have H2 := hid hv2
  have H3 := hid hv3
  clear hv1 hv2 hv3 hok
  go_enter Try.func12, Try.ntmps12
  go_wp2_with fail
  refine (svalidShop_any s A cap _ hA (by omega)).mono ?_
  rintro e w1 ⟨rfl, b1⟩
  rw [H1.out]
  have hA1 := (hA.below b1 (Nat.le_refl _)).more b1.size
  have hC1 := (hC.below b1 (Nat.le_refl _)).more b1.size
  have hL1 := (hL.below b1 (Nat.le_refl _)).more b1.size
  have D1 := hid b1
  clear b1 hA hC hL
  go_wp2_with fail
  refine (svalidCart_any c Ac capc s.length cap A _ hC1 (by omega) (by omega)).mono ?_
  rintro e w2 ⟨rfl, b2⟩
  rw [H2.out]
  have hA2 := (hA1.below b2 (Nat.le_refl _)).more b2.size
  have hC2 := (hC1.below b2 (Nat.le_refl _)).more b2.size
  have hL2 := (hL1.below b2 (Nat.le_refl _)).more b2.size
  have D2 := hid (D1.out.trans (b2.mono D1.out.size))
  clear b2 hA1 hC1 hL1
  go_wp2_with fail
  refine (svalidLeft_any s c l A Ac Al cap capc capl _ hA2 hC2 hL2 H1.out H2.out hl).mono ?_
  rintro e w3 ⟨rfl, b3⟩
  rw [H3.out]
  have hA3 := (hA2.below b3 (Nat.le_refl _)).more b3.size
  have hC3 := (hC2.below b3 (Nat.le_refl _)).more b3.size
  have hL3 := (hL2.below b3 (Nat.le_refl _)).more b3.size
  have D3 := hid (D2.out.trans (b3.mono D2.out.size))
  clear b3 hA2 hC2 hL2
  go_wp2_with fail
  refine (staxesOf_any s c l A Ac Al cap capc capl _ hA3 hC3 hL3 hs hc hl).mono ?_
  rintro e w4 ⟨v, rfl, O2, b4⟩
  have hlen := taxesI_len s c l
  obtain ⟨L, hLL⟩ : ∃ x, taxesI s c l = x := ⟨_, rfl⟩
  have HI2 := hid (show netI s c l = snt L by rw [HI.out, hLL])
  rw [hLL] at O2 hlen HT
  clear hLL
  obtain ⟨A2, c2, rfl, _, S2⟩ := O2.reads len3
  have B2 := hid (D3.out.trans (b4.mono D3.out.size))
  clear b4 hA3 hC3 hL3 O2
  go_wp2_with fail
  go_loopw [7, 9] (fun n i wr => NetRel w4 L n i wr) (fun _ i _ => L.length - (intOf i).toNat)
  case atStart => exact ⟨0, Nat.zero_le _, rfl, by simp [snt, sgr, sta], Below.refl _ _⟩
  case round =>
    obtain ⟨k, hk, rfl, rfl, hb⟩ := hrel
    have hsz := hb.size
    have hn := snt_bd HT.out k hk
    obtain ⟨N, hN⟩ : ∃ x, snt (L.take k) = x := ⟨_, rfl⟩
    rw [hN] at hn
    rw [hN]
    have HN := hid hN
    clear hN
    by_cases hlt : k < L.length
    · obtain ⟨b, off, rfl, hbb, c1, c2, c3⟩ := S2.get3 hlt
      have ht := HT.out k hlt
      obtain ⟨y, hy⟩ : ∃ x, t2 L k = x := ⟨_, rfl⟩
      obtain ⟨z, hz⟩ : ∃ x, t3 L k = x := ⟨_, rfl⟩
      rw [hy] at c2 ht
      rw [hz] at c3 ht
      obtain ⟨z1, z2, z3⟩ := ht
      have HS := hid (show snt (L.take (k + 1)) = N + y - z by rw [snt_succ hlt, HN.out, hy, hz]; omega)
      have d2 : wr.cell? ⟨b, off + k * 3 + 1, none⟩ = some (.int .i64 y) := (hb.cell hbb).trans c2
      have d3 : wr.cell? ⟨b, off + k * 3 + 2, none⟩ = some (.int .i64 z) := (hb.cell hbb).trans c3
      have hbw : b < wr.heap.size := by omega
      have hkq : (k : Int) < (L.length : Int) := by omega
      have HB := hid hb
      have hw1 : IntKind.i64.wrap (N + y) = N + y := IntWalk.i64_in _ (by omega)
      have hw2 : IntKind.i64.wrap (N + y - z) = N + y - z := IntWalk.i64_in _ (by omega)
      clear c1 c2 c3 hy hz hb
      go_wp2_with fail
      go_quiet (fail)
      clear hw1 hw2
      go_wp2
      go_roundw
      case rel =>
        refine ⟨k + 1, by omega, by go_num, by rw [HS.out], ?_⟩
        first | exact HB.out | exact below_drewN HB.out _ | exact HB.out.drew
      case measure => simp [intOf]; omega
    · have hkl : k = L.length := by omega
      subst hkl
      have HE := hid (show netI s c l = N by rw [HI2.out, ← HN.out, List.take_length])
      have HB := hid (B2.out.trans (hb.mono B2.out.size))
      clear hb
      go_wp2
      go_ret
      exact ⟨ret_int HE.out.symm, HB.out⟩

theorem snetOf_any (s : List (Int × Int × Int × Int)) (c : List (Int × Int)) (l : List Int) (A Ac Al : Option Addr) (cap capc capl : Nat) (w : World) (hA : Sl enc4 4 w w.heap.size A s) (hC : Sl enc2 2 w w.heap.size Ac c) (hL : Sl enc1 1 w w.heap.size Al l) (hs : s.length ≤ 1048576) (hc : c.length ≤ 1048576) (hl : l.length ≤ 1048576) :
    Calls Try.prog 12 #[.slice A s.length cap, .slice Ac c.length capc, .slice Al l.length capl] w fun e w' => e = .returned (.int .i64 (netI s c l)) ∧ Below w.heap.size w w' := by
  by_cases h : fitTax s c l = true
  · exact snetOf_yes s c l A Ac Al cap capc capl w hA hC hL hs hc hl h
  · exact snetOf_no s c l A Ac Al cap capc capl w hA hC hL hs hc hl (by simpa using h)

end Go.Proofs.Ytmgphagahdepfaa
