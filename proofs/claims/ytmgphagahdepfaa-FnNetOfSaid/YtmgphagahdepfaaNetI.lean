/- Contract: the net amount of a cart, as the program does it. -/
import Derived.Test.YtmgphagahdepfaaTaxesI
namespace Go.Proofs.Ytmgphagahdepfaa
open Go.RowKit

def NetRel (w : World) (L : List (Int × Int × Int)) (n i : Value) (wr : World) : Prop :=
  ∃ k : Nat, k ≤ L.length ∧ i = .int .i64 k ∧ n = .int .i64 (snt (L.take k)) ∧ Below w.heap.size w wr

set_option maxHeartbeats 3200000 in
set_option maxRecDepth 100000 in
theorem netOf_any (s : List (Int × Int × Int × Int)) (c : List (Int × Int)) (l : List Int) (A Ac Al : Option Addr) (cap capc capl : Nat) (w : World) (hA : Sl enc4 4 w w.heap.size A s) (hC : Sl enc2 2 w w.heap.size Ac c) (hL : Sl enc1 1 w w.heap.size Al l) (hs : s.length ≤ 1048576) (hc : c.length ≤ 1048576) (hl : l.length ≤ 1048576) :
    Calls Try.prog 11 #[.slice A s.length cap, .slice Ac c.length capc, .slice Al l.length capl] w fun e w' => e = .returned (.int .i64 (netI s c l)) ∧ Below w.heap.size w w' := by
  by_cases hok : fitTax s c l = true
  · have HOK := hid hok
    have HI := hid (netI_fit hok)
    have HT := hid (fun i (hi : i < (taxesI s c l).length) => taxes_lim hok hi)
    clear hok
    go_enter Try.func11, Try.ntmps11
    go_wp2_with fail
    refine (leftOk_any s c l A Ac Al cap capc capl _ hA hC hL hs hc hl).mono ?_
    rintro e w1 ⟨rfl, b1⟩
    rw [HOK.out]
    have hA1 := (hA.below b1 (Nat.le_refl _)).more b1.size
    have hC1 := (hC.below b1 (Nat.le_refl _)).more b1.size
    have hL1 := (hL.below b1 (Nat.le_refl _)).more b1.size
    have B1 := hid b1
    clear b1 hA hC hL
    go_wp2_with fail
    refine (taxesOf_any s c l A Ac Al cap capc capl _ hA1 hC1 hL1 hs hc hl).mono ?_
    rintro e w2 ⟨v, rfl, O2, b2⟩
    have hlen := taxesI_len s c l
    obtain ⟨L, hLL⟩ : ∃ x, taxesI s c l = x := ⟨_, rfl⟩
    have HI2 := hid (show netI s c l = snt L by rw [HI.out, hLL])
    rw [hLL] at O2 hlen HT
    clear hLL
    obtain ⟨A2, c2, rfl, _, S2⟩ := O2.reads len3
    have B2 := hid (B1.out.trans (b2.mono B1.out.size))
    clear b2 hA1 hC1 hL1 O2
    go_wp2_with fail
    go_loopw [7, 20] (fun n i wr => NetRel w2 L n i wr) (fun _ i _ => L.length - (intOf i).toNat)
    case atStart => exact ⟨0, Nat.zero_le _, rfl, by simp [snt, sgr, sta], Below.refl _ _⟩
    case round =>
      obtain ⟨k, hk, rfl, rfl, hb⟩ := hrel
      have hsz := hb.size
      have hn := snt_bd HT.out k hk
      obtain ⟨N, hN⟩ : ∃ x, snt (L.take k) = x := ⟨_, rfl⟩
      rw [hN] at hn
      rw [hN]
      have HN := hid hN
      clear hN
      by_cases hlt : k < L.length
      · obtain ⟨b, off, rfl, hbb, c1, c2, c3⟩ := S2.get3 hlt
        have ht := HT.out k hlt
        obtain ⟨x, hx⟩ : ∃ x, t1 L k = x := ⟨_, rfl⟩
        obtain ⟨y, hy⟩ : ∃ x, t2 L k = x := ⟨_, rfl⟩
        obtain ⟨z, hz⟩ : ∃ x, t3 L k = x := ⟨_, rfl⟩
        rw [hx] at c1
        rw [hy] at c2 ht
        rw [hz] at c3 ht
        obtain ⟨z1, z2, z3⟩ := ht
        have HS := hid (show snt (L.take (k + 1)) = N + (y - z) by rw [snt_succ hlt, HN.out, hy, hz])
        have d1 : wr.cell? ⟨b, off + k * 3, none⟩ = some (.int .i64 x) := (hb.cell hbb).trans c1
        have d2 : wr.cell? ⟨b, off + k * 3 + 1, none⟩ = some (.int .i64 y) := (hb.cell hbb).trans c2
        have d3 : wr.cell? ⟨b, off + k * 3 + 2, none⟩ = some (.int .i64 z) := (hb.cell hbb).trans c3
        have hbw : b < wr.heap.size := by omega
        have HB := hid (hb.alloc hsz (.cells #[.int .i64 x, .int .i64 y, .int .i64 z] 32))
        clear c1 c2 c3 hx hy hz hb
        go_wp2
        go_roundw
        case rel => exact ⟨k + 1, by omega, by go_num, by rw [HS.out], HB.out⟩
        case measure => simp [intOf]; omega
      · have hkl : k = L.length := by omega
        subst hkl
        have HE := hid (show netI s c l = N by rw [HI2.out, ← HN.out, List.take_length])
        have HB := hid (B2.out.trans (hb.mono B2.out.size))
        clear hb
        go_wp2
        go_ret
        exact ⟨ret_int HE.out.symm, HB.out⟩
  · have hok' : fitTax s c l = false := by simpa using hok
    have HOK := hid hok'
    have HI := hid (netI_no hok')
    clear hok hok'
    go_enter Try.func11, Try.ntmps11
    go_wp2_with fail
    refine (leftOk_any s c l A Ac Al cap capc capl _ hA hC hL hs hc hl).mono ?_
    rintro e w1 ⟨rfl, b1⟩
    rw [HOK.out]
    have B1 := hid b1
    clear b1
    go_wp2
    go_ret
    exact ⟨ret_int HI.out.symm, B1.out⟩

end Go.Proofs.Ytmgphagahdepfaa
