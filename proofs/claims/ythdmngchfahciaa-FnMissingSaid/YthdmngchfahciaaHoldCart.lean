/- Contracts: HoldCart, as the program and as the reference do it. -/
import Derived.Test.YthdmngchfahciaaMovedS
namespace Go.Proofs.Ythdmngchfahciaa
open Go.RowKit

set_option maxHeartbeats 400000 in
theorem holdCart_any (l c : List (Int × Int)) (A Ac : Option Addr) (cap capc : Nat) (w : World) (hA : Sl enc2 2 w w.heap.size A l) (hC : Sl enc2 2 w w.heap.size Ac c) (hl : l.length ≤ 1048576) (hc : c.length ≤ 1048576) :
    Calls Try.prog 29 #[.slice A l.length cap, .slice Ac c.length capc] w (MovedPost w (-1) 1 l c) := by
  go_enter Try.func29, Try.ntmps29
  go_wp2_with fail
  refine (moved_any l c A Ac cap capc (-1) 1 _ (by omega) (by omega) hA hC hl hc).mono ?_
  rintro e w1 ⟨v, rfl, o1, b1⟩
  have O1 := hid o1
  have B1 := hid b1
  clear o1 b1
  go_wp2
  go_ret2
  exact ⟨v, rfl, O1.out, B1.out⟩

set_option maxHeartbeats 800000 in
theorem sHoldCart_any (l c : List (Int × Int)) (A Ac : Option Addr) (cap capc : Nat) (w : World) (hA : Sl enc2 2 w w.heap.size A l) (hC : Sl enc2 2 w w.heap.size Ac c) (hl : l.length ≤ 1048576) (hc : c.length ≤ 1048576) :
    Calls Try.prog 30 #[.slice A l.length cap, .slice Ac c.length capc] w (MovedPost w (-1) 1 l c) := by
  by_cases hv : vStock l = true
  · have HVV := hid hv
    have hl10 := (vStock_iff.1 hv).2.2
    by_cases hcv : vCart l.length c = true
    · have HCC := hid hcv
      have HK := hid (show okMv (-1) 1 l c = vStock (mvTo (-1) 1 l c) by simp [okMv, hv, hcv])
      have HM := hid (show mvL (-1) 1 l c = if vStock (mvTo (-1) 1 l c) then mvTo (-1) 1 l c else [] by rw [mvL, HK.out])
      clear hv hcv
      go_enter Try.func30, Try.ntmps30
      go_wp2_with fail
      refine (svalidStock_any l A cap _ hA (by omega)).mono ?_
      rintro e w1 ⟨rfl, b1⟩
      rw [HVV.out]
      have hC1 := (hC.below b1 (Nat.le_refl _)).more b1.size
      have hA1 := (hA.below b1 (Nat.le_refl _)).more b1.size
      go_wp2_with fail
      refine (fitsStock_any c Ac capc l.length cap A _ hC1 (by omega) (by omega)).mono ?_
      rintro e w2 ⟨rfl, b2⟩
      rw [HCC.out]
      have hC2 := (hC1.below b2 (Nat.le_refl _)).more b2.size
      have hA2 := (hA1.below b2 (Nat.le_refl _)).more b2.size
      have D2 := b1.trans (b2.mono b1.size)
      clear b1 b2 hC1 hA1
      go_wp2_with fail
      refine (smoved_any l c A Ac cap capc (-1) 1 _ (by omega) (by omega) hA2 hC2 HVV.out HCC.out).mono ?_
      rintro e w3 ⟨v, rfl, o3, b3⟩
      have O3 := hid (o3.less D2.size)
      have D3 := hid (D2.trans (b3.mono D2.size))
      clear o3 b3 D2 hA2 hC2
      go_wp2
      go_ret2
      exact ⟨v, by rw [HK.out]; rfl, by rw [HM.out]; exact O3.out, D3.out⟩
    · have hcv' : vCart l.length c = false := by simpa using hcv
      have HCC := hid hcv'
      clear hv hcv hcv'
      go_enter Try.func30, Try.ntmps30
      go_wp2_with fail
      refine (svalidStock_any l A cap _ hA (by omega)).mono ?_
      rintro e w1 ⟨rfl, b1⟩
      rw [HVV.out]
      have hC1 := (hC.below b1 (Nat.le_refl _)).more b1.size
      go_wp2_with fail
      refine (fitsStock_any c Ac capc l.length cap A _ hC1 (by omega) (by omega)).mono ?_
      rintro e w2 ⟨rfl, b2⟩
      rw [HCC.out]
      have D2 := hid (b1.trans (b2.mono b1.size))
      clear b1 b2 hC1
      go_wp2
      go_ret2
      refine ⟨.slice none 0 0, by rw [okMv_no2 HCC.out]; rfl, ?_, D2.out⟩
      rw [mvL_no (okMv_no2 HCC.out)]
      exact Own.nil_ ..
  · have hv' : vStock l = false := by simpa using hv
    have HVV := hid hv'
    clear hv hv'
    go_enter Try.func30, Try.ntmps30
    go_wp2_with fail
    refine (svalidStock_any l A cap _ hA (by omega)).mono ?_
    rintro e w1 ⟨rfl, b1⟩
    rw [HVV.out]
    have D1 := hid b1
    clear b1
    go_wp2
    go_ret2
    refine ⟨.slice none 0 0, by rw [okMv_no1 HVV.out]; rfl, ?_, D1.out⟩
    rw [mvL_no (okMv_no1 HVV.out)]
    exact Own.nil_ ..

end Go.Proofs.Ythdmngchfahciaa
