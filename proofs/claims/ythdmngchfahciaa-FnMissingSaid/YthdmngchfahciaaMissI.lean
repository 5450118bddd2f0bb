/- Contract: what is missing of a cart, as the program does it. -/
import Derived.Test.YthdmngchfahciaaStockW
import Derived.Test.YthdmngchfahciaaCartI
import Derived.Test.YthdmngchfahciaaOwn
namespace Go.Proofs.Ythdmngchfahciaa
open Go.RowKit

theorem lineInfo : (Try.prog.info? 36).map (fun i => (i.zero, i.size, i.bytes)) = some (some (.agg #[.int .i64 0, .int .i64 0]), 2, 16) := by kernel_rfl
def MissPost (w : World) (l c : List (Int × Int)) (e : Ending) (w' : World) : Prop :=
  ∃ v, e = .returned v ∧ Own enc2 2 36 w' w.heap.size v (missL l c) ∧ Below w.heap.size w w'
def MissRel (w : World) (l c : List (Int × Int)) (v i : Value) (wr : World) : Prop :=
  ∃ (k : Nat) (o : List (Int × Int)), k ≤ c.length ∧ i = .int .i64 k ∧ o = missTo l (c.take k) ∧ Own enc2 2 36 wr w.heap.size v o ∧ Below w.heap.size w wr
theorem okMiss_no1 {l c : List (Int × Int)} (hv : vStock l = false) : okMiss l c = false := by simp [okMiss, hv]
theorem okMiss_no2 {l c : List (Int × Int)} (hv : vCart l.length c = false) : okMiss l c = false := by simp [okMiss, hv]
theorem missL_no {l c : List (Int × Int)} (hk : okMiss l c = false) : missL l c = [] := by simp [missL, hk]
theorem missL_len {l c : List (Int × Int)} : (missL l c).length ≤ 1048576 := by
  unfold missL
  split
  · rename_i h
    have := missTo_len (l := l) (c := c)
    have := (okMiss_true.1 h).2.2.2
    omega
  · simp

set_option maxHeartbeats 3200000 in
set_option maxRecDepth 100000 in
theorem missing_any (l c : List (Int × Int)) (A Ac : Option Addr) (cap capc : Nat) (w : World) (hA : Sl enc2 2 w w.heap.size A l) (hC : Sl enc2 2 w w.heap.size Ac c) (hl : l.length ≤ 1048576) (hc : c.length ≤ 1048576) :
    Calls Try.prog 21 #[.slice A l.length cap, .slice Ac c.length capc] w (MissPost w l c) := by
  have O0 := Own.lit0 enc2 2 36 w w.heap.size rfl (Nat.le_refl _)
  have D0 := (Below.refl w.heap.size w).alloc (Nat.le_refl _) (.cells #[] 36)
  have hA0 : Sl enc2 2 (w.alloc (.cells #[] 36)) (w.alloc (.cells #[] 36)).heap.size A l := (hA.alloc (Nat.le_refl _) _).more (by simp)
  have hC0 : Sl enc2 2 (w.alloc (.cells #[] 36)) (w.alloc (.cells #[] 36)).heap.size Ac c := (hC.alloc (Nat.le_refl _) _).more (by simp)
  by_cases hv : vStock l = true
  · by_cases hcv : vCart l.length c = true
    · have HV := hid (vStock_iff.1 hv)
      have HC := hid (vCart_iff.1 hcv)
      have HVV := hid hv
      have HCC := hid hcv
      have HML := hid (show missL l c = missTo l c by simp [missL, okMiss, hv, hcv])
      have hl1 := HV.out.2.1
      have hl10 := HV.out.2.2
      have hc8 := HC.out.2.2
      clear hv hcv
      go_enter Try.func21, Try.ntmps21
      go_wp2_with fail
      refine (validStock_any l A cap _ hA0 (by omega)).mono ?_
      rintro e w1 ⟨rfl, b1⟩
      rw [HVV.out]
      have hC1 := (hC0.below b1 (Nat.le_refl _)).more b1.size
      have O1 := O0.below b1 (Nat.le_refl _)
      have D1 := D0.trans (b1.mono (by simp))
      clear b1 O0 hA0 hC0 D0
      go_wp2_with fail
      refine (linesOk_any c Ac capc l.length _ hC1 (by omega) (by omega)).mono ?_
      rintro e w2 ⟨rfl, b2⟩
      rw [HCC.out]
      have O2 := O1.below b2 (Nat.le_refl _)
      have D2 := D1.trans (b2.mono D1.size)
      clear b2 hC1 O1 D1
      go_wp2_with fail
      go_loopw [5, 23] (fun v i wr => MissRel w l c v i wr) (fun _ i _ => c.length - (intOf i).toNat)
      case atStart => exact ⟨0, [], Nat.zero_le _, rfl, by simp [missTo], O2, D2⟩
      case round =>
        clear O2 D2
        obtain ⟨k, o, hk, rfl, hoe, ho, hb⟩ := hrel
        have HOE := hid hoe
        have hsz := hb.size
        have HB := hid hb
        have hol : o.length ≤ 8 := by rw [hoe]; have := missTo_len (l := l) (c := c.take k); rw [List.length_take] at this; omega
        clear hoe
        by_cases hlt : k < c.length
        · obtain ⟨b, off, rfl, hbb, c1, c2⟩ := hC.get2 hlt
          have hx := HC.out.at_ hlt
          obtain ⟨a, ha⟩ : ∃ a : Nat, g1 c k = a := ⟨(g1 c k).toNat, by omega⟩
          obtain ⟨q, hq⟩ : ∃ q, g2 c k = q := ⟨_, rfl⟩
          have hty := @missTo_yes l c k hlt
          have htn := @missTo_no l c k hlt
          rw [ha, hq, Int.toNat_natCast] at hty
          rw [ha, hq, Int.toNat_natCast] at htn
          rw [ha] at c1 hx
          rw [hq] at c2 hx
          have d1 : wr.cell? ⟨b, off + k * 2, none⟩ = some (.int .i64 (a : Int)) := (hb.cell hbb).trans c1
          have d2 : wr.cell? ⟨b, off + k * 2 + 1, none⟩ = some (.int .i64 q) := (hb.cell hbb).trans c2
          have hbw : b < wr.heap.size := by omega
          have hal : a < l.length := by omega
          obtain ⟨_, hq1, hq2⟩ := hx
          obtain ⟨b', off', rfl, hbb', c3, _⟩ := hA.get2 hal
          have hf := (HV.out.1 a hal).1
          obtain ⟨x, hx1⟩ : ∃ x, g1 l a = x := ⟨_, rfl⟩
          rw [hx1] at c3 hf hty htn
          have d3 : wr.cell? ⟨b', off' + a * 2, none⟩ = some (.int .i64 x) := (hb.cell hbb').trans c3
          have hbw' : b' < wr.heap.size := by omega
          obtain ⟨s1, s2⟩ := hf
          have HTY := hid hty
          have HTN := hid htn
          have w1 : IntKind.i64.wrap (q - x) = q - x := IntWalk.i64_in _ (by omega)
          have t1 : (a : Int) < (l.length : Int) := by omega
          have t2 : (k : Int) < (c.length : Int) := by omega
          clear c1 c2 c3 ha hq hx1 hb hty htn
          by_cases hpos : 0 < q - x
          · have hpos' : x < q := by omega
            go_wp2_with fail
            go_quiet (fail)
            clear w1
            have hoN := (ho.alloc (.cells #[.int .i64 (a : Int), .int .i64 q] 36)).drewN nq
            have hbN := below_drewN (HB.out.alloc hsz (.cells #[.int .i64 (a : Int), .int .i64 q] 36)) nq
            go_wp2_with (at_builtin; refine wpList_push len2 one2 rfl (.tmp 38) (.tmp 43) _ rfl Try.underlying30 lineInfo rfl (by omega) (by omega) rfl (hoN) ⟨a, q - x⟩ (by simp) rfl rfl (by (try simp) <;> omega) (by (try simp) <;> omega) ?_)
            intro v2 w2 ho2 hg2 _
            have D2 := hid (below_push hbN (by simp; omega) hoN (Nat.le_refl _) hg2)
            clear hg2
            go_wp2
            go_roundw
            case rel =>
              refine ⟨k + 1, o ++ [((a : Int), q - x)], by omega, by go_num, ?_, ho2, D2.out⟩
              rw [HTY.out (by omega), HOE.out]
            case measure => simp [intOf]; omega
          · have hpos' : q ≤ x := by omega
            have HP := hid hpos
            go_wp2_with fail
            go_quiet (fail)
            clear w1
            go_wp2
            go_roundw
            case rel =>
              refine ⟨k + 1, o, by omega, by go_num, ?_, (ho.alloc (.cells #[.int .i64 (a : Int), .int .i64 q] 36)).drewN nq, below_drewN (HB.out.alloc hsz (.cells #[.int .i64 (a : Int), .int .i64 q] 36)) nq⟩
              rw [HTN.out HP.out, HOE.out]
            case measure => simp [intOf]; omega
        · have hkl : k = c.length := by omega
          subst hkl
          have HE := hid (show o = missTo l c by rw [HOE.out, List.take_length])
          go_wp2
          go_ret
          refine ⟨_, rfl, ?_, HB.out⟩
          rw [HML.out, ← HE.out]
          exact ho
    · have hcv' : vCart l.length c = false := by simpa using hcv
      have HVV := hid hv
      have HCC := hid hcv'
      have hl10 := (vStock_iff.1 hv).2.2
      clear hv hcv hcv'
      go_enter Try.func21, Try.ntmps21
      go_wp2_with fail
      refine (validStock_any l A cap _ hA0 (by omega)).mono ?_
      rintro e w1 ⟨rfl, b1⟩
      rw [HVV.out]
      have hC1 := (hC0.below b1 (Nat.le_refl _)).more b1.size
      have O1 := O0.below b1 (Nat.le_refl _)
      have D1 := D0.trans (b1.mono (by simp))
      clear b1 O0 hA0 hC0 D0
      go_wp2_with fail
      refine (linesOk_any c Ac capc l.length _ hC1 (by omega) (by omega)).mono ?_
      rintro e w2 ⟨rfl, b2⟩
      rw [HCC.out]
      have OE := hid (O1.below b2 (Nat.le_refl _))
      have D2 := hid (D1.trans (b2.mono D1.size))
      clear b2 hC1 O1 D1
      go_wp2
      go_ret
      refine ⟨.slice (some ⟨w.heap.size, 0, none⟩) 0 0, rfl, ?_, D2.out⟩
      rw [missL_no (okMiss_no2 HCC.out)]
      exact OE.out
  · have hv' : vStock l = false := by simpa using hv
    have HVV := hid hv'
    clear hv hv'
    go_enter Try.func21, Try.ntmps21
    go_wp2_with fail
    refine (validStock_any l A cap _ hA0 (by omega)).mono ?_
    rintro e w1 ⟨rfl, b1⟩
    rw [HVV.out]
    have OE := hid (O0.below b1 (Nat.le_refl _))
    have D1 := hid (D0.trans (b1.mono (by simp)))
    clear b1 O0 D0 hA0 hC0
    go_wp2
    go_ret
    refine ⟨.slice (some ⟨w.heap.size, 0, none⟩) 0 0, rfl, ?_, D1.out⟩
    rw [missL_no (okMiss_no1 HVV.out)]
    exact OE.out

end Go.Proofs.Ythdmngchfahciaa
