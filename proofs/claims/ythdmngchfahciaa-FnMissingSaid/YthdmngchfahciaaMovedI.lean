/- Contract: a stock moved by a cart, as the program does it. -/
import Derived.Test.YthdmngchfahciaaStockW
import Derived.Test.YthdmngchfahciaaCartI
import Derived.Test.YthdmngchfahciaaOwn
import Derived.RegionTactic
import Derived.BigRegion
namespace Go.Proofs.Ythdmngchfahciaa
open Go.RowKit

theorem stockInfo : (Try.prog.info? 38).map (fun i => (i.zero, i.size, i.bytes)) = some (some (.agg #[.int .i64 0, .int .i64 0]), 2, 16) := by kernel_rfl

def MovedPost (w : World) (f h : Int) (l c : List (Int × Int)) (e : Ending) (w' : World) : Prop :=
  ∃ v, e = .returned (.tuple #[v, .bool (okMv f h l c)]) ∧ Own enc2 2 38 w' w.heap.size v (mvL f h l c) ∧ Below w.heap.size w w'
def MovRel (w : World) (f h : Int) (l c : List (Int × Int)) (v : Value) (i : Value) (wr : World) : Prop :=
  ∃ (k : Nat) (o : List (Int × Int)), k ≤ c.length ∧ i = .int .i64 k ∧ o = mvTo f h l (c.take k) ∧ Own enc2 2 38 wr w.heap.size v o ∧ Below w.heap.size w wr

theorem prod_bd {f q : Int} (hf : -1 ≤ f ∧ f ≤ 1) (hq : 1 ≤ q ∧ q ≤ 20) : -20 ≤ f * q ∧ f * q ≤ 20 := by
  have : f = -1 ∨ f = 0 ∨ f = 1 := by omega
  rcases this with rfl | rfl | rfl <;> omega
theorem okMv_no1 {f h : Int} {l c : List (Int × Int)} (hv : vStock l = false) : okMv f h l c = false := by simp [okMv, hv]
theorem okMv_no2 {f h : Int} {l c : List (Int × Int)} (hv : vCart l.length c = false) : okMv f h l c = false := by simp [okMv, hv]
theorem mvL_no {f h : Int} {l c : List (Int × Int)} (hk : okMv f h l c = false) : mvL f h l c = [] := by simp [mvL, hk]

theorem mvL_len {f h : Int} {l c : List (Int × Int)} : (mvL f h l c).length ≤ 1048576 := by
  unfold mvL
  split
  · rename_i hk
    have := (okMv_true.1 hk).1.2.2
    rw [mvTo_len]; omega
  · simp

set_option maxHeartbeats 3200000 in
set_option maxRecDepth 100000 in
theorem moved_any (l c : List (Int × Int)) (A Ac : Option Addr) (cap capc : Nat) (f h : Int) (w : World) (hf : -1 ≤ f ∧ f ≤ 1) (hh : -1 ≤ h ∧ h ≤ 1) (hA : Sl enc2 2 w w.heap.size A l) (hC : Sl enc2 2 w w.heap.size Ac c) (hl : l.length ≤ 1048576) (hc : c.length ≤ 1048576) :
    Calls Try.prog 49 #[.slice A l.length cap, .slice Ac c.length capc, .int .i64 f, .int .i64 h] w (MovedPost w f h l c) := by
  by_cases hv : vStock l = true
  · by_cases hcv : vCart l.length c = true
    · have HV := hid (vStock_iff.1 hv)
      have HC := hid (vCart_iff.1 hcv)
      have HVV := hid hv
      have HCC := hid hcv
      have hl1 := HV.out.2.1
      have hl10 := HV.out.2.2
      have hc8 := HC.out.2.2
      clear hv hcv
      go_enter Try.func49, Try.ntmps49
      go_wp2_with fail
      refine (validStock_any l A cap _ hA (by omega)).mono ?_
      rintro e w1 ⟨rfl, b1⟩
      rw [HVV.out]
      have hC1 := (hC.below b1 (Nat.le_refl _)).more b1.size
      go_wp2_with fail
      refine (linesOk_any c Ac capc l.length _ hC1 (by omega) (by omega)).mono ?_
      rintro e w2 ⟨rfl, b2⟩
      rw [HCC.out]
      have D2 := b1.trans (b2.mono b1.size)
      have z2 := D2.size
      have hA2 := (hA.below D2 (Nat.le_refl _)).more D2.size
      have O2 := Own.lit0 enc2 2 38 w2 w.heap.size rfl z2
      clear b1 b2 hC1
      go_wp2_with (at_builtin; refine wpList_pushAll len2 one2 rfl (.tmp 24) (.tmp 25) _ rfl Try.underlying25 stockInfo rfl (by omega) (by omega) rfl O2 (m := l) rfl rfl ((hA2.alloc (Nat.le_refl _) _)) (by intro he; subst he; simp at hl1) (by simp; omega) (by simp; omega) ?_)
      intro v w3 ho3 hg3 _
      have D3 := below_row (D2.alloc z2 (.cells #[] 38)) O2 (Nat.le_refl _) (by simp; omega) hg3
      obtain ⟨g, cap', rfl, hg1⟩ : ∃ g cap', v = .slice (some ⟨g, 0, none⟩) l.length cap' ∧ w.heap.size ≤ g ∧ l.length ≤ cap' ∧ cap' ≤ maxLen := by
        rcases ho3.form with ⟨_, h0⟩ | ⟨g, cap', h1, h2, h3, h4, h5⟩
        · subst h0; simp at hl1
        · exact ⟨g, cap', h1, h2, h4, h5⟩
      obtain ⟨hgb, hcap, hcapm⟩ := hg1
      clear D2 O2 hg3 hA2
      go_wp2_with fail
      go_loopw [29] (fun i wr => MovRel w f h l c (.slice (some ⟨g, 0, none⟩) l.length cap') i wr) (fun i _ => c.length - (intOf i).toNat)
      case atStart => exact ⟨0, l, Nat.zero_le _, rfl, rfl, ho3, D3⟩
      case round =>
        clear ho3 D3 z2
        obtain ⟨k, o, hk, rfl, hoe, ho, hb⟩ := hrel
        have hol : l.length = o.length := by rw [hoe, mvTo_len]
        have HOE := hid hoe
        have HOL := hid hol
        have hsz := hb.size
        have HB := hid hb
        clear hoe hol
        by_cases hlt : k < c.length
        · obtain ⟨b, off, rfl, hbb, c1, c2⟩ := hC.get2 hlt
          have hx := HC.out.at_ hlt
          obtain ⟨a, ha⟩ : ∃ a : Nat, g1 c k = a := ⟨(g1 c k).toNat, by omega⟩
          obtain ⟨q, hq⟩ : ∃ q, g2 c k = q := ⟨_, rfl⟩
          rw [ha] at c1 hx
          rw [hq] at c2 hx
          have d1 : wr.cell? ⟨b, off + k * 2, none⟩ = some (.int .i64 (a : Int)) := (hb.cell hbb).trans c1
          have d2 : wr.cell? ⟨b, off + k * 2 + 1, none⟩ = some (.int .i64 q) := (hb.cell hbb).trans c2
          have hbw : b < wr.heap.size := by omega
          have hbg : b ≠ g := by omega
          have hal : a < l.length := by omega
          obtain ⟨_, hq1, hq2⟩ := hx
          obtain ⟨y1, y2⟩ := prod_bd hf ⟨hq1, hq2⟩
          obtain ⟨y3, y4⟩ := prod_bd hh ⟨hq1, hq2⟩
          have hsm := mvTo_small (n := l.length) rfl HV.out HC.out hf hh k hal
          rw [← HOE.out] at hsm
          obtain ⟨x, hx1⟩ : ∃ x, g1 o a = x := ⟨_, rfl⟩
          obtain ⟨y, hy1⟩ : ∃ y, g2 o a = y := ⟨_, rfl⟩
          rw [hx1, hy1] at hsm
          obtain ⟨⟨s1, s2⟩, s3, s4⟩ := hsm
          have HK := hid (show o[a]? = some (x, y) by rw [g12_get (by have := HOL.out; omega), hx1, hy1])
          have HT := hid (show o.set a (x + f * q, y + h * q) = mvTo f h l (c.take (k + 1)) by
            rw [mvTo_step hlt, ha, hq, ← HOE.out]
            simp only [mvStep, Int.toNat_natCast]
            rw [hx1, hy1])
          have e0 := ho.cell len2 HOL.out HK.out (j := 0) rfl
          have e1 := ho.cell len2 HOL.out HK.out (j := 1) rfl
          rw [Nat.add_zero] at e0
          have ef := ho.frozen HOL.out
          have hgw : g < wr.heap.size := (ho.lt g rfl).2
          have ho6 := ho.store len2 HOL.out HK.out (j := 0) (a' := (x + f * q, y)) (by omega) (u := .int .i64 (x + f * q)) rfl
          have ho7 := ho6.store len2 (by (try simp only [List.length_set]); exact HOL.out) (i := a) (j := 1) (a := (x + f * q, y)) (a' := (x + f * q, y + h * q)) (u := .int .i64 (y + h * q)) (by rw [List.getElem?_set_self (by (try simp only [List.length_set]); have := HOL.out; omega)]) (by omega) rfl
          simp only [List.set_set] at ho7
          rw [HT.out, Nat.add_zero] at ho7
          have HO7 := hid (ho7.alloc (.cells #[.int .i64 (a : Int), .int .i64 q] 36))
          have D7 := hid (((HB.out.setCell (p := ⟨g, a * 2, none⟩) hgb (.int .i64 (x + f * q))).setCell (p := ⟨g, a * 2 + 1, none⟩) hgb (.int .i64 (y + h * q))).alloc (by simpa using hsz) (.cells #[.int .i64 (a : Int), .int .i64 q] 36))
          have w1 : IntKind.i64.wrap (f * q) = f * q := IntWalk.i64_in _ (by omega)
          have w2 : IntKind.i64.wrap (h * q) = h * q := IntWalk.i64_in _ (by omega)
          have w3 : IntKind.i64.wrap (x + f * q) = x + f * q := IntWalk.i64_in _ (by omega)
          have w4 : IntKind.i64.wrap (y + h * q) = y + h * q := IntWalk.i64_in _ (by omega)
          have t1 : (a : Int) < (l.length : Int) := by omega
          clear ho ho6 ho7 c1 c2 ha hq hx1 hy1 hb
          go_wp2_with fail
          go_region
          go_wp2_with fail
          go_region
          go_wp2
          go_roundw
          case rel => exact ⟨k + 1, _, by omega, by go_num, rfl, HO7.out.drew.drew, D7.out.drew.drew⟩
          case measure => simp [intOf]; omega
        · have hkl : k = c.length := by omega
          subst hkl
          have hOL := HOL.out
          have HE := hid (show o = mvTo f h l c by rw [HOE.out, List.take_length])
          have rR := ho.sl len2
          go_wp2_with fail
          refine (validStock_any o _ cap' _ rR (by omega)).mono ?_
          rintro e w5 ⟨rfl, b5⟩
          have D5 := hb.trans (b5.mono hb.size)
          by_cases hvo : vStock o = true
          · have HK := hid (show okMv f h l c = true by simp [okMv, HVV.out, HCC.out, ← HE.out, hvo])
            have HM := hid (show mvL f h l c = o by rw [mvL, HK.out, if_pos rfl, HE.out])
            have o5 := hid (ho.below b5 (Nat.le_refl _))
            have DD := hid D5
            clear b5 D5 hb ho rR
            go_wp2
            go_ret2
            exact ⟨.slice (some ⟨g, 0, none⟩) o.length cap', by rw [HK.out]; rfl, by rw [HM.out]; have h9 := o5.out; rw [hOL] at h9; exact h9, DD.out⟩
          · have hvo' : vStock o = false := by simpa using hvo
            have HK := hid (show okMv f h l c = false by simp [okMv, ← HE.out, hvo'])
            have DD := hid D5
            clear hvo b5 D5 hb ho rR
            go_wp2
            go_ret2
            refine ⟨.slice (some ⟨w5.heap.size, 0, none⟩) 0 0, by rw [HK.out]; rfl, ?_, DD.out.alloc DD.out.size _⟩
            rw [mvL_no HK.out]
            exact Own.lit0 enc2 2 _ w5 w.heap.size rfl DD.out.size
    · have hcv' : vCart l.length c = false := by simpa using hcv
      have HVV := hid hv
      have HCC := hid hcv'
      have hl10 := (vStock_iff.1 hv).2.2
      clear hv hcv hcv'
      go_enter Try.func49, Try.ntmps49
      go_wp2_with fail
      refine (validStock_any l A cap _ hA (by omega)).mono ?_
      rintro e w1 ⟨rfl, b1⟩
      rw [HVV.out]
      have hC1 := (hC.below b1 (Nat.le_refl _)).more b1.size
      go_wp2_with fail
      refine (linesOk_any c Ac capc l.length _ hC1 (by omega) (by omega)).mono ?_
      rintro e w2 ⟨rfl, b2⟩
      rw [HCC.out]
      have D2 := hid (b1.trans (b2.mono b1.size))
      clear b1 b2 hC1
      go_wp2
      go_ret2
      refine ⟨.slice (some ⟨w2.heap.size, 0, none⟩) 0 0, by rw [okMv_no2 HCC.out]; rfl, ?_, D2.out.alloc D2.out.size _⟩
      rw [mvL_no (okMv_no2 HCC.out)]
      exact Own.lit0 enc2 2 _ w2 w.heap.size rfl D2.out.size
  · have hv' : vStock l = false := by simpa using hv
    have HVV := hid hv'
    clear hv hv'
    go_enter Try.func49, Try.ntmps49
    go_wp2_with fail
    refine (validStock_any l A cap _ hA (by omega)).mono ?_
    rintro e w1 ⟨rfl, b1⟩
    rw [HVV.out]
    go_wp2
    go_ret2
    refine ⟨.slice (some ⟨w1.heap.size, 0, none⟩) 0 0, by rw [okMv_no1 HVV.out]; rfl, ?_, b1.alloc b1.size _⟩
    rw [mvL_no (okMv_no1 HVV.out)]
    exact Own.lit0 enc2 2 _ w1 w.heap.size rfl b1.size

end Go.Proofs.Ythdmngchfahciaa
