/- Contract: a rule's discounts, as the program does it. -/
import Derived.Test.YtkgofklpogdpmaaGreatZWishS
import Derived.Test.YtkgofklpogdpmaaGreatZC
import Derived.Test.YtkgofklpogdpmaaGreatZE
namespace Go.Proofs.YtkgofklpogdpmaaGreat
open Go.RowKit

theorem vRule_all {n lv rk gp kd vl cp lo hi : Int} {S : List (Int × Int)} {cn : Int} (h : vRule n lv rk gp kd vl cp lo hi S cn = true) : (-1 ≤ gp ∧ gp ≤ 2) ∧ (0 ≤ cp ∧ cp ≤ 1000000) ∧ vGuard lo hi S cn = true ∧ vKind kd vl = true := by
  unfold vRule at h
  simp only [Bool.and_eq_true, withinB_true] at h
  exact ⟨h.2.2.2.1, h.2.2.2.2.1, h.2.2.2.2.2.1, h.2.2.2.2.2.2⟩

set_option maxHeartbeats 6400000 in
set_option maxRecDepth 100000 in
theorem effectOf_any (s : List (Int × Int × Int × Int)) (c : List (Int × Int)) (l : List Int) (A Ac Al : Option Addr) (cap capc capl : Nat) (n lv rk gp kd vl cp lo hi cn : Int) (a : Option Addr) (C : Nat) (S : List (Int × Int)) (w : World) (hA : Sl enc4 4 w w.heap.size A s) (hC : Sl enc2 2 w w.heap.size Ac c) (hL : Sl enc1 1 w w.heap.size Al l) (hS : Sl enc2 2 w w.heap.size a S) (hs : vShop s = true) (hc : vCart s.length c = true) (hv : vLeft s c l = true) (hr : vRule n lv rk gp kd vl cp lo hi S cn = true) :
    Calls Tryz.prog 17 #[.slice A s.length cap, .slice Ac c.length capc, .agg #[.int .i64 n, .int .i64 lv, .int .i64 rk, .int .i64 gp, .int .i64 kd, .int .i64 vl, .int .i64 cp, .int .i64 lo, .int .i64 hi, .slice a S.length C, .int .i64 cn], .slice Al l.length capl] w (EffPost w (effP s c gp kd vl cp l)) := by
  obtain ⟨hgp, hcp, hvg, hk⟩ := vRule_all hr
  have HS := hid hs
  have HC := hid hc
  have HV := hid hv
  have HK := hid hk
  have HR := hid hr
  have HCP := hid hcp
  have HGP := hid hgp
  have HFT := hid (show fitTax s c l = true by unfold fitTax; rw [hs, hc, hv]; rfl)
  have hS3 : S.length ≤ 1000 := by have := (vGuard_iff.1 hvg).2.2.1; omega
  have hs10 := vShop_len hs
  have hc8 := (vCart_iff.1 hc).2.2
  have HLL := hid (vLeft_len hv)
  have hl8 : l.length ≤ 8 := by rw [vLeft_len hv]; exact hc8
  have HEF := hid (show effP s c gp kd vl cp l = if 0 < cp ∧ cp < tot (g0 (wishP s c gp kd vl l)) c.length then apP cp (wishP s c gp kd vl l) else wishP s c gp kd vl l from rfl)
  have HEL := hid (eff_bd (gp := gp) (cp := cp) hs hc hv hk).1
  have KB0 := hid (Blk.new w 54 #[.int .i64 n, .int .i64 lv, .int .i64 rk, .int .i64 gp, .int .i64 kd, .int .i64 vl, .int .i64 cp, .int .i64 lo, .int .i64 hi, .slice a S.length C, .int .i64 cn])
  obtain ⟨w0, hw0⟩ : ∃ x, x = w.alloc (.cells #[.int .i64 n, .int .i64 lv, .int .i64 rk, .int .i64 gp, .int .i64 kd, .int .i64 vl, .int .i64 cp, .int .i64 lo, .int .i64 hi, .slice a S.length C, .int .i64 cn] 54) := ⟨_, rfl⟩
  rw [← hw0] at KB0
  have D0 := hid (show Below w.heap.size w w0 by rw [hw0]; exact (Below.refl _ _).alloc (Nat.le_refl _) _)
  have hz0 : w0.heap.size = w.heap.size + 1 := by rw [hw0]; simp
  have HW := hid hw0
  have zA := hid ((hA.below D0.out (Nat.le_refl _)).more (show w.heap.size ≤ w0.heap.size by omega))
  have zC := hid ((hC.below D0.out (Nat.le_refl _)).more (show w.heap.size ≤ w0.heap.size by omega))
  have zL := hid ((hL.below D0.out (Nat.le_refl _)).more (show w.heap.size ≤ w0.heap.size by omega))
  have zS := hid ((hS.below D0.out (Nat.le_refl _)).more (show w.heap.size ≤ w0.heap.size by omega))
  have HM := hid (fun k (h : k < c.length) => show g0 (mnts s c gp l) k = mntK s c gp l k from g0_map h)
  have HML := hid (show (mnts s c gp l).length = c.length from map_len)
  have HMB := hid (fun k h => mnts_bd (gp := gp) hs hc hv k h)
  have HF := hid (fun k (h : k < c.length) => show g0 (dscs s c gp kd vl l) k = dscK s c gp kd vl l k from g0_map h)
  have HFL := hid (show (dscs s c gp kd vl l).length = c.length from map_len)
  have HWI := hid (show wishP s c gp kd vl l = if kd = 2 then apP (min vl (tot (g0 (mnts s c gp l)) c.length)) (mnts s c gp l) else dscs s c gp kd vl l from rfl)
  obtain ⟨N, hN⟩ : ∃ N, mnts s c gp l = N := ⟨_, rfl⟩
  obtain ⟨F, hF⟩ : ∃ F, dscs s c gp kd vl l = F := ⟨_, rfl⟩
  rw [hN] at HM HML HMB HWI
  rw [hF] at HF HFL HWI
  clear hs hc hv hk hr hcp hgp hvg hA hC hL hS hN hF hw0
  go_enter Tryz.func17, Tryz.ntmps17
  go_wp2_with fail
  rw [← HW.out]
  refine (validRule_any n lv rk gp kd vl cp lo hi cn a C S w0 zS.out hS3).mono ?_
  rintro e w1 ⟨rfl, b1⟩
  rw [HR.out]
  have z1 := b1.size
  have B1 := hid b1
  clear b1
  by_cases hn : c.length = 0
  · have e0 : ((c.length : Int) == 0) = true := by rw [hn]; rfl
    have HE := hid (show effP s c gp kd vl cp l = [] from List.length_eq_zero_iff.1 (by rw [HEL.out, hn]))
    have DB := hid (D0.out.trans (B1.out.mono D0.out.size))
    have O9 := hid ((Own.lit0 enc1 1 3 w1 w1.heap.size rfl (Nat.le_refl _)).less DB.out.size)
    have D9 := hid (DB.out.alloc DB.out.size (.cells #[] 3))
    clear hn
    go_wp2
    go_ret
    exact ⟨_, rfl, by rw [HE.out]; exact O9.out, D9.out⟩
  · have e0 : ((c.length : Int) == 0) = false := beq_eq_false_iff_ne.2 (by omega)
    have hn1 : 1 ≤ c.length := by omega
    clear hn
    have A1 := (zA.out.below B1.out (Nat.le_refl _)).more z1
    have C1 := (zC.out.below B1.out (Nat.le_refl _)).more z1
    have L1 := (zL.out.below B1.out (Nat.le_refl _)).more z1
    go_wp2_with fail
    refine (leftOk_any s c l A Ac Al cap capc capl w1 A1 C1 L1 (by omega) (by omega) (by omega)).mono ?_
    rintro e w2 ⟨rfl, b2⟩
    rw [HFT.out]
    have B2 := hid (B1.out.trans (b2.mono z1))
    have z2 := B2.out.size
    clear b2 B1 A1 C1 L1 z1
    go_wp2_with (at_make; refine wpList_makeL len1 (by omega) rfl (.tmp 34) (.tmp 34) _ rfl Tryz.underlying25 infoInt (by omega) (y := 0) rfl (base := w2.heap.size) (n := c.length) rfl rfl (by omega) (by omega) ?_)
    intro w3 O3 G3
    have D3 := hid (B2.out.grown G3 z2 (fun k hk => by cases hk))
    have OO := hid (show Own enc1 1 3 w3 w2.heap.size (.slice (some ⟨w2.heap.size, 0, none⟩) c.length c.length) (N.take 0 ++ List.replicate (N.length - 0) 0) by rw [HML.out]; simpa using O3)
    clear G3 O3 B2
    go_wp2_with fail
    go_loopw [38] (fun i wr => ∃ k : Nat, k ≤ c.length ∧ i = .int .i64 k ∧ Own enc1 1 3 wr w2.heap.size (.slice (some ⟨w2.heap.size, 0, none⟩) c.length c.length) (N.take k ++ List.replicate (N.length - k) 0) ∧ Below w0.heap.size w0 wr) (fun i _ => c.length - (intOf i).toNat)
    case atStart => exact ⟨0, Nat.zero_le _, rfl, OO.out, D3.out⟩
    case round =>
      clear OO D3
      obtain ⟨k, hk, rfl, ho1, hb⟩ := hrel
      have HB := hid hb
      have HO1 := hid ho1
      have hz1 := (ho1.lt w2.heap.size rfl).2
      have hzr : w0.heap.size ≤ wr.heap.size := hb.size
      clear ho1
      by_cases hlt : k < c.length
      · obtain ⟨b, off, rfl, hbb, c1, c2⟩ := zC.out.get2 hlt
        obtain ⟨f1, f2, f3, f4, _⟩ := fit_at HS.out HC.out hlt
        obtain ⟨j, hj⟩ : ∃ j : Nat, (g1 c k).toNat = j := ⟨_, rfl⟩
        obtain ⟨q, hq⟩ : ∃ q, g2 c k = q := ⟨_, rfl⟩
        rw [← f2, hj] at c1
        rw [hq] at c2
        rw [hj] at f1
        obtain ⟨b', off', rfl, hbb', _, c3, _⟩ := zA.out.get4 f1
        obtain ⟨g, hg⟩ : ∃ g, q2 s j = g := ⟨_, rfl⟩
        rw [hg] at c3
        have HMK := hid (show mntB s c gp k = (decide (gp < 0) || decide (g = gp)) by unfold mntB; rw [hj, hg])
        have hkx : k < l.length := by have := HLL.out; omega
        obtain ⟨bl, offl, rfl, hbl, c4⟩ := zL.out.get1 hkx
        obtain ⟨x, hx⟩ : ∃ x, g0 l k = x := ⟨_, rfl⟩
        rw [hx] at c4
        have HX := hid hx
        have d1 : wr.cell? ⟨b, off + k * 2, none⟩ = some (.int .i64 (j : Int)) := (hb.cell hbb).trans c1
        have d2 : wr.cell? ⟨b, off + k * 2 + 1, none⟩ = some (.int .i64 q) := (hb.cell hbb).trans c2
        have hbw : b < wr.heap.size := by omega
        obtain ⟨wa, hwa⟩ : ∃ x, x = wr.alloc (.cells #[.int .i64 (j : Int), .int .i64 q] 83) := ⟨_, rfl⟩
        have BA := hid (show Below wr.heap.size wr wa by rw [hwa]; exact (Below.refl _ _).alloc (Nat.le_refl _) _)
        have KL := hid (Blk.new wr 83 #[.int .i64 (j : Int), .int .i64 q])
        rw [← hwa] at KL
        have l0 : wa.cell? ⟨wr.heap.size, 0, none⟩ = some (.int .i64 (j : Int)) := KL.out.cell 0
        have HBA := hid (HB.out.trans (BA.out.mono hzr))
        have KB := hid (KB0.out.below HBA.out KB0.out.lt)
        have k3 : wa.cell? ⟨w.heap.size, 3, none⟩ = some (.int .i64 gp) := KB.out.cell 3
        have HOA := hid (HO1.out.below BA.out (Nat.le_refl _))
        have d3 : wa.cell? ⟨b', off' + j * 4 + 1, none⟩ = some (.int .i64 g) := (HBA.out.cell hbb').trans c3
        have d4 : wa.cell? ⟨bl, offl + k, none⟩ = some (.int .i64 x) := (HBA.out.cell hbl).trans c4
        have hza := HBA.out.size
        have hzl : wr.heap.size < wa.heap.size := KL.out.lt
        have hzb : w.heap.size < wa.heap.size := KB.out.lt
        have hlr : k < N.length := by rw [HML.out]; exact hlt
        have hn2 : c.length = (N.take k ++ List.replicate (N.length - k) (0 : Int)).length := by rw [fill_len (by omega), HML.out]
        have r1 : wa.cell? ⟨w2.heap.size, k, none⟩ = some (.int .i64 0) := by simpa using HOA.out.cell len1 hn2 (get_fill hlr) (j := 0) rfl
        have r2 : ∀ o, wa.frozen? ⟨w2.heap.size, o, none⟩ = false := fun o => HOA.out.frozen hn2 o
        have hkl : (k : Int) < (c.length : Int) := by omega
        have hkm : (k : Int) < (l.length : Int) := by omega
        have hji : (j : Int) < (s.length : Int) := by omega
        have hbw' : b' < wa.heap.size := by omega
        have hblw : bl < wa.heap.size := by omega
        have hz2a : w2.heap.size < wa.heap.size := by omega
        have HWA := hid hwa
        have hgp1 := HGP.out.1
        have n2 := hid (fun (m : Nat) => (below_drewN HBA.out m).setCell (p := ⟨w2.heap.size, k, none⟩) z2 (.int .i64 x))
        have HMN := hid (HM.out k hlt)
        clear c1 c2 c3 c4 hj hq hg hx hb f2 f3 f4 hwa
        by_cases h1 : gp = -1
        · have e1 : (gp == -1) = true := by rw [h1]; rfl
          have HMV := hid (show g0 N k = x by rw [HMN.out]; unfold mntK; rw [HMK.out, show decide (gp < 0) = true from decide_eq_true (by omega)]; exact HX.out)
          have n1 : Hid (∀ m : Nat, Own enc1 1 3 ((wa.drewN m).setCell ⟨w2.heap.size, k, none⟩ (.int .i64 x)) w2.heap.size (.slice (some ⟨w2.heap.size, 0, none⟩) c.length c.length) (N.take (k + 1) ++ List.replicate (N.length - (k + 1)) 0)) := hid (fun m => by have h9 := (HOA.out.drewN m).store len1 hn2 (get_fill hlr) (j := 0) (a' := x) (by omega) (u := .int .i64 x) rfl; rw [fill_step hlr HMV.out] at h9; simpa using h9)
          clear h1 hlr hn2
          go_wp2_with fail
          rw [← HWA.out]
          go_quiet (fail)
          go_wp2
          go_roundw
          case rel => exact ⟨k + 1, by omega, by go_num, n1.out _, n2.out _⟩
          case measure => simp [intOf]; omega
        · have e1 : (gp == -1) = false := beq_eq_false_iff_ne.2 h1
          have hgl : decide (gp < 0) = false := decide_eq_false (by omega)
          by_cases h2 : g = gp
          · have e2 : (g == gp) = true := by rw [h2]; simp
            have HMV := hid (show g0 N k = x by rw [HMN.out]; unfold mntK; rw [HMK.out, decide_eq_true h2, Bool.or_true]; exact HX.out)
            have n1 : Hid (∀ m : Nat, Own enc1 1 3 ((wa.drewN m).setCell ⟨w2.heap.size, k, none⟩ (.int .i64 x)) w2.heap.size (.slice (some ⟨w2.heap.size, 0, none⟩) c.length c.length) (N.take (k + 1) ++ List.replicate (N.length - (k + 1)) 0)) := hid (fun m => by have h9 := (HOA.out.drewN m).store len1 hn2 (get_fill hlr) (j := 0) (a' := x) (by omega) (u := .int .i64 x) rfl; rw [fill_step hlr HMV.out] at h9; simpa using h9)
            clear h1 h2 hlr hn2
            go_wp2_with fail
            rw [← HWA.out]
            go_quiet (fail)
            go_wp2
            go_roundw
            case rel => exact ⟨k + 1, by omega, by go_num, n1.out _, n2.out _⟩
            case measure => simp [intOf]; omega
          · have e2 : (g == gp) = false := beq_eq_false_iff_ne.2 h2
            have HMV := hid (show g0 N k = 0 by rw [HMN.out]; unfold mntK; rw [HMK.out, hgl, decide_eq_false h2]; rfl)
            have n3 := hid (fill_skip hlr HMV.out)
            clear h1 h2 hlr hn2
            go_wp2_with fail
            rw [← HWA.out]
            go_quiet (fail)
            go_wp2
            go_roundw
            case rel => exact ⟨k + 1, by omega, by go_num, by rw [← n3.out]; exact HOA.out.drewN _, below_drewN HBA.out _⟩
            case measure => simp [intOf]; omega
      · have hkl : k = c.length := by omega
        have o1 := show Own enc1 1 3 wr w2.heap.size (.slice (some ⟨w2.heap.size, 0, none⟩) c.length c.length) N by
          have := HO1.out; rw [hkl, ← HML.out, List.take_length, Nat.sub_self, List.replicate_zero, List.append_nil, HML.out] at this; exact this
        obtain ⟨wq, rfl⟩ : ∃ wo : World, wo = wr := ⟨_, rfl⟩
        subst hkl
        clear hb HO1
        go_wp2_with (at_make; refine wpList_makeL len1 (by omega) rfl (.tmp 66) (.tmp 66) _ rfl Tryz.underlying25 infoInt (by omega) (y := 0) rfl (base := wq.heap.size) (n := c.length) rfl rfl (by omega) (by omega) ?_)
        intro w4 O4 G4
        have D4 := hid (HB.out.grown G4 hzr (fun k hk => by cases hk))
        have o4 := o1.grown G4 (.inr (fun h => by cases h))
        have hzq : wq.heap.size ≤ w4.heap.size := G4.size
        have hz4 : wq.heap.size < w4.heap.size := (O4.lt wq.heap.size rfl).2
        have OO4 := hid (show Own enc1 1 3 w4 wq.heap.size (.slice (some ⟨wq.heap.size, 0, none⟩) c.length c.length) (F.take 0 ++ List.replicate (F.length - 0) 0) by rw [HFL.out]; simpa using O4)
        have KB := hid (KB0.out.below D4.out KB0.out.lt)
        have k4 : w4.cell? ⟨w.heap.size, 4, none⟩ = some (.int .i64 kd) := KB.out.cell 4
        have k5 : w4.cell? ⟨w.heap.size, 5, none⟩ = some (.int .i64 vl) := KB.out.cell 5
        have k6 : w4.cell? ⟨w.heap.size, 6, none⟩ = some (.int .i64 cp) := KB.out.cell 6
        have zz : w.heap.size < w4.heap.size := KB.out.lt
        have DD4 := hid (D0.out.trans (D4.out.mono D0.out.size))
        have HO4 := hid o4
        clear G4 O4 o1 o4 HB
        rcases vKind_bd HK.out with ⟨e, v1, v2⟩ | ⟨e, v1, v2⟩ | ⟨e, v1, v2⟩
        · have y2 : (kd == 2) = false := by rw [e]; rfl
          have y1 : (kd == 1) = true := by rw [e]; rfl
          have HWM := hid (show wishP s c gp kd vl l = F by rw [HWI.out, if_neg (by omega)])
          have HKE := hid e
          clear e
          go_wp2_with fail
          go_loopw [111] (fun i wr => ∃ k : Nat, k ≤ c.length ∧ i = .int .i64 k ∧ Own enc1 1 3 wr wq.heap.size (.slice (some ⟨wq.heap.size, 0, none⟩) c.length c.length) (F.take k ++ List.replicate (F.length - k) 0) ∧ Below wq.heap.size w4 wr) (fun i _ => c.length - (intOf i).toNat)
          case atStart => exact ⟨0, Nat.zero_le _, rfl, OO4.out, Below.refl _ _⟩
          case round =>
          clear OO4
          obtain ⟨k, hk, rfl, ho1, hb⟩ := hrel
          have HB := hid hb
          have HO1 := hid ho1
          have hzr2 := hb.size
          have hzw : wq.heap.size < wr.heap.size := (ho1.lt wq.heap.size rfl).2
          have HBZ := hid (D4.out.trans (hb.mono hzr))
          have KBR := hid (KB0.out.below HBZ.out KB0.out.lt)
          have k5r : wr.cell? ⟨w.heap.size, 5, none⟩ = some (.int .i64 vl) := KBR.out.cell 5
          have zzr : w.heap.size < wr.heap.size := KBR.out.lt
          clear ho1
          by_cases hlt : k < c.length
          · have hlf : k < F.length := by rw [HFL.out]; exact hlt
            have hlr : k < N.length := by rw [HML.out]; exact hlt
            have hx := HO4.out.cell len1 HML.out.symm (g0_get hlr) (j := 0) rfl
            have hxb := mntK_bd (gp := gp) HS.out HC.out HV.out hlt
            have hxm := HM.out k hlt
            obtain ⟨x, hxe⟩ : ∃ x, g0 N k = x := ⟨_, rfl⟩
            rw [hxe] at hx hxm
            rw [← hxm] at hxb
            have HXM := hid hxm
            have d3 : wr.cell? ⟨w2.heap.size, k, none⟩ = some (.int .i64 x) := (hb.cell (p := ⟨w2.heap.size, k, none⟩) hz1).trans (by simpa using hx)
            have hn1 : c.length = (F.take k ++ List.replicate (F.length - k) (0 : Int)).length := by rw [fill_len (by omega), HFL.out]
            have r1 : wr.cell? ⟨wq.heap.size, k, none⟩ = some (.int .i64 0) := by simpa using HO1.out.cell len1 hn1 (get_fill hlf) (j := 0) rfl
            have r2 : ∀ o, wr.frozen? ⟨wq.heap.size, o, none⟩ = false := fun o => HO1.out.frozen hn1 o
            have hkl : (k : Int) < (c.length : Int) := by omega
            have hz2r : w2.heap.size < wr.heap.size := by omega
            have hne : w2.heap.size ≠ wq.heap.size := by omega
            have hne' : wq.heap.size ≠ w2.heap.size := by omega
            have hne2 : w.heap.size ≠ wq.heap.size := by omega
            have hne2' : wq.heap.size ≠ w.heap.size := by omega
            have HFK := hid (HF.out k hlt)
            obtain ⟨s1, s2, s3, s4⟩ := part_bd (vl := vl) (x := x) ⟨hxb.1, by omega⟩ ⟨v1, v2⟩
            obtain ⟨P, hP⟩ : ∃ P, x * vl = P := ⟨_, rfl⟩
            rw [hP] at s1 s2 s3 s4
            obtain ⟨f, hf⟩ : ∃ f, P / 1000 = f := ⟨_, rfl⟩
            rw [hf] at s3 s4
            have q1 : P.tdiv 1000 = f := by rw [Int.tdiv_eq_ediv_of_nonneg s1, hf]
            have hw1 : IntKind.i64.wrap (x * vl) = P := by rw [hP]; exact IntWalk.i64_in _ (by omega)
            have hw2 : IntKind.i64.wrap f = f := IntWalk.i64_in _ (by omega)
            have HFV := hid (show g0 F k = f by rw [HFK.out]; unfold dscK; rw [if_pos HKE.out, ← HXM.out, hP, hf])
            have m1 := hid (HO1.out.store len1 hn1 (get_fill hlf) (j := 0) (a' := f) (by omega) (u := .int .i64 f) rfl)
            rw [fill_step hlf HFV.out] at m1
            have m2 := hid (HB.out.setCell (p := ⟨wq.heap.size, k, none⟩) (Nat.le_refl _) (.int .i64 f))
            clear hx hxb hxm hxe hn1 hlf hlr hP hf hb
            go_wp2
            go_roundw
            case rel => exact ⟨k + 1, by omega, by go_num, by simpa using m1.out, m2.out⟩
            case measure => simp [intOf]; omega
          · have hkl : k = c.length := by omega
            have o1 := show Own enc1 1 3 wr wq.heap.size (.slice (some ⟨wq.heap.size, 0, none⟩) c.length c.length) F by
              have := HO1.out; rw [hkl, ← HFL.out, List.take_length, Nat.sub_self, List.replicate_zero, List.append_nil, HFL.out] at this; exact this
            have k6r : wr.cell? ⟨w.heap.size, 6, none⟩ = some (.int .i64 cp) := KBR.out.cell 6
            have DD := hid (D0.out.trans (HBZ.out.mono D0.out.size))
            have O1 := hid (o1.less (show w.heap.size ≤ wq.heap.size by omega))
            have SM := hid (show Sl enc1 1 wr wr.heap.size (some ⟨wq.heap.size, 0, none⟩) F from o1.sl len1)
            have HDB := hid (fun k (h : k < F.length) => show 0 ≤ g0 F k ∧ g0 F k ≤ 100000 by rw [HFL.out] at h; rw [HF.out k h]; have h1 := dscK_bd (gp := gp) HS.out HC.out HV.out HK.out h; have h2 := mntK_bd (gp := gp) HS.out HC.out HV.out h; omega)
            subst hkl
            clear hb o1 HO1
            have HEF2 := hid (show effP s c gp kd vl cp l = if 0 < cp ∧ cp < tot (g0 F) c.length then apP cp F else F by rw [HEF.out, HWM.out])
            have hsum : ∀ x : Nat, Calls Tryz.prog 28 #[.slice (some ⟨wq.heap.size, 0, none⟩) c.length c.length] (wr.drewN x) fun e w' => e = .returned (.int .i64 (tot (g0 F) c.length)) ∧ wr.drewN x = w' := fun x => by
              have := total_any F (some ⟨wq.heap.size, 0, none⟩) c.length (wr.drewN x) SM.out (by rw [HFL.out]; omega) (fun k hk => by have := HDB.out k hk; omega)
              rw [HFL.out] at this; exact this
            have happ : ∀ (x : World), Sl enc1 1 x x.heap.size (some ⟨wq.heap.size, 0, none⟩) F → cp ≤ tot (g0 F) c.length → Calls Tryz.prog 50 #[.int .i64 cp, .slice (some ⟨wq.heap.size, 0, none⟩) c.length c.length] x (ApPost x cp F) := fun x hx hle => by
              have := apportionI_any cp F (some ⟨wq.heap.size, 0, none⟩) c.length x hx HCP.out (by rw [HFL.out]; omega) (fun k hk => by have := HDB.out k hk; omega) (by rw [HFL.out]; exact hle)
              rw [HFL.out] at this; exact this
            obtain ⟨T, hT⟩ : ∃ T, tot (g0 F) c.length = T := ⟨_, rfl⟩
            rw [hT] at hsum happ HEF2
            have hcp0 := HCP.out.1
            clear hT
            by_cases h1 : cp = 0
            · have e1 : (cp != 0) = false := by rw [h1]; rfl
              have HE := hid (show effP s c gp kd vl cp l = F by rw [HEF2.out, if_neg (fun h => by have := h.1; omega)])
              clear h1
              go_wp2_with fail
              go_quiet ((go_at_call 28; exact quiet_same (hsum _)))
              go_wp2
              go_ret
              exact ⟨_, rfl, by rw [HE.out]; exact O1.out.drewN _, below_drewN DD.out _⟩
            · have e1 : (cp != 0) = true := by simpa using h1
              have h1p : 0 < cp := by omega
              by_cases h2 : cp < T
              · have e2 : decide (cp < T) = true := decide_eq_true h2
                have hle : cp ≤ T := by omega
                have HE := hid (show effP s c gp kd vl cp l = apP cp F by rw [HEF2.out, if_pos ⟨h1p, h2⟩])
                clear h1 h2 h1p
                go_wp2_with fail
                go_quiet ((go_at_call 28; exact quiet_same (hsum _)))
                go_wp2_with fail
                refine (happ _ (SM.out.drewN _) hle).mono ?_
                rintro e w8 ⟨v8, rfl, o8, b8⟩
                have b8' : Below wr.heap.size wr w8 := ⟨b8.os, b8.tape, b8.output, b8.size, b8.block⟩
                have DD8 := hid (DD.out.trans (b8'.mono DD.out.size))
                have O8 := hid (show Own enc1 1 3 w8 w.heap.size v8 (effP s c gp kd vl cp l) by rw [HE.out]; exact o8.less DD.out.size)
                clear b8 b8' o8
                go_wp2
                go_ret
                exact ⟨_, rfl, O8.out, DD8.out⟩
              · have e2 : decide (cp < T) = false := decide_eq_false h2
                have HE := hid (show effP s c gp kd vl cp l = F by rw [HEF2.out, if_neg (fun h => h2 h.2)])
                clear h1 h2 h1p
                go_wp2_with fail
                go_quiet ((go_at_call 28; exact quiet_same (hsum _)))
                go_wp2
                go_ret
                exact ⟨_, rfl, by rw [HE.out]; exact O1.out.drewN _, below_drewN DD.out _⟩
        · have y2 : (kd == 2) = true := by rw [e]; rfl
          have sM := HO4.out.sl len1
          have hmt := tot_bd (lf := g0 N) (b := 100000) c.length (fun k hk => by
            rw [HM.out k hk]; have := mntK_bd (gp := gp) HS.out HC.out HV.out hk; omega)
          have hsumN : ∀ x : World, Sl enc1 1 x x.heap.size (some ⟨w2.heap.size, 0, none⟩) N → Calls Tryz.prog 28 #[.slice (some ⟨w2.heap.size, 0, none⟩) c.length c.length] x fun e w' => e = .returned (.int .i64 (tot (g0 N) c.length)) ∧ x = w' := fun x hx => by
            have := total_any N (some ⟨w2.heap.size, 0, none⟩) c.length x hx (by rw [HML.out]; omega) (fun k hk => by have := HMB.out k hk; omega)
            rw [HML.out] at this; exact this
          have happN : ∀ (x : World) (t : Int), Sl enc1 1 x x.heap.size (some ⟨w2.heap.size, 0, none⟩) N → 0 ≤ t ∧ t ≤ 1000000 → t ≤ tot (g0 N) c.length → Calls Tryz.prog 50 #[.int .i64 t, .slice (some ⟨w2.heap.size, 0, none⟩) c.length c.length] x (ApPost x t N) := fun x t hx ht hle => by
            have := apportionI_any t N (some ⟨w2.heap.size, 0, none⟩) c.length x hx ht (by rw [HML.out]; omega) (fun k hk => HMB.out k hk) (by rw [HML.out]; exact hle)
            rw [HML.out] at this; exact this
          have HWP := hid (show wishP s c gp kd vl l = apP (min vl (tot (g0 N) c.length)) N by rw [HWI.out, if_pos e])
          have HTL := hid (fun (t : Int) (h0 : 0 ≤ t) (h1 : t ≤ tot (g0 N) c.length) => apP_len (a := t) (ws := N) h0 (fun k hk => HMB.out k hk) (by rw [HML.out]; exact hc8) (by rw [HML.out]; exact h1))
          obtain ⟨T0, hT0⟩ : ∃ T, tot (g0 N) c.length = T := ⟨_, rfl⟩
          rw [hT0] at hmt HWP hsumN happN HTL
          have sMd : Sl enc1 1 w4.drew w4.drew.heap.size (some ⟨w2.heap.size, 0, none⟩) N := sM
          have HE0 := hid (show wishP s c gp kd vl l = apP (if T0 < vl then T0 else vl) N by rw [HWP.out]; congr 1; split <;> omega)
          have htb : 0 ≤ (if T0 < vl then T0 else vl) ∧ (if T0 < vl then T0 else vl) ≤ 1000000 := by split <;> omega
          have hle : (if T0 < vl then T0 else vl) ≤ T0 := by split <;> omega
          clear e OO4 hT0
          go_wp2_with fail
          go_region_held3 (fun x => x.cell? ⟨w.heap.size, 5, none⟩ = some (.int .i64 vl)) (first | assumption | (simp [go_sem, *]; done)) (first | (go_at_call 28; refine (hsumN _ sMd).mono ?_; rintro e w3 ⟨rfl, rfl⟩) | (go_at_call 50; generalize hte : (if T0 < vl then T0 else vl) = t at htb hle ⊢; have HTE := hid hte; clear hte; refine (happN _ t sMd htb hle).mono ?_; rintro e w5 ⟨v5, rfl, o5, b5⟩; have e5 : w5.cell? ⟨w.heap.size, 5, none⟩ = some (.int .i64 vl) := (b5.cell (p := ⟨w.heap.size, 5, none⟩) zz).trans k5))
          all_goals
            have b5' : Below w4.heap.size w4 w5 := ⟨b5.os, b5.tape, b5.output, b5.size, b5.block⟩
            have DD := hid (DD4.out.trans (b5'.mono DD4.out.size))
            have k6r : w5.cell? ⟨w.heap.size, 6, none⟩ = some (.int .i64 cp) := (b5'.cell (p := ⟨w.heap.size, 6, none⟩) zz).trans k6
            have hzz5 : w.heap.size < w5.heap.size := by have := b5'.size; omega
            have HWM := hid (show wishP s c gp kd vl l = apP t N by rw [HE0.out, HTE.out])
            have hq := HTL.out t htb.1 hle
            obtain ⟨M, hM⟩ : ∃ M, apP t N = M := ⟨_, rfl⟩
            rw [hM] at hq HWM o5
            rw [HML.out] at hq
            have HQL := hid hq.1
            have HQB := hid (fun k (h : k < M.length) => show 0 ≤ g0 M k ∧ g0 M k ≤ 100000 by rw [HQL.out] at h; have h1 := hq.2 k h; rw [HM.out k h] at h1; have h2 := mntK_bd (gp := gp) HS.out HC.out HV.out h; omega)
            obtain ⟨AM, cM, rfl, _, sm⟩ := o5.reads len1
            have SM := hid sm
            have O1 := hid (o5.less DD4.out.size)
            rw [HQL.out] at O1
            rw [HQL.out]
            clear b5 b5' o5 e5 hM hq sm htb hle sM sMd k4 k5 k6 hsumN happN
            have HEF2 := hid (show effP s c gp kd vl cp l = if 0 < cp ∧ cp < tot (g0 M) c.length then apP cp M else M by rw [HEF.out, HWM.out])
            have hsum : ∀ x : Nat, Calls Tryz.prog 28 #[.slice AM c.length cM] (w5.drewN x) fun e w' => e = .returned (.int .i64 (tot (g0 M) c.length)) ∧ w5.drewN x = w' := fun x => by
              have := total_any M AM cM (w5.drewN x) SM.out (by rw [HQL.out]; omega) (fun k hk => by have := HQB.out k hk; omega)
              rw [HQL.out] at this; exact this
            have happ : ∀ (x : World), Sl enc1 1 x x.heap.size AM M → cp ≤ tot (g0 M) c.length → Calls Tryz.prog 50 #[.int .i64 cp, .slice AM c.length cM] x (ApPost x cp M) := fun x hx hle => by
              have := apportionI_any cp M AM cM x hx HCP.out (by rw [HQL.out]; omega) (fun k hk => by have := HQB.out k hk; omega) (by rw [HQL.out]; exact hle)
              rw [HQL.out] at this; exact this
            obtain ⟨T, hT⟩ : ∃ T, tot (g0 M) c.length = T := ⟨_, rfl⟩
            rw [hT] at hsum happ HEF2
            have hcp0 := HCP.out.1
            clear hT
            by_cases h1 : cp = 0
            · have e1 : (cp != 0) = false := by rw [h1]; rfl
              have HE := hid (show effP s c gp kd vl cp l = M by rw [HEF2.out, if_neg (fun h => by have := h.1; omega)])
              clear h1
              go_wp2_with fail
              go_quiet ((go_at_call 28; exact quiet_same (hsum _)))
              go_wp2
              go_ret
              exact ⟨_, rfl, by rw [HE.out]; exact O1.out.drewN _, below_drewN DD.out _⟩
            · have e1 : (cp != 0) = true := by simpa using h1
              have h1p : 0 < cp := by omega
              by_cases h2 : cp < T
              · have e2 : decide (cp < T) = true := decide_eq_true h2
                have hle : cp ≤ T := by omega
                have HE := hid (show effP s c gp kd vl cp l = apP cp M by rw [HEF2.out, if_pos ⟨h1p, h2⟩])
                clear h1 h2 h1p
                go_wp2_with fail
                go_quiet ((go_at_call 28; exact quiet_same (hsum _)))
                go_wp2_with fail
                refine (happ _ (SM.out.drewN _) hle).mono ?_
                rintro e w8 ⟨v8, rfl, o8, b8⟩
                have b8' : Below w5.heap.size w5 w8 := ⟨b8.os, b8.tape, b8.output, b8.size, b8.block⟩
                have DD8 := hid (DD.out.trans (b8'.mono DD.out.size))
                have O8 := hid (show Own enc1 1 3 w8 w.heap.size v8 (effP s c gp kd vl cp l) by rw [HE.out]; exact o8.less DD.out.size)
                clear b8 b8' o8
                go_wp2
                go_ret
                exact ⟨_, rfl, O8.out, DD8.out⟩
              · have e2 : decide (cp < T) = false := decide_eq_false h2
                have HE := hid (show effP s c gp kd vl cp l = M by rw [HEF2.out, if_neg (fun h => h2 h.2)])
                clear h1 h2 h1p
                go_wp2_with fail
                go_quiet ((go_at_call 28; exact quiet_same (hsum _)))
                go_wp2
                go_ret
                exact ⟨_, rfl, by rw [HE.out]; exact O1.out.drewN _, below_drewN DD.out _⟩
        · have y2 : (kd == 2) = false := by rw [e]; rfl
          have y1 : (kd == 1) = false := by rw [e]; rfl
          have HWM := hid (show wishP s c gp kd vl l = F by rw [HWI.out, if_neg (by omega)])
          have HKE := hid e
          clear e
          go_wp2_with fail
          go_loopw [72] (fun i wr => ∃ k : Nat, k ≤ c.length ∧ i = .int .i64 k ∧ Own enc1 1 3 wr wq.heap.size (.slice (some ⟨wq.heap.size, 0, none⟩) c.length c.length) (F.take k ++ List.replicate (F.length - k) 0) ∧ Below wq.heap.size w4 wr) (fun i _ => c.length - (intOf i).toNat)
          case atStart => exact ⟨0, Nat.zero_le _, rfl, OO4.out, Below.refl _ _⟩
          case round =>
          clear OO4
          obtain ⟨k, hk, rfl, ho1, hb⟩ := hrel
          have HB := hid hb
          have HO1 := hid ho1
          have hzr2 := hb.size
          have hzw : wq.heap.size < wr.heap.size := (ho1.lt wq.heap.size rfl).2
          have HBZ := hid (D4.out.trans (hb.mono hzr))
          have KBR := hid (KB0.out.below HBZ.out KB0.out.lt)
          have k5r : wr.cell? ⟨w.heap.size, 5, none⟩ = some (.int .i64 vl) := KBR.out.cell 5
          have zzr : w.heap.size < wr.heap.size := KBR.out.lt
          clear ho1
          by_cases hlt : k < c.length
          · have hlf : k < F.length := by rw [HFL.out]; exact hlt
            have hlr : k < N.length := by rw [HML.out]; exact hlt
            have hx := HO4.out.cell len1 HML.out.symm (g0_get hlr) (j := 0) rfl
            have hxb := mntK_bd (gp := gp) HS.out HC.out HV.out hlt
            have hxm := HM.out k hlt
            obtain ⟨x, hxe⟩ : ∃ x, g0 N k = x := ⟨_, rfl⟩
            rw [hxe] at hx hxm
            rw [← hxm] at hxb
            have HXM := hid hxm
            have d3 : wr.cell? ⟨w2.heap.size, k, none⟩ = some (.int .i64 x) := (hb.cell (p := ⟨w2.heap.size, k, none⟩) hz1).trans (by simpa using hx)
            have hn1 : c.length = (F.take k ++ List.replicate (F.length - k) (0 : Int)).length := by rw [fill_len (by omega), HFL.out]
            have r1 : wr.cell? ⟨wq.heap.size, k, none⟩ = some (.int .i64 0) := by simpa using HO1.out.cell len1 hn1 (get_fill hlf) (j := 0) rfl
            have r2 : ∀ o, wr.frozen? ⟨wq.heap.size, o, none⟩ = false := fun o => HO1.out.frozen hn1 o
            have hkl : (k : Int) < (c.length : Int) := by omega
            have hz2r : w2.heap.size < wr.heap.size := by omega
            have hne : w2.heap.size ≠ wq.heap.size := by omega
            have hne' : wq.heap.size ≠ w2.heap.size := by omega
            have hne2 : w.heap.size ≠ wq.heap.size := by omega
            have hne2' : wq.heap.size ≠ w.heap.size := by omega
            have HFK := hid (HF.out k hlt)
            obtain ⟨b, off, rfl, hbb, c1, c2⟩ := zC.out.get2 hlt
            obtain ⟨f1, f2, f3, f4, _⟩ := fit_at HS.out HC.out hlt
            obtain ⟨t1, t2, t3, t4⟩ := free_bd HS.out HC.out hlt v1
            obtain ⟨j, hj⟩ : ∃ j : Nat, (g1 c k).toNat = j := ⟨_, rfl⟩
            obtain ⟨q, hq⟩ : ∃ q, g2 c k = q := ⟨_, rfl⟩
            rw [← f2, hj] at c1
            rw [hq] at c2 t1 t2 t3 t4 f3
            rw [hj] at f1 t3 t4
            obtain ⟨b', off', rfl, hbb', c3, _⟩ := zA.out.get4 f1
            obtain ⟨p, hp⟩ : ∃ p, q1 s j = p := ⟨_, rfl⟩
            rw [hp] at c3 t3 t4
            obtain ⟨z, hz⟩ : ∃ z, q / vl = z := ⟨_, rfl⟩
            have q0 : 0 ≤ q := by omega
            have q1 : q.tdiv vl = z := by rw [Int.tdiv_eq_ediv_of_nonneg q0, hz]
            rw [hz] at t1 t2 t3 t4
            obtain ⟨y, hy⟩ : ∃ y, z * p = y := ⟨_, rfl⟩
            rw [hy] at t3 t4
            have hw1 : IntKind.i64.wrap z = z := IntWalk.i64_in _ (by omega)
            have hw2 : IntKind.i64.wrap (z * p) = y := by rw [hy]; exact IntWalk.i64_in _ (by omega)
            obtain ⟨f, hf⟩ : ∃ f, min x y = f := ⟨_, rfl⟩
            have HFV := hid (show g0 F k = f by rw [HFK.out]; unfold dscK; rw [if_neg (by have := HKE.out; omega), if_pos HKE.out, ← HXM.out, hj, hq, hp, hz, hy, hf])
            have d1 : wr.cell? ⟨b, off + k * 2, none⟩ = some (.int .i64 (j : Int)) := (HBZ.out.cell hbb).trans c1
            have d2 : wr.cell? ⟨b, off + k * 2 + 1, none⟩ = some (.int .i64 q) := (HBZ.out.cell hbb).trans c2
            have hbw : b < wr.heap.size := by omega
            obtain ⟨wa, hwa⟩ : ∃ x, x = wr.alloc (.cells #[.int .i64 (j : Int), .int .i64 q] 83) := ⟨_, rfl⟩
            have BA := hid (show Below wr.heap.size wr wa by rw [hwa]; exact (Below.refl _ _).alloc (Nat.le_refl _) _)
            have KL := hid (Blk.new wr 83 #[.int .i64 (j : Int), .int .i64 q])
            rw [← hwa] at KL
            have l0 : wa.cell? ⟨wr.heap.size, 0, none⟩ = some (.int .i64 (j : Int)) := KL.out.cell 0
            have l1 : wa.cell? ⟨wr.heap.size, 1, none⟩ = some (.int .i64 q) := KL.out.cell 1
            have a5 : wa.cell? ⟨w.heap.size, 5, none⟩ = some (.int .i64 vl) := (BA.out.cell (p := ⟨w.heap.size, 5, none⟩) zzr).trans k5r
            have a3 : wa.cell? ⟨w2.heap.size, k, none⟩ = some (.int .i64 x) := (BA.out.cell (p := ⟨w2.heap.size, k, none⟩) hz2r).trans d3
            have ar : wa.cell? ⟨wq.heap.size, k, none⟩ = some (.int .i64 0) := (BA.out.cell (p := ⟨wq.heap.size, k, none⟩) hzw).trans r1
            have af : ∀ o, wa.frozen? ⟨wq.heap.size, o, none⟩ = false := fun o => (BA.out.frozen (p := ⟨wq.heap.size, o, none⟩) hzw).trans (r2 o)
            have a4 : wa.cell? ⟨b', off' + j * 4, none⟩ = some (.int .i64 p) := ((HBZ.out.trans (BA.out.mono (by omega))).cell hbb').trans c3
            have hza := BA.out.size
            have hzl : wr.heap.size < wa.heap.size := KL.out.lt
            have zza : w.heap.size < wa.heap.size := by omega
            have hz2a : w2.heap.size < wa.heap.size := by omega
            have hzqa : wq.heap.size < wa.heap.size := by omega
            have hba : b' < wa.heap.size := by omega
            have nb1 : b' ≠ wq.heap.size := by omega
            have nl1 : wr.heap.size ≠ wq.heap.size := by omega
            have hji : (j : Int) < (s.length : Int) := by omega
            have hvne : vl ≠ 0 := by omega
            have HOA := HO1.out.below BA.out (Nat.le_refl _)
            have m1 := hid (HOA.store len1 hn1 (get_fill hlf) (j := 0) (a' := f) (by omega) (u := .int .i64 f) rfl)
            rw [fill_step hlf HFV.out] at m1
            have m2 := hid ((HB.out.trans (BA.out.mono (by omega))).setCell (p := ⟨wq.heap.size, k, none⟩) (Nat.le_refl _) (.int .i64 f))
            have HWA := hid hwa
            have HFM := hid hf
            clear hx hxb hxm hxe hn1 hlf hlr hf hb c1 c2 c3 f2 f3 f4 hj hq hp hz hy hwa HOA
            by_cases hmin : x ≤ y
            · obtain rfl : f = x := by have := HFM.out; omega
              go_wp2_with fail
              rw [← HWA.out]
              go_region
              go_wp2
              go_roundw
              case rel => exact ⟨k + 1, by omega, by go_num, by simpa using m1.out.drew, by simpa using m2.out.drew⟩
              case measure => simp [intOf]; omega
            · obtain rfl : f = y := by have := HFM.out; omega
              go_wp2_with fail
              rw [← HWA.out]
              go_region
              go_wp2
              go_roundw
              case rel => exact ⟨k + 1, by omega, by go_num, by simpa using m1.out.drew, by simpa using m2.out.drew⟩
              case measure => simp [intOf]; omega
          · have hkl : k = c.length := by omega
            have o1 := show Own enc1 1 3 wr wq.heap.size (.slice (some ⟨wq.heap.size, 0, none⟩) c.length c.length) F by
              have := HO1.out; rw [hkl, ← HFL.out, List.take_length, Nat.sub_self, List.replicate_zero, List.append_nil, HFL.out] at this; exact this
            have k6r : wr.cell? ⟨w.heap.size, 6, none⟩ = some (.int .i64 cp) := KBR.out.cell 6
            have DD := hid (D0.out.trans (HBZ.out.mono D0.out.size))
            have O1 := hid (o1.less (show w.heap.size ≤ wq.heap.size by omega))
            have SM := hid (show Sl enc1 1 wr wr.heap.size (some ⟨wq.heap.size, 0, none⟩) F from o1.sl len1)
            have HDB := hid (fun k (h : k < F.length) => show 0 ≤ g0 F k ∧ g0 F k ≤ 100000 by rw [HFL.out] at h; rw [HF.out k h]; have h1 := dscK_bd (gp := gp) HS.out HC.out HV.out HK.out h; have h2 := mntK_bd (gp := gp) HS.out HC.out HV.out h; omega)
            subst hkl
            clear hb o1 HO1
            have HEF2 := hid (show effP s c gp kd vl cp l = if 0 < cp ∧ cp < tot (g0 F) c.length then apP cp F else F by rw [HEF.out, HWM.out])
            have hsum : ∀ x : Nat, Calls Tryz.prog 28 #[.slice (some ⟨wq.heap.size, 0, none⟩) c.length c.length] (wr.drewN x) fun e w' => e = .returned (.int .i64 (tot (g0 F) c.length)) ∧ wr.drewN x = w' := fun x => by
              have := total_any F (some ⟨wq.heap.size, 0, none⟩) c.length (wr.drewN x) SM.out (by rw [HFL.out]; omega) (fun k hk => by have := HDB.out k hk; omega)
              rw [HFL.out] at this; exact this
            have happ : ∀ (x : World), Sl enc1 1 x x.heap.size (some ⟨wq.heap.size, 0, none⟩) F → cp ≤ tot (g0 F) c.length → Calls Tryz.prog 50 #[.int .i64 cp, .slice (some ⟨wq.heap.size, 0, none⟩) c.length c.length] x (ApPost x cp F) := fun x hx hle => by
              have := apportionI_any cp F (some ⟨wq.heap.size, 0, none⟩) c.length x hx HCP.out (by rw [HFL.out]; omega) (fun k hk => by have := HDB.out k hk; omega) (by rw [HFL.out]; exact hle)
              rw [HFL.out] at this; exact this
            obtain ⟨T, hT⟩ : ∃ T, tot (g0 F) c.length = T := ⟨_, rfl⟩
            rw [hT] at hsum happ HEF2
            have hcp0 := HCP.out.1
            clear hT
            by_cases h1 : cp = 0
            · have e1 : (cp != 0) = false := by rw [h1]; rfl
              have HE := hid (show effP s c gp kd vl cp l = F by rw [HEF2.out, if_neg (fun h => by have := h.1; omega)])
              clear h1
              go_wp2_with fail
              go_quiet ((go_at_call 28; exact quiet_same (hsum _)))
              go_wp2
              go_ret
              exact ⟨_, rfl, by rw [HE.out]; exact O1.out.drewN _, below_drewN DD.out _⟩
            · have e1 : (cp != 0) = true := by simpa using h1
              have h1p : 0 < cp := by omega
              by_cases h2 : cp < T
              · have e2 : decide (cp < T) = true := decide_eq_true h2
                have hle : cp ≤ T := by omega
                have HE := hid (show effP s c gp kd vl cp l = apP cp F by rw [HEF2.out, if_pos ⟨h1p, h2⟩])
                clear h1 h2 h1p
                go_wp2_with fail
                go_quiet ((go_at_call 28; exact quiet_same (hsum _)))
                go_wp2_with fail
                refine (happ _ (SM.out.drewN _) hle).mono ?_
                rintro e w8 ⟨v8, rfl, o8, b8⟩
                have b8' : Below wr.heap.size wr w8 := ⟨b8.os, b8.tape, b8.output, b8.size, b8.block⟩
                have DD8 := hid (DD.out.trans (b8'.mono DD.out.size))
                have O8 := hid (show Own enc1 1 3 w8 w.heap.size v8 (effP s c gp kd vl cp l) by rw [HE.out]; exact o8.less DD.out.size)
                clear b8 b8' o8
                go_wp2
                go_ret
                exact ⟨_, rfl, O8.out, DD8.out⟩
              · have e2 : decide (cp < T) = false := decide_eq_false h2
                have HE := hid (show effP s c gp kd vl cp l = F by rw [HEF2.out, if_neg (fun h => h2 h.2)])
                clear h1 h2 h1p
                go_wp2_with fail
                go_quiet ((go_at_call 28; exact quiet_same (hsum _)))
                go_wp2
                go_ret
                exact ⟨_, rfl, by rw [HE.out]; exact O1.out.drewN _, below_drewN DD.out _⟩

end Go.Proofs.YtkgofklpogdpmaaGreat
