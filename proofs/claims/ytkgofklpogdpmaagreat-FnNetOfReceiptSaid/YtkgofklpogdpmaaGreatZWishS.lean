/- Contract: a rule's discounts before its cap, as the paper says it. -/
import Derived.Test.YtkgofklpogdpmaaGreatZEffM
import Derived.Deep.RegionHeld3
namespace Go.Proofs.YtkgofklpogdpmaaGreat
open Go.RowKit

theorem fill_skip {l : List Int} {k : Nat} (h : k < l.length) (hx : g0 l k = 0) : l.take k ++ List.replicate (l.length - k) 0 = l.take (k + 1) ++ List.replicate (l.length - (k + 1)) 0 := by
  have h1 := fill_step h hx
  rw [← h1]
  have h2 : (l.take k ++ List.replicate (l.length - k) (0 : Int))[k]'(by rw [fill_len (by omega)]; exact h) = 0 := by
    have := get_fill (d := (0 : Int)) h
    rw [List.getElem?_eq_getElem (by rw [fill_len (by omega)]; exact h)] at this
    exact Option.some.inj this
  have h3 := List.set_getElem_self (show k < (l.take k ++ List.replicate (l.length - k) (0 : Int)).length by rw [fill_len (by omega)]; exact h)
  rw [h2] at h3
  exact h3.symm
/-- What a call with a rule and what is left of the lines asks. -/
def EffPost (w : World) (m : List Int) (e : Ending) (w' : World) : Prop :=
  ∃ v, e = .returned v ∧ Own enc1 1 3 w' w.heap.size v m ∧ Below w.heap.size w w'

set_option maxHeartbeats 6400000 in
set_option maxRecDepth 100000 in
theorem wish_any (s : List (Int × Int × Int × Int)) (c : List (Int × Int)) (l : List Int) (A Ac Al : Option Addr) (cap capc capl : Nat) (n lv rk gp kd vl cp lo hi cn : Int) (a : Option Addr) (C : Nat) (S : List (Int × Int)) (w : World) (hA : Sl enc4 4 w w.heap.size A s) (hC : Sl enc2 2 w w.heap.size Ac c) (hL : Sl enc1 1 w w.heap.size Al l) (hs : vShop s = true) (hc : vCart s.length c = true) (hv : vLeft s c l = true) (hk : vKind kd vl = true) :
    Calls Tryz.prog 88 #[.slice A s.length cap, .slice Ac c.length capc, .agg #[.int .i64 n, .int .i64 lv, .int .i64 rk, .int .i64 gp, .int .i64 kd, .int .i64 vl, .int .i64 cp, .int .i64 lo, .int .i64 hi, .slice a S.length C, .int .i64 cn], .slice Al l.length capl] w (EffPost w (wishP s c gp kd vl l)) := by
  have HS := hid hs
  have HC := hid hc
  have HV := hid hv
  have HK := hid hk
  have hs10 := vShop_len hs
  have hc8 := (vCart_iff.1 hc).2.2
  have HLL := hid (vLeft_len hv)
  have hl8 : l.length ≤ 8 := by rw [vLeft_len hv]; exact hc8
  have KB0 := hid (Blk.new w 54 #[.int .i64 n, .int .i64 lv, .int .i64 rk, .int .i64 gp, .int .i64 kd, .int .i64 vl, .int .i64 cp, .int .i64 lo, .int .i64 hi, .slice a S.length C, .int .i64 cn])
  obtain ⟨w0, hw0⟩ : ∃ x, x = w.alloc (.cells #[.int .i64 n, .int .i64 lv, .int .i64 rk, .int .i64 gp, .int .i64 kd, .int .i64 vl, .int .i64 cp, .int .i64 lo, .int .i64 hi, .slice a S.length C, .int .i64 cn] 54) := ⟨_, rfl⟩
  rw [← hw0] at KB0
  have D0 := hid (show Below w.heap.size w w0 by rw [hw0]; exact (Below.refl _ _).alloc (Nat.le_refl _) _)
  have hz0 : w0.heap.size = w.heap.size + 1 := by rw [hw0]; simp
  have HW := hid hw0
  have zA := hid ((hA.below D0.out (Nat.le_refl _)).more (show w.heap.size ≤ w0.heap.size by omega))
  have zC := hid ((hC.below D0.out (Nat.le_refl _)).more (show w.heap.size ≤ w0.heap.size by omega))
  have zL := hid ((hL.below D0.out (Nat.le_refl _)).more (show w.heap.size ≤ w0.heap.size by omega))
  have HM := hid (fun k (h : k < c.length) => show g0 (mnts s c gp l) k = mntK s c gp l k from g0_map h)
  have HF := hid (fun k (h : k < c.length) => show g0 (dscs s c gp kd vl l) k = dscK s c gp kd vl l k from g0_map h)
  have HML := hid (show (mnts s c gp l).length = c.length from map_len)
  have HFL := hid (show (dscs s c gp kd vl l).length = c.length from map_len)
  have HMB := hid (fun k h => mnts_bd (gp := gp) hs hc hv k h)
  have HWI := hid (show wishP s c gp kd vl l = if kd = 2 then apP (min vl (tot (g0 (mnts s c gp l)) c.length)) (mnts s c gp l) else dscs s c gp kd vl l from rfl)
  obtain ⟨M, hM⟩ : ∃ M, mnts s c gp l = M := ⟨_, rfl⟩
  obtain ⟨F, hF⟩ : ∃ F, dscs s c gp kd vl l = F := ⟨_, rfl⟩
  rw [hM] at HM HML HMB HWI
  rw [hF] at HF HFL HWI
  clear hs hc hv hk hA hC hL hM hF hw0
  go_enter Tryz.func88, Tryz.ntmps88
  go_wp2_with (at_make; refine wpList_makeL len1 (by omega) rfl (.tmp 13) (.tmp 13) _ rfl Tryz.underlying25 infoInt (by omega) (y := 0) rfl (base := w.heap.size + 1) (n := c.length) rfl rfl (by omega) (by simp) ?_)
  intro w1 O1 G1
  rw [← HW.out] at G1
  have O1 : Own enc1 1 3 w1 w0.heap.size (.slice (some ⟨w.heap.size + 1, 0, none⟩) c.length c.length) (List.replicate c.length 0) := by rw [hz0]; simpa using O1
  have D1 := hid (only_below G1)
  have z1 := (O1.lt (w.heap.size + 1) rfl).2
  have hsc : (w.alloc (.cells #[.int .i64 n, .int .i64 lv, .int .i64 rk, .int .i64 gp, .int .i64 kd, .int .i64 vl, .int .i64 cp, .int .i64 lo, .int .i64 hi, .slice a S.length C, .int .i64 cn] 54)).heap.size = w.heap.size + 1 := by simp
  try rw [hsc]
  clear G1 hsc
  go_wp2_with (at_make; refine wpList_makeL len1 (by omega) rfl (.tmp 16) (.tmp 16) _ rfl Tryz.underlying25 infoInt (by omega) (y := 0) rfl (base := w1.heap.size) (n := c.length) rfl rfl (by omega) (by omega) ?_)
  intro w2 O2 G2
  have D2 := hid (D1.out.grown G2 D1.out.size (fun k hk => by cases hk))
  have O1' := O1.grown G2 (.inr (fun h => by cases h))
  have OO1 := hid (show Own enc1 1 3 w2 w0.heap.size (.slice (some ⟨w.heap.size + 1, 0, none⟩) c.length c.length) (F.take 0 ++ List.replicate (F.length - 0) 0) by rw [HFL.out]; simpa using O1')
  have OO2 := hid (show Own enc1 1 3 w2 w1.heap.size (.slice (some ⟨w1.heap.size, 0, none⟩) c.length c.length) (M.take 0 ++ List.replicate (M.length - 0) 0) by rw [HML.out]; simpa using O2)
  clear G2 O1 O1' O2
  go_wp2_with fail
  go_loopw [11] (fun i wr => ∃ k : Nat, k ≤ c.length ∧ i = .int .i64 k ∧ Own enc1 1 3 wr w0.heap.size (.slice (some ⟨w.heap.size + 1, 0, none⟩) c.length c.length) (F.take k ++ List.replicate (F.length - k) 0) ∧ Own enc1 1 3 wr w1.heap.size (.slice (some ⟨w1.heap.size, 0, none⟩) c.length c.length) (M.take k ++ List.replicate (M.length - k) 0) ∧ Below w0.heap.size w0 wr) (fun i _ => c.length - (intOf i).toNat)
  case atStart => exact ⟨0, Nat.zero_le _, rfl, OO1.out, OO2.out, D2.out⟩
  case round =>
    clear OO1 OO2 D2 D1
    obtain ⟨k, hk, rfl, ho1, ho2, hb⟩ := hrel
    have HB := hid hb
    have HO1 := hid ho1
    have HO2 := hid ho2
    have hz1 := (ho1.lt (w.heap.size + 1) rfl).2
    have hz2 := (ho2.lt w1.heap.size rfl).2
    have hzr : w0.heap.size ≤ wr.heap.size := hb.size
    have KB := hid (KB0.out.below hb KB0.out.lt)
    have zz : w.heap.size < wr.heap.size := by omega
    have k0 : wr.cell? ⟨w.heap.size, 0, none⟩ = some (.int .i64 n) := KB.out.cell 0
    have k1 : wr.cell? ⟨w.heap.size, 1, none⟩ = some (.int .i64 lv) := KB.out.cell 1
    have k2 : wr.cell? ⟨w.heap.size, 2, none⟩ = some (.int .i64 rk) := KB.out.cell 2
    have k3 : wr.cell? ⟨w.heap.size, 3, none⟩ = some (.int .i64 gp) := KB.out.cell 3
    have k4 : wr.cell? ⟨w.heap.size, 4, none⟩ = some (.int .i64 kd) := KB.out.cell 4
    have k5 : wr.cell? ⟨w.heap.size, 5, none⟩ = some (.int .i64 vl) := KB.out.cell 5
    have k6 : wr.cell? ⟨w.heap.size, 6, none⟩ = some (.int .i64 cp) := KB.out.cell 6
    have k7 : wr.cell? ⟨w.heap.size, 7, none⟩ = some (.int .i64 lo) := KB.out.cell 7
    have k8 : wr.cell? ⟨w.heap.size, 8, none⟩ = some (.int .i64 hi) := KB.out.cell 8
    have k9 : wr.cell? ⟨w.heap.size, 9, none⟩ = some (.slice a S.length C) := KB.out.cell 9
    have k10 : wr.cell? ⟨w.heap.size, 10, none⟩ = some (.int .i64 cn) := KB.out.cell 10
    have kf : ∀ o, wr.frozen? ⟨w.heap.size, o, none⟩ = false := KB.out.frozen
    clear ho1 ho2
    by_cases hlt : k < c.length
    · obtain ⟨b, off, rfl, hbb, c1, c2⟩ := zC.out.get2 hlt
      obtain ⟨f1, f2, f3, f4, _⟩ := fit_at HS.out HC.out hlt
      obtain ⟨j, hj⟩ : ∃ j : Nat, (g1 c k).toNat = j := ⟨_, rfl⟩
      obtain ⟨q, hq⟩ : ∃ q, g2 c k = q := ⟨_, rfl⟩
      rw [← f2, hj] at c1
      rw [hq] at c2
      rw [hj] at f1
      have HMK := hid (show mntB s c gp k = (decide (gp < 0) || decide (q2 s j = gp)) by unfold mntB; rw [hj])
      have HQ := hid hq
      have HJ := hid hj
      have d1 : wr.cell? ⟨b, off + k * 2, none⟩ = some (.int .i64 (j : Int)) := (hb.cell hbb).trans c1
      have d2 : wr.cell? ⟨b, off + k * 2 + 1, none⟩ = some (.int .i64 q) := (hb.cell hbb).trans c2
      have hbw : b < wr.heap.size := by omega
      have hkl : (k : Int) < (c.length : Int) := by omega
      have sA := hid (show Sl enc4 4 wr.drew wr.drew.heap.size A s from (zA.out.below hb (Nat.le_refl _)).more hb.size)
      obtain ⟨mb, hmb⟩ : ∃ x, (decide (gp < 0) || decide (q2 s j = gp)) = x := ⟨_, rfl⟩
      rw [hmb] at HMK
      have HMM := hid hmb
      clear c1 c2 hj hq hb f2 f3 f4 hmb
      go_wp2_with fail
      go_region_held3 (fun x => (∀ o, x.cell? ⟨w.heap.size, o, none⟩ = wr.cell? ⟨w.heap.size, o, none⟩) ∧ x.cell? ⟨b, off + k * 2, none⟩ = some (.int .i64 (j : Int)) ∧ x.cell? ⟨b, off + k * 2 + 1, none⟩ = some (.int .i64 q)) ((refine ⟨?_, ?_, ?_⟩ <;> first | (intro o; first | rfl | exact ee o | (simp [go_sem, *]; done)) | assumption | (simp [go_sem, *]; done))) ((go_at_call 107; refine (meant_any s A cap n lv rk gp kd vl cp lo hi cn a C S j q _ sA.out f1).mono ?_; rintro e w5 ⟨rfl, b5⟩; rw [HMM.out]; have ee : ∀ o, w5.cell? ⟨w.heap.size, o, none⟩ = wr.cell? ⟨w.heap.size, o, none⟩ := fun o => b5.cell (p := ⟨w.heap.size, o, none⟩) zz; have m1 : w5.cell? ⟨b, off + k * 2, none⟩ = some (.int .i64 (j : Int)) := (b5.cell (p := ⟨b, off + k * 2, none⟩) hbw).trans d1; have m2 : w5.cell? ⟨b, off + k * 2 + 1, none⟩ = some (.int .i64 q) := (b5.cell (p := ⟨b, off + k * 2 + 1, none⟩) hbw).trans d2))
      have b5' : Below wr.heap.size wr w5 := ⟨b5.os, b5.tape, b5.output, b5.size, b5.block⟩
      have HB5 := hid (HB.out.trans (b5'.mono hzr))
      have HO5 := hid (HO1.out.below b5' (Nat.le_refl _))
      have HO6 := hid (HO2.out.below b5' (Nat.le_refl _))
      have hz5 := HB5.out.size
      have KB5 := hid (KB0.out.below HB5.out KB0.out.lt)
      clear b5 b5' ee m1 m2 d1 d2 kf zz hbw sA hz1 hz2 HO1 HO2 HB KB hzr
      have zz : w.heap.size < w5.heap.size := by omega
      have hz1 := (HO5.out.lt (w.heap.size + 1) rfl).2
      have hz2 := (HO6.out.lt w1.heap.size rfl).2
      have hlf : k < F.length := by rw [HFL.out]; exact hlt
      have hlr : k < M.length := by rw [HML.out]; exact hlt
      have HFK := hid (HF.out k hlt)
      have HMK2 := hid (HM.out k hlt)
      cases mb
      · have HZ := hid (show mntK s c gp l k = 0 by unfold mntK; rw [HMK.out]; rfl)
        have HFZ := hid (show dscK s c gp kd vl l k = 0 by
          unfold dscK; rw [HZ.out]
          have hfr := fun (h : 2 ≤ vl) => (free_bd HS.out HC.out hlt h).2.2.1
          rcases vKind_bd HK.out with ⟨e, _⟩ | ⟨e, _⟩ | ⟨e, h, _⟩
          · rw [if_pos e]; simp
          · rw [if_neg (by omega), if_neg (by omega)]
          · rw [if_neg (by omega), if_pos e]; have := hfr h; omega)
        have n1 := hid (fill_skip hlf (HFK.out.trans HFZ.out))
        have n2 := hid (fill_skip hlr (HMK2.out.trans HZ.out))
        clear hlf hlr
        go_wp2
        go_roundw
        case rel => exact ⟨k + 1, by omega, by go_num, by rw [← n1.out]; exact HO5.out, by rw [← n2.out]; exact HO6.out, HB5.out⟩
        case measure => simp [intOf]; omega
      · have HZ := hid (show mntK s c gp l k = g0 l k by unfold mntK; rw [HMK.out]; rfl)
        have hkx : k < l.length := by have := HLL.out; omega
        obtain ⟨bl, offl, rfl, hbl, c3⟩ := zL.out.get1 hkx
        have hxb := left_at HS.out HC.out HV.out hlt
        obtain ⟨x, hx⟩ : ∃ x, g0 l k = x := ⟨_, rfl⟩
        rw [hx] at c3 hxb HZ
        have d3 : w5.cell? ⟨bl, offl + k, none⟩ = some (.int .i64 x) := (HB5.out.cell hbl).trans c3
        have hblw : bl < w5.heap.size := by omega
        have hn1 : c.length = (F.take k ++ List.replicate (F.length - k) (0 : Int)).length := by rw [fill_len (by omega), HFL.out]
        have hn2 : c.length = (M.take k ++ List.replicate (M.length - k) (0 : Int)).length := by rw [fill_len (by omega), HML.out]
        have r1 : w5.cell? ⟨w.heap.size + 1, k, none⟩ = some (.int .i64 0) := by simpa using HO5.out.cell len1 hn1 (get_fill hlf) (j := 0) rfl
        have r2 : w5.cell? ⟨w1.heap.size, k, none⟩ = some (.int .i64 0) := by simpa using HO6.out.cell len1 hn2 (get_fill hlr) (j := 0) rfl
        have g1f : ∀ o, w5.frozen? ⟨w.heap.size + 1, o, none⟩ = false := fun o => HO5.out.frozen hn1 o
        have g2f : ∀ o, w5.frozen? ⟨w1.heap.size, o, none⟩ = false := fun o => HO6.out.frozen hn2 o
        have hne : w.heap.size + 1 ≠ w1.heap.size := by omega
        have hne' : w1.heap.size ≠ w.heap.size + 1 := by omega
        have hne3 : w.heap.size ≠ w1.heap.size := by omega
        have hne4 : w.heap.size ≠ w.heap.size + 1 := by omega
        have hne3' : w1.heap.size ≠ w.heap.size := by omega
        have hne4' : w.heap.size + 1 ≠ w.heap.size := by omega
        have hb1' : w.heap.size + 1 ≠ bl := by omega
        have hb2' : w1.heap.size ≠ bl := by omega
        have hb1 : bl ≠ w.heap.size + 1 := by omega
        have hb2 : bl ≠ w1.heap.size := by omega
        have hkxi : (k : Int) < (l.length : Int) := by omega
        have n2 := hid (HO6.out.store len1 hn2 (get_fill hlr) (j := 0) (a' := x) (by omega) (u := .int .i64 x) rfl)
        rw [fill_step hlr (by rw [HMK2.out, HZ.out])] at n2
        have n3 := hid (HB5.out.setCell (p := ⟨w1.heap.size, k, none⟩) (by simp; omega) (.int .i64 x))
        have n1 := hid (HO5.out.far (p := ⟨w1.heap.size, k, none⟩) (fun he => hne (Option.some.inj he)) (.int .i64 x))
        rcases vKind_bd HK.out with ⟨e, v1, v2⟩ | ⟨e, v1, v2⟩ | ⟨e, v1, v2⟩
        · have y1 : (kd == 1) = true := by rw [e]; rfl
          obtain ⟨s1, s2, s3, s4⟩ := part_bd (vl := vl) hxb ⟨v1, v2⟩
          obtain ⟨P, hP⟩ : ∃ P, x * vl = P := ⟨_, rfl⟩
          rw [hP] at s1 s2 s3 s4
          obtain ⟨f, hf⟩ : ∃ f, P / 1000 = f := ⟨_, rfl⟩
          rw [hf] at s3 s4
          have q1 : P.tdiv 1000 = f := by rw [Int.tdiv_eq_ediv_of_nonneg s1, hf]
          have hw1 : IntKind.i64.wrap (x * vl) = P := by rw [hP]; exact IntWalk.i64_in _ (by omega)
          have hw2 : IntKind.i64.wrap f = f := IntWalk.i64_in _ (by omega)
          have HFV := hid (show g0 F k = f by rw [HFK.out]; unfold dscK; rw [if_pos e, HZ.out, hP, hf])
          have m1 := hid (n1.out.store len1 hn1 (get_fill hlf) (j := 0) (a' := f) (by omega) (u := .int .i64 f) rfl)
          rw [fill_step hlf HFV.out] at m1
          have m2 := hid (n2.out.far (p := ⟨w.heap.size + 1, k, none⟩) (fun he => hne' (Option.some.inj he)) (.int .i64 f))
          have m3 := hid (n3.out.setCell (p := ⟨w.heap.size + 1, k, none⟩) (by simp; omega) (.int .i64 f))
          clear c3 hx hxb hn1 hn2 hlf hlr e hP hf n1 n2 n3
          go_wp2_with fail
          go_region
          go_wp2
          go_roundw
          case rel => exact ⟨k + 1, by omega, by go_num, by simpa using m1.out.drew, by simpa using m2.out.drew, by simpa using m3.out.drew⟩
          case measure => simp [intOf]; omega
        · have y1 : (kd == 1) = false := by rw [e]; rfl
          have y3 : (kd == 3) = false := by rw [e]; rfl
          have HFV := hid (show g0 F k = 0 by rw [HFK.out]; unfold dscK; rw [if_neg (by omega), if_neg (by omega)])
          have m1 := hid (fill_skip hlf HFV.out)
          clear c3 hx hxb hn1 hn2 hlf hlr e
          go_wp2
          go_roundw
          case rel => exact ⟨k + 1, by omega, by go_num, by rw [← m1.out]; simpa using n1.out, by simpa using n2.out, by simpa using n3.out⟩
          case measure => simp [intOf]; omega
        · have y1 : (kd == 1) = false := by rw [e]; rfl
          have y3 : (kd == 3) = true := by rw [e]; rfl
          obtain ⟨f1, f2, f3, f4, _⟩ := fit_at HS.out HC.out hlt
          obtain ⟨t1, t2, t3, t4⟩ := free_bd HS.out HC.out hlt v1
          rw [HJ.out, HQ.out] at t3 t4
          rw [HQ.out] at t1 t2 f3
          rw [HJ.out] at f1
          obtain ⟨b', off', rfl, hbb', c4, _⟩ := zA.out.get4 f1
          obtain ⟨p, hp⟩ : ∃ p, q1 s j = p := ⟨_, rfl⟩
          rw [hp] at c4 t3 t4
          have d4 : w5.cell? ⟨b', off' + j * 4, none⟩ = some (.int .i64 p) := (HB5.out.cell hbb').trans c4
          have hbw' : b' < w5.heap.size := by omega
          have hb3 : b' ≠ w.heap.size + 1 := by omega
          have hb4 : b' ≠ w1.heap.size := by omega
          have hji : (j : Int) < (s.length : Int) := by omega
          have hvne : vl ≠ 0 := by omega
          obtain ⟨z, hz⟩ : ∃ z, q / vl = z := ⟨_, rfl⟩
          have q0 : 0 ≤ q := by omega
          have q1 : q.tdiv vl = z := by rw [Int.tdiv_eq_ediv_of_nonneg q0, hz]
          rw [hz] at t1 t2 t3 t4
          obtain ⟨y, hy⟩ : ∃ y, z * p = y := ⟨_, rfl⟩
          rw [hy] at t3 t4
          have hw1 : IntKind.i64.wrap z = z := IntWalk.i64_in _ (by omega)
          have hw2 : IntKind.i64.wrap (z * p) = y := by rw [hy]; exact IntWalk.i64_in _ (by omega)
          obtain ⟨f, hf⟩ : ∃ f, min x y = f := ⟨_, rfl⟩
          have HFV := hid (show g0 F k = f by rw [HFK.out]; unfold dscK; rw [if_neg (by omega), if_pos e, HZ.out, HJ.out, HQ.out, hp, hz, hy, hf])
          have m1 := hid (n1.out.store len1 hn1 (get_fill hlf) (j := 0) (a' := f) (by omega) (u := .int .i64 f) rfl)
          rw [fill_step hlf HFV.out] at m1
          have m2 := hid (n2.out.far (p := ⟨w.heap.size + 1, k, none⟩) (fun he => hne' (Option.some.inj he)) (.int .i64 f))
          have m3 := hid (n3.out.setCell (p := ⟨w.heap.size + 1, k, none⟩) (by simp; omega) (.int .i64 f))
          have HFM := hid hf
          clear c3 c4 hx hxb hn1 hn2 hlf hlr e hz hy hp n1 n2 n3 f2 f3 f4 hf
          by_cases hmin : x ≤ y
          · obtain rfl : f = x := by have := HFM.out; omega
            go_wp2_with fail
            go_region
            go_wp2
            go_roundw
            case rel => exact ⟨k + 1, by omega, by go_num, by simpa using m1.out.drew, by simpa using m2.out.drew, by simpa using m3.out.drew⟩
            case measure => simp [intOf]; omega
          · obtain rfl : f = y := by have := HFM.out; omega
            go_wp2_with fail
            go_region
            go_wp2
            go_roundw
            case rel => exact ⟨k + 1, by omega, by go_num, by simpa using m1.out.drew, by simpa using m2.out.drew, by simpa using m3.out.drew⟩
            case measure => simp [intOf]; omega
    · have hkl : k = c.length := by omega
      have o1 := hid (show Own enc1 1 3 wr w0.heap.size (.slice (some ⟨w.heap.size + 1, 0, none⟩) c.length c.length) F by
        have := HO1.out; rw [hkl, ← HFL.out, List.take_length, Nat.sub_self, List.replicate_zero, List.append_nil, HFL.out] at this; exact this)
      have o2 := hid (show Own enc1 1 3 wr w1.heap.size (.slice (some ⟨w1.heap.size, 0, none⟩) c.length c.length) M by
        have := HO2.out; rw [hkl, ← HML.out, List.take_length, Nat.sub_self, List.replicate_zero, List.append_nil, HML.out] at this; exact this)
      have DD := hid (D0.out.trans (HB.out.mono D0.out.size))
      subst hkl
      clear hb HO1 HO2
      by_cases h2 : kd = 2
      · have y2 : (kd == 2) = true := by rw [h2]; rfl
        have HWP := hid (show wishP s c gp kd vl l = apP (min vl (tot (g0 M) c.length)) M by rw [HWI.out, if_pos h2])
        have sM := o2.out.sl len1
        have hv1 : 1 ≤ vl := by rcases vKind_bd HK.out with h | h | h <;> omega
        have hmt := tot_bd (lf := g0 M) (b := 100000) c.length (fun k hk => by
          rw [HM.out k hk]; have := mntK_bd (gp := gp) HS.out HC.out HV.out hk; omega)
        have hsum : ∀ x : World, Sl enc1 1 x x.heap.size (some ⟨w1.heap.size, 0, none⟩) M → Calls Tryz.prog 57 #[.slice (some ⟨w1.heap.size, 0, none⟩) c.length c.length] x fun e w' => e = .returned (.int .i64 (tot (g0 M) c.length)) ∧ x = w' := fun x hx => by
          have := ssum_any M (some ⟨w1.heap.size, 0, none⟩) c.length x hx (by rw [HML.out]; omega) (fun k hk => by have := HMB.out k hk; omega)
          rw [HML.out] at this; exact this
        have happ : ∀ (x : World) (t : Int), Sl enc1 1 x x.heap.size (some ⟨w1.heap.size, 0, none⟩) M → 0 ≤ t ∧ t ≤ 1000000 → t ≤ tot (g0 M) c.length → Calls Tryz.prog 89 #[.int .i64 t, .slice (some ⟨w1.heap.size, 0, none⟩) c.length c.length] x (ApPost x t M) := fun x t hx ht hle => by
          have := apportionS_any t M (some ⟨w1.heap.size, 0, none⟩) c.length x hx ht (by rw [HML.out]; omega) (fun k hk => HMB.out k hk) (by rw [HML.out]; exact hle)
          rw [HML.out] at this; exact this
        obtain ⟨T, hT⟩ : ∃ T, tot (g0 M) c.length = T := ⟨_, rfl⟩
        rw [hT] at hmt HWP hsum happ
        have hw9 : w.heap.size ≤ wr.heap.size := by omega
        have sMd : Sl enc1 1 wr.drew wr.drew.heap.size (some ⟨w1.heap.size, 0, none⟩) M := sM
        have HE := hid (show wishP s c gp kd vl l = apP (if T < vl then T else vl) M by rw [HWP.out]; congr 1; split <;> omega)
        have htb : 0 ≤ (if T < vl then T else vl) ∧ (if T < vl then T else vl) ≤ 1000000 := by split <;> omega
        have hle : (if T < vl then T else vl) ≤ T := by split <;> omega
        clear h2
        go_wp2_with fail
        go_region_held3 (fun x => x.cell? ⟨w.heap.size, 5, none⟩ = some (.int .i64 vl)) (first | assumption | (simp [go_sem, *]; done)) (first | (go_at_call 57; refine (hsum _ sMd).mono ?_; rintro e w3 ⟨rfl, rfl⟩) | (go_at_call 89; generalize hte : (if T < vl then T else vl) = t at htb hle ⊢; have HTE := hid hte; clear hte; refine (happ _ t sMd htb hle).mono ?_; rintro e w5 ⟨v5, rfl, o5, b5⟩; have e5 : w5.cell? ⟨w.heap.size, 5, none⟩ = some (.int .i64 vl) := (b5.cell (p := ⟨w.heap.size, 5, none⟩) zz).trans k5))
        all_goals
          have b5' : Below wr.heap.size wr w5 := ⟨b5.os, b5.tape, b5.output, b5.size, b5.block⟩
          have DD5 := hid (DD.out.trans (b5'.mono hw9))
          have O5 := hid (show Own enc1 1 3 w5 w.heap.size v5 (wishP s c gp kd vl l) by rw [HE.out, HTE.out]; exact o5.less (show w.heap.size ≤ wr.drew.heap.size from hw9))
          clear b5 b5' o5 e5
          go_wp2
          go_ret
          exact ⟨_, rfl, O5.out, DD5.out⟩
      · have y2 : (kd == 2) = false := beq_eq_false_iff_ne.2 h2
        have HWP := hid (show wishP s c gp kd vl l = F by rw [HWI.out, if_neg h2])
        clear h2
        go_wp2
        go_ret
        refine ⟨_, rfl, ?_, DD.out⟩
        rw [HWP.out]
        exact o1.out.less (by omega)

end Go.Proofs.YtkgofklpogdpmaaGreat
