/- Contract: guards that meet, as the paper says it. -/
import Derived.Test.YtkgofklpogdpmaaGreatZGMeetP
namespace Go.Proofs.YtkgofklpogdpmaaGreat
open Go.RowKit

set_option maxHeartbeats 3200000 in
set_option maxRecDepth 100000 in
theorem both_any (lo1 hi1 cn1 : Int) (a1 : Option Addr) (C1 : Nat) (S1 : List (Int × Int)) (lo2 hi2 cn2 : Int) (a2 : Option Addr) (C2 : Nat) (S2 : List (Int × Int)) (w : World)
    (h1 : Sl enc2 2 w w.heap.size a1 S1) (h2 : Sl enc2 2 w w.heap.size a2 S2) (hv1 : vGuard lo1 hi1 S1 cn1 = true) (hv2 : vGuard lo2 hi2 S2 cn2 = true) :
    Calls Tryz.prog 85 #[.agg #[.int .i64 lo1, .int .i64 hi1, .slice a1 S1.length C1, .int .i64 cn1], .agg #[.int .i64 lo2, .int .i64 hi2, .slice a2 S2.length C2, .int .i64 cn2]] w (PointPost w (mtG lo1 hi1 S1 lo2 hi2 S2)) := by
  obtain ⟨f1, f2, f3, f4, f5⟩ := vGuard_iff.1 hv1
  obtain ⟨e1, e2, e3, e4, e5⟩ := vGuard_iff.1 hv2
  have HF1 := hid f1
  have HF2 := hid f2
  have HE1 := hid e1
  have HE2 := hid e2
  have HL1 := hid f3
  have HL2 := hid e3
  have HV1 := hid hv1
  have HV2 := hid hv2
  have hl1 : S1.length ≤ 1000 := by omega
  have hl2 : S2.length ≤ 1000 := by omega
  have HA0 := hid (Blk.new w 52 #[.int .i64 lo1, .int .i64 hi1, .slice a1 S1.length C1, .int .i64 cn1])
  have HB0 := hid (Blk.new (w.alloc (.cells #[.int .i64 lo1, .int .i64 hi1, .slice a1 S1.length C1, .int .i64 cn1] 52)) 52 #[.int .i64 lo2, .int .i64 hi2, .slice a2 S2.length C2, .int .i64 cn2])
  have HR0 := hid (Blk.new ((w.alloc (.cells #[.int .i64 lo1, .int .i64 hi1, .slice a1 S1.length C1, .int .i64 cn1] 52)).alloc (.cells #[.int .i64 lo2, .int .i64 hi2, .slice a2 S2.length C2, .int .i64 cn2] 52)) 42 #[.int .i64 0, .slice none 0 0, .slice none 0 0])
  obtain ⟨w0, hw0⟩ : ∃ x, x = ((w.alloc (.cells #[.int .i64 lo1, .int .i64 hi1, .slice a1 S1.length C1, .int .i64 cn1] 52)).alloc (.cells #[.int .i64 lo2, .int .i64 hi2, .slice a2 S2.length C2, .int .i64 cn2] 52)).alloc (.cells #[.int .i64 0, .slice none 0 0, .slice none 0 0] 42) := ⟨_, rfl⟩
  have HA := hid (show Blk w0 w.heap.size 52 #[.int .i64 lo1, .int .i64 hi1, .slice a1 S1.length C1, .int .i64 cn1] by rw [hw0]; exact (HA0.out.alloc _).alloc _)
  have HB := hid (show Blk w0 (w.heap.size + 1) 52 #[.int .i64 lo2, .int .i64 hi2, .slice a2 S2.length C2, .int .i64 cn2] by rw [hw0]; have := HB0.out.alloc (.cells #[.int .i64 0, .slice none 0 0, .slice none 0 0] 42); simpa only [World.size_alloc] using this)
  have HR := hid (show Blk w0 (w.heap.size + 1 + 1) 42 #[.int .i64 0, .slice none 0 0, .slice none 0 0] by rw [hw0]; have := HR0.out; simpa only [World.size_alloc] using this)
  have hz0 : w0.heap.size = w.heap.size + 1 + 1 + 1 := by rw [hw0]; simp
  have D0 := hid (show Below w.heap.size w w0 by rw [hw0]; repeat (first | exact Below.refl _ _ | (refine Below.alloc ?_ (by (try simp) <;> omega) _) | (refine Below.setCell ?_ (by (try simp) <;> omega) _) | (refine Below.drew ?_) | (refine below_drewN ?_ _) | (refine Below.trans ?_ (Below.mono (by assumption) (by (try simp) <;> omega)))))
  have HW := hid hw0
  have HZ0 := hid hz0
  have hzz : w.heap.size + 1 + 1 < w0.heap.size := by omega
  have h1' := hid ((h1.below D0.out (Nat.le_refl _)).more (show w.heap.size ≤ w0.heap.size by omega))
  have h2' := hid ((h2.below D0.out (Nat.le_refl _)).more (show w.heap.size ≤ w0.heap.size by omega))
  have u1 := hid h1
  have u2 := hid h2
  clear f1 f2 f3 f4 f5 e1 e2 e3 e4 e5 hv1 hv2 HA0 HB0 HR0 hw0 hz0 h1 h2 h1' h2'
  obtain ⟨base, hbase⟩ : ∃ x, x = w.heap.size + 1 + 1 + 1 := ⟨_, rfl⟩
  obtain ⟨P, hP⟩ : ∃ x, x = w.heap.size + 1 + 1 + 1 + 1 + 1 := ⟨_, rfl⟩
  obtain ⟨w5, hw5⟩ : ∃ W9 : World, W9 = ((w0.alloc (.cells #[] 3)).alloc (.cells #[] 3)).alloc (.cells #[.int .i64 0, .slice (some ⟨w.heap.size + 1 + 1 + 1, 0, none⟩) 0 0, .slice (some ⟨w.heap.size + 1 + 1 + 1 + 1, 0, none⟩) 0 0] 42) := ⟨_, rfl⟩
  have hz5 : w5.heap.size = w.heap.size + 1 + 1 + 1 + 1 + 1 + 1 := by rw [hw5]; simp [HZ0.out]
  have O1 := hid (show Own enc1 1 3 w5 base (.slice (some ⟨w.heap.size + 1 + 1 + 1, 0, none⟩) 0 0) [] by
    rw [hw5]
    exact ((Own.lit0 enc1 1 3 w0 base (by rw [HZ0.out]) (by omega)).alloc _).alloc _)
  have O2 := hid (show Own enc1 1 3 w5 base (.slice (some ⟨w.heap.size + 1 + 1 + 1 + 1, 0, none⟩) 0 0) [] by
    rw [hw5]
    exact (Own.lit0 enc1 1 3 (w0.alloc (.cells #[] 3)) base (by simp [HZ0.out]) (by omega)).alloc _)
  have HA5 := hid (show Blk w5 w.heap.size 52 #[.int .i64 lo1, .int .i64 hi1, .slice a1 S1.length C1, .int .i64 cn1] by rw [hw5]; exact ((HA.out.alloc _).alloc _).alloc _)
  have HB5 := hid (show Blk w5 (w.heap.size + 1) 52 #[.int .i64 lo2, .int .i64 hi2, .slice a2 S2.length C2, .int .i64 cn2] by rw [hw5]; exact ((HB.out.alloc _).alloc _).alloc _)
  have HR5 := hid (show Blk w5 (w.heap.size + 1 + 1) 42 #[.int .i64 0, .slice none 0 0, .slice none 0 0] by rw [hw5]; exact ((HR.out.alloc _).alloc _).alloc _)
  have HP5 := hid (show Blk w5 P 42 #[.int .i64 0, .slice (some ⟨w.heap.size + 1 + 1 + 1, 0, none⟩) 0 0, .slice (some ⟨w.heap.size + 1 + 1 + 1 + 1, 0, none⟩) 0 0] by
    have h9 := Blk.new ((w0.alloc (.cells #[] 3)).alloc (.cells #[] 3)) 42 #[.int .i64 0, .slice (some ⟨w.heap.size + 1 + 1 + 1, 0, none⟩) 0 0, .slice (some ⟨w.heap.size + 1 + 1 + 1 + 1, 0, none⟩) 0 0]
    rw [hw5, hP]
    simpa only [World.size_alloc, HZ0.out] using h9)
  have D5 := hid (show Below w.heap.size w w5 by rw [hw5]; exact ((D0.out.alloc (by omega) _).alloc (by simp; omega) _).alloc (by simp; omega) _)
  have HPE := hid hP
  have HBE := hid hbase
  have HZ5 := hid hz5
  have HW5 := hid hw5
  have hPb : base ≤ P ∧ P < w5.heap.size := by omega
  have hbz : w.heap.size + 1 + 1 < base := by omega
  have hbz5 : base ≤ w5.heap.size := by omega
  clear hP hbase hz5 hw5
  go_enter Tryz.func85, Tryz.ntmps85
  go_wp2_with fail
  rw [← HW.out, ← HW5.out]
  refine (meet_any lo1 hi1 lo2 hi2 _ HF2.out HE2.out).mono ?_
  rintro e w3 ⟨x, y, rfl, b3⟩
  rw [← HPE.out]
  have z3 : w5.heap.size ≤ w3.heap.size := b3.size
  have o1 := O1.out.below b3 (Nat.le_refl _)
  have o2 := O2.out.below b3 (Nat.le_refl _)
  have ka := HA5.out.below b3 (by omega)
  have kb := HB5.out.below b3 (by omega)
  have kr := HR5.out.below b3 (by omega)
  have kp := HP5.out.below b3 (by omega)
  have D3 := hid (D5.out.trans (b3.mono (by omega)))
  have c0 : w3.cell? ⟨P, 0, none⟩ = some (.int .i64 0) := kp.cell 0
  have f0 : w3.frozen? ⟨P, 0, none⟩ = false := kp.frozen 0
  obtain ⟨b0, hb0⟩ : ∃ x, mtB lo1 hi1 lo2 hi2 = x := ⟨_, rfl⟩
  have HG0 := hid (show mtG lo1 hi1 S1 lo2 hi2 S2 = (b0 && (List.range 3).all (mtK S1 S2)) by unfold mtG; rw [hb0])
  rw [hb0]
  have hP3 : P < w3.heap.size := by omega
  obtain ⟨w4, hw4⟩ : ∃ W9 : World, W9 = (w3.setCell ⟨P, 0, none⟩ (.int .i64 x)).alloc (.cells #[.int .i64 x, .int .i64 y] 49) := ⟨_, rfl⟩
  have hz4 : w4.heap.size = w3.heap.size + 1 := by rw [hw4]; simp [World.setCell]
  have hq1 : (Value.slice (some ⟨w.heap.size + 1 + 1 + 1, 0, none⟩) 0 0).ownBlock ≠ some P := by (have := HPE.out; intro e; simp [Value.ownBlock] at e; omega)
  have hq2 : (Value.slice (some ⟨w.heap.size + 1 + 1 + 1 + 1, 0, none⟩) 0 0).ownBlock ≠ some P := by (have := HPE.out; intro e; simp [Value.ownBlock] at e; omega)
  have P1 := hid (show Own enc1 1 3 w4 base (.slice (some ⟨w.heap.size + 1 + 1 + 1, 0, none⟩) 0 0) [] by rw [hw4]; exact (o1.far (p := ⟨P, 0, none⟩) hq1 _).alloc _)
  have P2 := hid (show Own enc1 1 3 w4 base (.slice (some ⟨w.heap.size + 1 + 1 + 1 + 1, 0, none⟩) 0 0) [] by rw [hw4]; exact (o2.far (p := ⟨P, 0, none⟩) hq2 _).alloc _)
  have HKA := hid (show Blk w4 w.heap.size 52 #[.int .i64 lo1, .int .i64 hi1, .slice a1 S1.length C1, .int .i64 cn1] by rw [hw4]; exact (ka.far (p := ⟨P, 0, none⟩) (by simp; omega) _).alloc _)
  have HKB := hid (show Blk w4 (w.heap.size + 1) 52 #[.int .i64 lo2, .int .i64 hi2, .slice a2 S2.length C2, .int .i64 cn2] by rw [hw4]; exact (kb.far (p := ⟨P, 0, none⟩) (by simp; omega) _).alloc _)
  have HKR := hid (show Blk w4 (w.heap.size + 1 + 1) 42 #[.int .i64 0, .slice none 0 0, .slice none 0 0] by rw [hw4]; exact (kr.far (p := ⟨P, 0, none⟩) (by simp; omega) _).alloc _)
  have HKP := hid (show Blk w4 P 42 #[.int .i64 x, .slice (some ⟨w.heap.size + 1 + 1 + 1, 0, none⟩) 0 0, .slice (some ⟨w.heap.size + 1 + 1 + 1 + 1, 0, none⟩) 0 0] by rw [hw4]; exact (kp.set_ 0 _).alloc _)
  have D4 := hid (show Below w.heap.size w w4 by rw [hw4]; exact (D3.out.setCell (p := ⟨P, 0, none⟩) (by simp; omega) _).alloc (by simp [World.setCell]; omega) _)
  have HW34 := hid (show ∀ p : Addr, p.block < w.heap.size → w4.cell? p = w.cell? p from fun p hp => D4.out.cell hp)
  have HW4 := hid hw4
  have HZ4 := hid hz4
  have hbz4 : base ≤ w4.heap.size := by omega
  have hPb4 : base ≤ P ∧ P < w4.heap.size := by omega
  clear b3 o1 o2 ka kb kr kp hw4 hz4 hb0
  go_wp2_with fail
  rw [← HW4.out]
  go_loopw [9, 8] (fun i ok wr => PtRel1 w w4 P base b0 (mtK S1 S2) x i ok wr) (fun i _ _ => 3 - (intOf i).toNat)
  case atStart => exact ⟨0, by omega, rfl, by simp, _, _, [], [], by simp, by simp, P1.out, P2.out, .inr (by intro e; simp [Value.ownBlock] at e), hq1, hq2, HKP.out, SameTo.refl _ _, D4.out⟩
  case round =>
    clear hq1 hq2 c0 f0
    obtain ⟨k, hk, rfl, rfl, v1, v2, l1, l2, hl1', hl2', o1, o2, hne, hp1, hp2, kp, hsm, hbl⟩ := hrel
    obtain ⟨wo, rfl⟩ : ∃ wo : World, wo = wr := ⟨_, rfl⟩
    have HSM := hid hsm
    have HBL := hid hbl
    have hszw := hbl.size
    have HKP := hid kp
    have hPlt := kp.lt
    have hz4 : w4.heap.size ≤ wo.heap.size := hsm.2
    have kb1 : wo.cell? ⟨w.heap.size, 2, none⟩ = some (.slice a1 S1.length C1) := (hsm.blk HKA.out (by omega)).cell 2
    have kb2 : wo.cell? ⟨w.heap.size + 1, 2, none⟩ = some (.slice a2 S2.length C2) := (hsm.blk HKB.out (by omega)).cell 2
    have hcell : ∀ p : Addr, p.block < w.heap.size → wo.cell? p = w.cell? p := fun p hp => (World.cell?_of_block (hsm.1 p.block (by omega))).trans (HW34.out p hp)
    have HCELL := hid hcell
    clear hsm hbl kp hcell
    obtain ⟨acc, hacc⟩ : ∃ x, (b0 && (List.range k).all (mtK S1 S2)) = x := ⟨_, rfl⟩
    rw [hacc]
    have HACC := hid hacc
    clear hacc
    by_cases hlt : k < 3
    · have HLT := hid hlt
      obtain ⟨b1, off1, rfl, hb1, c1, c2⟩ := u1.out.get2 (show k < S1.length by have := HL1.out; omega)
      obtain ⟨b2, off2, rfl, hb2, c3, c4⟩ := u2.out.get2 (show k < S2.length by have := HL2.out; omega)
      have hv1 := HF1.out k (by have := HL1.out; omega)
      have hv2 := HE1.out k (by have := HL2.out; omega)
      have hmk : mtK S1 S2 k = mtB (g1 S1 k) (g2 S1 k) (g1 S2 k) (g2 S2 k) := rfl
      obtain ⟨x1, hx1⟩ : ∃ x, g1 S1 k = x := ⟨_, rfl⟩
      obtain ⟨y1, hy1⟩ : ∃ x, g2 S1 k = x := ⟨_, rfl⟩
      obtain ⟨x2, hx2⟩ : ∃ x, g1 S2 k = x := ⟨_, rfl⟩
      obtain ⟨y2, hy2⟩ : ∃ x, g2 S2 k = x := ⟨_, rfl⟩
      rw [hx1, hy1, hx2, hy2] at hmk
      rw [hx1, hy1] at hv1
      rw [hx2, hy2] at hv2
      rw [hx1] at c1
      rw [hy1] at c2
      rw [hx2] at c3
      rw [hy2] at c4
      obtain ⟨fb, hfb⟩ : ∃ x, mtB x1 y1 x2 y2 = x := ⟨_, rfl⟩
      have HFB := hid hfb
      have HNEW := hid (show (b0 && (List.range (k + 1)).all (mtK S1 S2)) = (acc && fb) by
        rw [List.range_succ, List.all_append]
        simp only [List.all_cons, List.all_nil, Bool.and_true]
        rw [← Bool.and_assoc, HACC.out, hmk, hfb])
      have HV3 := hid hv1
      have HV4 := hid hv2
      have d1 : wo.cell? ⟨b1, off1 + k * 2, none⟩ = some (.int .i64 x1) := (HCELL.out _ hb1).trans c1
      have d2 : wo.cell? ⟨b1, off1 + k * 2 + 1, none⟩ = some (.int .i64 y1) := (HCELL.out _ hb1).trans c2
      have d3 : wo.cell? ⟨b2, off2 + k * 2, none⟩ = some (.int .i64 x2) := (HCELL.out _ hb2).trans c3
      have d4 : wo.cell? ⟨b2, off2 + k * 2 + 1, none⟩ = some (.int .i64 y2) := (HCELL.out _ hb2).trans c4
      have hb1w : b1 < wo.heap.size := by omega
      have hb2w : b2 < wo.heap.size := by omega
      have hk1 : (k : Int) < (S1.length : Int) := by have := HL1.out; omega
      have hk2 : (k : Int) < (S2.length : Int) := by have := HL2.out; omega
      have hzw1 : w.heap.size < wo.heap.size := by omega
      have hzw2 : w.heap.size + 1 < wo.heap.size := by omega
      clear hx1 hy1 hx2 hy2 hmk hfb hv1 hv2 c1 c2 c3 c4
      go_wp2_with fail
      go_region_held3 (fun x => x.cell? ⟨w.heap.size, 2, none⟩ = some (.slice (some ⟨b1, off1, none⟩) S1.length C1) ∧ x.cell? ⟨w.heap.size + 1, 2, none⟩ = some (.slice (some ⟨b2, off2, none⟩) S2.length C2) ∧ x.cell? ⟨b1, off1 + k * 2, none⟩ = some (.int .i64 x1) ∧ x.cell? ⟨b1, off1 + k * 2 + 1, none⟩ = some (.int .i64 y1) ∧ x.cell? ⟨b2, off2 + k * 2, none⟩ = some (.int .i64 x2) ∧ x.cell? ⟨b2, off2 + k * 2 + 1, none⟩ = some (.int .i64 y2)) (((repeat' apply And.intro) <;> first | assumption | (simp [go_sem, *]; done))) (first | (go_at_call 106; refine (meet_any _ _ _ _ _ HV3.out HV4.out).mono ?_; rintro e w5 ⟨x5, y5, rfl, b5⟩; rw [HFB.out]; have hz9 : wo.heap.size ≤ w5.heap.size := b5.size; have hq1 : w.heap.size < w5.heap.size := (by omega); have hq2 : w.heap.size + 1 < w5.heap.size := (by omega); have hq3 : b1 < w5.heap.size := (by omega); have hq4 : b2 < w5.heap.size := (by omega); have e1 : w5.cell? ⟨w.heap.size, 2, none⟩ = some (.slice (some ⟨b1, off1, none⟩) S1.length C1) := (b5.cell (p := ⟨w.heap.size, 2, none⟩) (by (try simp) <;> omega)).trans kb1; have e2 : w5.cell? ⟨w.heap.size + 1, 2, none⟩ = some (.slice (some ⟨b2, off2, none⟩) S2.length C2) := (b5.cell (p := ⟨w.heap.size + 1, 2, none⟩) (by (try simp) <;> omega)).trans kb2; have e3 : w5.cell? ⟨b1, off1 + k * 2, none⟩ = some (.int .i64 x1) := (b5.cell (p := ⟨b1, off1 + k * 2, none⟩) (by (try simp) <;> omega)).trans d1; have e4 : w5.cell? ⟨b1, off1 + k * 2 + 1, none⟩ = some (.int .i64 y1) := (b5.cell (p := ⟨b1, off1 + k * 2 + 1, none⟩) (by (try simp) <;> omega)).trans d2; have e5 : w5.cell? ⟨b2, off2 + k * 2, none⟩ = some (.int .i64 x2) := (b5.cell (p := ⟨b2, off2 + k * 2, none⟩) (by (try simp) <;> omega)).trans d3; have e6 : w5.cell? ⟨b2, off2 + k * 2 + 1, none⟩ = some (.int .i64 y2) := (b5.cell (p := ⟨b2, off2 + k * 2 + 1, none⟩) (by (try simp) <;> omega)).trans d4) | (go_at_call 106; refine (meet_any _ _ _ _ _ HV3.out HV4.out).mono ?_; rintro e w5 ⟨x5, y5, rfl, b5⟩; rw [HFB.out]; have hz9 : wo.heap.size + 1 ≤ w5.heap.size := Nat.le_trans (Nat.le_of_eq (by simp)) b5.size; have hq1 : w.heap.size < w5.heap.size := (by omega); have hq2 : w.heap.size + 1 < w5.heap.size := (by omega); have hq3 : b1 < w5.heap.size := (by omega); have hq4 : b2 < w5.heap.size := (by omega); have e1 : w5.cell? ⟨w.heap.size, 2, none⟩ = some (.slice (some ⟨b1, off1, none⟩) S1.length C1) := (b5.cell (p := ⟨w.heap.size, 2, none⟩) (by (try simp) <;> omega)).trans ((World.cell?_alloc_lt _ _ _ hzw1).trans kb1); have e2 : w5.cell? ⟨w.heap.size + 1, 2, none⟩ = some (.slice (some ⟨b2, off2, none⟩) S2.length C2) := (b5.cell (p := ⟨w.heap.size + 1, 2, none⟩) (by (try simp) <;> omega)).trans ((World.cell?_alloc_lt _ _ _ hzw2).trans kb2); have e3 : w5.cell? ⟨b1, off1 + k * 2, none⟩ = some (.int .i64 x1) := (b5.cell (p := ⟨b1, off1 + k * 2, none⟩) (by (try simp) <;> omega)).trans ((World.cell?_alloc_lt _ _ _ hb1w).trans d1); have e4 : w5.cell? ⟨b1, off1 + k * 2 + 1, none⟩ = some (.int .i64 y1) := (b5.cell (p := ⟨b1, off1 + k * 2 + 1, none⟩) (by (try simp) <;> omega)).trans ((World.cell?_alloc_lt _ _ _ hb1w).trans d2); have e5 : w5.cell? ⟨b2, off2 + k * 2, none⟩ = some (.int .i64 x2) := (b5.cell (p := ⟨b2, off2 + k * 2, none⟩) (by (try simp) <;> omega)).trans ((World.cell?_alloc_lt _ _ _ hb2w).trans d3); have e6 : w5.cell? ⟨b2, off2 + k * 2 + 1, none⟩ = some (.int .i64 y2) := (b5.cell (p := ⟨b2, off2 + k * 2 + 1, none⟩) (by (try simp) <;> omega)).trans ((World.cell?_alloc_lt _ _ _ hb2w).trans d4); have e7 : w5.cell? ⟨wo.heap.size, 0, none⟩ = some (.int .i64 0) := (b5.cell (p := ⟨wo.heap.size, 0, none⟩) (by (try simp) <;> omega)).trans (by simp [go_sem]); have e8 : w5.cell? ⟨wo.heap.size, 1, none⟩ = some (.int .i64 0) := (b5.cell (p := ⟨wo.heap.size, 1, none⟩) (by (try simp) <;> omega)).trans (by simp [go_sem]); have f7 : w5.frozen? ⟨wo.heap.size, 0, none⟩ = false := (b5.frozen (p := ⟨wo.heap.size, 0, none⟩) (by (try simp) <;> omega)).trans (by simp [go_sem]); have f8 : w5.frozen? ⟨wo.heap.size, 1, none⟩ = false := (b5.frozen (p := ⟨wo.heap.size, 1, none⟩) (by (try simp) <;> omega)).trans (by simp [go_sem])))
      all_goals first
        | (have b5' : Below wo.heap.size wo w5 := ⟨b5.os, b5.tape, b5.output, b5.size, b5.block⟩
           have kp5 := HKP.out.below b5' hPlt
           have q1 := o1.below b5' (Nat.le_refl _)
           have q2 := o2.below b5' (Nat.le_refl _)
           have HSM5 := hid (HSM.out.below b5' (by omega))
           have HBL5 := hid (HBL.out.trans (b5'.mono hszw))
           have kp6 := kp5.alloc (.cells #[.int .i64 x5, .int .i64 y5] 49)
           have r1 := q1.alloc (.cells #[.int .i64 x5, .int .i64 y5] 49)
           have r2 := q2.alloc (.cells #[.int .i64 x5, .int .i64 y5] 49)
           have HSM6 := hid (HSM5.out.alloc (by omega) (.cells #[.int .i64 x5, .int .i64 y5] 49))
           have HBL6 := hid (HBL5.out.alloc (by omega) (.cells #[.int .i64 x5, .int .i64 y5] 49))
           have cs0 : (w5.alloc (.cells #[.int .i64 x5, .int .i64 y5] 49)).cell? ⟨w5.heap.size, 0, none⟩ = some (.int .i64 x5) := by simp [go_sem]
           have hcz : w5.heap.size < (w5.alloc (.cells #[.int .i64 x5, .int .i64 y5] 49)).heap.size := by simp
           have hz6 : wo.heap.size < (w5.alloc (.cells #[.int .i64 x5, .int .i64 y5] 49)).heap.size := by simp; omega
           clear b5 b5' kp5 q1 q2
           obtain ⟨w6, hw6⟩ : ∃ W9 : World, W9 = w5.alloc (.cells #[.int .i64 x5, .int .i64 y5] 49) := ⟨_, rfl⟩
           obtain ⟨cb, hcb⟩ : ∃ c : Nat, c = w5.heap.size := ⟨_, rfl⟩
           rw [← hw6] at kp6 r1 r2 HSM6 HBL6 cs0 hcz hz6
           rw [← hw6]
           rw [← hcb] at cs0 hcz
           rw [← hcb])
        | (have b5' : Below (wo.heap.size + 1) (wo.alloc (.cells #[.int .i64 0, .int .i64 0] 49)) w5 := ⟨b5.os, b5.tape, b5.output, b5.size, fun i hi => b5.block i (by simp; omega)⟩
           have kp5 := (HKP.out.alloc (.cells #[.int .i64 0, .int .i64 0] 49)).below b5' (by omega)
           have q1 := (o1.alloc (.cells #[.int .i64 0, .int .i64 0] 49)).below b5' (by simp)
           have q2 := (o2.alloc (.cells #[.int .i64 0, .int .i64 0] 49)).below b5' (by simp)
           have HSM5 := hid ((HSM.out.alloc (by omega) (.cells #[.int .i64 0, .int .i64 0] 49)).below b5' (by omega))
           have HBL5 := hid ((HBL.out.alloc (by omega) (.cells #[.int .i64 0, .int .i64 0] 49)).trans (b5'.mono (by omega)))
           have n1 : v1.ownBlock ≠ some wo.heap.size := fun e => by have := (o1.lt _ e).2; omega
           have n2 : v2.ownBlock ≠ some wo.heap.size := fun e => by have := (o2.lt _ e).2; omega
           have kp6 := (kp5.far (p := ⟨wo.heap.size, 0, none⟩) (by simp; omega) (.int .i64 x5)).far (p := ⟨wo.heap.size, 1, none⟩) (by simp; omega) (.int .i64 y5)
           have r1 := (q1.far (p := ⟨wo.heap.size, 0, none⟩) n1 (.int .i64 x5)).far (p := ⟨wo.heap.size, 1, none⟩) n1 (.int .i64 y5)
           have r2 := (q2.far (p := ⟨wo.heap.size, 0, none⟩) n2 (.int .i64 x5)).far (p := ⟨wo.heap.size, 1, none⟩) n2 (.int .i64 y5)
           have HSM6 := hid ((HSM5.out.set (p := ⟨wo.heap.size, 0, none⟩) (by simp; omega) (.int .i64 x5)).set (p := ⟨wo.heap.size, 1, none⟩) (by simp; omega) (.int .i64 y5))
           have HBL6 := hid ((HBL5.out.setCell (p := ⟨wo.heap.size, 0, none⟩) (by simp; omega) (.int .i64 x5)).setCell (p := ⟨wo.heap.size, 1, none⟩) (by simp; omega) (.int .i64 y5))
           have cs0 : ((w5.setCell ⟨wo.heap.size, 0, none⟩ (.int .i64 x5)).setCell ⟨wo.heap.size, 1, none⟩ (.int .i64 y5)).cell? ⟨wo.heap.size, 0, none⟩ = some (.int .i64 x5) := by simp [go_sem, e7]
           have hcz : wo.heap.size < ((w5.setCell ⟨wo.heap.size, 0, none⟩ (.int .i64 x5)).setCell ⟨wo.heap.size, 1, none⟩ (.int .i64 y5)).heap.size := by simp [World.setCell]; omega
           have hz6 : wo.heap.size < ((w5.setCell ⟨wo.heap.size, 0, none⟩ (.int .i64 x5)).setCell ⟨wo.heap.size, 1, none⟩ (.int .i64 y5)).heap.size := by simp [World.setCell]; omega
           clear b5 b5' kp5 q1 q2 e7 e8 f7 f8
           obtain ⟨w6, hw6⟩ : ∃ W9 : World, W9 = (w5.setCell ⟨wo.heap.size, 0, none⟩ (.int .i64 x5)).setCell ⟨wo.heap.size, 1, none⟩ (.int .i64 y5) := ⟨_, rfl⟩
           obtain ⟨cb, hcb⟩ : ∃ c : Nat, c = wo.heap.size := ⟨_, rfl⟩
           rw [← hw6] at kp6 r1 r2 HSM6 HBL6 cs0 hcz hz6
           rw [← hw6]
           rw [← hcb] at cs0 hcz
           rw [← hcb])
      all_goals clear d1 d2 d3 d4 e1 e2 e3 e4 e5 e6 kb1 kb2 o1 o2 hw6 hcb hq1 hq2 hq3 hq4 hz9
      all_goals
        have hg1 := r1.lt
        have cp1 : w6.cell? ⟨P, 1, none⟩ = some v1 := kp6.cell 1
        have hzb : base ≤ w6.heap.size := by omega
        have hP6 : P < w6.heap.size := by omega
        have HP1 := hid hp1
        have HR1 := hid r1
        cases acc
        all_goals
          go_wp2_with (at_builtin; refine wpList_push len1 one1 rfl (.tmp 50) (.tmp 53) _ rfl Tryz.underlying25 infoInt rfl (by omega) (by omega) rfl r1 x5 (by simp) rfl rfl (by omega) hzb ?_)
          intro v7 w7 ho7 hg7 hv7
          obtain ⟨L7, hL7⟩ : ∃ L, l1 ++ [x5] = L := ⟨_, rfl⟩
          have hL8 : L7.length ≤ 20 + (k + 1) := by rw [← hL7]; simp; omega
          rw [hL7] at ho7
          clear hL7
          have kp7 := (kp6.alloc (.cells #[.int .i64 x5] 3)).grown hg7 (fun e => HP1.out e.symm)
          have s2 := (r2.alloc (.cells #[.int .i64 x5] 3)).grown hg7 (apart_symm hne)
          have HSM7 := hid ((HSM6.out.alloc (by omega) (.cells #[.int .i64 x5] 3)).grown hg7 (by omega) (fun g hg => (hg1 g hg).1))
          have HBL7 := hid ((HBL6.out.alloc (by omega) (.cells #[.int .i64 x5] 3)).grown hg7 (by simp; omega) (fun g hg => by have := (hg1 g hg).1; omega))
          have hz7 : w6.heap.size + 1 ≤ w7.heap.size := by have := hg7.size; simpa using this
          have hp7 : v7.ownBlock ≠ some P := by
            rcases hv7 with h | h
            · rw [h]; exact HP1.out
            · rw [h]; intro e; cases e; omega
          have hne7 : v7.ownBlock = none ∨ v7.ownBlock ≠ v2.ownBlock := by
            rcases hv7 with h | h
            · rw [h]; exact hne
            · right; rw [h]; intro e; have := (r2.lt _ e.symm).2; omega
          have f7 : w7.frozen? ⟨P, 1, none⟩ = false := kp7.frozen 1
          have c7 : w7.cell? ⟨P, 1, none⟩ = some v1 := kp7.cell 1
          have KP8 := hid (kp7.set_ 1 v7)
          have O8 := hid (ho7.far (p := ⟨P, 1, none⟩) hp7 v7)
          have S8 := hid (s2.far (p := ⟨P, 1, none⟩) hp2 v7)
          have SM8 := hid (HSM7.out.set (p := ⟨P, 1, none⟩) (by simp; omega) v7)
          have BL8 := hid (HBL7.out.setCell (p := ⟨P, 1, none⟩) (by simp; omega) v7)
          have HNE7 := hid hne7
          have HP7 := hid hp7
          clear hg7 hv7 ho7 s2 kp7 hne7 hp7
          obtain ⟨A7, n7, rfl, _, _⟩ := O8.out.reads len1
          go_wp2
          go_roundw
          case rel =>
            refine ⟨k + 1, by have := HLT.out; omega, by go_num, by rw [HNEW.out]; rfl, _, v2, L7, l2, hL8, by omega, O8.out, S8.out, HNE7.out, HP7.out, hp2, ?_, SM8.out, BL8.out⟩
            have := KP8.out
            exact this
          case measure => simp [intOf]; omega
    · have HK3 := hid (show k = 3 by omega)
      have HE := hid (show mtG lo1 hi1 S1 lo2 hi2 S2 = acc by rw [HG0.out, ← HK3.out, HACC.out])
      clear kb1 kb2
      go_wp2_with fail
      go_loopw [12] (fun i wr => PtRel2 w w4 P base x i wr) (fun i _ => 10 - (intOf i).toNat)
      case atStart => exact ⟨1, by omega, by omega, rfl, v1, v2, l1, l2, by omega, by omega, o1, o2, hne, hp1, hp2, HKP.out, HSM.out, HBL.out⟩
      case round =>
        clear o1 o2 hne hp1 hp2 HSM HBL hszw HKP hPlt hz4 HCELL
        obtain ⟨k, hk0, hk, rfl, v1, v2, l1, l2, hl1', hl2', o1, o2, hne, hp1, hp2, kp, hsm, hbl⟩ := hrel
        obtain ⟨wo, rfl⟩ : ∃ wo : World, wo = wr := ⟨_, rfl⟩
        have HSM := hid hsm
        have HBL := hid hbl
        have hszw := hbl.size
        have HKP := hid kp
        have hPlt := kp.lt
        have hz4 : w4.heap.size ≤ wo.heap.size := hsm.2
        have HP2 := hid hp2
        have hg2 := o2.lt
        have hzb : base ≤ wo.heap.size := by omega
        have cp2 : wo.cell? ⟨P, 2, none⟩ = some v2 := kp.cell 2
        by_cases hlt : k ≤ 9
        · have ka3 : wo.cell? ⟨w.heap.size, 3, none⟩ = some (.int .i64 cn1) := (hsm.blk HKA.out (by omega)).cell 3
          have kb3 : wo.cell? ⟨w.heap.size + 1, 3, none⟩ = some (.int .i64 cn2) := (hsm.blk HKB.out (by omega)).cell 3
          have hzw1 : w.heap.size < wo.heap.size := by omega
          have hzw2 : w.heap.size + 1 < wo.heap.size := by omega
          clear hsm hbl kp
          by_cases e1 : cn1 = (k : Int)
          · have y1 : (cn1 == (k : Int)) = true := by rw [e1]; simp
            clear e1
            go_wp2_with (at_builtin; go_loud (refine wpList_push len1 one1 rfl (.tmp 71) (.tmp 73) _ rfl Tryz.underlying25 infoInt rfl (by omega) (by omega) rfl o2 (k : Int) (by simp) rfl rfl (by omega) hzb ?_))
            intro v7 w7 ho7 hg7 hv7
            obtain ⟨L7, hL7⟩ : ∃ L, l2 ++ [(k : Int)] = L := ⟨_, rfl⟩
            have hL8 : L7.length ≤ 20 + (k + 1) + 3 := by rw [← hL7]; simp; omega
            rw [hL7] at ho7
            clear hL7
            have kp7 := (HKP.out.alloc (.cells #[.int .i64 (k : Int)] 3)).grown hg7 (fun e => HP2.out e.symm)
            have s1 := (o1.alloc (.cells #[.int .i64 (k : Int)] 3)).grown hg7 hne
            have HSM7 := hid ((HSM.out.alloc (by omega) (.cells #[.int .i64 (k : Int)] 3)).grown hg7 (by omega) (fun g hg => (hg2 g hg).1))
            have HBL7 := hid ((HBL.out.alloc (by omega) (.cells #[.int .i64 (k : Int)] 3)).grown hg7 (by simp; omega) (fun g hg => by have := (hg2 g hg).1; omega))
            have hz7 : wo.heap.size + 1 ≤ w7.heap.size := by have := hg7.size; simpa using this
            have hp7 : v7.ownBlock ≠ some P := by
              rcases hv7 with h | h
              · rw [h]; exact HP2.out
              · rw [h]; intro e; cases e; omega
            have hne7 : v1.ownBlock = none ∨ v1.ownBlock ≠ v7.ownBlock := by
              rcases hv7 with h | h
              · rw [h]; exact hne
              · right; rw [h]; intro e; have := (o1.lt _ e).2; omega
            have f7 : w7.frozen? ⟨P, 2, none⟩ = false := kp7.frozen 2
            have c7 : w7.cell? ⟨P, 2, none⟩ = some v2 := kp7.cell 2
            have KP8 := hid (kp7.set_ 2 v7)
            have O8 := hid (ho7.far (p := ⟨P, 2, none⟩) hp7 v7)
            have S8 := hid (s1.far (p := ⟨P, 2, none⟩) hp1 v7)
            have SM8 := hid (HSM7.out.set (p := ⟨P, 2, none⟩) (by simp; omega) v7)
            have BL8 := hid (HBL7.out.setCell (p := ⟨P, 2, none⟩) (by simp; omega) v7)
            have HNE7 := hid hne7
            have HP7 := hid hp7
            clear hg7 hv7 ho7 s1 kp7 hne7 hp7
            obtain ⟨A7, n7, rfl, _, _⟩ := O8.out.reads len1
            go_wp2
            go_roundw
            case rel =>
              refine ⟨k + 1, by omega, by omega, by go_num, v1, _, l1, L7, by omega, hL8, S8.out, O8.out, HNE7.out, hp1, HP7.out, ?_, SM8.out, BL8.out⟩
              have := KP8.out
              exact this
            case measure => simp [intOf]; omega
          · have y1 : (cn1 == (k : Int)) = false := beq_eq_false_iff_ne.2 e1
            clear e1
            by_cases e2 : cn2 = (k : Int)
            · have y2 : (cn2 == (k : Int)) = true := by rw [e2]; simp
              clear e2
              go_wp2_with (at_builtin; go_loud (refine wpList_push len1 one1 rfl (.tmp 71) (.tmp 73) _ rfl Tryz.underlying25 infoInt rfl (by omega) (by omega) rfl o2 (k : Int) (by simp) rfl rfl (by omega) hzb ?_))
              intro v7 w7 ho7 hg7 hv7
              obtain ⟨L7, hL7⟩ : ∃ L, l2 ++ [(k : Int)] = L := ⟨_, rfl⟩
              have hL8 : L7.length ≤ 20 + (k + 1) + 3 := by rw [← hL7]; simp; omega
              rw [hL7] at ho7
              clear hL7
              have kp7 := (HKP.out.alloc (.cells #[.int .i64 (k : Int)] 3)).grown hg7 (fun e => HP2.out e.symm)
              have s1 := (o1.alloc (.cells #[.int .i64 (k : Int)] 3)).grown hg7 hne
              have HSM7 := hid ((HSM.out.alloc (by omega) (.cells #[.int .i64 (k : Int)] 3)).grown hg7 (by omega) (fun g hg => (hg2 g hg).1))
              have HBL7 := hid ((HBL.out.alloc (by omega) (.cells #[.int .i64 (k : Int)] 3)).grown hg7 (by simp; omega) (fun g hg => by have := (hg2 g hg).1; omega))
              have hz7 : wo.heap.size + 1 ≤ w7.heap.size := by have := hg7.size; simpa using this
              have hp7 : v7.ownBlock ≠ some P := by
                rcases hv7 with h | h
                · rw [h]; exact HP2.out
                · rw [h]; intro e; cases e; omega
              have hne7 : v1.ownBlock = none ∨ v1.ownBlock ≠ v7.ownBlock := by
                rcases hv7 with h | h
                · rw [h]; exact hne
                · right; rw [h]; intro e; have := (o1.lt _ e).2; omega
              have f7 : w7.frozen? ⟨P, 2, none⟩ = false := kp7.frozen 2
              have c7 : w7.cell? ⟨P, 2, none⟩ = some v2 := kp7.cell 2
              have KP8 := hid (kp7.set_ 2 v7)
              have O8 := hid (ho7.far (p := ⟨P, 2, none⟩) hp7 v7)
              have S8 := hid (s1.far (p := ⟨P, 2, none⟩) hp1 v7)
              have SM8 := hid (HSM7.out.set (p := ⟨P, 2, none⟩) (by simp; omega) v7)
              have BL8 := hid (HBL7.out.setCell (p := ⟨P, 2, none⟩) (by simp; omega) v7)
              have HNE7 := hid hne7
              have HP7 := hid hp7
              clear hg7 hv7 ho7 s1 kp7 hne7 hp7
              obtain ⟨A7, n7, rfl, _, _⟩ := O8.out.reads len1
              go_wp2
              go_roundw
              case rel =>
                refine ⟨k + 1, by omega, by omega, by go_num, v1, _, l1, L7, by omega, hL8, S8.out, O8.out, HNE7.out, hp1, HP7.out, ?_, SM8.out, BL8.out⟩
                have := KP8.out
                exact this
              case measure => simp [intOf]; omega
            · have y2 : (cn2 == (k : Int)) = false := beq_eq_false_iff_ne.2 e2
              clear e2
              go_wp2
              go_roundw
              case rel => exact ⟨k + 1, by omega, by omega, by go_num, v1, v2, l1, l2, by omega, by omega, o1, o2, hne, hp1, HP2.out, HKP.out, HSM.out, HBL.out⟩
              case measure => simp [intOf]; omega
        · have hk10 : k = 10 := by omega
          subst hk10
          have KR := hsm.blk HKR.out (by omega)
          have r0 : wo.cell? ⟨w.heap.size + 1 + 1, 0, none⟩ = some (.int .i64 0) := KR.cell 0
          have r1 : wo.cell? ⟨w.heap.size + 1 + 1, 1, none⟩ = some (.slice none 0 0) := KR.cell 1
          have r2 : wo.cell? ⟨w.heap.size + 1 + 1, 2, none⟩ = some (.slice none 0 0) := KR.cell 2
          have rf0 : wo.frozen? ⟨w.heap.size + 1 + 1, 0, none⟩ = false := KR.frozen 0
          have rf1 : wo.frozen? ⟨w.heap.size + 1 + 1, 1, none⟩ = false := KR.frozen 1
          have rf2 : wo.frozen? ⟨w.heap.size + 1 + 1, 2, none⟩ = false := KR.frozen 2
          have hzr : w.heap.size + 1 + 1 < wo.heap.size := by omega
          obtain ⟨A1, n1, rfl, _, _⟩ := o1.reads len1
          obtain ⟨A2, n2, rfl, _, _⟩ := o2.reads len1
          have k0 : wo.cell? ⟨P, 0, none⟩ = some (.int .i64 x) := kp.cell 0
          have k1 : wo.cell? ⟨P, 1, none⟩ = some (.slice A1 l1.length n1) := kp.cell 1
          have k2 : wo.cell? ⟨P, 2, none⟩ = some (.slice A2 l2.length n2) := kp.cell 2
          clear hsm hbl kp KR cp2
          go_wp2
          refine bodyPost_ret (v := .tuple #[.agg #[.int .i64 x, .slice A1 l1.length n1, .slice A2 l2.length n2], .bool acc]) (by simp [results, Tryz.results85, go_sem, *]) rfl ⟨x, A1, A2, l1.length, n1, l2.length, n2, by rw [HE.out], ?_⟩
          have := HBL.out
          repeat (first | exact Below.refl _ _ | (refine Below.alloc ?_ (by (try simp) <;> omega) _) | (refine Below.setCell ?_ (by (try simp) <;> omega) _) | (refine Below.drew ?_) | (refine below_drewN ?_ _) | (refine Below.trans ?_ (Below.mono (by assumption) (by (try simp) <;> omega))))

end Go.Proofs.YtkgofklpogdpmaaGreat
