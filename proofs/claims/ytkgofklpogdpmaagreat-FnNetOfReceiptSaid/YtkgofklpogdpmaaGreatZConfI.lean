/- Contract: rules in conflict, as the program does it. -/
import Derived.Test.YtkgofklpogdpmaaGreatZGMeetI
import Derived.Test.YtkgofklpogdpmaaGreatZC
namespace Go.Proofs.YtkgofklpogdpmaaGreat
open Go.RowKit

/-- Whether two rules are meant for common articles. -/
def tgB (g g' : Int) : Bool := decide (g < 0) || (decide (g' < 0) || decide (g = g'))
/-- Whether the order of two rules is not told. -/
def cfB (lv rk gp lo hi : Int) (S : List (Int × Int)) (lv' rk' gp' lo' hi' : Int) (S' : List (Int × Int)) : Bool := decide (lv = lv') && (decide (rk = rk') && (tgB gp gp' && mtG lo hi S lo' hi' S'))
theorem vRule_parts {n lv rk gp kd vl cp lo hi cn : Int} {S : List (Int × Int)} (h : vRule n lv rk gp kd vl cp lo hi S cn = true) : (-1 ≤ gp ∧ gp ≤ 2) ∧ vGuard lo hi S cn = true := by
  unfold vRule at h
  simp only [Bool.and_eq_true, withinB_true] at h
  exact ⟨h.2.2.2.1, h.2.2.2.2.2.1⟩

set_option maxHeartbeats 3200000 in
set_option maxRecDepth 100000 in
theorem rulesConflict_any (n lv rk gp kd vl cp lo hi cn : Int) (a : Option Addr) (C : Nat) (S : List (Int × Int)) (n' lv' rk' gp' kd' vl' cp' lo' hi' cn' : Int) (a' : Option Addr) (C' : Nat) (S' : List (Int × Int)) (w : World)
    (h1 : Sl enc2 2 w w.heap.size a S) (h2 : Sl enc2 2 w w.heap.size a' S') (hv1 : vRule n lv rk gp kd vl cp lo hi S cn = true) (hv2 : vRule n' lv' rk' gp' kd' vl' cp' lo' hi' S' cn' = true) :
    Calls Tryz.prog 75 #[.agg #[.int .i64 n, .int .i64 lv, .int .i64 rk, .int .i64 gp, .int .i64 kd, .int .i64 vl, .int .i64 cp, .int .i64 lo, .int .i64 hi, .slice a S.length C, .int .i64 cn], .agg #[.int .i64 n', .int .i64 lv', .int .i64 rk', .int .i64 gp', .int .i64 kd', .int .i64 vl', .int .i64 cp', .int .i64 lo', .int .i64 hi', .slice a' S'.length C', .int .i64 cn']] w (PointPost w (decide (n ≠ n') && cfB lv rk gp lo hi S lv' rk' gp' lo' hi' S')) := by
  obtain ⟨⟨g1, g2⟩, hg1⟩ := vRule_parts hv1
  obtain ⟨⟨g3, g4⟩, hg2⟩ := vRule_parts hv2
  have HV1 := hid hv1
  have HV2 := hid hv2
  have HG1 := hid hg1
  have HG2 := hid hg2
  have hl1 : S.length ≤ 1000 := by have := (vGuard_iff.1 hg1).2.2.1; omega
  have hl2 : S'.length ≤ 1000 := by have := (vGuard_iff.1 hg2).2.2.1; omega
  clear hv1 hv2 hg1 hg2
  have HA0 := hid (Blk.new w 54 #[.int .i64 n, .int .i64 lv, .int .i64 rk, .int .i64 gp, .int .i64 kd, .int .i64 vl, .int .i64 cp, .int .i64 lo, .int .i64 hi, .slice a S.length C, .int .i64 cn])
  have HB0 := hid (Blk.new (w.alloc (.cells #[.int .i64 n, .int .i64 lv, .int .i64 rk, .int .i64 gp, .int .i64 kd, .int .i64 vl, .int .i64 cp, .int .i64 lo, .int .i64 hi, .slice a S.length C, .int .i64 cn] 54)) 54 #[.int .i64 n', .int .i64 lv', .int .i64 rk', .int .i64 gp', .int .i64 kd', .int .i64 vl', .int .i64 cp', .int .i64 lo', .int .i64 hi', .slice a' S'.length C', .int .i64 cn'])
  have HR0 := hid (Blk.new ((w.alloc (.cells #[.int .i64 n, .int .i64 lv, .int .i64 rk, .int .i64 gp, .int .i64 kd, .int .i64 vl, .int .i64 cp, .int .i64 lo, .int .i64 hi, .slice a S.length C, .int .i64 cn] 54)).alloc (.cells #[.int .i64 n', .int .i64 lv', .int .i64 rk', .int .i64 gp', .int .i64 kd', .int .i64 vl', .int .i64 cp', .int .i64 lo', .int .i64 hi', .slice a' S'.length C', .int .i64 cn'] 54)) 42 #[.int .i64 0, .slice none 0 0, .slice none 0 0])
  obtain ⟨w0, hw0⟩ : ∃ W9 : World, W9 = ((w.alloc (.cells #[.int .i64 n, .int .i64 lv, .int .i64 rk, .int .i64 gp, .int .i64 kd, .int .i64 vl, .int .i64 cp, .int .i64 lo, .int .i64 hi, .slice a S.length C, .int .i64 cn] 54)).alloc (.cells #[.int .i64 n', .int .i64 lv', .int .i64 rk', .int .i64 gp', .int .i64 kd', .int .i64 vl', .int .i64 cp', .int .i64 lo', .int .i64 hi', .slice a' S'.length C', .int .i64 cn'] 54)).alloc (.cells #[.int .i64 0, .slice none 0 0, .slice none 0 0] 42) := ⟨_, rfl⟩
  have HA := hid (show Blk w0 w.heap.size 54 #[.int .i64 n, .int .i64 lv, .int .i64 rk, .int .i64 gp, .int .i64 kd, .int .i64 vl, .int .i64 cp, .int .i64 lo, .int .i64 hi, .slice a S.length C, .int .i64 cn] by rw [hw0]; exact (HA0.out.alloc _).alloc _)
  have HB := hid (show Blk w0 (w.heap.size + 1) 54 #[.int .i64 n', .int .i64 lv', .int .i64 rk', .int .i64 gp', .int .i64 kd', .int .i64 vl', .int .i64 cp', .int .i64 lo', .int .i64 hi', .slice a' S'.length C', .int .i64 cn'] by rw [hw0]; have := HB0.out.alloc (.cells #[.int .i64 0, .slice none 0 0, .slice none 0 0] 42); simpa only [World.size_alloc] using this)
  have HR := hid (show Blk w0 (w.heap.size + 1 + 1) 42 #[.int .i64 0, .slice none 0 0, .slice none 0 0] by rw [hw0]; have := HR0.out; simpa only [World.size_alloc] using this)
  have hz0 : w0.heap.size = w.heap.size + 1 + 1 + 1 := by rw [hw0]; simp
  have D0 := hid (show Below w.heap.size w w0 by rw [hw0]; repeat (first | exact Below.refl _ _ | (refine Below.alloc ?_ (by (try simp) <;> omega) _) | (refine Below.setCell ?_ (by (try simp) <;> omega) _) | (refine Below.drew ?_) | (refine below_drewN ?_ _) | (refine Below.trans ?_ (Below.mono (by assumption) (by (try simp) <;> omega)))))
  have HW := hid hw0
  have HZ0 := hid hz0
  have hzz : w.heap.size + 1 + 1 < w0.heap.size := by omega
  have HS1 := hid ((h1.below D0.out (Nat.le_refl _)).more (show w.heap.size ≤ w0.heap.size by omega))
  have HS2 := hid ((h2.below D0.out (Nat.le_refl _)).more (show w.heap.size ≤ w0.heap.size by omega))
  clear HA0 HB0 HR0 hw0 hz0 h1 h2
  go_enter Tryz.func75, Tryz.ntmps75
  go_wp2_with fail
  rw [← HW.out]
  refine (validRule_any n lv rk gp kd vl cp lo hi cn a C S _ HS1.out hl1).mono ?_
  rintro e w1 ⟨rfl, b1⟩
  rw [HV1.out]
  have KA1 := HA.out.below b1 (by omega)
  have KB1 := HB.out.below b1 (by omega)
  have KR1 := HR.out.below b1 (by omega)
  have z1 : w.heap.size + 1 + 1 < w1.heap.size := by have := b1.size; omega
  have T1 := hid ((HS1.out.below b1 (Nat.le_refl _)).more b1.size)
  have T2 := hid ((HS2.out.below b1 (Nat.le_refl _)).more b1.size)
  have D1 := hid (D0.out.trans (b1.mono (by omega)))
  clear b1 HS1 HS2
  have q0 : w1.cell? ⟨w.heap.size + 1, 0, none⟩ = some (.int .i64 n') := KB1.cell 0
  have q1 : w1.cell? ⟨w.heap.size + 1, 1, none⟩ = some (.int .i64 lv') := KB1.cell 1
  have q2 : w1.cell? ⟨w.heap.size + 1, 2, none⟩ = some (.int .i64 rk') := KB1.cell 2
  have q3 : w1.cell? ⟨w.heap.size + 1, 3, none⟩ = some (.int .i64 gp') := KB1.cell 3
  have q4 : w1.cell? ⟨w.heap.size + 1, 4, none⟩ = some (.int .i64 kd') := KB1.cell 4
  have q5 : w1.cell? ⟨w.heap.size + 1, 5, none⟩ = some (.int .i64 vl') := KB1.cell 5
  have q6 : w1.cell? ⟨w.heap.size + 1, 6, none⟩ = some (.int .i64 cp') := KB1.cell 6
  have q7 : w1.cell? ⟨w.heap.size + 1, 7, none⟩ = some (.int .i64 lo') := KB1.cell 7
  have q8 : w1.cell? ⟨w.heap.size + 1, 8, none⟩ = some (.int .i64 hi') := KB1.cell 8
  have q9 : w1.cell? ⟨w.heap.size + 1, 9, none⟩ = some (.slice a' S'.length C') := KB1.cell 9
  have q10 : w1.cell? ⟨w.heap.size + 1, 10, none⟩ = some (.int .i64 cn') := KB1.cell 10
  go_wp2_with fail
  refine (validRule_any n' lv' rk' gp' kd' vl' cp' lo' hi' cn' a' C' S' _ T2.out hl2).mono ?_
  rintro e w2 ⟨rfl, b2⟩
  rw [HV2.out]
  have KA2 := KA1.below b2 (by omega)
  have KB2 := KB1.below b2 (by omega)
  have KR2 := KR1.below b2 (by omega)
  have z2 : w.heap.size + 1 + 1 < w2.heap.size := by have := b2.size; omega
  have U1 := hid ((T1.out.below b2 (Nat.le_refl _)).more b2.size)
  have U2 := hid ((T2.out.below b2 (Nat.le_refl _)).more b2.size)
  have D2 := hid (D1.out.trans (b2.mono (by omega)))
  clear b2 T1 T2 KA1 KB1 KR1 q0 q1 q2 q3 q4 q5 q6 q7 q8 q9 q10
  have p0 : w2.cell? ⟨w.heap.size, 0, none⟩ = some (.int .i64 n) := KA2.cell 0
  have p1 : w2.cell? ⟨w.heap.size, 1, none⟩ = some (.int .i64 lv) := KA2.cell 1
  have p2 : w2.cell? ⟨w.heap.size, 2, none⟩ = some (.int .i64 rk) := KA2.cell 2
  have p3 : w2.cell? ⟨w.heap.size, 3, none⟩ = some (.int .i64 gp) := KA2.cell 3
  have p7 : w2.cell? ⟨w.heap.size, 7, none⟩ = some (.int .i64 lo) := KA2.cell 7
  have p8 : w2.cell? ⟨w.heap.size, 8, none⟩ = some (.int .i64 hi) := KA2.cell 8
  have p9 : w2.cell? ⟨w.heap.size, 9, none⟩ = some (.slice a S.length C) := KA2.cell 9
  have p10 : w2.cell? ⟨w.heap.size, 10, none⟩ = some (.int .i64 cn) := KA2.cell 10
  have q0 : w2.cell? ⟨w.heap.size + 1, 0, none⟩ = some (.int .i64 n') := KB2.cell 0
  have q1 : w2.cell? ⟨w.heap.size + 1, 1, none⟩ = some (.int .i64 lv') := KB2.cell 1
  have q2 : w2.cell? ⟨w.heap.size + 1, 2, none⟩ = some (.int .i64 rk') := KB2.cell 2
  have q3 : w2.cell? ⟨w.heap.size + 1, 3, none⟩ = some (.int .i64 gp') := KB2.cell 3
  have q7 : w2.cell? ⟨w.heap.size + 1, 7, none⟩ = some (.int .i64 lo') := KB2.cell 7
  have q8 : w2.cell? ⟨w.heap.size + 1, 8, none⟩ = some (.int .i64 hi') := KB2.cell 8
  have q9 : w2.cell? ⟨w.heap.size + 1, 9, none⟩ = some (.slice a' S'.length C') := KB2.cell 9
  have q10 : w2.cell? ⟨w.heap.size + 1, 10, none⟩ = some (.int .i64 cn') := KB2.cell 10
  have r0 : w2.cell? ⟨w.heap.size + 1 + 1, 0, none⟩ = some (.int .i64 0) := KR2.cell 0
  have rf0 : w2.frozen? ⟨w.heap.size + 1 + 1, 0, none⟩ = false := KR2.frozen 0
  have r1 : w2.cell? ⟨w.heap.size + 1 + 1, 1, none⟩ = some (.slice none 0 0) := KR2.cell 1
  have rf1 : w2.frozen? ⟨w.heap.size + 1 + 1, 1, none⟩ = false := KR2.frozen 1
  have r2 : w2.cell? ⟨w.heap.size + 1 + 1, 2, none⟩ = some (.slice none 0 0) := KR2.cell 2
  have rf2 : w2.frozen? ⟨w.heap.size + 1 + 1, 2, none⟩ = false := KR2.frozen 2
  by_cases hn : n = n'
  · have HE := hid (show (decide (n ≠ n') && cfB lv rk gp lo hi S lv' rk' gp' lo' hi' S') = false by simp [hn])
    have e1 : (n == n') = true := by rw [hn]; simp
    clear hn
    clear KA2 KB2 KR2
    go_wp2
    refine bodyPost_ret (v := .tuple #[.agg #[.int .i64 0, .slice none 0 0, .slice none 0 0], .bool false]) (by simp [results, Tryz.results75, go_sem, *]) rfl ⟨0, none, none, 0, 0, 0, 0, by rw [HE.out], ?_⟩
    have := D2.out
    repeat (first | exact Below.refl _ _ | (refine Below.alloc ?_ (by (try simp) <;> omega) _) | (refine Below.setCell ?_ (by (try simp) <;> omega) _) | (refine Below.drew ?_) | (refine below_drewN ?_ _) | (refine Below.trans ?_ (Below.mono (by assumption) (by (try simp) <;> omega))))
  · have e1 : (n == n') = false := beq_eq_false_iff_ne.2 hn
    have HN := hid hn
    clear hn
    by_cases hlv : lv = lv'
    · have e2 : (lv == lv') = true := by rw [hlv]; simp
      have e2' : (lv != lv') = false := by rw [hlv]; simp
      have HLV := hid hlv
      clear hlv
      by_cases hrk : rk = rk'
      · have e3 : (rk == rk') = true := by rw [hrk]; simp
        have e3' : (rk != rk') = false := by rw [hrk]; simp
        have HRK := hid hrk
        clear hrk
        by_cases htg : tgB gp gp' = true
        · have HTG := hid htg
          have HE := hid (show (decide (n ≠ n') && cfB lv rk gp lo hi S lv' rk' gp' lo' hi' S') = mtG lo hi S lo' hi' S' by unfold cfB; rw [decide_eq_true HN.out, HLV.out, HRK.out, HTG.out]; simp)
          have hc : gp = gp' ∨ (gp ≠ gp' ∧ gp = -1) ∨ (gp ≠ gp' ∧ gp ≠ -1 ∧ gp' = -1) := by
            simp only [tgB, Bool.or_eq_true, decide_eq_true_eq] at htg
            omega
          clear htg
          rcases hc with hc | ⟨hc, hc2⟩ | ⟨hc, hc2, hc3⟩
          · have e4 : (gp == gp') = true := by rw [hc]; simp
            have e4' : (gp != gp') = false := by rw [hc]; simp
            clear hc
            clear KA2 KB2
            go_wp2_with fail
            refine (guardsMeet_any lo hi cn a C S lo' hi' cn' a' C' S' _ U1.out U2.out HG1.out HG2.out).mono ?_
            rintro e w3 ⟨t, a1, a2, n1, c1, n2, c2, rfl, b3⟩
            have KR3 := KR2.below b3 (by omega)
            have z3 : w.heap.size + 1 + 1 < w3.heap.size := by have := b3.size; omega
            have D3 := hid (D2.out.trans (b3.mono (by omega)))
            clear b3 KR2 r0 r1 r2 rf0 rf1 rf2
            have r0 : w3.cell? ⟨w.heap.size + 1 + 1, 0, none⟩ = some (.int .i64 0) := KR3.cell 0
            have rf0 : w3.frozen? ⟨w.heap.size + 1 + 1, 0, none⟩ = false := KR3.frozen 0
            have r1 : w3.cell? ⟨w.heap.size + 1 + 1, 1, none⟩ = some (.slice none 0 0) := KR3.cell 1
            have rf1 : w3.frozen? ⟨w.heap.size + 1 + 1, 1, none⟩ = false := KR3.frozen 1
            have r2 : w3.cell? ⟨w.heap.size + 1 + 1, 2, none⟩ = some (.slice none 0 0) := KR3.cell 2
            have rf2 : w3.frozen? ⟨w.heap.size + 1 + 1, 2, none⟩ = false := KR3.frozen 2
            go_wp2
            refine bodyPost_ret (v := .tuple #[.agg #[.int .i64 t, .slice a1 n1 c1, .slice a2 n2 c2], .bool (mtG lo hi S lo' hi' S')]) (by simp [results, Tryz.results75, go_sem, *]) rfl ⟨t, a1, a2, n1, c1, n2, c2, by rw [HE.out], ?_⟩
            have := D3.out
            repeat (first | exact Below.refl _ _ | (refine Below.alloc ?_ (by (try simp) <;> omega) _) | (refine Below.setCell ?_ (by (try simp) <;> omega) _) | (refine Below.drew ?_) | (refine below_drewN ?_ _) | (refine Below.trans ?_ (Below.mono (by assumption) (by (try simp) <;> omega))))
          · have e4 : (gp == gp') = false := beq_eq_false_iff_ne.2 hc
            have e4' : (gp != gp') = true := by simpa using hc
            have e5 : (gp == -1) = true := by rw [hc2]; rfl
            have e5' : (gp != -1) = false := by rw [hc2]; rfl
            clear hc hc2
            clear KA2 KB2
            go_wp2_with fail
            refine (guardsMeet_any lo hi cn a C S lo' hi' cn' a' C' S' _ U1.out U2.out HG1.out HG2.out).mono ?_
            rintro e w3 ⟨t, a1, a2, n1, c1, n2, c2, rfl, b3⟩
            have KR3 := KR2.below b3 (by omega)
            have z3 : w.heap.size + 1 + 1 < w3.heap.size := by have := b3.size; omega
            have D3 := hid (D2.out.trans (b3.mono (by omega)))
            clear b3 KR2 r0 r1 r2 rf0 rf1 rf2
            have r0 : w3.cell? ⟨w.heap.size + 1 + 1, 0, none⟩ = some (.int .i64 0) := KR3.cell 0
            have rf0 : w3.frozen? ⟨w.heap.size + 1 + 1, 0, none⟩ = false := KR3.frozen 0
            have r1 : w3.cell? ⟨w.heap.size + 1 + 1, 1, none⟩ = some (.slice none 0 0) := KR3.cell 1
            have rf1 : w3.frozen? ⟨w.heap.size + 1 + 1, 1, none⟩ = false := KR3.frozen 1
            have r2 : w3.cell? ⟨w.heap.size + 1 + 1, 2, none⟩ = some (.slice none 0 0) := KR3.cell 2
            have rf2 : w3.frozen? ⟨w.heap.size + 1 + 1, 2, none⟩ = false := KR3.frozen 2
            go_wp2
            refine bodyPost_ret (v := .tuple #[.agg #[.int .i64 t, .slice a1 n1 c1, .slice a2 n2 c2], .bool (mtG lo hi S lo' hi' S')]) (by simp [results, Tryz.results75, go_sem, *]) rfl ⟨t, a1, a2, n1, c1, n2, c2, by rw [HE.out], ?_⟩
            have := D3.out
            repeat (first | exact Below.refl _ _ | (refine Below.alloc ?_ (by (try simp) <;> omega) _) | (refine Below.setCell ?_ (by (try simp) <;> omega) _) | (refine Below.drew ?_) | (refine below_drewN ?_ _) | (refine Below.trans ?_ (Below.mono (by assumption) (by (try simp) <;> omega))))
          · have e4 : (gp == gp') = false := beq_eq_false_iff_ne.2 hc
            have e4' : (gp != gp') = true := by simpa using hc
            have e5 : (gp == -1) = false := beq_eq_false_iff_ne.2 hc2
            have e5' : (gp != -1) = true := by simpa using hc2
            have e6 : (gp' == -1) = true := by rw [hc3]; rfl
            have e6' : (gp' != -1) = false := by rw [hc3]; rfl
            clear hc hc2 hc3
            clear KA2 KB2
            go_wp2_with fail
            refine (guardsMeet_any lo hi cn a C S lo' hi' cn' a' C' S' _ U1.out U2.out HG1.out HG2.out).mono ?_
            rintro e w3 ⟨t, a1, a2, n1, c1, n2, c2, rfl, b3⟩
            have KR3 := KR2.below b3 (by omega)
            have z3 : w.heap.size + 1 + 1 < w3.heap.size := by have := b3.size; omega
            have D3 := hid (D2.out.trans (b3.mono (by omega)))
            clear b3 KR2 r0 r1 r2 rf0 rf1 rf2
            have r0 : w3.cell? ⟨w.heap.size + 1 + 1, 0, none⟩ = some (.int .i64 0) := KR3.cell 0
            have rf0 : w3.frozen? ⟨w.heap.size + 1 + 1, 0, none⟩ = false := KR3.frozen 0
            have r1 : w3.cell? ⟨w.heap.size + 1 + 1, 1, none⟩ = some (.slice none 0 0) := KR3.cell 1
            have rf1 : w3.frozen? ⟨w.heap.size + 1 + 1, 1, none⟩ = false := KR3.frozen 1
            have r2 : w3.cell? ⟨w.heap.size + 1 + 1, 2, none⟩ = some (.slice none 0 0) := KR3.cell 2
            have rf2 : w3.frozen? ⟨w.heap.size + 1 + 1, 2, none⟩ = false := KR3.frozen 2
            go_wp2
            refine bodyPost_ret (v := .tuple #[.agg #[.int .i64 t, .slice a1 n1 c1, .slice a2 n2 c2], .bool (mtG lo hi S lo' hi' S')]) (by simp [results, Tryz.results75, go_sem, *]) rfl ⟨t, a1, a2, n1, c1, n2, c2, by rw [HE.out], ?_⟩
            have := D3.out
            repeat (first | exact Below.refl _ _ | (refine Below.alloc ?_ (by (try simp) <;> omega) _) | (refine Below.setCell ?_ (by (try simp) <;> omega) _) | (refine Below.drew ?_) | (refine below_drewN ?_ _) | (refine Below.trans ?_ (Below.mono (by assumption) (by (try simp) <;> omega))))
        · have HE := hid (show (decide (n ≠ n') && cfB lv rk gp lo hi S lv' rk' gp' lo' hi' S') = false by unfold cfB; rw [show tgB gp gp' = false by simpa using htg]; simp)
          have hc : gp ≠ gp' ∧ gp ≠ -1 ∧ gp' ≠ -1 := by
            simp only [tgB, Bool.or_eq_true, decide_eq_true_eq] at htg
            omega
          obtain ⟨hc, hc2, hc3⟩ := hc
          have e4 : (gp == gp') = false := beq_eq_false_iff_ne.2 hc
          have e4' : (gp != gp') = true := by simpa using hc
          have e5 : (gp == -1) = false := beq_eq_false_iff_ne.2 hc2
          have e5' : (gp != -1) = true := by simpa using hc2
          have e6 : (gp' == -1) = false := beq_eq_false_iff_ne.2 hc3
          have e6' : (gp' != -1) = true := by simpa using hc3
          clear htg hc hc2 hc3
          clear KA2 KB2 KR2
          go_wp2
          refine bodyPost_ret (v := .tuple #[.agg #[.int .i64 0, .slice none 0 0, .slice none 0 0], .bool false]) (by simp [results, Tryz.results75, go_sem, *]) rfl ⟨0, none, none, 0, 0, 0, 0, by rw [HE.out], ?_⟩
          have := D2.out
          repeat (first | exact Below.refl _ _ | (refine Below.alloc ?_ (by (try simp) <;> omega) _) | (refine Below.setCell ?_ (by (try simp) <;> omega) _) | (refine Below.drew ?_) | (refine below_drewN ?_ _) | (refine Below.trans ?_ (Below.mono (by assumption) (by (try simp) <;> omega))))
      · have HE := hid (show (decide (n ≠ n') && cfB lv rk gp lo hi S lv' rk' gp' lo' hi' S') = false by unfold cfB; rw [decide_eq_false hrk]; simp)
        have e3 : (rk == rk') = false := beq_eq_false_iff_ne.2 hrk
        have e3' : (rk != rk') = true := by simpa using hrk
        clear hrk
        clear KA2 KB2 KR2
        go_wp2
        refine bodyPost_ret (v := .tuple #[.agg #[.int .i64 0, .slice none 0 0, .slice none 0 0], .bool false]) (by simp [results, Tryz.results75, go_sem, *]) rfl ⟨0, none, none, 0, 0, 0, 0, by rw [HE.out], ?_⟩
        have := D2.out
        repeat (first | exact Below.refl _ _ | (refine Below.alloc ?_ (by (try simp) <;> omega) _) | (refine Below.setCell ?_ (by (try simp) <;> omega) _) | (refine Below.drew ?_) | (refine below_drewN ?_ _) | (refine Below.trans ?_ (Below.mono (by assumption) (by (try simp) <;> omega))))
    · have HE := hid (show (decide (n ≠ n') && cfB lv rk gp lo hi S lv' rk' gp' lo' hi' S') = false by unfold cfB; rw [decide_eq_false hlv]; simp)
      have e2 : (lv == lv') = false := beq_eq_false_iff_ne.2 hlv
      have e2' : (lv != lv') = true := by simpa using hlv
      clear hlv
      clear KA2 KB2 KR2
      go_wp2
      refine bodyPost_ret (v := .tuple #[.agg #[.int .i64 0, .slice none 0 0, .slice none 0 0], .bool false]) (by simp [results, Tryz.results75, go_sem, *]) rfl ⟨0, none, none, 0, 0, 0, 0, by rw [HE.out], ?_⟩
      have := D2.out
      repeat (first | exact Below.refl _ _ | (refine Below.alloc ?_ (by (try simp) <;> omega) _) | (refine Below.setCell ?_ (by (try simp) <;> omega) _) | (refine Below.drew ?_) | (refine below_drewN ?_ _) | (refine Below.trans ?_ (Below.mono (by assumption) (by (try simp) <;> omega))))

end Go.Proofs.YtkgofklpogdpmaaGreat
