/- Contract: rules in conflict, as the paper says it. -/
import Derived.Test.YtkgofklpogdpmaaGreatZGMeetS
import Derived.Test.YtkgofklpogdpmaaGreatZConfI
namespace Go.Proofs.YtkgofklpogdpmaaGreat
open Go.RowKit

set_option maxHeartbeats 1600000 in
set_option maxRecDepth 100000 in
theorem together_any (n lv rk gp kd vl cp lo hi cn : Int) (a : Option Addr) (C : Nat) (S : List (Int × Int)) (n' lv' rk' gp' kd' vl' cp' lo' hi' cn' : Int) (a' : Option Addr) (C' : Nat) (S' : List (Int × Int)) (w : World) :
    Calls Tryz.prog 84 #[.agg #[.int .i64 n, .int .i64 lv, .int .i64 rk, .int .i64 gp, .int .i64 kd, .int .i64 vl, .int .i64 cp, .int .i64 lo, .int .i64 hi, .slice a S.length C, .int .i64 cn], .agg #[.int .i64 n', .int .i64 lv', .int .i64 rk', .int .i64 gp', .int .i64 kd', .int .i64 vl', .int .i64 cp', .int .i64 lo', .int .i64 hi', .slice a' S'.length C', .int .i64 cn']] w fun e w' => e = .returned (.bool (tgB gp gp')) ∧ Below w.heap.size w w' := by
  by_cases h1 : gp < 0
  · have e1 : decide (gp < 0) = true := decide_eq_true h1
    have HE := hid (show tgB gp gp' = true by unfold tgB; rw [e1]; rfl)
    go_enter Tryz.func84, Tryz.ntmps84
    go_wp2
    go_ret
    refine ⟨ret_bool HE.out.symm, ?_⟩
    repeat (first | exact Below.refl _ _ | (refine Below.alloc ?_ (by (try simp) <;> omega) _) | (refine Below.setCell ?_ (by (try simp) <;> omega) _) | (refine Below.drew ?_) | (refine below_drewN ?_ _) | (refine Below.trans ?_ (Below.mono (by assumption) (by (try simp) <;> omega))))
  · have e1 : decide (gp < 0) = false := decide_eq_false h1
    by_cases h2 : gp' < 0
    · have e2 : decide (gp' < 0) = true := decide_eq_true h2
      have HE := hid (show tgB gp gp' = true by unfold tgB; rw [e1, e2]; rfl)
      go_enter Tryz.func84, Tryz.ntmps84
      go_wp2
      go_ret
      refine ⟨ret_bool HE.out.symm, ?_⟩
      repeat (first | exact Below.refl _ _ | (refine Below.alloc ?_ (by (try simp) <;> omega) _) | (refine Below.setCell ?_ (by (try simp) <;> omega) _) | (refine Below.drew ?_) | (refine below_drewN ?_ _) | (refine Below.trans ?_ (Below.mono (by assumption) (by (try simp) <;> omega))))
    · have e2 : decide (gp' < 0) = false := decide_eq_false h2
      by_cases h3 : gp = gp'
      · have e3 : (gp == gp') = true := by rw [h3]; simp
        have HE := hid (show tgB gp gp' = true by unfold tgB; rw [decide_eq_true h3]; simp)
        clear h3
        go_enter Tryz.func84, Tryz.ntmps84
        go_wp2
        go_ret
        refine ⟨ret_bool HE.out.symm, ?_⟩
        repeat (first | exact Below.refl _ _ | (refine Below.alloc ?_ (by (try simp) <;> omega) _) | (refine Below.setCell ?_ (by (try simp) <;> omega) _) | (refine Below.drew ?_) | (refine below_drewN ?_ _) | (refine Below.trans ?_ (Below.mono (by assumption) (by (try simp) <;> omega))))
      · have e3 : (gp == gp') = false := beq_eq_false_iff_ne.2 h3
        have HE := hid (show tgB gp gp' = false by unfold tgB; rw [e1, e2, decide_eq_false h3]; rfl)
        clear h3
        go_enter Tryz.func84, Tryz.ntmps84
        go_wp2
        go_ret
        refine ⟨ret_bool HE.out.symm, ?_⟩
        repeat (first | exact Below.refl _ _ | (refine Below.alloc ?_ (by (try simp) <;> omega) _) | (refine Below.setCell ?_ (by (try simp) <;> omega) _) | (refine Below.drew ?_) | (refine below_drewN ?_ _) | (refine Below.trans ?_ (Below.mono (by assumption) (by (try simp) <;> omega))))

set_option maxHeartbeats 3200000 in
set_option maxRecDepth 100000 in
theorem conflict_any (n lv rk gp kd vl cp lo hi cn : Int) (a : Option Addr) (C : Nat) (S : List (Int × Int)) (n' lv' rk' gp' kd' vl' cp' lo' hi' cn' : Int) (a' : Option Addr) (C' : Nat) (S' : List (Int × Int)) (w : World)
    (h1 : Sl enc2 2 w w.heap.size a S) (h2 : Sl enc2 2 w w.heap.size a' S') (hv1 : vRule n lv rk gp kd vl cp lo hi S cn = true) (hv2 : vRule n' lv' rk' gp' kd' vl' cp' lo' hi' S' cn' = true) :
    Calls Tryz.prog 55 #[.agg #[.int .i64 n, .int .i64 lv, .int .i64 rk, .int .i64 gp, .int .i64 kd, .int .i64 vl, .int .i64 cp, .int .i64 lo, .int .i64 hi, .slice a S.length C, .int .i64 cn], .agg #[.int .i64 n', .int .i64 lv', .int .i64 rk', .int .i64 gp', .int .i64 kd', .int .i64 vl', .int .i64 cp', .int .i64 lo', .int .i64 hi', .slice a' S'.length C', .int .i64 cn']] w (PointPost w (cfB lv rk gp lo hi S lv' rk' gp' lo' hi' S')) := by
  obtain ⟨⟨g1, g2⟩, hg1⟩ := vRule_parts hv1
  obtain ⟨⟨g3, g4⟩, hg2⟩ := vRule_parts hv2
  have HG1 := hid hg1
  have HG2 := hid hg2
  clear hv1 hv2 hg1 hg2
  have HA0 := hid (Blk.new w 54 #[.int .i64 n, .int .i64 lv, .int .i64 rk, .int .i64 gp, .int .i64 kd, .int .i64 vl, .int .i64 cp, .int .i64 lo, .int .i64 hi, .slice a S.length C, .int .i64 cn])
  have HB0 := hid (Blk.new (w.alloc (.cells #[.int .i64 n, .int .i64 lv, .int .i64 rk, .int .i64 gp, .int .i64 kd, .int .i64 vl, .int .i64 cp, .int .i64 lo, .int .i64 hi, .slice a S.length C, .int .i64 cn] 54)) 54 #[.int .i64 n', .int .i64 lv', .int .i64 rk', .int .i64 gp', .int .i64 kd', .int .i64 vl', .int .i64 cp', .int .i64 lo', .int .i64 hi', .slice a' S'.length C', .int .i64 cn'])
  have HR0 := hid (Blk.new ((w.alloc (.cells #[.int .i64 n, .int .i64 lv, .int .i64 rk, .int .i64 gp, .int .i64 kd, .int .i64 vl, .int .i64 cp, .int .i64 lo, .int .i64 hi, .slice a S.length C, .int .i64 cn] 54)).alloc (.cells #[.int .i64 n', .int .i64 lv', .int .i64 rk', .int .i64 gp', .int .i64 kd', .int .i64 vl', .int .i64 cp', .int .i64 lo', .int .i64 hi', .slice a' S'.length C', .int .i64 cn'] 54)) 42 #[.int .i64 0, .slice none 0 0, .slice none 0 0])
  obtain ⟨w0, hw0⟩ : ∃ W9 : World, W9 = ((w.alloc (.cells #[.int .i64 n, .int .i64 lv, .int .i64 rk, .int .i64 gp, .int .i64 kd, .int .i64 vl, .int .i64 cp, .int .i64 lo, .int .i64 hi, .slice a S.length C, .int .i64 cn] 54)).alloc (.cells #[.int .i64 n', .int .i64 lv', .int .i64 rk', .int .i64 gp', .int .i64 kd', .int .i64 vl', .int .i64 cp', .int .i64 lo', .int .i64 hi', .slice a' S'.length C', .int .i64 cn'] 54)).alloc (.cells #[.int .i64 0, .slice none 0 0, .slice none 0 0] 42) := ⟨_, rfl⟩
  have HA := hid (show Blk w0 w.heap.size 54 #[.int .i64 n, .int .i64 lv, .int .i64 rk, .int .i64 gp, .int .i64 kd, .int .i64 vl, .int .i64 cp, .int .i64 lo, .int .i64 hi, .slice a S.length C, .int .i64 cn] by rw [hw0]; exact (HA0.out.alloc _).alloc _)
  have HB := hid (show Blk w0 (w.heap.size + 1) 54 #[.int .i64 n', .int .i64 lv', .int .i64 rk', .int .i64 gp', .int .i64 kd', .int .i64 vl', .int .i64 cp', .int .i64 lo', .int .i64 hi', .slice a' S'.length C', .int .i64 cn'] by rw [hw0]; have := HB0.out.alloc (.cells #[.int .i64 0, .slice none 0 0, .slice none 0 0] 42); simpa only [World.size_alloc] using this)
  have HR := hid (show Blk w0 (w.heap.size + 1 + 1) 42 #[.int .i64 0, .slice none 0 0, .slice none 0 0] by rw [hw0]; have := HR0.out; simpa only [World.size_alloc] using this)
  have hz0 : w0.heap.size = w.heap.size + 1 + 1 + 1 := by rw [hw0]; simp
  have D0 := hid (show Below w.heap.size w w0 by rw [hw0]; repeat (first | exact Below.refl _ _ | (refine Below.alloc ?_ (by (try simp) <;> omega) _) | (refine Below.setCell ?_ (by (try simp) <;> omega) _) | (refine Below.drew ?_) | (refine below_drewN ?_ _) | (refine Below.trans ?_ (Below.mono (by assumption) (by (try simp) <;> omega)))))
  have HW := hid hw0
  have HZ0 := hid hz0
  have hzz : w.heap.size + 1 + 1 < w0.heap.size := by omega
  have HS1 := hid ((h1.below D0.out (Nat.le_refl _)).more (show w.heap.size ≤ w0.heap.size by omega))
  have HS2 := hid ((h2.below D0.out (Nat.le_refl _)).more (show w.heap.size ≤ w0.heap.size by omega))
  clear HA0 HB0 HR0 hw0 hz0 h1 h2
  have p0 : w0.cell? ⟨w.heap.size, 0, none⟩ = some (.int .i64 n) := HA.out.cell 0
  have p1 : w0.cell? ⟨w.heap.size, 1, none⟩ = some (.int .i64 lv) := HA.out.cell 1
  have p2 : w0.cell? ⟨w.heap.size, 2, none⟩ = some (.int .i64 rk) := HA.out.cell 2
  have p3 : w0.cell? ⟨w.heap.size, 3, none⟩ = some (.int .i64 gp) := HA.out.cell 3
  have p4 : w0.cell? ⟨w.heap.size, 4, none⟩ = some (.int .i64 kd) := HA.out.cell 4
  have p5 : w0.cell? ⟨w.heap.size, 5, none⟩ = some (.int .i64 vl) := HA.out.cell 5
  have p6 : w0.cell? ⟨w.heap.size, 6, none⟩ = some (.int .i64 cp) := HA.out.cell 6
  have p7 : w0.cell? ⟨w.heap.size, 7, none⟩ = some (.int .i64 lo) := HA.out.cell 7
  have p8 : w0.cell? ⟨w.heap.size, 8, none⟩ = some (.int .i64 hi) := HA.out.cell 8
  have p9 : w0.cell? ⟨w.heap.size, 9, none⟩ = some (.slice a S.length C) := HA.out.cell 9
  have p10 : w0.cell? ⟨w.heap.size, 10, none⟩ = some (.int .i64 cn) := HA.out.cell 10
  have q0 : w0.cell? ⟨w.heap.size + 1, 0, none⟩ = some (.int .i64 n') := HB.out.cell 0
  have q1 : w0.cell? ⟨w.heap.size + 1, 1, none⟩ = some (.int .i64 lv') := HB.out.cell 1
  have q2 : w0.cell? ⟨w.heap.size + 1, 2, none⟩ = some (.int .i64 rk') := HB.out.cell 2
  have q3 : w0.cell? ⟨w.heap.size + 1, 3, none⟩ = some (.int .i64 gp') := HB.out.cell 3
  have q4 : w0.cell? ⟨w.heap.size + 1, 4, none⟩ = some (.int .i64 kd') := HB.out.cell 4
  have q5 : w0.cell? ⟨w.heap.size + 1, 5, none⟩ = some (.int .i64 vl') := HB.out.cell 5
  have q6 : w0.cell? ⟨w.heap.size + 1, 6, none⟩ = some (.int .i64 cp') := HB.out.cell 6
  have q7 : w0.cell? ⟨w.heap.size + 1, 7, none⟩ = some (.int .i64 lo') := HB.out.cell 7
  have q8 : w0.cell? ⟨w.heap.size + 1, 8, none⟩ = some (.int .i64 hi') := HB.out.cell 8
  have q9 : w0.cell? ⟨w.heap.size + 1, 9, none⟩ = some (.slice a' S'.length C') := HB.out.cell 9
  have q10 : w0.cell? ⟨w.heap.size + 1, 10, none⟩ = some (.int .i64 cn') := HB.out.cell 10
  have r0 : w0.cell? ⟨w.heap.size + 1 + 1, 0, none⟩ = some (.int .i64 0) := HR.out.cell 0
  have rf0 : w0.frozen? ⟨w.heap.size + 1 + 1, 0, none⟩ = false := HR.out.frozen 0
  have r1 : w0.cell? ⟨w.heap.size + 1 + 1, 1, none⟩ = some (.slice none 0 0) := HR.out.cell 1
  have rf1 : w0.frozen? ⟨w.heap.size + 1 + 1, 1, none⟩ = false := HR.out.frozen 1
  have r2 : w0.cell? ⟨w.heap.size + 1 + 1, 2, none⟩ = some (.slice none 0 0) := HR.out.cell 2
  have rf2 : w0.frozen? ⟨w.heap.size + 1 + 1, 2, none⟩ = false := HR.out.frozen 2
  by_cases hlv : lv = lv'
  · have e2 : (lv == lv') = true := by rw [hlv]; simp
    have e2' : (lv != lv') = false := by rw [hlv]; simp
    have HLV := hid hlv
    clear hlv
    by_cases hrk : rk = rk'
    · have e3 : (rk == rk') = true := by rw [hrk]; simp
      have e3' : (rk != rk') = false := by rw [hrk]; simp
      have HRK := hid hrk
      clear hrk
      by_cases htg : tgB gp gp' = true
      · have HTG := hid htg
        have HE := hid (show (cfB lv rk gp lo hi S lv' rk' gp' lo' hi' S') = mtG lo hi S lo' hi' S' by unfold cfB; rw [HLV.out, HRK.out, HTG.out]; simp)
        clear htg
        go_enter Tryz.func55, Tryz.ntmps55
        go_wp2_with fail
        rw [← HW.out]
        refine (together_any n lv rk gp kd vl cp lo hi cn a C S n' lv' rk' gp' kd' vl' cp' lo' hi' cn' a' C' S' _).mono ?_
        rintro e w1 ⟨rfl, b1⟩
        rw [HTG.out]
        have KA1 := HA.out.below b1 (by omega)
        have KB1 := HB.out.below b1 (by omega)
        have KR1 := HR.out.below b1 (by omega)
        have z1 : w.heap.size + 1 + 1 < w1.heap.size := by have := b1.size; omega
        have T1 := hid ((HS1.out.below b1 (Nat.le_refl _)).more b1.size)
        have T2 := hid ((HS2.out.below b1 (Nat.le_refl _)).more b1.size)
        have D1 := hid (D0.out.trans (b1.mono (by omega)))
        clear b1 p0 q0 p1 q1 p2 q2 p3 q3 p4 q4 p5 q5 p6 q6 p7 q7 p8 q8 p9 q9 p10 q10 r0 r1 r2 rf0 rf1 rf2
        have p7 : w1.cell? ⟨w.heap.size, 7, none⟩ = some (.int .i64 lo) := KA1.cell 7
        have p8 : w1.cell? ⟨w.heap.size, 8, none⟩ = some (.int .i64 hi) := KA1.cell 8
        have p9 : w1.cell? ⟨w.heap.size, 9, none⟩ = some (.slice a S.length C) := KA1.cell 9
        have p10 : w1.cell? ⟨w.heap.size, 10, none⟩ = some (.int .i64 cn) := KA1.cell 10
        have q7 : w1.cell? ⟨w.heap.size + 1, 7, none⟩ = some (.int .i64 lo') := KB1.cell 7
        have q8 : w1.cell? ⟨w.heap.size + 1, 8, none⟩ = some (.int .i64 hi') := KB1.cell 8
        have q9 : w1.cell? ⟨w.heap.size + 1, 9, none⟩ = some (.slice a' S'.length C') := KB1.cell 9
        have q10 : w1.cell? ⟨w.heap.size + 1, 10, none⟩ = some (.int .i64 cn') := KB1.cell 10
        have r0 : w1.cell? ⟨w.heap.size + 1 + 1, 0, none⟩ = some (.int .i64 0) := KR1.cell 0
        have rf0 : w1.frozen? ⟨w.heap.size + 1 + 1, 0, none⟩ = false := KR1.frozen 0
        have r1 : w1.cell? ⟨w.heap.size + 1 + 1, 1, none⟩ = some (.slice none 0 0) := KR1.cell 1
        have rf1 : w1.frozen? ⟨w.heap.size + 1 + 1, 1, none⟩ = false := KR1.frozen 1
        have r2 : w1.cell? ⟨w.heap.size + 1 + 1, 2, none⟩ = some (.slice none 0 0) := KR1.cell 2
        have rf2 : w1.frozen? ⟨w.heap.size + 1 + 1, 2, none⟩ = false := KR1.frozen 2
        go_wp2_with fail
        refine (both_any lo hi cn a C S lo' hi' cn' a' C' S' _ T1.out T2.out HG1.out HG2.out).mono ?_
        rintro e w3 ⟨t, a1, a2, n1, c1, n2, c2, rfl, b3⟩
        have KR3 := KR1.below b3 (by omega)
        have z3 : w.heap.size + 1 + 1 < w3.heap.size := by have := b3.size; omega
        have D3 := hid (D1.out.trans (b3.mono (by omega)))
        clear b3 KR1 r0 r1 r2 rf0 rf1 rf2 KA1 KB1
        have r0 : w3.cell? ⟨w.heap.size + 1 + 1, 0, none⟩ = some (.int .i64 0) := KR3.cell 0
        have rf0 : w3.frozen? ⟨w.heap.size + 1 + 1, 0, none⟩ = false := KR3.frozen 0
        have r1 : w3.cell? ⟨w.heap.size + 1 + 1, 1, none⟩ = some (.slice none 0 0) := KR3.cell 1
        have rf1 : w3.frozen? ⟨w.heap.size + 1 + 1, 1, none⟩ = false := KR3.frozen 1
        have r2 : w3.cell? ⟨w.heap.size + 1 + 1, 2, none⟩ = some (.slice none 0 0) := KR3.cell 2
        have rf2 : w3.frozen? ⟨w.heap.size + 1 + 1, 2, none⟩ = false := KR3.frozen 2
        obtain ⟨bb, hbb⟩ : ∃ x, mtG lo hi S lo' hi' S' = x := ⟨_, rfl⟩
        have HE2 := hid (HE.out.trans hbb)
        rw [hbb]
        clear hbb HE KR3
        cases bb
        · go_wp2
          refine bodyPost_ret (v := .tuple #[.agg #[.int .i64 0, .slice none 0 0, .slice none 0 0], .bool false]) (by simp [results, Tryz.results55, go_sem, *]) rfl ⟨0, none, none, 0, 0, 0, 0, by rw [HE2.out], ?_⟩
          have := D3.out
          repeat (first | exact Below.refl _ _ | (refine Below.alloc ?_ (by (try simp) <;> omega) _) | (refine Below.setCell ?_ (by (try simp) <;> omega) _) | (refine Below.drew ?_) | (refine below_drewN ?_ _) | (refine Below.trans ?_ (Below.mono (by assumption) (by (try simp) <;> omega))))
        · go_wp2
          refine bodyPost_ret (v := .tuple #[.agg #[.int .i64 t, .slice a1 n1 c1, .slice a2 n2 c2], .bool true]) (by simp [results, Tryz.results55, go_sem, *]) rfl ⟨t, a1, a2, n1, c1, n2, c2, by rw [HE2.out], ?_⟩
          have := D3.out
          repeat (first | exact Below.refl _ _ | (refine Below.alloc ?_ (by (try simp) <;> omega) _) | (refine Below.setCell ?_ (by (try simp) <;> omega) _) | (refine Below.drew ?_) | (refine below_drewN ?_ _) | (refine Below.trans ?_ (Below.mono (by assumption) (by (try simp) <;> omega))))
      · have HTG := hid (show tgB gp gp' = false by simpa using htg)
        have HE := hid (show (cfB lv rk gp lo hi S lv' rk' gp' lo' hi' S') = false by unfold cfB; rw [HTG.out]; simp)
        clear htg
        go_enter Tryz.func55, Tryz.ntmps55
        go_wp2_with fail
        rw [← HW.out]
        refine (together_any n lv rk gp kd vl cp lo hi cn a C S n' lv' rk' gp' kd' vl' cp' lo' hi' cn' a' C' S' _).mono ?_
        rintro e w1 ⟨rfl, b1⟩
        rw [HTG.out]
        have KR1 := HR.out.below b1 (by omega)
        have z1 : w.heap.size + 1 + 1 < w1.heap.size := by have := b1.size; omega
        have D1 := hid (D0.out.trans (b1.mono (by omega)))
        clear b1 p0 q0 p1 q1 p2 q2 p3 q3 p4 q4 p5 q5 p6 q6 p7 q7 p8 q8 p9 q9 p10 q10 r0 r1 r2 rf0 rf1 rf2
        have r0 : w1.cell? ⟨w.heap.size + 1 + 1, 0, none⟩ = some (.int .i64 0) := KR1.cell 0
        have rf0 : w1.frozen? ⟨w.heap.size + 1 + 1, 0, none⟩ = false := KR1.frozen 0
        have r1 : w1.cell? ⟨w.heap.size + 1 + 1, 1, none⟩ = some (.slice none 0 0) := KR1.cell 1
        have rf1 : w1.frozen? ⟨w.heap.size + 1 + 1, 1, none⟩ = false := KR1.frozen 1
        have r2 : w1.cell? ⟨w.heap.size + 1 + 1, 2, none⟩ = some (.slice none 0 0) := KR1.cell 2
        have rf2 : w1.frozen? ⟨w.heap.size + 1 + 1, 2, none⟩ = false := KR1.frozen 2
        go_wp2
        refine bodyPost_ret (v := .tuple #[.agg #[.int .i64 0, .slice none 0 0, .slice none 0 0], .bool false]) (by simp [results, Tryz.results55, go_sem, *]) rfl ⟨0, none, none, 0, 0, 0, 0, by rw [HE.out], ?_⟩
        have := D1.out
        repeat (first | exact Below.refl _ _ | (refine Below.alloc ?_ (by (try simp) <;> omega) _) | (refine Below.setCell ?_ (by (try simp) <;> omega) _) | (refine Below.drew ?_) | (refine below_drewN ?_ _) | (refine Below.trans ?_ (Below.mono (by assumption) (by (try simp) <;> omega))))
    · have HE := hid (show (cfB lv rk gp lo hi S lv' rk' gp' lo' hi' S') = false by unfold cfB; rw [decide_eq_false hrk]; simp)
      have e3 : (rk == rk') = false := beq_eq_false_iff_ne.2 hrk
      have e3' : (rk != rk') = true := by simpa using hrk
      clear hrk
      go_enter Tryz.func55, Tryz.ntmps55
      go_wp2_with fail
      rw [← HW.out]
      refine bodyPost_ret (v := .tuple #[.agg #[.int .i64 0, .slice none 0 0, .slice none 0 0], .bool false]) (by simp [results, Tryz.results55, go_sem, *]) rfl ⟨0, none, none, 0, 0, 0, 0, by rw [HE.out], ?_⟩
      have := D0.out
      repeat (first | exact Below.refl _ _ | (refine Below.alloc ?_ (by (try simp) <;> omega) _) | (refine Below.setCell ?_ (by (try simp) <;> omega) _) | (refine Below.drew ?_) | (refine below_drewN ?_ _) | (refine Below.trans ?_ (Below.mono (by assumption) (by (try simp) <;> omega))))
  · have HE := hid (show (cfB lv rk gp lo hi S lv' rk' gp' lo' hi' S') = false by unfold cfB; rw [decide_eq_false hlv]; simp)
    have e2 : (lv == lv') = false := beq_eq_false_iff_ne.2 hlv
    have e2' : (lv != lv') = true := by simpa using hlv
    clear hlv
    go_enter Tryz.func55, Tryz.ntmps55
    go_wp2_with fail
    rw [← HW.out]
    refine bodyPost_ret (v := .tuple #[.agg #[.int .i64 0, .slice none 0 0, .slice none 0 0], .bool false]) (by simp [results, Tryz.results55, go_sem, *]) rfl ⟨0, none, none, 0, 0, 0, 0, by rw [HE.out], ?_⟩
    have := D0.out
    repeat (first | exact Below.refl _ _ | (refine Below.alloc ?_ (by (try simp) <;> omega) _) | (refine Below.setCell ?_ (by (try simp) <;> omega) _) | (refine Below.drew ?_) | (refine below_drewN ?_ _) | (refine Below.trans ?_ (Below.mono (by assumption) (by (try simp) <;> omega))))

end Go.Proofs.YtkgofklpogdpmaaGreat
