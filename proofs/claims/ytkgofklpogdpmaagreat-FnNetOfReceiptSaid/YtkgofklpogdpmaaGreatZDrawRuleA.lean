/- Contract of the generator of rules that may be invalid. -/
import Derived.Test.YtkgofklpogdpmaaGreatZH
import Derived.Test.YtkgofklpogdpmaaGreatZDrawGuardA
namespace Go.Proofs.YtkgofklpogdpmaaGreat
open Go.RowKit

theorem RulePost.parts {w w' : World} {B R M : Nat} {e : Ending} (h : RulePost w B R M e w') : ∃ (n lv rk gp kd vl cp lo hi cn : Int) (a : Option Addr) (C : Nat) (S : List (Int × Int)),
    e = .returned (.agg #[.int .i64 n, .int .i64 lv, .int .i64 rk, .int .i64 gp, .int .i64 kd, .int .i64 vl, .int .i64 cp, .int .i64 lo, .int .i64 hi, .slice a S.length C, .int .i64 cn])
      ∧ Own enc2 2 49 w' w.heap.size (.slice a S.length C) S ∧ (1 ≤ S.length ∧ S.length ≤ 4) ∧ Rdr w' B R M ∧ w.grownBy w' (some R) := by
  obtain ⟨⟨⟨n, lv, rk, gp, kd, vl, cp⟩, ⟨lo, hi⟩, ⟨a, C, S⟩, cn⟩, h1, h2, h3, h4, h5⟩ := h
  exact ⟨n, lv, rk, gp, kd, vl, cp, lo, hi, cn, a, C, S, h1, h2, h3, h4, h5⟩

set_option maxHeartbeats 8000000 in
set_option maxRecDepth 100000 in
theorem anyRule_any (w : World) (B R N : Nat) (h : Rdr w B R N) (hN : N ≤ 400000) :
    Calls Tryz.prog 71 #[.pointer (some ⟨R, 0, none⟩)] w (RulePost w B R (N + 25)) := by
  have hR := h.lt
  have hRB := hR.1
  have hRw := hR.2
  clear hR
  have hi0 := h.alloc (.cells #[.int .i64 0, .int .i64 0, .int .i64 0, .int .i64 0, .int .i64 0, .int .i64 0, .int .i64 0, .int .i64 0, .int .i64 0, .slice none 0 0, .int .i64 0] 54)
  have G0 := hid (only_alloc (only_refl (w := w) (row := some R)) (.cells #[.int .i64 0, .int .i64 0, .int .i64 0, .int .i64 0, .int .i64 0, .int .i64 0, .int .i64 0, .int .i64 0, .int .i64 0, .slice none 0 0, .int .i64 0] 54))
  have Kr0 := hid (Blk.new w 54 #[.int .i64 0, .int .i64 0, .int .i64 0, .int .i64 0, .int .i64 0, .int .i64 0, .int .i64 0, .int .i64 0, .int .i64 0, .slice none 0 0, .int .i64 0])
  have h0 := hi0
  clear h hi0
  go_enter Tryz.func71, Tryz.ntmps71
  go_wp2_with fail
  refine (pick_any _ _ _ _ _ h0 (by omega)).mono ?_
  rintro e w1 ⟨m1, rfl, a1, b1, c1, h1, g1⟩
  have u1 := b1 (by omega)
  clear b1
  have G1 := hid (only_trans G0.out g1)
  have z1 := G1.out.size
  have Kr1 := hid (Kr0.out.grown g1 (by simp; omega))
  clear g1
  have hw1 : IntKind.i64.wrap (1 + m1) = 1 + m1 := IntWalk.i64_in _ (by omega)
  have z1b : w.heap.size + 1 ≤ w1.heap.size := by have := Kr1.out.lt; omega
  go_wp2_with fail
  refine (someRule_any _ _ _ _ _ h1 (by omega)).mono ?_
  intro e w2 hp
  obtain ⟨n, lv, rk, gp, kd, vl, cp, lo, hi, cn, a, C, S, rfl, o2, ⟨sl1, sl2⟩, h2, g2⟩ := hp.parts
  have G2 := hid (only_trans G1.out g2)
  have z2 := G2.out.size
  have Kr2 := hid (Kr1.out.grown g2 (by simp; omega))
  clear g2
  clear hp
  have Os2 := hid o2
  have HLO := hid (show ∀ k, (Value.slice a S.length C).ownBlock = some k → w1.heap.size ≤ k ∧ k < w2.heap.size from fun k hk => o2.lt k hk)
  clear o2 a1 u1 c1 h1
  have z2b : w.heap.size + 1 ≤ w2.heap.size := by have := Kr2.out.lt; omega
  obtain ⟨w3, hw3⟩ : ∃ x, x = w2.alloc (.cells #[.int .i64 (n), .int .i64 (lv), .int .i64 (rk), .int .i64 (gp), .int .i64 (kd), .int .i64 (vl), .int .i64 (cp), .int .i64 (lo), .int .i64 (hi), .slice a S.length C, .int .i64 (cn)] 54) := ⟨_, rfl⟩
  have HW3 := hid hw3
  have Kx3 := hid (Blk.new w2 54 #[.int .i64 (n), .int .i64 (lv), .int .i64 (rk), .int .i64 (gp), .int .i64 (kd), .int .i64 (vl), .int .i64 (cp), .int .i64 (lo), .int .i64 (hi), .slice a S.length C, .int .i64 (cn)])
  rw [← hw3] at Kx3
  have Kr3 := hid (show Blk w3 w.heap.size 54 #[.int .i64 0, .int .i64 0, .int .i64 0, .int .i64 0, .int .i64 0, .int .i64 0, .int .i64 0, .int .i64 0, .int .i64 0, .slice none 0 0, .int .i64 0] by rw [hw3]; exact Kr2.out.alloc _)
  have G3 := hid (show w.grownBy w3 (some R) by rw [hw3]; exact only_alloc G2.out _)
  have h3 := (show Rdr w3 B R _ by rw [hw3]; exact h2.alloc _)
  have Os3 := hid (show Own enc2 2 49 w3 w1.heap.size (.slice a S.length C) S by rw [hw3]; exact Os2.out.alloc _)
  have hRs : R < w1.heap.size := by omega
  have z23 : w3.heap.size = w2.heap.size + 1 := by rw [hw3]; simp
  clear hw3 G2 Kr2 h2 Os2
  go_wp2_with fail
  rw [← HW3.out]
  refine (pick_any _ _ _ _ _ h3 (by omega)).mono ?_
  rintro e w4 ⟨m4, rfl, a4, b4, c4, h4, g4⟩
  have G4 := hid (only_trans G3.out g4)
  have z4 := G4.out.size
  have Kx4 := hid (Kx3.out.grown g4 (by simp; omega))
  have Kr4 := hid (Kr3.out.grown g4 (by simp; omega))
  have Os4 := hid (Os3.out.grown g4 (Os3.out.off hRs))
  clear g4
  clear a4 b4 c4 h3
  have z24 := Kx4.out.lt
  by_cases p0 : m4 = 0
  · have y0 : (m4 == 0) = true := by rw [p0]; rfl
    clear p0
    go_wp2_with fail
    refine (one_any [0, 99, 100] _ _ _ _ _ _ _ h4 (by omega) (by first | rfl | omega | (simp; done) | (simp; omega)) rfl (by simp) rfl (by simp)).mono ?_
    rintro e w5 ⟨m5, rfl, hm5, h5, g5⟩
    have G5 := hid (only_trans G4.out g5)
    have z5 := G5.out.size
    have Kx5 := hid (Kx4.out.grown g5 (by simp; omega))
    have Kr5 := hid (Kr4.out.grown g5 (by simp; omega))
    have Os5 := hid (Os4.out.grown g5 (Os4.out.off hRs))
    clear g5
    clear hm5
    have e5 : w5.cell? ⟨w2.heap.size, 0, none⟩ = _ := Kx5.out.cell 0
    have ef : ∀ o, w5.frozen? ⟨w2.heap.size, o, none⟩ = false := Kx5.out.frozen
    have ez : w2.heap.size < w5.heap.size := Kx5.out.lt
    have KXn := hid (show Blk _ (w2.heap.size) 54 #[.int .i64 (m5), .int .i64 (lv), .int .i64 (rk), .int .i64 (gp), .int .i64 (kd), .int .i64 (vl), .int .i64 (cp), .int .i64 (lo), .int .i64 (hi), .slice a S.length C, .int .i64 (cn)] from (Kx5.out.set_ 0 (.int .i64 m5)))
    have KRn := hid (Kr5.out.far (p := ⟨w2.heap.size, 0, none⟩) (by show _ ≠ w2.heap.size; omega) (.int .i64 m5))
    have Hn := hid (h5.setCell (p := ⟨w2.heap.size, 0, none⟩) (by show B ≤ w2.heap.size; omega) (by show w2.heap.size ≠ R; omega) (.int .i64 m5))
    have Gn := hid (only_setCell G5.out (p := ⟨w2.heap.size, 0, none⟩) (.inr (by show w.heap.size ≤ w2.heap.size; omega)) (.int .i64 m5))
    have On := hid (Os5.out.far (p := ⟨w2.heap.size, 0, none⟩) (by intro he; have h1 := (HLO.out _ he).2; revert h1; show w2.heap.size < w2.heap.size → False; omega) (.int .i64 m5))
    go_wp2_with (first | (refine wpList_load_row rfl 54 (.tmp 3) rfl (w2.heap.size) (by first | rfl | simp) 54 #[.int .i64 (m5), .int .i64 (lv), .int .i64 (rk), .int .i64 (gp), .int .i64 (kd), .int .i64 (vl), .int .i64 (cp), .int .i64 (lo), .int .i64 (hi), .slice a S.length C, .int .i64 (cn)] (0, 0) _ KXn.out Tryz.underlying54 rfl sizeRule ?_) | (refine wpList_store_row rfl 54 (.tmp 2) (.tmp 52) rfl (w.heap.size) #[.int .i64 (m5), .int .i64 (lv), .int .i64 (rk), .int .i64 (gp), .int .i64 (kd), .int .i64 (vl), .int .i64 (cp), .int .i64 (lo), .int .i64 (hi), .slice a S.length C, .int .i64 (cn)] (by first | rfl | simp) (by first | rfl | simp) 54 _ KRn.out sizeRule rfl (by simp [Value.oneCell']) ?_))
    exact bodyPost_ret (v := .agg #[.int .i64 (m5), .int .i64 (lv), .int .i64 (rk), .int .i64 (gp), .int .i64 (kd), .int .i64 (vl), .int .i64 (cp), .int .i64 (lo), .int .i64 (hi), .slice a S.length C, .int .i64 (cn)]) (results_cell_row rfl _ _ (w.heap.size) 54 #[.int .i64 (m5), .int .i64 (lv), .int .i64 (rk), .int .i64 (gp), .int .i64 (kd), .int .i64 (vl), .int .i64 (cp), .int .i64 (lo), .int .i64 (hi), .slice a S.length C, .int .i64 (cn)] (0, 0) _ (by first | rfl | simp) (KRn.out.setRow _) Tryz.underlying54 rfl sizeRule) rfl ⟨((_, _, _, _, _, _, _), (_, _), (_, _, S), _), rfl, (On.out.setRow (by intro he; have h1 := (HLO.out _ he).1; revert h1; show w1.heap.size ≤ w.heap.size → False; omega) _).less (by omega), ⟨sl1, (show S.length ≤ 4 by omega)⟩, (Hn.out.setRow (by omega) (by omega) _).more (by omega), grown_setRow Gn.out (.inr (by omega)) _⟩
  have y0 : (m4 == 0) = false := beq_eq_false_iff_ne.2 p0
  clear p0
  by_cases p1 : m4 = 1
  · have y1 : (m4 == 1) = true := by rw [p1]; rfl
    clear p1
    go_wp2_with fail
    refine (one_any [-1, 3, 4] _ _ _ _ _ _ _ h4 (by omega) (by first | rfl | omega | (simp; done) | (simp; omega)) rfl (by simp) rfl (by simp)).mono ?_
    rintro e w5 ⟨m5, rfl, hm5, h5, g5⟩
    have G5 := hid (only_trans G4.out g5)
    have z5 := G5.out.size
    have Kx5 := hid (Kx4.out.grown g5 (by simp; omega))
    have Kr5 := hid (Kr4.out.grown g5 (by simp; omega))
    have Os5 := hid (Os4.out.grown g5 (Os4.out.off hRs))
    clear g5
    clear hm5
    have e5 : w5.cell? ⟨w2.heap.size, 1, none⟩ = _ := Kx5.out.cell 1
    have ef : ∀ o, w5.frozen? ⟨w2.heap.size, o, none⟩ = false := Kx5.out.frozen
    have ez : w2.heap.size < w5.heap.size := Kx5.out.lt
    have KXn := hid (show Blk _ (w2.heap.size) 54 #[.int .i64 (n), .int .i64 (m5), .int .i64 (rk), .int .i64 (gp), .int .i64 (kd), .int .i64 (vl), .int .i64 (cp), .int .i64 (lo), .int .i64 (hi), .slice a S.length C, .int .i64 (cn)] from (Kx5.out.set_ 1 (.int .i64 m5)))
    have KRn := hid (Kr5.out.far (p := ⟨w2.heap.size, 1, none⟩) (by show _ ≠ w2.heap.size; omega) (.int .i64 m5))
    have Hn := hid (h5.setCell (p := ⟨w2.heap.size, 1, none⟩) (by show B ≤ w2.heap.size; omega) (by show w2.heap.size ≠ R; omega) (.int .i64 m5))
    have Gn := hid (only_setCell G5.out (p := ⟨w2.heap.size, 1, none⟩) (.inr (by show w.heap.size ≤ w2.heap.size; omega)) (.int .i64 m5))
    have On := hid (Os5.out.far (p := ⟨w2.heap.size, 1, none⟩) (by intro he; have h1 := (HLO.out _ he).2; revert h1; show w2.heap.size < w2.heap.size → False; omega) (.int .i64 m5))
    go_wp2_with (first | (refine wpList_load_row rfl 54 (.tmp 3) rfl (w2.heap.size) (by first | rfl | simp) 54 #[.int .i64 (n), .int .i64 (m5), .int .i64 (rk), .int .i64 (gp), .int .i64 (kd), .int .i64 (vl), .int .i64 (cp), .int .i64 (lo), .int .i64 (hi), .slice a S.length C, .int .i64 (cn)] (0, 0) _ KXn.out Tryz.underlying54 rfl sizeRule ?_) | (refine wpList_store_row rfl 54 (.tmp 2) (.tmp 52) rfl (w.heap.size) #[.int .i64 (n), .int .i64 (m5), .int .i64 (rk), .int .i64 (gp), .int .i64 (kd), .int .i64 (vl), .int .i64 (cp), .int .i64 (lo), .int .i64 (hi), .slice a S.length C, .int .i64 (cn)] (by first | rfl | simp) (by first | rfl | simp) 54 _ KRn.out sizeRule rfl (by simp [Value.oneCell']) ?_))
    exact bodyPost_ret (v := .agg #[.int .i64 (n), .int .i64 (m5), .int .i64 (rk), .int .i64 (gp), .int .i64 (kd), .int .i64 (vl), .int .i64 (cp), .int .i64 (lo), .int .i64 (hi), .slice a S.length C, .int .i64 (cn)]) (results_cell_row rfl _ _ (w.heap.size) 54 #[.int .i64 (n), .int .i64 (m5), .int .i64 (rk), .int .i64 (gp), .int .i64 (kd), .int .i64 (vl), .int .i64 (cp), .int .i64 (lo), .int .i64 (hi), .slice a S.length C, .int .i64 (cn)] (0, 0) _ (by first | rfl | simp) (KRn.out.setRow _) Tryz.underlying54 rfl sizeRule) rfl ⟨((_, _, _, _, _, _, _), (_, _), (_, _, S), _), rfl, (On.out.setRow (by intro he; have h1 := (HLO.out _ he).1; revert h1; show w1.heap.size ≤ w.heap.size → False; omega) _).less (by omega), ⟨sl1, (show S.length ≤ 4 by omega)⟩, (Hn.out.setRow (by omega) (by omega) _).more (by omega), grown_setRow Gn.out (.inr (by omega)) _⟩
  have y1 : (m4 == 1) = false := beq_eq_false_iff_ne.2 p1
  clear p1
  by_cases p2 : m4 = 2
  · have y2 : (m4 == 2) = true := by rw [p2]; rfl
    clear p2
    go_wp2_with fail
    refine (one_any [0, 4, 1] _ _ _ _ _ _ _ h4 (by omega) (by first | rfl | omega | (simp; done) | (simp; omega)) rfl (by simp) rfl (by simp)).mono ?_
    rintro e w5 ⟨m5, rfl, hm5, h5, g5⟩
    have G5 := hid (only_trans G4.out g5)
    have z5 := G5.out.size
    have Kx5 := hid (Kx4.out.grown g5 (by simp; omega))
    have Kr5 := hid (Kr4.out.grown g5 (by simp; omega))
    have Os5 := hid (Os4.out.grown g5 (Os4.out.off hRs))
    clear g5
    clear hm5
    have e5 : w5.cell? ⟨w2.heap.size, 4, none⟩ = _ := Kx5.out.cell 4
    have ef : ∀ o, w5.frozen? ⟨w2.heap.size, o, none⟩ = false := Kx5.out.frozen
    have ez : w2.heap.size < w5.heap.size := Kx5.out.lt
    have KXn := hid (show Blk _ (w2.heap.size) 54 #[.int .i64 (n), .int .i64 (lv), .int .i64 (rk), .int .i64 (gp), .int .i64 (m5), .int .i64 (vl), .int .i64 (cp), .int .i64 (lo), .int .i64 (hi), .slice a S.length C, .int .i64 (cn)] from (Kx5.out.set_ 4 (.int .i64 m5)))
    have KRn := hid (Kr5.out.far (p := ⟨w2.heap.size, 4, none⟩) (by show _ ≠ w2.heap.size; omega) (.int .i64 m5))
    have Hn := hid (h5.setCell (p := ⟨w2.heap.size, 4, none⟩) (by show B ≤ w2.heap.size; omega) (by show w2.heap.size ≠ R; omega) (.int .i64 m5))
    have Gn := hid (only_setCell G5.out (p := ⟨w2.heap.size, 4, none⟩) (.inr (by show w.heap.size ≤ w2.heap.size; omega)) (.int .i64 m5))
    have On := hid (Os5.out.far (p := ⟨w2.heap.size, 4, none⟩) (by intro he; have h1 := (HLO.out _ he).2; revert h1; show w2.heap.size < w2.heap.size → False; omega) (.int .i64 m5))
    go_wp2_with (first | (refine wpList_load_row rfl 54 (.tmp 3) rfl (w2.heap.size) (by first | rfl | simp) 54 #[.int .i64 (n), .int .i64 (lv), .int .i64 (rk), .int .i64 (gp), .int .i64 (m5), .int .i64 (vl), .int .i64 (cp), .int .i64 (lo), .int .i64 (hi), .slice a S.length C, .int .i64 (cn)] (0, 0) _ KXn.out Tryz.underlying54 rfl sizeRule ?_) | (refine wpList_store_row rfl 54 (.tmp 2) (.tmp 52) rfl (w.heap.size) #[.int .i64 (n), .int .i64 (lv), .int .i64 (rk), .int .i64 (gp), .int .i64 (m5), .int .i64 (vl), .int .i64 (cp), .int .i64 (lo), .int .i64 (hi), .slice a S.length C, .int .i64 (cn)] (by first | rfl | simp) (by first | rfl | simp) 54 _ KRn.out sizeRule rfl (by simp [Value.oneCell']) ?_))
    exact bodyPost_ret (v := .agg #[.int .i64 (n), .int .i64 (lv), .int .i64 (rk), .int .i64 (gp), .int .i64 (m5), .int .i64 (vl), .int .i64 (cp), .int .i64 (lo), .int .i64 (hi), .slice a S.length C, .int .i64 (cn)]) (results_cell_row rfl _ _ (w.heap.size) 54 #[.int .i64 (n), .int .i64 (lv), .int .i64 (rk), .int .i64 (gp), .int .i64 (m5), .int .i64 (vl), .int .i64 (cp), .int .i64 (lo), .int .i64 (hi), .slice a S.length C, .int .i64 (cn)] (0, 0) _ (by first | rfl | simp) (KRn.out.setRow _) Tryz.underlying54 rfl sizeRule) rfl ⟨((_, _, _, _, _, _, _), (_, _), (_, _, S), _), rfl, (On.out.setRow (by intro he; have h1 := (HLO.out _ he).1; revert h1; show w1.heap.size ≤ w.heap.size → False; omega) _).less (by omega), ⟨sl1, (show S.length ≤ 4 by omega)⟩, (Hn.out.setRow (by omega) (by omega) _).more (by omega), grown_setRow Gn.out (.inr (by omega)) _⟩
  have y2 : (m4 == 2) = false := beq_eq_false_iff_ne.2 p2
  clear p2
  by_cases p3 : m4 = 3
  · have y3 : (m4 == 3) = true := by rw [p3]; rfl
    clear p3
    go_wp2_with fail
    refine (one_any [0, 1001, 1] _ _ _ _ _ _ _ h4 (by omega) (by first | rfl | omega | (simp; done) | (simp; omega)) rfl (by simp) rfl (by simp)).mono ?_
    rintro e w5 ⟨m5, rfl, hm5, h5, g5⟩
    have G5 := hid (only_trans G4.out g5)
    have z5 := G5.out.size
    have Kx5 := hid (Kx4.out.grown g5 (by simp; omega))
    have Kr5 := hid (Kr4.out.grown g5 (by simp; omega))
    have Os5 := hid (Os4.out.grown g5 (Os4.out.off hRs))
    clear g5
    clear hm5
    have e5 : w5.cell? ⟨w2.heap.size, 5, none⟩ = _ := Kx5.out.cell 5
    have ef : ∀ o, w5.frozen? ⟨w2.heap.size, o, none⟩ = false := Kx5.out.frozen
    have ez : w2.heap.size < w5.heap.size := Kx5.out.lt
    have KXn := hid (show Blk _ (w2.heap.size) 54 #[.int .i64 (n), .int .i64 (lv), .int .i64 (rk), .int .i64 (gp), .int .i64 (kd), .int .i64 (m5), .int .i64 (cp), .int .i64 (lo), .int .i64 (hi), .slice a S.length C, .int .i64 (cn)] from (Kx5.out.set_ 5 (.int .i64 m5)))
    have KRn := hid (Kr5.out.far (p := ⟨w2.heap.size, 5, none⟩) (by show _ ≠ w2.heap.size; omega) (.int .i64 m5))
    have Hn := hid (h5.setCell (p := ⟨w2.heap.size, 5, none⟩) (by show B ≤ w2.heap.size; omega) (by show w2.heap.size ≠ R; omega) (.int .i64 m5))
    have Gn := hid (only_setCell G5.out (p := ⟨w2.heap.size, 5, none⟩) (.inr (by show w.heap.size ≤ w2.heap.size; omega)) (.int .i64 m5))
    have On := hid (Os5.out.far (p := ⟨w2.heap.size, 5, none⟩) (by intro he; have h1 := (HLO.out _ he).2; revert h1; show w2.heap.size < w2.heap.size → False; omega) (.int .i64 m5))
    go_wp2_with (first | (refine wpList_load_row rfl 54 (.tmp 3) rfl (w2.heap.size) (by first | rfl | simp) 54 #[.int .i64 (n), .int .i64 (lv), .int .i64 (rk), .int .i64 (gp), .int .i64 (kd), .int .i64 (m5), .int .i64 (cp), .int .i64 (lo), .int .i64 (hi), .slice a S.length C, .int .i64 (cn)] (0, 0) _ KXn.out Tryz.underlying54 rfl sizeRule ?_) | (refine wpList_store_row rfl 54 (.tmp 2) (.tmp 52) rfl (w.heap.size) #[.int .i64 (n), .int .i64 (lv), .int .i64 (rk), .int .i64 (gp), .int .i64 (kd), .int .i64 (m5), .int .i64 (cp), .int .i64 (lo), .int .i64 (hi), .slice a S.length C, .int .i64 (cn)] (by first | rfl | simp) (by first | rfl | simp) 54 _ KRn.out sizeRule rfl (by simp [Value.oneCell']) ?_))
    exact bodyPost_ret (v := .agg #[.int .i64 (n), .int .i64 (lv), .int .i64 (rk), .int .i64 (gp), .int .i64 (kd), .int .i64 (m5), .int .i64 (cp), .int .i64 (lo), .int .i64 (hi), .slice a S.length C, .int .i64 (cn)]) (results_cell_row rfl _ _ (w.heap.size) 54 #[.int .i64 (n), .int .i64 (lv), .int .i64 (rk), .int .i64 (gp), .int .i64 (kd), .int .i64 (m5), .int .i64 (cp), .int .i64 (lo), .int .i64 (hi), .slice a S.length C, .int .i64 (cn)] (0, 0) _ (by first | rfl | simp) (KRn.out.setRow _) Tryz.underlying54 rfl sizeRule) rfl ⟨((_, _, _, _, _, _, _), (_, _), (_, _, S), _), rfl, (On.out.setRow (by intro he; have h1 := (HLO.out _ he).1; revert h1; show w1.heap.size ≤ w.heap.size → False; omega) _).less (by omega), ⟨sl1, (show S.length ≤ 4 by omega)⟩, (Hn.out.setRow (by omega) (by omega) _).more (by omega), grown_setRow Gn.out (.inr (by omega)) _⟩
  have y3 : (m4 == 3) = false := beq_eq_false_iff_ne.2 p3
  clear p3
  by_cases p4 : m4 = 4
  · have y4 : (m4 == 4) = true := by rw [p4]; rfl
    clear p4
    go_wp2_with fail
    refine (anyGuard_any _ _ _ _ h4 (by omega)).mono ?_
    rintro e w5 ⟨lo', hi', cn', a', C', S', rfl, ⟨sm1, sm2⟩, o5, h5, g5⟩
    have G5 := hid (only_trans G4.out g5)
    have z5 := G5.out.size
    have Kx5 := hid (Kx4.out.grown g5 (by simp; omega))
    have Kr5 := hid (Kr4.out.grown g5 (by simp; omega))
    clear g5
    have Ot5 := hid o5
    have HLO2 := hid (show ∀ k, (Value.slice a' S'.length C').ownBlock = some k → w4.heap.size ≤ k ∧ k < w5.heap.size from fun k hk => o5.lt k hk)
    clear o5
    have e7 : w5.cell? ⟨w2.heap.size, 7, none⟩ = _ := Kx5.out.cell 7
    have e8 : w5.cell? ⟨w2.heap.size, 8, none⟩ = _ := Kx5.out.cell 8
    have e9 : w5.cell? ⟨w2.heap.size, 9, none⟩ = _ := Kx5.out.cell 9
    have e10 : w5.cell? ⟨w2.heap.size, 10, none⟩ = _ := Kx5.out.cell 10
    have ef : ∀ o, w5.frozen? ⟨w2.heap.size, o, none⟩ = false := Kx5.out.frozen
    have ez : w2.heap.size < w5.heap.size := Kx5.out.lt
    have KXn := hid (show Blk _ (w2.heap.size) 54 #[.int .i64 (n), .int .i64 (lv), .int .i64 (rk), .int .i64 (gp), .int .i64 (kd), .int .i64 (vl), .int .i64 (cp), .int .i64 (lo'), .int .i64 (hi'), .slice a' S'.length C', .int .i64 (cn')] from ((((Kx5.out.set_ 7 (.int .i64 lo')).set_ 8 (.int .i64 hi')).set_ 9 (.slice a' S'.length C')).set_ 10 (.int .i64 cn')))
    have KRn := hid ((((Kr5.out.far (p := ⟨w2.heap.size, 7, none⟩) (by show _ ≠ w2.heap.size; omega) (.int .i64 lo')).far (p := ⟨w2.heap.size, 8, none⟩) (by show _ ≠ w2.heap.size; omega) (.int .i64 hi')).far (p := ⟨w2.heap.size, 9, none⟩) (by show _ ≠ w2.heap.size; omega) (.slice a' S'.length C')).far (p := ⟨w2.heap.size, 10, none⟩) (by show _ ≠ w2.heap.size; omega) (.int .i64 cn'))
    have Hn := hid ((((h5.setCell (p := ⟨w2.heap.size, 7, none⟩) (by show B ≤ w2.heap.size; omega) (by show w2.heap.size ≠ R; omega) (.int .i64 lo')).setCell (p := ⟨w2.heap.size, 8, none⟩) (by show B ≤ w2.heap.size; omega) (by show w2.heap.size ≠ R; omega) (.int .i64 hi')).setCell (p := ⟨w2.heap.size, 9, none⟩) (by show B ≤ w2.heap.size; omega) (by show w2.heap.size ≠ R; omega) (.slice a' S'.length C')).setCell (p := ⟨w2.heap.size, 10, none⟩) (by show B ≤ w2.heap.size; omega) (by show w2.heap.size ≠ R; omega) (.int .i64 cn'))
    have Gn := hid (only_setCell (only_setCell (only_setCell (only_setCell G5.out (p := ⟨w2.heap.size, 7, none⟩) (.inr (by show w.heap.size ≤ w2.heap.size; omega)) (.int .i64 lo')) (p := ⟨w2.heap.size, 8, none⟩) (.inr (by show w.heap.size ≤ w2.heap.size; omega)) (.int .i64 hi')) (p := ⟨w2.heap.size, 9, none⟩) (.inr (by show w.heap.size ≤ w2.heap.size; omega)) (.slice a' S'.length C')) (p := ⟨w2.heap.size, 10, none⟩) (.inr (by show w.heap.size ≤ w2.heap.size; omega)) (.int .i64 cn'))
    have On := hid ((((Ot5.out.far (p := ⟨w2.heap.size, 7, none⟩) (by intro he; have h1 := (HLO2.out _ he).1; revert h1; show w4.heap.size ≤ w2.heap.size → False; omega) (.int .i64 lo')).far (p := ⟨w2.heap.size, 8, none⟩) (by intro he; have h1 := (HLO2.out _ he).1; revert h1; show w4.heap.size ≤ w2.heap.size → False; omega) (.int .i64 hi')).far (p := ⟨w2.heap.size, 9, none⟩) (by intro he; have h1 := (HLO2.out _ he).1; revert h1; show w4.heap.size ≤ w2.heap.size → False; omega) (.slice a' S'.length C')).far (p := ⟨w2.heap.size, 10, none⟩) (by intro he; have h1 := (HLO2.out _ he).1; revert h1; show w4.heap.size ≤ w2.heap.size → False; omega) (.int .i64 cn'))
    go_wp2_with (first | (refine wpList_load_row rfl 54 (.tmp 3) rfl (w2.heap.size) (by first | rfl | simp) 54 #[.int .i64 (n), .int .i64 (lv), .int .i64 (rk), .int .i64 (gp), .int .i64 (kd), .int .i64 (vl), .int .i64 (cp), .int .i64 (lo'), .int .i64 (hi'), .slice a' S'.length C', .int .i64 (cn')] (0, 0) _ KXn.out Tryz.underlying54 rfl sizeRule ?_) | (refine wpList_store_row rfl 54 (.tmp 2) (.tmp 52) rfl (w.heap.size) #[.int .i64 (n), .int .i64 (lv), .int .i64 (rk), .int .i64 (gp), .int .i64 (kd), .int .i64 (vl), .int .i64 (cp), .int .i64 (lo'), .int .i64 (hi'), .slice a' S'.length C', .int .i64 (cn')] (by first | rfl | simp) (by first | rfl | simp) 54 _ KRn.out sizeRule rfl (by simp [Value.oneCell']) ?_))
    exact bodyPost_ret (v := .agg #[.int .i64 (n), .int .i64 (lv), .int .i64 (rk), .int .i64 (gp), .int .i64 (kd), .int .i64 (vl), .int .i64 (cp), .int .i64 (lo'), .int .i64 (hi'), .slice a' S'.length C', .int .i64 (cn')]) (results_cell_row rfl _ _ (w.heap.size) 54 #[.int .i64 (n), .int .i64 (lv), .int .i64 (rk), .int .i64 (gp), .int .i64 (kd), .int .i64 (vl), .int .i64 (cp), .int .i64 (lo'), .int .i64 (hi'), .slice a' S'.length C', .int .i64 (cn')] (0, 0) _ (by first | rfl | simp) (KRn.out.setRow _) Tryz.underlying54 rfl sizeRule) rfl ⟨((_, _, _, _, _, _, _), (_, _), (_, _, S'), _), rfl, (On.out.setRow (by intro he; have h1 := (HLO2.out _ he).1; revert h1; show w4.heap.size ≤ w.heap.size → False; omega) _).less (by omega), ⟨sm1, (show S'.length ≤ 4 by omega)⟩, (Hn.out.setRow (by omega) (by omega) _).more (by omega), grown_setRow Gn.out (.inr (by omega)) _⟩
  have y4 : (m4 == 4) = false := beq_eq_false_iff_ne.2 p4
  clear p4
  by_cases p5 : m4 = 5
  · have y5 : (m4 == 5) = true := by rw [p5]; rfl
    clear p5
    go_wp2_with fail
    refine (one_any [-1, 1000001] _ _ _ _ _ _ _ h4 (by omega) (by first | rfl | omega | (simp; done) | (simp; omega)) rfl (by simp) rfl (by simp)).mono ?_
    rintro e w5 ⟨m5, rfl, hm5, h5, g5⟩
    have G5 := hid (only_trans G4.out g5)
    have z5 := G5.out.size
    have Kx5 := hid (Kx4.out.grown g5 (by simp; omega))
    have Kr5 := hid (Kr4.out.grown g5 (by simp; omega))
    have Os5 := hid (Os4.out.grown g5 (Os4.out.off hRs))
    clear g5
    clear hm5
    have e5 : w5.cell? ⟨w2.heap.size, 6, none⟩ = _ := Kx5.out.cell 6
    have ef : ∀ o, w5.frozen? ⟨w2.heap.size, o, none⟩ = false := Kx5.out.frozen
    have ez : w2.heap.size < w5.heap.size := Kx5.out.lt
    have KXn := hid (show Blk _ (w2.heap.size) 54 #[.int .i64 (n), .int .i64 (lv), .int .i64 (rk), .int .i64 (gp), .int .i64 (kd), .int .i64 (vl), .int .i64 (m5), .int .i64 (lo), .int .i64 (hi), .slice a S.length C, .int .i64 (cn)] from (Kx5.out.set_ 6 (.int .i64 m5)))
    have KRn := hid (Kr5.out.far (p := ⟨w2.heap.size, 6, none⟩) (by show _ ≠ w2.heap.size; omega) (.int .i64 m5))
    have Hn := hid (h5.setCell (p := ⟨w2.heap.size, 6, none⟩) (by show B ≤ w2.heap.size; omega) (by show w2.heap.size ≠ R; omega) (.int .i64 m5))
    have Gn := hid (only_setCell G5.out (p := ⟨w2.heap.size, 6, none⟩) (.inr (by show w.heap.size ≤ w2.heap.size; omega)) (.int .i64 m5))
    have On := hid (Os5.out.far (p := ⟨w2.heap.size, 6, none⟩) (by intro he; have h1 := (HLO.out _ he).2; revert h1; show w2.heap.size < w2.heap.size → False; omega) (.int .i64 m5))
    go_wp2_with (first | (refine wpList_load_row rfl 54 (.tmp 3) rfl (w2.heap.size) (by first | rfl | simp) 54 #[.int .i64 (n), .int .i64 (lv), .int .i64 (rk), .int .i64 (gp), .int .i64 (kd), .int .i64 (vl), .int .i64 (m5), .int .i64 (lo), .int .i64 (hi), .slice a S.length C, .int .i64 (cn)] (0, 0) _ KXn.out Tryz.underlying54 rfl sizeRule ?_) | (refine wpList_store_row rfl 54 (.tmp 2) (.tmp 52) rfl (w.heap.size) #[.int .i64 (n), .int .i64 (lv), .int .i64 (rk), .int .i64 (gp), .int .i64 (kd), .int .i64 (vl), .int .i64 (m5), .int .i64 (lo), .int .i64 (hi), .slice a S.length C, .int .i64 (cn)] (by first | rfl | simp) (by first | rfl | simp) 54 _ KRn.out sizeRule rfl (by simp [Value.oneCell']) ?_))
    exact bodyPost_ret (v := .agg #[.int .i64 (n), .int .i64 (lv), .int .i64 (rk), .int .i64 (gp), .int .i64 (kd), .int .i64 (vl), .int .i64 (m5), .int .i64 (lo), .int .i64 (hi), .slice a S.length C, .int .i64 (cn)]) (results_cell_row rfl _ _ (w.heap.size) 54 #[.int .i64 (n), .int .i64 (lv), .int .i64 (rk), .int .i64 (gp), .int .i64 (kd), .int .i64 (vl), .int .i64 (m5), .int .i64 (lo), .int .i64 (hi), .slice a S.length C, .int .i64 (cn)] (0, 0) _ (by first | rfl | simp) (KRn.out.setRow _) Tryz.underlying54 rfl sizeRule) rfl ⟨((_, _, _, _, _, _, _), (_, _), (_, _, S), _), rfl, (On.out.setRow (by intro he; have h1 := (HLO.out _ he).1; revert h1; show w1.heap.size ≤ w.heap.size → False; omega) _).less (by omega), ⟨sl1, (show S.length ≤ 4 by omega)⟩, (Hn.out.setRow (by omega) (by omega) _).more (by omega), grown_setRow Gn.out (.inr (by omega)) _⟩
  have y5 : (m4 == 5) = false := beq_eq_false_iff_ne.2 p5
  clear p5
  by_cases p6 : m4 = 6
  · have y6 : (m4 == 6) = true := by rw [p6]; rfl
    clear p6
    go_wp2_with fail
    refine (one_any [-2, 3] _ _ _ _ _ _ _ h4 (by omega) (by first | rfl | omega | (simp; done) | (simp; omega)) rfl (by simp) rfl (by simp)).mono ?_
    rintro e w5 ⟨m5, rfl, hm5, h5, g5⟩
    have G5 := hid (only_trans G4.out g5)
    have z5 := G5.out.size
    have Kx5 := hid (Kx4.out.grown g5 (by simp; omega))
    have Kr5 := hid (Kr4.out.grown g5 (by simp; omega))
    have Os5 := hid (Os4.out.grown g5 (Os4.out.off hRs))
    clear g5
    clear hm5
    have e5 : w5.cell? ⟨w2.heap.size, 3, none⟩ = _ := Kx5.out.cell 3
    have ef : ∀ o, w5.frozen? ⟨w2.heap.size, o, none⟩ = false := Kx5.out.frozen
    have ez : w2.heap.size < w5.heap.size := Kx5.out.lt
    have KXn := hid (show Blk _ (w2.heap.size) 54 #[.int .i64 (n), .int .i64 (lv), .int .i64 (rk), .int .i64 (m5), .int .i64 (kd), .int .i64 (vl), .int .i64 (cp), .int .i64 (lo), .int .i64 (hi), .slice a S.length C, .int .i64 (cn)] from (Kx5.out.set_ 3 (.int .i64 m5)))
    have KRn := hid (Kr5.out.far (p := ⟨w2.heap.size, 3, none⟩) (by show _ ≠ w2.heap.size; omega) (.int .i64 m5))
    have Hn := hid (h5.setCell (p := ⟨w2.heap.size, 3, none⟩) (by show B ≤ w2.heap.size; omega) (by show w2.heap.size ≠ R; omega) (.int .i64 m5))
    have Gn := hid (only_setCell G5.out (p := ⟨w2.heap.size, 3, none⟩) (.inr (by show w.heap.size ≤ w2.heap.size; omega)) (.int .i64 m5))
    have On := hid (Os5.out.far (p := ⟨w2.heap.size, 3, none⟩) (by intro he; have h1 := (HLO.out _ he).2; revert h1; show w2.heap.size < w2.heap.size → False; omega) (.int .i64 m5))
    go_wp2_with (first | (refine wpList_load_row rfl 54 (.tmp 3) rfl (w2.heap.size) (by first | rfl | simp) 54 #[.int .i64 (n), .int .i64 (lv), .int .i64 (rk), .int .i64 (m5), .int .i64 (kd), .int .i64 (vl), .int .i64 (cp), .int .i64 (lo), .int .i64 (hi), .slice a S.length C, .int .i64 (cn)] (0, 0) _ KXn.out Tryz.underlying54 rfl sizeRule ?_) | (refine wpList_store_row rfl 54 (.tmp 2) (.tmp 52) rfl (w.heap.size) #[.int .i64 (n), .int .i64 (lv), .int .i64 (rk), .int .i64 (m5), .int .i64 (kd), .int .i64 (vl), .int .i64 (cp), .int .i64 (lo), .int .i64 (hi), .slice a S.length C, .int .i64 (cn)] (by first | rfl | simp) (by first | rfl | simp) 54 _ KRn.out sizeRule rfl (by simp [Value.oneCell']) ?_))
    exact bodyPost_ret (v := .agg #[.int .i64 (n), .int .i64 (lv), .int .i64 (rk), .int .i64 (m5), .int .i64 (kd), .int .i64 (vl), .int .i64 (cp), .int .i64 (lo), .int .i64 (hi), .slice a S.length C, .int .i64 (cn)]) (results_cell_row rfl _ _ (w.heap.size) 54 #[.int .i64 (n), .int .i64 (lv), .int .i64 (rk), .int .i64 (m5), .int .i64 (kd), .int .i64 (vl), .int .i64 (cp), .int .i64 (lo), .int .i64 (hi), .slice a S.length C, .int .i64 (cn)] (0, 0) _ (by first | rfl | simp) (KRn.out.setRow _) Tryz.underlying54 rfl sizeRule) rfl ⟨((_, _, _, _, _, _, _), (_, _), (_, _, S), _), rfl, (On.out.setRow (by intro he; have h1 := (HLO.out _ he).1; revert h1; show w1.heap.size ≤ w.heap.size → False; omega) _).less (by omega), ⟨sl1, (show S.length ≤ 4 by omega)⟩, (Hn.out.setRow (by omega) (by omega) _).more (by omega), grown_setRow Gn.out (.inr (by omega)) _⟩
  have y6 : (m4 == 6) = false := beq_eq_false_iff_ne.2 p6
  clear p6
  have KXn := hid (show Blk _ (w2.heap.size) 54 #[.int .i64 (n), .int .i64 (lv), .int .i64 (rk), .int .i64 (gp), .int .i64 (kd), .int .i64 (vl), .int .i64 (cp), .int .i64 (lo), .int .i64 (hi), .slice a S.length C, .int .i64 (cn)] from Kx4.out)
  have KRn := hid Kr4.out
  have Hn := hid h4
  have Gn := hid G4.out
  have On := hid Os4.out
  go_wp2_with (first | (refine wpList_load_row rfl 54 (.tmp 3) rfl (w2.heap.size) (by first | rfl | simp) 54 #[.int .i64 (n), .int .i64 (lv), .int .i64 (rk), .int .i64 (gp), .int .i64 (kd), .int .i64 (vl), .int .i64 (cp), .int .i64 (lo), .int .i64 (hi), .slice a S.length C, .int .i64 (cn)] (0, 0) _ KXn.out Tryz.underlying54 rfl sizeRule ?_) | (refine wpList_store_row rfl 54 (.tmp 2) (.tmp 52) rfl (w.heap.size) #[.int .i64 (n), .int .i64 (lv), .int .i64 (rk), .int .i64 (gp), .int .i64 (kd), .int .i64 (vl), .int .i64 (cp), .int .i64 (lo), .int .i64 (hi), .slice a S.length C, .int .i64 (cn)] (by first | rfl | simp) (by first | rfl | simp) 54 _ KRn.out sizeRule rfl (by simp [Value.oneCell']) ?_))
  exact bodyPost_ret (v := .agg #[.int .i64 (n), .int .i64 (lv), .int .i64 (rk), .int .i64 (gp), .int .i64 (kd), .int .i64 (vl), .int .i64 (cp), .int .i64 (lo), .int .i64 (hi), .slice a S.length C, .int .i64 (cn)]) (results_cell_row rfl _ _ (w.heap.size) 54 #[.int .i64 (n), .int .i64 (lv), .int .i64 (rk), .int .i64 (gp), .int .i64 (kd), .int .i64 (vl), .int .i64 (cp), .int .i64 (lo), .int .i64 (hi), .slice a S.length C, .int .i64 (cn)] (0, 0) _ (by first | rfl | simp) (KRn.out.setRow _) Tryz.underlying54 rfl sizeRule) rfl ⟨((_, _, _, _, _, _, _), (_, _), (_, _, S), _), rfl, (On.out.setRow (by intro he; have h1 := (HLO.out _ he).1; revert h1; show w1.heap.size ≤ w.heap.size → False; omega) _).less (by omega), ⟨sl1, (show S.length ≤ 4 by omega)⟩, (Hn.out.setRow (by omega) (by omega) _).more (by omega), grown_setRow Gn.out (.inr (by omega)) _⟩

end Go.Proofs.YtkgofklpogdpmaaGreat
