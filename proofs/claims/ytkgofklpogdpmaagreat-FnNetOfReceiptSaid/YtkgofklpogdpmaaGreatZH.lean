/- Whole structs, read and written at once: what the other blocks keep. -/
import Derived.Test.YtkgofklpogdpmaaGreatZDrawGuard
import Derived.Laws.Tables
namespace Go.Proofs.YtkgofklpogdpmaaGreat
open Go.RowKit

theorem only_setRow (w : World) (g : Nat) (cs : Array Value) : w.grownBy (w.setRow g cs) (some g) :=
  ⟨setRow_os _ _ _, setRow_tape _ _ _, setRow_output _ _ _, by simp, fun i _ hne => setRow_other w g i cs (fun e => hne (by rw [e]))⟩
theorem grown_setRow {a w : World} {row : Option Nat} (h : a.grownBy w row) {g : Nat} (hp : some g = row ∨ a.heap.size ≤ g) (cs : Array Value) : a.grownBy (w.setRow g cs) row :=
  ⟨h.os, h.tape, h.output, by simpa using h.size, fun i hi hne => (setRow_other w g i cs (by
    rintro rfl
    rcases hp with hp | hp
    · exact hne hp
    · omega)).trans (h.block i hi hne)⟩
theorem Blk.setRow {w : World} {g : Nat} {t : TypeId} {old : Array Value} (h : Blk w g t old) (cs : Array Value) : Blk (w.setRow g cs) g t cs := setRow_heap w g old cs t (0, 0) h
theorem Blk.apart {w : World} {g : Nat} {t : TypeId} {old : Array Value} (h : Blk w g t old) {b : Nat} (hne : g ≠ b) (cs : Array Value) : Blk (w.setRow b cs) g t old :=
  h.grown (only_setRow w b cs) (by simpa using hne)
theorem Rdr.setRow {w : World} {B R N : Nat} (h : Rdr w B R N) {g : Nat} (h1 : B ≤ g) (h2 : g ≠ R) (cs : Array Value) : Rdr (w.setRow g cs) B R N :=
  h.grown (only_setRow w g cs) (fun k hk => by
    have e : g = k := by simpa using hk
    subst e
    exact ⟨h1, h2⟩)
theorem Own.setRow {α : Type} {enc : α → List Value} {sz : Nat} {e : TypeId} {w : World} {base : Nat} {v : Value} {l : List α} (h : Own enc sz e w base v l) {g : Nat} (hne : v.ownBlock ≠ some g) (cs : Array Value) : Own enc sz e (w.setRow g cs) base v l :=
  h.grown (only_setRow w g cs) (.inr hne)
theorem sizeRule : (Tryz.prog.info? 54).map (·.size) = some 11 := by kernel_rfl

end Go.Proofs.YtkgofklpogdpmaaGreat

/- Contract of the generator of rules. -/
namespace Go.Proofs.YtkgofklpogdpmaaGreat
open Go.RowKit

/-- A rule whose spans lie in a row of the call's own. -/
def RulePost (w : World) (B R M : Nat) (e : Ending) (w' : World) : Prop :=
  ∃ r : ((Int × Int × Int × Int × Int × Int × Int) × (Int × Int) × (Option Addr × Nat × List (Int × Int)) × Int), e = .returned (.agg (encR r).toArray) ∧ Own enc2 2 49 w' w.heap.size (.slice r.2.2.1.1 r.2.2.1.2.2.length r.2.2.1.2.1) r.2.2.1.2.2 ∧ (1 ≤ r.2.2.1.2.2.length ∧ r.2.2.1.2.2.length ≤ 4) ∧ Rdr w' B R M ∧ w.grownBy w' (some R)

set_option maxHeartbeats 8000000 in
set_option maxRecDepth 100000 in
theorem someRule_any (n : Int) (w : World) (B R N : Nat) (h : Rdr w B R N) (hN : N ≤ 500000) :
    Calls Tryz.prog 72 #[.pointer (some ⟨R, 0, none⟩), .int .i64 n] w (RulePost w B R (N + 13)) := by
  have hR := h.lt
  have hRB := hR.1
  have hRw := hR.2
  clear hR
  have hi0 := h.alloc (.cells #[.int .i64 0, .int .i64 0, .int .i64 0, .int .i64 0, .int .i64 0, .int .i64 0, .int .i64 0, .int .i64 0, .int .i64 0, .slice none 0 0, .int .i64 0] 54)
  have G0 := hid (only_alloc (only_refl (w := w) (row := some R)) (.cells #[.int .i64 0, .int .i64 0, .int .i64 0, .int .i64 0, .int .i64 0, .int .i64 0, .int .i64 0, .int .i64 0, .int .i64 0, .slice none 0 0, .int .i64 0] 54))
  have Kr0 := hid (Blk.new w 54 #[.int .i64 0, .int .i64 0, .int .i64 0, .int .i64 0, .int .i64 0, .int .i64 0, .int .i64 0, .int .i64 0, .int .i64 0, .slice none 0 0, .int .i64 0])
  have h0 := hi0
  clear h hi0
  go_enter Tryz.func72, Tryz.ntmps72
  go_wp2_with fail
  refine (pick_any _ _ _ _ _ h0 (by omega)).mono ?_
  rintro e w1 ⟨m1, rfl, a1, b1, c1, h1, g1⟩
  have u1 := b1 (by omega)
  clear b1
  have G1 := hid (only_trans G0.out g1)
  have z1 := G1.out.size
  have Kr1 := hid (Kr0.out.grown g1 (by simp; omega))
  clear g1
  go_wp2_with fail
  refine (pick_any _ _ _ _ _ h1 (by omega)).mono ?_
  rintro e w2 ⟨m2, rfl, a2, b2, c2, h2, g2⟩
  have u2 := b2 (by omega)
  clear b2
  have G2 := hid (only_trans G1.out g2)
  have z2 := G2.out.size
  have Kr2 := hid (Kr1.out.grown g2 (by simp; omega))
  clear g2
  go_wp2_with fail
  refine (pick_any _ _ _ _ _ h2 (by omega)).mono ?_
  rintro e w3 ⟨m3, rfl, a3, b3, c3, h3, g3⟩
  have u3 := b3 (by omega)
  clear b3
  have G3 := hid (only_trans G2.out g3)
  have z3 := G3.out.size
  have Kr3 := hid (Kr2.out.grown g3 (by simp; omega))
  clear g3
  have hw3 : IntKind.i64.wrap (m3 - 1) = m3 - 1 := IntWalk.i64_in _ (by omega)
  go_wp2_with fail
  refine (pick_any _ _ _ _ _ h3 (by omega)).mono ?_
  rintro e w4 ⟨m4, rfl, a4, b4, c4, h4, g4⟩
  have u4 := b4 (by omega)
  clear b4
  have G4 := hid (only_trans G3.out g4)
  have z4 := G4.out.size
  have Kr4 := hid (Kr3.out.grown g4 (by simp; omega))
  clear g4
  have hw4 : IntKind.i64.wrap (1 + m4) = 1 + m4 := IntWalk.i64_in _ (by omega)
  have z34 : w.heap.size + 1 ≤ w4.heap.size := by have := Kr4.out.lt; omega
  go_wp2_with fail
  refine (someGuard_any _ _ _ _ h4 (by omega)).mono ?_
  rintro e w5 ⟨lo, hi, cn, a, C, S, rfl, ⟨sl1, sl2⟩, o5, h5, g5⟩
  have G5 := hid (only_trans G4.out g5)
  have z5 := G5.out.size
  have Kr5 := hid (Kr4.out.grown g5 (by simp; omega))
  clear g5
  have Os5 := hid o5
  have hlo : ∀ k, (Value.slice a S.length C).ownBlock = some k → w4.heap.size ≤ k ∧ k < w5.heap.size := fun k hk => o5.lt k hk
  have HLO := hid hlo
  have z5 : w.heap.size + 1 ≤ w5.heap.size := by have := Kr5.out.lt; omega
  obtain ⟨lv, hlv⟩ : ∃ x, x = m1 := ⟨_, rfl⟩
  obtain ⟨rk, hrk⟩ : ∃ x, x = m2 := ⟨_, rfl⟩
  obtain ⟨gp, hgp⟩ : ∃ x, x = m3 - 1 := ⟨_, rfl⟩
  obtain ⟨kd, hkd⟩ : ∃ x, x = 1 + m4 := ⟨_, rfl⟩
  rw [← hgp] at hw3
  rw [← hkd] at hw4
  rw [← hlv, ← hrk]
  try rw [← hgp]
  try rw [← hkd]
  have HKD := hid (show kd = 1 ∨ kd = 2 ∨ kd = 3 by omega)
  clear hlo o5 a1 u1 c1 a2 u2 c2 a3 u3 c3 a4 u4 c4 hlv hrk hgp hkd h4
  obtain ⟨w6, hw6⟩ : ∃ x, x = w5.alloc (.cells #[.int .i64 (n), .int .i64 (lv), .int .i64 (rk), .int .i64 (gp), .int .i64 (kd), .int .i64 (0), .int .i64 (0), .int .i64 (lo), .int .i64 (hi), .slice a S.length C, .int .i64 (cn)] 54) := ⟨_, rfl⟩
  have HW6 := hid hw6
  have Kx6 := hid (Blk.new w5 54 #[.int .i64 (n), .int .i64 (lv), .int .i64 (rk), .int .i64 (gp), .int .i64 (kd), .int .i64 (0), .int .i64 (0), .int .i64 (lo), .int .i64 (hi), .slice a S.length C, .int .i64 (cn)])
  rw [← hw6] at Kx6
  have Kr6 := hid (show Blk w6 w.heap.size 54 #[.int .i64 0, .int .i64 0, .int .i64 0, .int .i64 0, .int .i64 0, .int .i64 0, .int .i64 0, .int .i64 0, .int .i64 0, .slice none 0 0, .int .i64 0] by rw [hw6]; exact Kr5.out.alloc _)
  have G6 := hid (show w.grownBy w6 (some R) by rw [hw6]; exact only_alloc G5.out _)
  have h6 := (show Rdr w6 B R _ by rw [hw6]; exact h5.alloc _)
  have Os6 := hid (show Own enc2 2 49 w6 w4.heap.size (.slice a S.length C) S by rw [hw6]; exact Os5.out.alloc _)
  have hRs : R < w4.heap.size := by omega
  have z56 : w6.heap.size = w5.heap.size + 1 := by rw [hw6]; simp
  clear hw6 G5 Kr5 h5 Os5
  rcases HKD.out with hk | hk | hk
  · have y1 : (kd == 1) = true := by rw [hk]; rfl
    clear hk
    go_wp2_with fail
    rw [← HW6.out]
    refine (one_any [100, 50, 333, 1000, 1] _ _ _ _ _ _ _ h6 (by omega) (by first | rfl | omega | (simp; done) | (simp; omega)) rfl (by simp) rfl (by simp)).mono ?_
    rintro e w7 ⟨m7, rfl, hm7, h7, g7⟩
    have G7 := hid (only_trans G6.out g7)
    have z7 := G7.out.size
    have Kx7 := hid (Kx6.out.grown g7 (by simp; omega))
    have Kr7 := hid (Kr6.out.grown g7 (by simp; omega))
    have Os7 := hid (Os6.out.grown g7 (Os6.out.off hRs))
    clear g7
    clear hm7
    have e5 : w7.cell? ⟨w5.heap.size, 5, none⟩ = _ := Kx7.out.cell 5
    have ef : ∀ o, w7.frozen? ⟨w5.heap.size, o, none⟩ = false := Kx7.out.frozen
    have ez : w5.heap.size < w7.heap.size := Kx7.out.lt
    obtain ⟨w8, hw8⟩ : ∃ x, x = w7.setCell ⟨w5.heap.size, 5, none⟩ (.int .i64 m7) := ⟨_, rfl⟩
    have HW8 := hid hw8
    have Kx8 := hid (show Blk w8 (w5.heap.size) 54 #[.int .i64 (n), .int .i64 (lv), .int .i64 (rk), .int .i64 (gp), .int .i64 (kd), .int .i64 (m7), .int .i64 (0), .int .i64 (lo), .int .i64 (hi), .slice a S.length C, .int .i64 (cn)] by rw [hw8]; exact Kx7.out.set_ 5 _)
    have Kr8 := hid (show Blk w8 w.heap.size 54 #[.int .i64 0, .int .i64 0, .int .i64 0, .int .i64 0, .int .i64 0, .int .i64 0, .int .i64 0, .int .i64 0, .int .i64 0, .slice none 0 0, .int .i64 0] by rw [hw8]; exact Kr7.out.far (by show _ ≠ w5.heap.size; omega) _)
    have h8 : Rdr w8 B R (N + 11) := by rw [hw8]; exact h7.setCell (by show _ ≤ w5.heap.size; omega) (by show w5.heap.size ≠ R; omega) _
    have G8 := hid (show w.grownBy w8 (some R) by rw [hw8]; exact only_setCell G7.out (.inr (by show _ ≤ w5.heap.size; omega)) _)
    have Os8 := hid (show Own enc2 2 49 w8 w4.heap.size (.slice a S.length C) S by rw [hw8]; exact Os7.out.far (by intro he; have h1 := (HLO.out _ he).2; revert h1; show w5.heap.size < w5.heap.size → False; omega) _)
    have z8 : w8.heap.size = w7.heap.size := by rw [hw8]; simp
    clear hw8
    go_wp2_with fail
    rw [← HW8.out]
    refine (pick_any _ _ _ _ _ h8 (by omega)).mono ?_
    rintro e w9 ⟨m9, rfl, a9, b9, c9, h9, g9⟩
    have G9 := hid (only_trans G8.out g9)
    have z9 := G9.out.size
    have Kx9 := hid (Kx8.out.grown g9 (by simp; omega))
    have Kr9 := hid (Kr8.out.grown g9 (by simp; omega))
    have Os9 := hid (Os8.out.grown g9 (Os8.out.off hRs))
    clear g9
    clear a9 b9 c9
    by_cases p0 : m9 = 0
    · have yp : (m9 == 0) = true := by rw [p0]; rfl
      clear p0
      go_wp2_with fail
      refine (one_any [50, 200, 1000, 7] _ _ _ _ _ _ _ h9 (by omega) (by first | rfl | omega | (simp; done) | (simp; omega)) rfl (by simp) rfl (by simp)).mono ?_
      rintro e w10 ⟨m10, rfl, hm10, h10, g10⟩
      have G10 := hid (only_trans G9.out g10)
      have z10 := G10.out.size
      have Kx10 := hid (Kx9.out.grown g10 (by simp; omega))
      have Kr10 := hid (Kr9.out.grown g10 (by simp; omega))
      have Os10 := hid (Os9.out.grown g10 (Os9.out.off hRs))
      clear g10
      clear hm10
      have e5 : w10.cell? ⟨w5.heap.size, 6, none⟩ = _ := Kx10.out.cell 6
      have ef : ∀ o, w10.frozen? ⟨w5.heap.size, o, none⟩ = false := Kx10.out.frozen
      have ez : w5.heap.size < w10.heap.size := Kx10.out.lt
      have KXn := hid (show Blk _ (w5.heap.size) 54 #[.int .i64 (n), .int .i64 (lv), .int .i64 (rk), .int .i64 (gp), .int .i64 (kd), .int .i64 (m7), .int .i64 (m10), .int .i64 (lo), .int .i64 (hi), .slice a S.length C, .int .i64 (cn)] from (Kx10.out.set_ 6 (.int .i64 m10)))
      have KRn := hid (Kr10.out.far (p := ⟨w5.heap.size, 6, none⟩) (by show _ ≠ w5.heap.size; omega) (.int .i64 m10))
      have Hn := hid (h10.setCell (p := ⟨w5.heap.size, 6, none⟩) (by show B ≤ w5.heap.size; omega) (by show w5.heap.size ≠ R; omega) (.int .i64 m10))
      have Gn := hid (only_setCell G10.out (p := ⟨w5.heap.size, 6, none⟩) (.inr (by show w.heap.size ≤ w5.heap.size; omega)) (.int .i64 m10))
      have On := hid (Os10.out.far (p := ⟨w5.heap.size, 6, none⟩) (by intro he; have h1 := (HLO.out _ he).2; revert h1; show w5.heap.size < w5.heap.size → False; omega) (.int .i64 m10))
      go_wp2_with (first | (refine wpList_load_row rfl 54 (.tmp 5) rfl (w5.heap.size) (by first | rfl | simp) 54 #[.int .i64 (n), .int .i64 (lv), .int .i64 (rk), .int .i64 (gp), .int .i64 (kd), .int .i64 (m7), .int .i64 (m10), .int .i64 (lo), .int .i64 (hi), .slice a S.length C, .int .i64 (cn)] (0, 0) _ KXn.out Tryz.underlying54 rfl sizeRule ?_) | (refine wpList_store_row rfl 54 (.tmp 4) (.tmp 47) rfl (w.heap.size) #[.int .i64 (n), .int .i64 (lv), .int .i64 (rk), .int .i64 (gp), .int .i64 (kd), .int .i64 (m7), .int .i64 (m10), .int .i64 (lo), .int .i64 (hi), .slice a S.length C, .int .i64 (cn)] (by first | rfl | simp) (by first | rfl | simp) 54 _ KRn.out sizeRule rfl (by simp [Value.oneCell']) ?_))
      exact bodyPost_ret (v := .agg #[.int .i64 (n), .int .i64 (lv), .int .i64 (rk), .int .i64 (gp), .int .i64 (kd), .int .i64 (m7), .int .i64 (m10), .int .i64 (lo), .int .i64 (hi), .slice a S.length C, .int .i64 (cn)]) (results_cell_row rfl _ _ (w.heap.size) 54 #[.int .i64 (n), .int .i64 (lv), .int .i64 (rk), .int .i64 (gp), .int .i64 (kd), .int .i64 (m7), .int .i64 (m10), .int .i64 (lo), .int .i64 (hi), .slice a S.length C, .int .i64 (cn)] (0, 0) _ (by first | rfl | simp) (KRn.out.setRow _) Tryz.underlying54 rfl sizeRule) rfl ⟨((_, _, _, _, _, _, _), (_, _), (_, _, S), _), rfl, (On.out.setRow (by intro he; have h1 := (HLO.out _ he).1; revert h1; show w4.heap.size ≤ w.heap.size → False; omega) _).less (by omega), ⟨sl1, (show S.length ≤ 4 by omega)⟩, (Hn.out.setRow (by omega) (by omega) _).more (by omega), grown_setRow Gn.out (.inr (by omega)) _⟩
    have yp : (m9 == 0) = false := beq_eq_false_iff_ne.2 p0
    clear p0
    have KXn := hid (show Blk _ (w5.heap.size) 54 #[.int .i64 (n), .int .i64 (lv), .int .i64 (rk), .int .i64 (gp), .int .i64 (kd), .int .i64 (m7), .int .i64 (0), .int .i64 (lo), .int .i64 (hi), .slice a S.length C, .int .i64 (cn)] from Kx9.out)
    have KRn := hid Kr9.out
    have Hn := hid h9
    have Gn := hid G9.out
    have On := hid Os9.out
    go_wp2_with (first | (refine wpList_load_row rfl 54 (.tmp 5) rfl (w5.heap.size) (by first | rfl | simp) 54 #[.int .i64 (n), .int .i64 (lv), .int .i64 (rk), .int .i64 (gp), .int .i64 (kd), .int .i64 (m7), .int .i64 (0), .int .i64 (lo), .int .i64 (hi), .slice a S.length C, .int .i64 (cn)] (0, 0) _ KXn.out Tryz.underlying54 rfl sizeRule ?_) | (refine wpList_store_row rfl 54 (.tmp 4) (.tmp 47) rfl (w.heap.size) #[.int .i64 (n), .int .i64 (lv), .int .i64 (rk), .int .i64 (gp), .int .i64 (kd), .int .i64 (m7), .int .i64 (0), .int .i64 (lo), .int .i64 (hi), .slice a S.length C, .int .i64 (cn)] (by first | rfl | simp) (by first | rfl | simp) 54 _ KRn.out sizeRule rfl (by simp [Value.oneCell']) ?_))
    exact bodyPost_ret (v := .agg #[.int .i64 (n), .int .i64 (lv), .int .i64 (rk), .int .i64 (gp), .int .i64 (kd), .int .i64 (m7), .int .i64 (0), .int .i64 (lo), .int .i64 (hi), .slice a S.length C, .int .i64 (cn)]) (results_cell_row rfl _ _ (w.heap.size) 54 #[.int .i64 (n), .int .i64 (lv), .int .i64 (rk), .int .i64 (gp), .int .i64 (kd), .int .i64 (m7), .int .i64 (0), .int .i64 (lo), .int .i64 (hi), .slice a S.length C, .int .i64 (cn)] (0, 0) _ (by first | rfl | simp) (KRn.out.setRow _) Tryz.underlying54 rfl sizeRule) rfl ⟨((_, _, _, _, _, _, _), (_, _), (_, _, S), _), rfl, (On.out.setRow (by intro he; have h1 := (HLO.out _ he).1; revert h1; show w4.heap.size ≤ w.heap.size → False; omega) _).less (by omega), ⟨sl1, (show S.length ≤ 4 by omega)⟩, (Hn.out.setRow (by omega) (by omega) _).more (by omega), grown_setRow Gn.out (.inr (by omega)) _⟩
  · have y1 : (kd == 1) = false := by rw [hk]; rfl
    have y2 : (kd == 2) = true := by rw [hk]; rfl
    clear hk
    go_wp2_with fail
    rw [← HW6.out]
    refine (one_any [100, 500, 1, 10000, 77] _ _ _ _ _ _ _ h6 (by omega) (by first | rfl | omega | (simp; done) | (simp; omega)) rfl (by simp) rfl (by simp)).mono ?_
    rintro e w7 ⟨m7, rfl, hm7, h7, g7⟩
    have G7 := hid (only_trans G6.out g7)
    have z7 := G7.out.size
    have Kx7 := hid (Kx6.out.grown g7 (by simp; omega))
    have Kr7 := hid (Kr6.out.grown g7 (by simp; omega))
    have Os7 := hid (Os6.out.grown g7 (Os6.out.off hRs))
    clear g7
    clear hm7
    have e5 : w7.cell? ⟨w5.heap.size, 5, none⟩ = _ := Kx7.out.cell 5
    have ef : ∀ o, w7.frozen? ⟨w5.heap.size, o, none⟩ = false := Kx7.out.frozen
    have ez : w5.heap.size < w7.heap.size := Kx7.out.lt
    obtain ⟨w8, hw8⟩ : ∃ x, x = w7.setCell ⟨w5.heap.size, 5, none⟩ (.int .i64 m7) := ⟨_, rfl⟩
    have HW8 := hid hw8
    have Kx8 := hid (show Blk w8 (w5.heap.size) 54 #[.int .i64 (n), .int .i64 (lv), .int .i64 (rk), .int .i64 (gp), .int .i64 (kd), .int .i64 (m7), .int .i64 (0), .int .i64 (lo), .int .i64 (hi), .slice a S.length C, .int .i64 (cn)] by rw [hw8]; exact Kx7.out.set_ 5 _)
    have Kr8 := hid (show Blk w8 w.heap.size 54 #[.int .i64 0, .int .i64 0, .int .i64 0, .int .i64 0, .int .i64 0, .int .i64 0, .int .i64 0, .int .i64 0, .int .i64 0, .slice none 0 0, .int .i64 0] by rw [hw8]; exact Kr7.out.far (by show _ ≠ w5.heap.size; omega) _)
    have h8 : Rdr w8 B R (N + 11) := by rw [hw8]; exact h7.setCell (by show _ ≤ w5.heap.size; omega) (by show w5.heap.size ≠ R; omega) _
    have G8 := hid (show w.grownBy w8 (some R) by rw [hw8]; exact only_setCell G7.out (.inr (by show _ ≤ w5.heap.size; omega)) _)
    have Os8 := hid (show Own enc2 2 49 w8 w4.heap.size (.slice a S.length C) S by rw [hw8]; exact Os7.out.far (by intro he; have h1 := (HLO.out _ he).2; revert h1; show w5.heap.size < w5.heap.size → False; omega) _)
    have z8 : w8.heap.size = w7.heap.size := by rw [hw8]; simp
    clear hw8
    go_wp2_with fail
    rw [← HW8.out]
    refine (pick_any _ _ _ _ _ h8 (by omega)).mono ?_
    rintro e w9 ⟨m9, rfl, a9, b9, c9, h9, g9⟩
    have G9 := hid (only_trans G8.out g9)
    have z9 := G9.out.size
    have Kx9 := hid (Kx8.out.grown g9 (by simp; omega))
    have Kr9 := hid (Kr8.out.grown g9 (by simp; omega))
    have Os9 := hid (Os8.out.grown g9 (Os8.out.off hRs))
    clear g9
    clear a9 b9 c9
    by_cases p0 : m9 = 0
    · have yp : (m9 == 0) = true := by rw [p0]; rfl
      clear p0
      go_wp2_with fail
      refine (one_any [50, 200, 1000, 7] _ _ _ _ _ _ _ h9 (by omega) (by first | rfl | omega | (simp; done) | (simp; omega)) rfl (by simp) rfl (by simp)).mono ?_
      rintro e w10 ⟨m10, rfl, hm10, h10, g10⟩
      have G10 := hid (only_trans G9.out g10)
      have z10 := G10.out.size
      have Kx10 := hid (Kx9.out.grown g10 (by simp; omega))
      have Kr10 := hid (Kr9.out.grown g10 (by simp; omega))
      have Os10 := hid (Os9.out.grown g10 (Os9.out.off hRs))
      clear g10
      clear hm10
      have e5 : w10.cell? ⟨w5.heap.size, 6, none⟩ = _ := Kx10.out.cell 6
      have ef : ∀ o, w10.frozen? ⟨w5.heap.size, o, none⟩ = false := Kx10.out.frozen
      have ez : w5.heap.size < w10.heap.size := Kx10.out.lt
      have KXn := hid (show Blk _ (w5.heap.size) 54 #[.int .i64 (n), .int .i64 (lv), .int .i64 (rk), .int .i64 (gp), .int .i64 (kd), .int .i64 (m7), .int .i64 (m10), .int .i64 (lo), .int .i64 (hi), .slice a S.length C, .int .i64 (cn)] from (Kx10.out.set_ 6 (.int .i64 m10)))
      have KRn := hid (Kr10.out.far (p := ⟨w5.heap.size, 6, none⟩) (by show _ ≠ w5.heap.size; omega) (.int .i64 m10))
      have Hn := hid (h10.setCell (p := ⟨w5.heap.size, 6, none⟩) (by show B ≤ w5.heap.size; omega) (by show w5.heap.size ≠ R; omega) (.int .i64 m10))
      have Gn := hid (only_setCell G10.out (p := ⟨w5.heap.size, 6, none⟩) (.inr (by show w.heap.size ≤ w5.heap.size; omega)) (.int .i64 m10))
      have On := hid (Os10.out.far (p := ⟨w5.heap.size, 6, none⟩) (by intro he; have h1 := (HLO.out _ he).2; revert h1; show w5.heap.size < w5.heap.size → False; omega) (.int .i64 m10))
      go_wp2_with (first | (refine wpList_load_row rfl 54 (.tmp 5) rfl (w5.heap.size) (by first | rfl | simp) 54 #[.int .i64 (n), .int .i64 (lv), .int .i64 (rk), .int .i64 (gp), .int .i64 (kd), .int .i64 (m7), .int .i64 (m10), .int .i64 (lo), .int .i64 (hi), .slice a S.length C, .int .i64 (cn)] (0, 0) _ KXn.out Tryz.underlying54 rfl sizeRule ?_) | (refine wpList_store_row rfl 54 (.tmp 4) (.tmp 47) rfl (w.heap.size) #[.int .i64 (n), .int .i64 (lv), .int .i64 (rk), .int .i64 (gp), .int .i64 (kd), .int .i64 (m7), .int .i64 (m10), .int .i64 (lo), .int .i64 (hi), .slice a S.length C, .int .i64 (cn)] (by first | rfl | simp) (by first | rfl | simp) 54 _ KRn.out sizeRule rfl (by simp [Value.oneCell']) ?_))
      exact bodyPost_ret (v := .agg #[.int .i64 (n), .int .i64 (lv), .int .i64 (rk), .int .i64 (gp), .int .i64 (kd), .int .i64 (m7), .int .i64 (m10), .int .i64 (lo), .int .i64 (hi), .slice a S.length C, .int .i64 (cn)]) (results_cell_row rfl _ _ (w.heap.size) 54 #[.int .i64 (n), .int .i64 (lv), .int .i64 (rk), .int .i64 (gp), .int .i64 (kd), .int .i64 (m7), .int .i64 (m10), .int .i64 (lo), .int .i64 (hi), .slice a S.length C, .int .i64 (cn)] (0, 0) _ (by first | rfl | simp) (KRn.out.setRow _) Tryz.underlying54 rfl sizeRule) rfl ⟨((_, _, _, _, _, _, _), (_, _), (_, _, S), _), rfl, (On.out.setRow (by intro he; have h1 := (HLO.out _ he).1; revert h1; show w4.heap.size ≤ w.heap.size → False; omega) _).less (by omega), ⟨sl1, (show S.length ≤ 4 by omega)⟩, (Hn.out.setRow (by omega) (by omega) _).more (by omega), grown_setRow Gn.out (.inr (by omega)) _⟩
    have yp : (m9 == 0) = false := beq_eq_false_iff_ne.2 p0
    clear p0
    have KXn := hid (show Blk _ (w5.heap.size) 54 #[.int .i64 (n), .int .i64 (lv), .int .i64 (rk), .int .i64 (gp), .int .i64 (kd), .int .i64 (m7), .int .i64 (0), .int .i64 (lo), .int .i64 (hi), .slice a S.length C, .int .i64 (cn)] from Kx9.out)
    have KRn := hid Kr9.out
    have Hn := hid h9
    have Gn := hid G9.out
    have On := hid Os9.out
    go_wp2_with (first | (refine wpList_load_row rfl 54 (.tmp 5) rfl (w5.heap.size) (by first | rfl | simp) 54 #[.int .i64 (n), .int .i64 (lv), .int .i64 (rk), .int .i64 (gp), .int .i64 (kd), .int .i64 (m7), .int .i64 (0), .int .i64 (lo), .int .i64 (hi), .slice a S.length C, .int .i64 (cn)] (0, 0) _ KXn.out Tryz.underlying54 rfl sizeRule ?_) | (refine wpList_store_row rfl 54 (.tmp 4) (.tmp 47) rfl (w.heap.size) #[.int .i64 (n), .int .i64 (lv), .int .i64 (rk), .int .i64 (gp), .int .i64 (kd), .int .i64 (m7), .int .i64 (0), .int .i64 (lo), .int .i64 (hi), .slice a S.length C, .int .i64 (cn)] (by first | rfl | simp) (by first | rfl | simp) 54 _ KRn.out sizeRule rfl (by simp [Value.oneCell']) ?_))
    exact bodyPost_ret (v := .agg #[.int .i64 (n), .int .i64 (lv), .int .i64 (rk), .int .i64 (gp), .int .i64 (kd), .int .i64 (m7), .int .i64 (0), .int .i64 (lo), .int .i64 (hi), .slice a S.length C, .int .i64 (cn)]) (results_cell_row rfl _ _ (w.heap.size) 54 #[.int .i64 (n), .int .i64 (lv), .int .i64 (rk), .int .i64 (gp), .int .i64 (kd), .int .i64 (m7), .int .i64 (0), .int .i64 (lo), .int .i64 (hi), .slice a S.length C, .int .i64 (cn)] (0, 0) _ (by first | rfl | simp) (KRn.out.setRow _) Tryz.underlying54 rfl sizeRule) rfl ⟨((_, _, _, _, _, _, _), (_, _), (_, _, S), _), rfl, (On.out.setRow (by intro he; have h1 := (HLO.out _ he).1; revert h1; show w4.heap.size ≤ w.heap.size → False; omega) _).less (by omega), ⟨sl1, (show S.length ≤ 4 by omega)⟩, (Hn.out.setRow (by omega) (by omega) _).more (by omega), grown_setRow Gn.out (.inr (by omega)) _⟩
  · have y1 : (kd == 1) = false := by rw [hk]; rfl
    have y2 : (kd == 2) = false := by rw [hk]; rfl
    have y3 : (kd == 3) = true := by rw [hk]; rfl
    clear hk
    go_wp2_with fail
    rw [← HW6.out]
    refine (one_any [2, 3, 4, 20] _ _ _ _ _ _ _ h6 (by omega) (by first | rfl | omega | (simp; done) | (simp; omega)) rfl (by simp) rfl (by simp)).mono ?_
    rintro e w7 ⟨m7, rfl, hm7, h7, g7⟩
    have G7 := hid (only_trans G6.out g7)
    have z7 := G7.out.size
    have Kx7 := hid (Kx6.out.grown g7 (by simp; omega))
    have Kr7 := hid (Kr6.out.grown g7 (by simp; omega))
    have Os7 := hid (Os6.out.grown g7 (Os6.out.off hRs))
    clear g7
    clear hm7
    have e5 : w7.cell? ⟨w5.heap.size, 5, none⟩ = _ := Kx7.out.cell 5
    have ef : ∀ o, w7.frozen? ⟨w5.heap.size, o, none⟩ = false := Kx7.out.frozen
    have ez : w5.heap.size < w7.heap.size := Kx7.out.lt
    obtain ⟨w8, hw8⟩ : ∃ x, x = w7.setCell ⟨w5.heap.size, 5, none⟩ (.int .i64 m7) := ⟨_, rfl⟩
    have HW8 := hid hw8
    have Kx8 := hid (show Blk w8 (w5.heap.size) 54 #[.int .i64 (n), .int .i64 (lv), .int .i64 (rk), .int .i64 (gp), .int .i64 (kd), .int .i64 (m7), .int .i64 (0), .int .i64 (lo), .int .i64 (hi), .slice a S.length C, .int .i64 (cn)] by rw [hw8]; exact Kx7.out.set_ 5 _)
    have Kr8 := hid (show Blk w8 w.heap.size 54 #[.int .i64 0, .int .i64 0, .int .i64 0, .int .i64 0, .int .i64 0, .int .i64 0, .int .i64 0, .int .i64 0, .int .i64 0, .slice none 0 0, .int .i64 0] by rw [hw8]; exact Kr7.out.far (by show _ ≠ w5.heap.size; omega) _)
    have h8 : Rdr w8 B R (N + 11) := by rw [hw8]; exact h7.setCell (by show _ ≤ w5.heap.size; omega) (by show w5.heap.size ≠ R; omega) _
    have G8 := hid (show w.grownBy w8 (some R) by rw [hw8]; exact only_setCell G7.out (.inr (by show _ ≤ w5.heap.size; omega)) _)
    have Os8 := hid (show Own enc2 2 49 w8 w4.heap.size (.slice a S.length C) S by rw [hw8]; exact Os7.out.far (by intro he; have h1 := (HLO.out _ he).2; revert h1; show w5.heap.size < w5.heap.size → False; omega) _)
    have z8 : w8.heap.size = w7.heap.size := by rw [hw8]; simp
    clear hw8
    go_wp2_with fail
    rw [← HW8.out]
    refine (pick_any _ _ _ _ _ h8 (by omega)).mono ?_
    rintro e w9 ⟨m9, rfl, a9, b9, c9, h9, g9⟩
    have G9 := hid (only_trans G8.out g9)
    have z9 := G9.out.size
    have Kx9 := hid (Kx8.out.grown g9 (by simp; omega))
    have Kr9 := hid (Kr8.out.grown g9 (by simp; omega))
    have Os9 := hid (Os8.out.grown g9 (Os8.out.off hRs))
    clear g9
    clear a9 b9 c9
    by_cases p0 : m9 = 0
    · have yp : (m9 == 0) = true := by rw [p0]; rfl
      clear p0
      go_wp2_with fail
      refine (one_any [50, 200, 1000, 7] _ _ _ _ _ _ _ h9 (by omega) (by first | rfl | omega | (simp; done) | (simp; omega)) rfl (by simp) rfl (by simp)).mono ?_
      rintro e w10 ⟨m10, rfl, hm10, h10, g10⟩
      have G10 := hid (only_trans G9.out g10)
      have z10 := G10.out.size
      have Kx10 := hid (Kx9.out.grown g10 (by simp; omega))
      have Kr10 := hid (Kr9.out.grown g10 (by simp; omega))
      have Os10 := hid (Os9.out.grown g10 (Os9.out.off hRs))
      clear g10
      clear hm10
      have e5 : w10.cell? ⟨w5.heap.size, 6, none⟩ = _ := Kx10.out.cell 6
      have ef : ∀ o, w10.frozen? ⟨w5.heap.size, o, none⟩ = false := Kx10.out.frozen
      have ez : w5.heap.size < w10.heap.size := Kx10.out.lt
      have KXn := hid (show Blk _ (w5.heap.size) 54 #[.int .i64 (n), .int .i64 (lv), .int .i64 (rk), .int .i64 (gp), .int .i64 (kd), .int .i64 (m7), .int .i64 (m10), .int .i64 (lo), .int .i64 (hi), .slice a S.length C, .int .i64 (cn)] from (Kx10.out.set_ 6 (.int .i64 m10)))
      have KRn := hid (Kr10.out.far (p := ⟨w5.heap.size, 6, none⟩) (by show _ ≠ w5.heap.size; omega) (.int .i64 m10))
      have Hn := hid (h10.setCell (p := ⟨w5.heap.size, 6, none⟩) (by show B ≤ w5.heap.size; omega) (by show w5.heap.size ≠ R; omega) (.int .i64 m10))
      have Gn := hid (only_setCell G10.out (p := ⟨w5.heap.size, 6, none⟩) (.inr (by show w.heap.size ≤ w5.heap.size; omega)) (.int .i64 m10))
      have On := hid (Os10.out.far (p := ⟨w5.heap.size, 6, none⟩) (by intro he; have h1 := (HLO.out _ he).2; revert h1; show w5.heap.size < w5.heap.size → False; omega) (.int .i64 m10))
      go_wp2_with (first | (refine wpList_load_row rfl 54 (.tmp 5) rfl (w5.heap.size) (by first | rfl | simp) 54 #[.int .i64 (n), .int .i64 (lv), .int .i64 (rk), .int .i64 (gp), .int .i64 (kd), .int .i64 (m7), .int .i64 (m10), .int .i64 (lo), .int .i64 (hi), .slice a S.length C, .int .i64 (cn)] (0, 0) _ KXn.out Tryz.underlying54 rfl sizeRule ?_) | (refine wpList_store_row rfl 54 (.tmp 4) (.tmp 47) rfl (w.heap.size) #[.int .i64 (n), .int .i64 (lv), .int .i64 (rk), .int .i64 (gp), .int .i64 (kd), .int .i64 (m7), .int .i64 (m10), .int .i64 (lo), .int .i64 (hi), .slice a S.length C, .int .i64 (cn)] (by first | rfl | simp) (by first | rfl | simp) 54 _ KRn.out sizeRule rfl (by simp [Value.oneCell']) ?_))
      exact bodyPost_ret (v := .agg #[.int .i64 (n), .int .i64 (lv), .int .i64 (rk), .int .i64 (gp), .int .i64 (kd), .int .i64 (m7), .int .i64 (m10), .int .i64 (lo), .int .i64 (hi), .slice a S.length C, .int .i64 (cn)]) (results_cell_row rfl _ _ (w.heap.size) 54 #[.int .i64 (n), .int .i64 (lv), .int .i64 (rk), .int .i64 (gp), .int .i64 (kd), .int .i64 (m7), .int .i64 (m10), .int .i64 (lo), .int .i64 (hi), .slice a S.length C, .int .i64 (cn)] (0, 0) _ (by first | rfl | simp) (KRn.out.setRow _) Tryz.underlying54 rfl sizeRule) rfl ⟨((_, _, _, _, _, _, _), (_, _), (_, _, S), _), rfl, (On.out.setRow (by intro he; have h1 := (HLO.out _ he).1; revert h1; show w4.heap.size ≤ w.heap.size → False; omega) _).less (by omega), ⟨sl1, (show S.length ≤ 4 by omega)⟩, (Hn.out.setRow (by omega) (by omega) _).more (by omega), grown_setRow Gn.out (.inr (by omega)) _⟩
    have yp : (m9 == 0) = false := beq_eq_false_iff_ne.2 p0
    clear p0
    have KXn := hid (show Blk _ (w5.heap.size) 54 #[.int .i64 (n), .int .i64 (lv), .int .i64 (rk), .int .i64 (gp), .int .i64 (kd), .int .i64 (m7), .int .i64 (0), .int .i64 (lo), .int .i64 (hi), .slice a S.length C, .int .i64 (cn)] from Kx9.out)
    have KRn := hid Kr9.out
    have Hn := hid h9
    have Gn := hid G9.out
    have On := hid Os9.out
    go_wp2_with (first | (refine wpList_load_row rfl 54 (.tmp 5) rfl (w5.heap.size) (by first | rfl | simp) 54 #[.int .i64 (n), .int .i64 (lv), .int .i64 (rk), .int .i64 (gp), .int .i64 (kd), .int .i64 (m7), .int .i64 (0), .int .i64 (lo), .int .i64 (hi), .slice a S.length C, .int .i64 (cn)] (0, 0) _ KXn.out Tryz.underlying54 rfl sizeRule ?_) | (refine wpList_store_row rfl 54 (.tmp 4) (.tmp 47) rfl (w.heap.size) #[.int .i64 (n), .int .i64 (lv), .int .i64 (rk), .int .i64 (gp), .int .i64 (kd), .int .i64 (m7), .int .i64 (0), .int .i64 (lo), .int .i64 (hi), .slice a S.length C, .int .i64 (cn)] (by first | rfl | simp) (by first | rfl | simp) 54 _ KRn.out sizeRule rfl (by simp [Value.oneCell']) ?_))
    exact bodyPost_ret (v := .agg #[.int .i64 (n), .int .i64 (lv), .int .i64 (rk), .int .i64 (gp), .int .i64 (kd), .int .i64 (m7), .int .i64 (0), .int .i64 (lo), .int .i64 (hi), .slice a S.length C, .int .i64 (cn)]) (results_cell_row rfl _ _ (w.heap.size) 54 #[.int .i64 (n), .int .i64 (lv), .int .i64 (rk), .int .i64 (gp), .int .i64 (kd), .int .i64 (m7), .int .i64 (0), .int .i64 (lo), .int .i64 (hi), .slice a S.length C, .int .i64 (cn)] (0, 0) _ (by first | rfl | simp) (KRn.out.setRow _) Tryz.underlying54 rfl sizeRule) rfl ⟨((_, _, _, _, _, _, _), (_, _), (_, _, S), _), rfl, (On.out.setRow (by intro he; have h1 := (HLO.out _ he).1; revert h1; show w4.heap.size ≤ w.heap.size → False; omega) _).less (by omega), ⟨sl1, (show S.length ≤ 4 by omega)⟩, (Hn.out.setRow (by omega) (by omega) _).more (by omega), grown_setRow Gn.out (.inr (by omega)) _⟩

end Go.Proofs.YtkgofklpogdpmaaGreat
