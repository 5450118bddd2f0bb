/- Contract of the generator of guards that may be wrong. -/
import Derived.Test.YtkgofklpogdpmaaGreatZDrawGuard
import Derived.Deep.RegionLaw
namespace Go.Proofs.YtkgofklpogdpmaaGreat
open Go.RowKit

/-- A row of the call's own is no block of another type. -/
theorem Own.off_blk {α : Type} {enc : α → List Value} {sz : Nat} {e t : TypeId} {base g : Nat} {w : World} {v : Value} {l : List α} {cs : Array Value} (h : Own enc sz e w base v l) (hb : Blk w g t cs) (ht : e ≠ t) : v.ownBlock ≠ some g := by
  rcases h.2 with ⟨h1, h2⟩ | ⟨k, cap, cur, h1, h2, h3, h4, h5, h6, h7⟩
  · subst h1; intro he; cases he
  · subst h1; intro he
    have h8 : k = g := Option.some.inj he
    subst h8
    unfold Blk at hb
    rw [h3] at hb
    injection hb with hb
    injection hb with _ h9
    exact ht h9
theorem infoSpan : (Tryz.prog.info? 49).map (fun i => (i.zero, i.size, i.bytes)) = some (some (.agg #[.int .i64 0, .int .i64 0]), 2, 16) := by kernel_rfl

set_option maxHeartbeats 6400000 in
set_option maxRecDepth 100000 in
theorem anyGuard_any (w : World) (B R N : Nat) (h : Rdr w B R N) (hN : N ≤ 600000) :
    Calls Tryz.prog 91 #[.pointer (some ⟨R, 0, none⟩)] w (GuardPost 4 w B R (N + 10)) := by
  have hR := h.lt
  have hRB := hR.1
  have hRw := hR.2
  clear hR
  have hi0 := h.alloc (.cells #[.int .i64 0, .int .i64 0, .slice none 0 0, .int .i64 0] 52)
  have G0 := hid (only_alloc (only_refl (w := w) (row := some R)) (.cells #[.int .i64 0, .int .i64 0, .slice none 0 0, .int .i64 0] 52))
  have Kr0 := hid (Blk.new w 52 #[.int .i64 0, .int .i64 0, .slice none 0 0, .int .i64 0])
  clear h
  go_enter Tryz.func91, Tryz.ntmps91
  go_wp2_with fail
  refine (someGuard_any _ _ _ _ hi0 (by omega)).mono ?_
  rintro e w1 ⟨lo, hi, cn, a, C, S, rfl, ⟨sl1, sl2⟩, o1, h1, g1⟩
  have G1 := hid (only_trans G0.out g1)
  have Kr1 := hid (Kr0.out.grown g1 (by simp; omega))
  have z1 : w.heap.size + 1 ≤ w1.heap.size := by have := g1.size; simp at this; omega
  rcases o1.form with ⟨_, h9⟩ | ⟨ga, C2, h9, gg1, gg2, _, _⟩
  · rw [h9] at sl1; simp at sl1
  injection h9 with h9a _ h9c
  subst h9a
  subst h9c
  have gg3 : w.heap.size + 1 ≤ ga := by simpa using gg1
  obtain ⟨sn, hsn⟩ : ∃ sn, S.length = sn := ⟨_, rfl⟩
  have HSL := hid hsn
  rw [hsn] at sl1 sl2 o1
  rw [hsn]
  have O1 := hid (o1.less (show w.heap.size + 1 ≤ _ by simp))
  obtain ⟨w2, hw2⟩ : ∃ x, x = w1.alloc (.cells #[.int .i64 lo, .int .i64 hi, .slice (some ⟨ga, 0, none⟩) sn C, .int .i64 cn] 52) := ⟨_, rfl⟩
  have HW2 := hid hw2
  have Kg2 := hid (Blk.new w1 52 #[.int .i64 lo, .int .i64 hi, .slice (some ⟨ga, 0, none⟩) sn C, .int .i64 cn])
  rw [← hw2] at Kg2
  have hz2 : w2.heap.size = w1.heap.size + 1 := by rw [hw2]; simp
  have Kr2 := hid (show Blk w2 w.heap.size 52 #[.int .i64 0, .int .i64 0, .slice none 0 0, .int .i64 0] by rw [hw2]; exact Kr1.out.alloc _)
  have G2 := hid (show w.grownBy w2 (some R) by rw [hw2]; exact only_alloc G1.out _)
  have h2 : Rdr w2 B R (N + 6) := by rw [hw2]; exact h1.alloc _
  have Os2 := hid (show Own enc2 2 49 w2 (w.heap.size + 1) (.slice (some ⟨ga, 0, none⟩) sn C) S by rw [hw2]; exact O1.out.alloc _)
  have hRs : R < w.heap.size + 1 := by omega
  have hgw : ga < w1.heap.size := gg2
  clear hw2 g1 o1 O1 h1 G1 Kr1 Kr0 G0 hi0 hsn gg1 gg2
  go_wp2_with fail
  rw [← HW2.out]
  refine (pick_any _ _ _ _ _ h2 (by omega)).mono ?_
  rintro e w6 ⟨m6, rfl, a6, b6, c6, h6, g6⟩
  have u6 := b6 (by omega)
  clear b6
  have G6 := hid (only_trans G2.out g6)
  have z6 := G6.out.size
  have Kg6 := hid (Kg2.out.grown g6 (by simp; omega))
  have Kr6 := hid (Kr2.out.grown g6 (by simp; omega))
  have Os6 := hid (Os2.out.grown g6 (Os2.out.off hRs))
  clear g6
  clear h2
  by_cases q0 : m6 = 0
  · have y0 : (m6 == 0) = true := by rw [q0]; rfl
    clear q0
    go_wp2_with fail
    refine (anySpan_any _ _ _ _ h6 (by omega)).mono ?_
    rintro e w7 ⟨x, y, rfl, h7, g7⟩
    have G7 := hid (only_trans G6.out g7)
    have z7 := G7.out.size
    have Kg7 := hid (Kg6.out.grown g7 (by simp; omega))
    have Kr7 := hid (Kr6.out.grown g7 (by simp; omega))
    have Os7 := hid (Os6.out.grown g7 (Os6.out.off hRs))
    clear g7
    have gk0 : w7.cell? ⟨w1.heap.size, 0, none⟩ = _ := Kg7.out.cell 0
    have gk1 : w7.cell? ⟨w1.heap.size, 1, none⟩ = _ := Kg7.out.cell 1
    have gk2 : w7.cell? ⟨w1.heap.size, 2, none⟩ = _ := Kg7.out.cell 2
    have gk3 : w7.cell? ⟨w1.heap.size, 3, none⟩ = _ := Kg7.out.cell 3
    have rk0 : w7.cell? ⟨w.heap.size, 0, none⟩ = _ := Kr7.out.cell 0
    have rk1 : w7.cell? ⟨w.heap.size, 1, none⟩ = _ := Kr7.out.cell 1
    have rk2 : w7.cell? ⟨w.heap.size, 2, none⟩ = _ := Kr7.out.cell 2
    have rk3 : w7.cell? ⟨w.heap.size, 3, none⟩ = _ := Kr7.out.cell 3
    have gf : ∀ o, w7.frozen? ⟨w1.heap.size, o, none⟩ = false := Kg7.out.frozen
    have rf : ∀ o, w7.frozen? ⟨w.heap.size, o, none⟩ = false := Kr7.out.frozen
    have gz : w1.heap.size < w7.heap.size := Kg7.out.lt
    have rz : w.heap.size < w7.heap.size := Kr7.out.lt
    have hn1 : w1.heap.size ≠ w.heap.size := by omega
    have hn2 : w.heap.size ≠ w1.heap.size := by omega
    have GG := hid ((only_setCell (only_setCell (only_setCell (only_setCell (only_setCell (only_setCell G7.out (p := ⟨w1.heap.size, 0, none⟩) (.inr (by show w.heap.size ≤ w1.heap.size; omega)) (.int .i64 x)) (p := ⟨w1.heap.size, 1, none⟩) (.inr (by show w.heap.size ≤ w1.heap.size; omega)) (.int .i64 y)) (p := ⟨w.heap.size, 0, none⟩) (.inr (by show w.heap.size ≤ w.heap.size; omega)) (.int .i64 (x))) (p := ⟨w.heap.size, 1, none⟩) (.inr (by show w.heap.size ≤ w.heap.size; omega)) (.int .i64 (y))) (p := ⟨w.heap.size, 2, none⟩) (.inr (by show w.heap.size ≤ w.heap.size; omega)) (.slice (some ⟨ga, 0, none⟩) sn C)) (p := ⟨w.heap.size, 3, none⟩) (.inr (by show w.heap.size ≤ w.heap.size; omega)) (.int .i64 (cn))))
    have HH := hid (((((((h7.setCell (p := ⟨w1.heap.size, 0, none⟩) (by show B ≤ w1.heap.size; omega) (by show w1.heap.size ≠ R; omega) (.int .i64 x)).setCell (p := ⟨w1.heap.size, 1, none⟩) (by show B ≤ w1.heap.size; omega) (by show w1.heap.size ≠ R; omega) (.int .i64 y)).setCell (p := ⟨w.heap.size, 0, none⟩) (by show B ≤ w.heap.size; omega) (by show w.heap.size ≠ R; omega) (.int .i64 (x))).setCell (p := ⟨w.heap.size, 1, none⟩) (by show B ≤ w.heap.size; omega) (by show w.heap.size ≠ R; omega) (.int .i64 (y))).setCell (p := ⟨w.heap.size, 2, none⟩) (by show B ≤ w.heap.size; omega) (by show w.heap.size ≠ R; omega) (.slice (some ⟨ga, 0, none⟩) sn C)).setCell (p := ⟨w.heap.size, 3, none⟩) (by show B ≤ w.heap.size; omega) (by show w.heap.size ≠ R; omega) (.int .i64 (cn))))
    have OO := hid (((((((Os7.out.far (p := ⟨w1.heap.size, 0, none⟩) (by intro he; have h1 := Option.some.inj he; revert h1; show ga = w1.heap.size → False; omega) (.int .i64 x)).far (p := ⟨w1.heap.size, 1, none⟩) (by intro he; have h1 := Option.some.inj he; revert h1; show ga = w1.heap.size → False; omega) (.int .i64 y)).far (p := ⟨w.heap.size, 0, none⟩) (by intro he; have h1 := Option.some.inj he; revert h1; show ga = w.heap.size → False; omega) (.int .i64 (x))).far (p := ⟨w.heap.size, 1, none⟩) (by intro he; have h1 := Option.some.inj he; revert h1; show ga = w.heap.size → False; omega) (.int .i64 (y))).far (p := ⟨w.heap.size, 2, none⟩) (by intro he; have h1 := Option.some.inj he; revert h1; show ga = w.heap.size → False; omega) (.slice (some ⟨ga, 0, none⟩) sn C)).far (p := ⟨w.heap.size, 3, none⟩) (by intro he; have h1 := Option.some.inj he; revert h1; show ga = w.heap.size → False; omega) (.int .i64 (cn))))
    go_wp2
    exact bodyPost_ret (v := .agg #[.int .i64 (x), .int .i64 (y), .slice (some ⟨ga, 0, none⟩) sn C, .int .i64 (cn)]) (by simp [results, Tryz.results91, go_sem, *]) rfl ⟨_, _, _, _, _, S, by rw [HSL.out], by rw [HSL.out]; omega, by rw [HSL.out]; exact OO.out.less (by omega), HH.out.more (by omega), GG.out⟩
  have y0 : (m6 == 0) = false := beq_eq_false_iff_ne.2 q0
  clear q0
  by_cases q1 : m6 = 1
  · have y1 : (m6 == 1) = true := by rw [q1]; rfl
    clear q1
    have s2 : w6.cell? ⟨w1.heap.size, 2, none⟩ = some (.slice (some ⟨ga, 0, none⟩) sn C) := Kg6.out.cell 2
    have h9 : Rdr w6.drew B R (N + 6 + 1) := h6
    have G9 := hid (only_drew G6.out)
    have Kg9 := hid (show Blk w6.drew w1.heap.size 52 #[.int .i64 lo, .int .i64 hi, .slice (some ⟨ga, 0, none⟩) sn C, .int .i64 cn] from Kg6.out)
    have Kr9 := hid (show Blk w6.drew w.heap.size 52 #[.int .i64 0, .int .i64 0, .slice none 0 0, .int .i64 0] from Kr6.out)
    have Os9 := hid (Os6.out.drew)
    have z9 := G9.out.size
    have hS4 : S.length ≤ 4 := by rw [HSL.out]; omega
    go_wp2_with fail
    go_region_law (first
      | (go_simp; go_at_call 108; refine (anySpan_any _ _ _ _ h9 (by omega)).mono ?_; rintro e w7 ⟨x, y, rfl, h7, g7⟩; have G7 := hid (only_trans G9.out g7); have z7 := G7.out.size; have Kg7 := hid (Kg9.out.grown g7 (by simp; omega)); have Kr7 := hid (Kr9.out.grown g7 (by simp; omega)); have Os7 := hid (Os9.out.grown g7 (Os9.out.off hRs)); clear g7; have s7 : w7.cell? ⟨w1.heap.size, 2, none⟩ = some (.slice (some ⟨ga, 0, none⟩) sn C) := Kg7.out.cell 2; have y7 : w1.heap.size < w7.heap.size := Kg7.out.lt; have e2 : w7.frozen? ⟨w1.heap.size, 2, none⟩ = false := Kg7.out.frozen 2; have v7 : w.heap.size + 1 ≤ w7.heap.size := (by omega))
      | (refine step_push0 len2 one2 (by rfl) _ _ _ (by rfl) Tryz.underlying50 infoSpan rfl (by omega) (by omega) (by rfl) Os7.out (x, y) (by rfl) (by rfl) (by rfl) (by omega) (by omega) ?_; intro v8 w8 o8 g8; obtain ⟨A8, n8, k8, rfl⟩ : ∃ A n c, v8 = Value.slice A n c := (by obtain ⟨A9, c9, hv9, _⟩ := o8.reads len2; exact ⟨_, _, _, hv9⟩); have Kg8 := hid ((Kg7.out.alloc (.cells #[.int .i64 x, .int .i64 y] 49)).grown g8 (by intro he; have h1 : w1.heap.size = ga := Option.some.inj he; omega)); have Kr8 := hid ((Kr7.out.alloc (.cells #[.int .i64 x, .int .i64 y] 49)).grown g8 (by intro he; have h1 : w.heap.size = ga := Option.some.inj he; omega)); have h8 := (h7.alloc (.cells #[.int .i64 x, .int .i64 y] 49)).row Os7.out hRs (by omega) g8; have G8 := hid (only_row (only_alloc G7.out (.cells #[.int .i64 x, .int .i64 y] 49)) Os7.out (by omega) g8); have s8 : w8.cell? ⟨w1.heap.size, 2, none⟩ = some (.slice (some ⟨ga, 0, none⟩) sn C) := Kg8.out.cell 2; have y8 : w1.heap.size < w8.heap.size := Kg8.out.lt; have f8 : w8.frozen? ⟨w1.heap.size, 2, none⟩ = false := Kg8.out.frozen 2))
    all_goals
      rcases o8.form with ⟨_, h9x⟩ | ⟨ga8, C8, h9x, gg8, _, _, _⟩
      · exact absurd h9x (by simp)
      injection h9x with h9a h9b h9c
      subst h9a
      subst h9c
      have hg8 : ga8 ≠ w1.heap.size := fun he => o8.off_blk Kg8.out (by decide) (congrArg some he)
      have hL1 : 1 ≤ n8 := by rw [h9b, List.length_append]; simp
      have hL2 : n8 ≤ 4 := by rw [h9b, List.length_append, HSL.out]; simp; omega
      have HSL8 := hid h9b.symm
      obtain ⟨w10, hw10⟩ : ∃ x', x' = w8.setCell ⟨w1.heap.size, 2, none⟩ (.slice (some ⟨ga8, 0, none⟩) n8 k8) := ⟨_, rfl⟩
      have HW10 := hid hw10
      have Kg10 := hid (show Blk w10 w1.heap.size 52 #[.int .i64 lo, .int .i64 hi, .slice (some ⟨ga8, 0, none⟩) n8 k8, .int .i64 cn] by rw [hw10]; exact Kg8.out.set_ 2 _)
      have Kr10 := hid (show Blk w10 w.heap.size 52 #[.int .i64 0, .int .i64 0, .slice none 0 0, .int .i64 0] by rw [hw10]; exact Kr8.out.far (by show _ ≠ w1.heap.size; omega) _)
      have h10 : Rdr w10 B R (N + 6 + 1 + 3) := by rw [hw10]; exact h8.setCell (by show _ ≤ w1.heap.size; omega) (by show w1.heap.size ≠ R; omega) _
      have G10 := hid (show w.grownBy w10 (some R) by rw [hw10]; exact only_setCell G8.out (.inr (by show _ ≤ w1.heap.size; omega)) _)
      have Os10 := hid (show Own enc2 2 49 w10 (w.heap.size + 1) (.slice (some ⟨ga8, 0, none⟩) n8 k8) (S ++ [(x, y)]) by rw [hw10]; exact o8.far (by intro he; have h1 : some ga8 = some w1.heap.size := he; exact hg8 (Option.some.inj h1)) _)
      have gg9 : w.heap.size + 1 ≤ ga8 := gg8
      clear hw10 o8 h9b s8 s7 s2 e2 y7 f8 h8 h7
      rw [← HW10.out]
      have gk0 : w10.cell? ⟨w1.heap.size, 0, none⟩ = _ := Kg10.out.cell 0
      have gk1 : w10.cell? ⟨w1.heap.size, 1, none⟩ = _ := Kg10.out.cell 1
      have gk2 : w10.cell? ⟨w1.heap.size, 2, none⟩ = _ := Kg10.out.cell 2
      have gk3 : w10.cell? ⟨w1.heap.size, 3, none⟩ = _ := Kg10.out.cell 3
      have rk0 : w10.cell? ⟨w.heap.size, 0, none⟩ = _ := Kr10.out.cell 0
      have rk1 : w10.cell? ⟨w.heap.size, 1, none⟩ = _ := Kr10.out.cell 1
      have rk2 : w10.cell? ⟨w.heap.size, 2, none⟩ = _ := Kr10.out.cell 2
      have rk3 : w10.cell? ⟨w.heap.size, 3, none⟩ = _ := Kr10.out.cell 3
      have gf : ∀ o, w10.frozen? ⟨w1.heap.size, o, none⟩ = false := Kg10.out.frozen
      have rf : ∀ o, w10.frozen? ⟨w.heap.size, o, none⟩ = false := Kr10.out.frozen
      have gz : w1.heap.size < w10.heap.size := Kg10.out.lt
      have rz : w.heap.size < w10.heap.size := Kr10.out.lt
      have hn1 : w1.heap.size ≠ w.heap.size := by omega
      have hn2 : w.heap.size ≠ w1.heap.size := by omega
      have GG := hid ((only_setCell (only_setCell (only_setCell (only_setCell G10.out (p := ⟨w.heap.size, 0, none⟩) (.inr (by show w.heap.size ≤ w.heap.size; omega)) (.int .i64 (lo))) (p := ⟨w.heap.size, 1, none⟩) (.inr (by show w.heap.size ≤ w.heap.size; omega)) (.int .i64 (hi))) (p := ⟨w.heap.size, 2, none⟩) (.inr (by show w.heap.size ≤ w.heap.size; omega)) (.slice (some ⟨ga8, 0, none⟩) n8 k8)) (p := ⟨w.heap.size, 3, none⟩) (.inr (by show w.heap.size ≤ w.heap.size; omega)) (.int .i64 (cn))))
      have HH := hid (((((h10.setCell (p := ⟨w.heap.size, 0, none⟩) (by show B ≤ w.heap.size; omega) (by show w.heap.size ≠ R; omega) (.int .i64 (lo))).setCell (p := ⟨w.heap.size, 1, none⟩) (by show B ≤ w.heap.size; omega) (by show w.heap.size ≠ R; omega) (.int .i64 (hi))).setCell (p := ⟨w.heap.size, 2, none⟩) (by show B ≤ w.heap.size; omega) (by show w.heap.size ≠ R; omega) (.slice (some ⟨ga8, 0, none⟩) n8 k8)).setCell (p := ⟨w.heap.size, 3, none⟩) (by show B ≤ w.heap.size; omega) (by show w.heap.size ≠ R; omega) (.int .i64 (cn))))
      have OO := hid (((((Os10.out.far (p := ⟨w.heap.size, 0, none⟩) (by intro he; have h1 := Option.some.inj he; revert h1; show ga8 = w.heap.size → False; omega) (.int .i64 (lo))).far (p := ⟨w.heap.size, 1, none⟩) (by intro he; have h1 := Option.some.inj he; revert h1; show ga8 = w.heap.size → False; omega) (.int .i64 (hi))).far (p := ⟨w.heap.size, 2, none⟩) (by intro he; have h1 := Option.some.inj he; revert h1; show ga8 = w.heap.size → False; omega) (.slice (some ⟨ga8, 0, none⟩) n8 k8)).far (p := ⟨w.heap.size, 3, none⟩) (by intro he; have h1 := Option.some.inj he; revert h1; show ga8 = w.heap.size → False; omega) (.int .i64 (cn))))
      go_wp2
      exact bodyPost_ret (v := .agg #[.int .i64 (lo), .int .i64 (hi), .slice (some ⟨ga8, 0, none⟩) n8 k8, .int .i64 (cn)]) (by simp [results, Tryz.results91, go_sem, *]) rfl ⟨_, _, _, _, _, (S ++ [(x, y)]), by rw [HSL8.out], by rw [HSL8.out]; omega, by rw [HSL8.out]; exact OO.out.less (by omega), HH.out.more (by omega), GG.out⟩
  have y1 : (m6 == 1) = false := beq_eq_false_iff_ne.2 q1
  clear q1
  by_cases q2 : m6 = 2
  · have y2 : (m6 == 2) = true := by rw [q2]; rfl
    clear q2
    obtain ⟨⟨x0, y0v⟩, hS0⟩ : ∃ p, S[0]? = some p := ⟨_, List.getElem?_eq_getElem (by rw [HSL.out]; omega)⟩
    have HS0 := hid hS0
    clear hS0
    have x1 : w6.cell? ⟨ga, 0, none⟩ = some (.int .i64 x0) := (by simpa using Os6.out.cell len2 HSL.out.symm HS0.out (j := 0) rfl)
    have x2 : w6.cell? ⟨ga, 1, none⟩ = some (.int .i64 y0v) := (by simpa using Os6.out.cell len2 HSL.out.symm HS0.out (j := 1) rfl)
    have x3 : ∀ o, w6.frozen? ⟨ga, o, none⟩ = false := fun o => Os6.out.frozen HSL.out.symm o
    have x4 : ga < w6.heap.size := (by have := Kg6.out.lt; omega)
    have x6 : w1.heap.size ≠ ga := (by omega)
    have x7 : ga ≠ w1.heap.size := (by omega)
    have x8 : w.heap.size ≠ ga := (by omega)
    have x9 : ga ≠ w.heap.size := (by omega)
    have o7 := ((Os6.out.store len2 HSL.out.symm HS0.out (j := 0) (a' := (5, y0v)) (by omega) (u := .int .i64 5) rfl).store len2 (by rw [List.length_set]; exact HSL.out.symm) (List.getElem?_set_self (by rw [HSL.out]; omega)) (j := 1) (a' := (5, 4)) (by omega) (u := .int .i64 4) rfl)
    have HSL7 := hid (show ((S.set 0 (5, y0v)).set 0 (5, 4)).length = sn by rw [List.length_set, List.length_set, HSL.out])
    obtain ⟨S7, hS7⟩ : ∃ S9, (S.set 0 (5, y0v)).set 0 (5, 4) = S9 := ⟨_, rfl⟩
    rw [hS7] at o7 HSL7
    have Os7 := hid (show Own enc2 2 49 ((w6.setCell ⟨ga, 0, none⟩ (.int .i64 5)).setCell ⟨ga, 1, none⟩ (.int .i64 4)) (w.heap.size + 1) (.slice (some ⟨ga, 0, none⟩) sn C) S7 by simpa using o7)
    clear o7 hS7
    have gk0 : w6.cell? ⟨w1.heap.size, 0, none⟩ = _ := Kg6.out.cell 0
    have gk1 : w6.cell? ⟨w1.heap.size, 1, none⟩ = _ := Kg6.out.cell 1
    have gk2 : w6.cell? ⟨w1.heap.size, 2, none⟩ = _ := Kg6.out.cell 2
    have gk3 : w6.cell? ⟨w1.heap.size, 3, none⟩ = _ := Kg6.out.cell 3
    have rk0 : w6.cell? ⟨w.heap.size, 0, none⟩ = _ := Kr6.out.cell 0
    have rk1 : w6.cell? ⟨w.heap.size, 1, none⟩ = _ := Kr6.out.cell 1
    have rk2 : w6.cell? ⟨w.heap.size, 2, none⟩ = _ := Kr6.out.cell 2
    have rk3 : w6.cell? ⟨w.heap.size, 3, none⟩ = _ := Kr6.out.cell 3
    have gf : ∀ o, w6.frozen? ⟨w1.heap.size, o, none⟩ = false := Kg6.out.frozen
    have rf : ∀ o, w6.frozen? ⟨w.heap.size, o, none⟩ = false := Kr6.out.frozen
    have gz : w1.heap.size < w6.heap.size := Kg6.out.lt
    have rz : w.heap.size < w6.heap.size := Kr6.out.lt
    have hn1 : w1.heap.size ≠ w.heap.size := by omega
    have hn2 : w.heap.size ≠ w1.heap.size := by omega
    have GG := hid ((only_setCell (only_setCell (only_setCell (only_setCell (only_setCell (only_setCell G6.out (p := ⟨ga, 0, none⟩) (.inr (by show w.heap.size ≤ ga; omega)) (.int .i64 5)) (p := ⟨ga, 1, none⟩) (.inr (by show w.heap.size ≤ ga; omega)) (.int .i64 4)) (p := ⟨w.heap.size, 0, none⟩) (.inr (by show w.heap.size ≤ w.heap.size; omega)) (.int .i64 (lo))) (p := ⟨w.heap.size, 1, none⟩) (.inr (by show w.heap.size ≤ w.heap.size; omega)) (.int .i64 (hi))) (p := ⟨w.heap.size, 2, none⟩) (.inr (by show w.heap.size ≤ w.heap.size; omega)) (.slice (some ⟨ga, 0, none⟩) sn C)) (p := ⟨w.heap.size, 3, none⟩) (.inr (by show w.heap.size ≤ w.heap.size; omega)) (.int .i64 (cn))))
    have HH := hid (((((((h6.setCell (p := ⟨ga, 0, none⟩) (by show B ≤ ga; omega) (by show ga ≠ R; omega) (.int .i64 5)).setCell (p := ⟨ga, 1, none⟩) (by show B ≤ ga; omega) (by show ga ≠ R; omega) (.int .i64 4)).setCell (p := ⟨w.heap.size, 0, none⟩) (by show B ≤ w.heap.size; omega) (by show w.heap.size ≠ R; omega) (.int .i64 (lo))).setCell (p := ⟨w.heap.size, 1, none⟩) (by show B ≤ w.heap.size; omega) (by show w.heap.size ≠ R; omega) (.int .i64 (hi))).setCell (p := ⟨w.heap.size, 2, none⟩) (by show B ≤ w.heap.size; omega) (by show w.heap.size ≠ R; omega) (.slice (some ⟨ga, 0, none⟩) sn C)).setCell (p := ⟨w.heap.size, 3, none⟩) (by show B ≤ w.heap.size; omega) (by show w.heap.size ≠ R; omega) (.int .i64 (cn))))
    have OO := hid (((((Os7.out.far (p := ⟨w.heap.size, 0, none⟩) (by intro he; have h1 := Option.some.inj he; revert h1; show ga = w.heap.size → False; omega) (.int .i64 (lo))).far (p := ⟨w.heap.size, 1, none⟩) (by intro he; have h1 := Option.some.inj he; revert h1; show ga = w.heap.size → False; omega) (.int .i64 (hi))).far (p := ⟨w.heap.size, 2, none⟩) (by intro he; have h1 := Option.some.inj he; revert h1; show ga = w.heap.size → False; omega) (.slice (some ⟨ga, 0, none⟩) sn C)).far (p := ⟨w.heap.size, 3, none⟩) (by intro he; have h1 := Option.some.inj he; revert h1; show ga = w.heap.size → False; omega) (.int .i64 (cn))))
    go_wp2
    exact bodyPost_ret (v := .agg #[.int .i64 (lo), .int .i64 (hi), .slice (some ⟨ga, 0, none⟩) sn C, .int .i64 (cn)]) (by simp [results, Tryz.results91, go_sem, *]) rfl ⟨_, _, _, _, _, S7, by rw [HSL7.out], by rw [HSL7.out]; omega, by rw [HSL7.out]; exact OO.out.less (by omega), HH.out.more (by omega), GG.out⟩
  have y2 : (m6 == 2) = false := beq_eq_false_iff_ne.2 q2
  clear q2
  by_cases q3 : m6 = 3
  · have y3 : (m6 == 3) = true := by rw [q3]; rfl
    clear q3
    go_wp2_with fail
    refine (one_any [-1, 9, 10] _ _ _ _ _ _ _ h6 (by omega) (by simp) rfl (by simp) rfl (by simp)).mono ?_
    rintro e w7 ⟨m7, rfl, hm7, h7, g7⟩
    have G7 := hid (only_trans G6.out g7)
    have z7 := G7.out.size
    have Kg7 := hid (Kg6.out.grown g7 (by simp; omega))
    have Kr7 := hid (Kr6.out.grown g7 (by simp; omega))
    have Os7 := hid (Os6.out.grown g7 (Os6.out.off hRs))
    clear g7
    clear hm7
    have gk0 : w7.cell? ⟨w1.heap.size, 0, none⟩ = _ := Kg7.out.cell 0
    have gk1 : w7.cell? ⟨w1.heap.size, 1, none⟩ = _ := Kg7.out.cell 1
    have gk2 : w7.cell? ⟨w1.heap.size, 2, none⟩ = _ := Kg7.out.cell 2
    have gk3 : w7.cell? ⟨w1.heap.size, 3, none⟩ = _ := Kg7.out.cell 3
    have rk0 : w7.cell? ⟨w.heap.size, 0, none⟩ = _ := Kr7.out.cell 0
    have rk1 : w7.cell? ⟨w.heap.size, 1, none⟩ = _ := Kr7.out.cell 1
    have rk2 : w7.cell? ⟨w.heap.size, 2, none⟩ = _ := Kr7.out.cell 2
    have rk3 : w7.cell? ⟨w.heap.size, 3, none⟩ = _ := Kr7.out.cell 3
    have gf : ∀ o, w7.frozen? ⟨w1.heap.size, o, none⟩ = false := Kg7.out.frozen
    have rf : ∀ o, w7.frozen? ⟨w.heap.size, o, none⟩ = false := Kr7.out.frozen
    have gz : w1.heap.size < w7.heap.size := Kg7.out.lt
    have rz : w.heap.size < w7.heap.size := Kr7.out.lt
    have hn1 : w1.heap.size ≠ w.heap.size := by omega
    have hn2 : w.heap.size ≠ w1.heap.size := by omega
    have GG := hid ((only_setCell (only_setCell (only_setCell (only_setCell (only_setCell G7.out (p := ⟨w1.heap.size, 3, none⟩) (.inr (by show w.heap.size ≤ w1.heap.size; omega)) (.int .i64 m7)) (p := ⟨w.heap.size, 0, none⟩) (.inr (by show w.heap.size ≤ w.heap.size; omega)) (.int .i64 (lo))) (p := ⟨w.heap.size, 1, none⟩) (.inr (by show w.heap.size ≤ w.heap.size; omega)) (.int .i64 (hi))) (p := ⟨w.heap.size, 2, none⟩) (.inr (by show w.heap.size ≤ w.heap.size; omega)) (.slice (some ⟨ga, 0, none⟩) sn C)) (p := ⟨w.heap.size, 3, none⟩) (.inr (by show w.heap.size ≤ w.heap.size; omega)) (.int .i64 (m7))))
    have HH := hid ((((((h7.setCell (p := ⟨w1.heap.size, 3, none⟩) (by show B ≤ w1.heap.size; omega) (by show w1.heap.size ≠ R; omega) (.int .i64 m7)).setCell (p := ⟨w.heap.size, 0, none⟩) (by show B ≤ w.heap.size; omega) (by show w.heap.size ≠ R; omega) (.int .i64 (lo))).setCell (p := ⟨w.heap.size, 1, none⟩) (by show B ≤ w.heap.size; omega) (by show w.heap.size ≠ R; omega) (.int .i64 (hi))).setCell (p := ⟨w.heap.size, 2, none⟩) (by show B ≤ w.heap.size; omega) (by show w.heap.size ≠ R; omega) (.slice (some ⟨ga, 0, none⟩) sn C)).setCell (p := ⟨w.heap.size, 3, none⟩) (by show B ≤ w.heap.size; omega) (by show w.heap.size ≠ R; omega) (.int .i64 (m7))))
    have OO := hid ((((((Os7.out.far (p := ⟨w1.heap.size, 3, none⟩) (by intro he; have h1 := Option.some.inj he; revert h1; show ga = w1.heap.size → False; omega) (.int .i64 m7)).far (p := ⟨w.heap.size, 0, none⟩) (by intro he; have h1 := Option.some.inj he; revert h1; show ga = w.heap.size → False; omega) (.int .i64 (lo))).far (p := ⟨w.heap.size, 1, none⟩) (by intro he; have h1 := Option.some.inj he; revert h1; show ga = w.heap.size → False; omega) (.int .i64 (hi))).far (p := ⟨w.heap.size, 2, none⟩) (by intro he; have h1 := Option.some.inj he; revert h1; show ga = w.heap.size → False; omega) (.slice (some ⟨ga, 0, none⟩) sn C)).far (p := ⟨w.heap.size, 3, none⟩) (by intro he; have h1 := Option.some.inj he; revert h1; show ga = w.heap.size → False; omega) (.int .i64 (m7))))
    go_wp2
    exact bodyPost_ret (v := .agg #[.int .i64 (lo), .int .i64 (hi), .slice (some ⟨ga, 0, none⟩) sn C, .int .i64 (m7)]) (by simp [results, Tryz.results91, go_sem, *]) rfl ⟨_, _, _, _, _, S, by rw [HSL.out], by rw [HSL.out]; omega, by rw [HSL.out]; exact OO.out.less (by omega), HH.out.more (by omega), GG.out⟩
  have y3 : (m6 == 3) = false := beq_eq_false_iff_ne.2 q3
  clear q3
  have gk0 : w6.cell? ⟨w1.heap.size, 0, none⟩ = _ := Kg6.out.cell 0
  have gk1 : w6.cell? ⟨w1.heap.size, 1, none⟩ = _ := Kg6.out.cell 1
  have gk2 : w6.cell? ⟨w1.heap.size, 2, none⟩ = _ := Kg6.out.cell 2
  have gk3 : w6.cell? ⟨w1.heap.size, 3, none⟩ = _ := Kg6.out.cell 3
  have rk0 : w6.cell? ⟨w.heap.size, 0, none⟩ = _ := Kr6.out.cell 0
  have rk1 : w6.cell? ⟨w.heap.size, 1, none⟩ = _ := Kr6.out.cell 1
  have rk2 : w6.cell? ⟨w.heap.size, 2, none⟩ = _ := Kr6.out.cell 2
  have rk3 : w6.cell? ⟨w.heap.size, 3, none⟩ = _ := Kr6.out.cell 3
  have gf : ∀ o, w6.frozen? ⟨w1.heap.size, o, none⟩ = false := Kg6.out.frozen
  have rf : ∀ o, w6.frozen? ⟨w.heap.size, o, none⟩ = false := Kr6.out.frozen
  have gz : w1.heap.size < w6.heap.size := Kg6.out.lt
  have rz : w.heap.size < w6.heap.size := Kr6.out.lt
  have hn1 : w1.heap.size ≠ w.heap.size := by omega
  have hn2 : w.heap.size ≠ w1.heap.size := by omega
  have GG := hid ((only_setCell (only_setCell (only_setCell (only_setCell G6.out (p := ⟨w.heap.size, 0, none⟩) (.inr (by show w.heap.size ≤ w.heap.size; omega)) (.int .i64 (lo))) (p := ⟨w.heap.size, 1, none⟩) (.inr (by show w.heap.size ≤ w.heap.size; omega)) (.int .i64 (hi))) (p := ⟨w.heap.size, 2, none⟩) (.inr (by show w.heap.size ≤ w.heap.size; omega)) (.slice (some ⟨ga, 0, none⟩) sn C)) (p := ⟨w.heap.size, 3, none⟩) (.inr (by show w.heap.size ≤ w.heap.size; omega)) (.int .i64 (cn))))
  have HH := hid (((((h6.setCell (p := ⟨w.heap.size, 0, none⟩) (by show B ≤ w.heap.size; omega) (by show w.heap.size ≠ R; omega) (.int .i64 (lo))).setCell (p := ⟨w.heap.size, 1, none⟩) (by show B ≤ w.heap.size; omega) (by show w.heap.size ≠ R; omega) (.int .i64 (hi))).setCell (p := ⟨w.heap.size, 2, none⟩) (by show B ≤ w.heap.size; omega) (by show w.heap.size ≠ R; omega) (.slice (some ⟨ga, 0, none⟩) sn C)).setCell (p := ⟨w.heap.size, 3, none⟩) (by show B ≤ w.heap.size; omega) (by show w.heap.size ≠ R; omega) (.int .i64 (cn))))
  have OO := hid (((((Os6.out.far (p := ⟨w.heap.size, 0, none⟩) (by intro he; have h1 := Option.some.inj he; revert h1; show ga = w.heap.size → False; omega) (.int .i64 (lo))).far (p := ⟨w.heap.size, 1, none⟩) (by intro he; have h1 := Option.some.inj he; revert h1; show ga = w.heap.size → False; omega) (.int .i64 (hi))).far (p := ⟨w.heap.size, 2, none⟩) (by intro he; have h1 := Option.some.inj he; revert h1; show ga = w.heap.size → False; omega) (.slice (some ⟨ga, 0, none⟩) sn C)).far (p := ⟨w.heap.size, 3, none⟩) (by intro he; have h1 := Option.some.inj he; revert h1; show ga = w.heap.size → False; omega) (.int .i64 (cn))))
  go_wp2
  exact bodyPost_ret (v := .agg #[.int .i64 (lo), .int .i64 (hi), .slice (some ⟨ga, 0, none⟩) sn C, .int .i64 (cn)]) (by simp [results, Tryz.results91, go_sem, *]) rfl ⟨_, _, _, _, _, S, by rw [HSL.out], by rw [HSL.out]; omega, by rw [HSL.out]; exact OO.out.less (by omega), HH.out.more (by omega), GG.out⟩

end Go.Proofs.YtkgofklpogdpmaaGreat
