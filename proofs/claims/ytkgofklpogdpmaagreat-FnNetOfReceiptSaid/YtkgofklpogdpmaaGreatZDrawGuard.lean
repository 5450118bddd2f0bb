/- Contracts of the generators of guards. -/
import Derived.Test.YtkgofklpogdpmaaGreatZD
import Derived.Test.YtkgofklpogdpmaaGreatZG
import Derived.Deep.RegionHeld3
namespace Go.Proofs.YtkgofklpogdpmaaGreat
open Go.RowKit

set_option maxHeartbeats 800000 in
/-- One of some numbers that lie in a row of the call's own. -/
theorem one_own (l : List Int) (n c : Nat) (A : Option Addr) (w : World) (B R N base : Nat) (h : Rdr w B R N) (hN : N ≤ 1000000) (hb : R < base) (hn : n = l.length) (h0 : 0 < l.length) (hl : l.length ≤ 1000000) (ho : Own enc1 1 3 w base (.slice A n c) l) :
    Calls Tryz.prog 68 #[.pointer (some ⟨R, 0, none⟩), .slice A n c] w (SomePost w B R N) := by
  subst hn
  have h0' : 0 < (l.length : Int) := by omega
  go_enter Tryz.func68, Tryz.ntmps68
  go_wp2_with fail
  refine (pick_any _ _ _ _ _ h hN).mono ?_
  rintro e w1 ⟨m, rfl, m1, m2, m3, h2, hg⟩
  have m4 := m2 (by omega)
  clear m2
  obtain ⟨k, rfl⟩ : ∃ k : Nat, m = (k : Int) := ⟨m.toNat, by omega⟩
  have hk : k < l.length := by omega
  obtain ⟨b, off, rfl, hbw, c1⟩ := ((ho.grown hg (ho.off hb)).sl len1).get1 hk
  have G := hid hg
  clear hg ho h m1 m3
  go_wp2
  go_ret
  exact ⟨_, rfl, h2, G.out⟩

/-- A guard that is made: all but the reader is as it was. -/
def GSt (w x : World) (R base gb rb : Nat) (cg cr : Array Value) (v : Value) (S : List (Int × Int)) : Prop := w.grownBy x (some R) ∧ Blk x gb 52 cg ∧ Blk x rb 52 cr ∧ Own enc2 2 49 x base v S
theorem GSt.alloc {w x : World} {R base gb rb : Nat} {cg cr : Array Value} {v : Value} {S : List (Int × Int)} (h : GSt w x R base gb rb cg cr v S) (o : Obj) : GSt w (x.alloc o) R base gb rb cg cr v S := ⟨only_alloc h.1 o, h.2.1.alloc o, h.2.2.1.alloc o, h.2.2.2.alloc o⟩
theorem GSt.grown {w x y : World} {R base gb rb : Nat} {cg cr : Array Value} {v : Value} {S : List (Int × Int)} (h : GSt w x R base gb rb cg cr v S) (hg : x.grownBy y (some R)) (h1 : R < base) (h2 : R < gb) (h3 : R < rb) : GSt w y R base gb rb cg cr v S :=
  ⟨only_trans h.1 hg, h.2.1.grown hg (by simp; omega), h.2.2.1.grown hg (by simp; omega), h.2.2.2.grown hg (h.2.2.2.off h1)⟩

theorem trip_get {k : Nat} (h : k < 3) : ([((0 : Int), (1000000 : Int)), (0, 1000000), (0, 1000000)] : List (Int × Int))[k]? = some (0, 1000000) := by
  match k, h with
  | 0, _ => rfl
  | 1, _ => rfl
  | 2, _ => rfl
/-- A guard whose spans lie in a row of the call's own. -/
def GuardPost (K : Nat) (w : World) (B R M : Nat) (e : Ending) (w' : World) : Prop :=
  ∃ (lo hi cn : Int) (a : Option Addr) (C : Nat) (S : List (Int × Int)), e = .returned (.agg #[.int .i64 lo, .int .i64 hi, .slice a S.length C, .int .i64 cn]) ∧ (1 ≤ S.length ∧ S.length ≤ K) ∧ Own enc2 2 49 w' w.heap.size (.slice a S.length C) S ∧ Rdr w' B R M ∧ w.grownBy w' (some R)

set_option maxHeartbeats 6400000 in
set_option maxRecDepth 100000 in
theorem someGuard_any (w : World) (B R N : Nat) (h : Rdr w B R N) (hN : N ≤ 700000) :
    Calls Tryz.prog 92 #[.pointer (some ⟨R, 0, none⟩)] w (GuardPost 3 w B R (N + 6)) := by
  have hR := h.lt
  have hRB := hR.1
  have hRw := hR.2
  clear hR
  have Kr0 := hid (Blk.new w 52 #[.int .i64 0, .int .i64 0, .slice none 0 0, .int .i64 0])
  obtain ⟨w0, hw0⟩ : ∃ x, x = w.alloc (.cells #[.int .i64 0, .int .i64 0, .slice none 0 0, .int .i64 0] 52) := ⟨_, rfl⟩
  rw [← hw0] at Kr0
  have HW0 := hid hw0
  have D0 := hid (show Below w.heap.size w w0 by rw [hw0]; exact (Below.refl _ _).alloc (Nat.le_refl _) _)
  have hz0 : w0.heap.size = w.heap.size + 1 := by rw [hw0]; simp
  clear hw0
  go_enter Tryz.func92, Tryz.ntmps92
  go_wp2_with fail
  rw [← HW0.out]
  refine (all_any w0).mono ?_
  rintro e w1 ⟨rfl, b1⟩
  have B1 := hid b1
  have z1 := b1.size
  clear b1
  go_wp2_with fail
  refine (all_any w1).mono ?_
  rintro e w2 ⟨rfl, b2⟩
  have B2 := hid (B1.out.trans (b2.mono z1))
  have z2 := B2.out.size
  clear b2
  go_wp2_with fail
  refine (all_any w2).mono ?_
  rintro e w3 ⟨rfl, b3⟩
  have B3 := hid (B2.out.trans (b3.mono z2))
  have z3 := B3.out.size
  clear b3
  go_wp2_with fail
  refine (all_any w3).mono ?_
  rintro e w4 ⟨rfl, b4⟩
  have B4 := hid (B3.out.trans (b4.mono z3))
  have z4 := B4.out.size
  clear b4
  obtain ⟨w5, hw5⟩ : ∃ x, x = (w4.alloc (.cells #[.int .i64 0, .int .i64 1000000, .int .i64 0, .int .i64 1000000, .int .i64 0, .int .i64 1000000] 49)).alloc (.cells #[.int .i64 0, .int .i64 1000000, .slice (some ⟨w4.heap.size, 0, none⟩) 3 3, .int .i64 0] 52) := ⟨_, rfl⟩
  have HW5 := hid hw5
  have hz5 : w5.heap.size = w4.heap.size + 1 + 1 := by rw [hw5]; simp
  have S45 := hid (show Below w4.heap.size w4 w5 by rw [hw5]; exact ((Below.refl _ _).alloc (Nat.le_refl _) _).alloc (by simp) _)
  have Kg5 := hid (show Blk w5 (w4.heap.size + 1) 52 #[.int .i64 0, .int .i64 1000000, .slice (some ⟨w4.heap.size, 0, none⟩) 3 3, .int .i64 0] by rw [hw5]; have h9 := Blk.new (w4.alloc (.cells #[.int .i64 0, .int .i64 1000000, .int .i64 0, .int .i64 1000000, .int .i64 0, .int .i64 1000000] 49)) 52 #[.int .i64 0, .int .i64 1000000, .slice (some ⟨w4.heap.size, 0, none⟩) 3 3, .int .i64 0]; simpa only [World.size_alloc] using h9)
  have Os5 := hid (show Own enc2 2 49 w5 w4.heap.size (.slice (some ⟨w4.heap.size, 0, none⟩) 3 3) [(0, 1000000), (0, 1000000), (0, 1000000)] by rw [hw5]; exact (Own.lit (e := 49) (l := [((0 : Int), (1000000 : Int)), (0, 1000000), (0, 1000000)]) len2 (w := w4) (base := w4.heap.size) (g := w4.heap.size) (n := 3) rfl (Nat.le_refl _) rfl (by simp) rfl).alloc _)
  have HTG := hid (fun (k : Nat) (h : k < 3) => trip_get h)
  obtain ⟨S5, hS5⟩ : ∃ S : List (Int × Int), S = [(0, 1000000), (0, 1000000), (0, 1000000)] := ⟨_, rfl⟩
  rw [← hS5] at Os5 HTG
  have HSL5 := hid (show S5.length = 3 by rw [hS5]; rfl)
  clear hS5
  have B5 := hid (B4.out.trans (S45.out.mono z4))
  have z5 := B5.out.size
  have Kr5 := hid (Kr0.out.below B5.out Kr0.out.lt)
  have W5 := hid (D0.out.trans (B5.out.mono D0.out.size))
  have G5 := hid (only_of_below W5.out (Nat.le_refl _) (row := some R))
  have h5 := h.below W5.out hRw
  have hRs : R < w4.heap.size := by omega
  clear hw5 B1 B2 B3 B4 S45 Kr0 h
  go_wp2_with fail
  rw [← HW5.out]
  refine (pick_any _ _ _ _ _ h5 (by omega)).mono ?_
  rintro e w6 ⟨m6, rfl, a6, b6, c6, h6, g6⟩
  have u6 := b6 (by omega)
  clear b6
  have G6 := hid (only_trans G5.out g6)
  have z6 := G6.out.size
  have Kg6 := hid (Kg5.out.grown g6 (by simp; omega))
  have Kr6 := hid (Kr5.out.grown g6 (by simp; omega))
  have Os6 := hid (Os5.out.grown g6 (Os5.out.off hRs))
  clear g6
  clear h5
  by_cases q0 : m6 = 0
  · have y0 : (m6 == 0) = true := by rw [q0]; rfl
    clear q0
    go_wp2_with fail
    refine (one_any [100, 1000, 2000, 0] _ _ _ _ _ _ _ h6 (by omega) (by simp) rfl (by simp) rfl (by simp)).mono ?_
    rintro e w7 ⟨m7, rfl, hm7, h7, g7⟩
    have G7 := hid (only_trans G6.out g7)
    have z7 := G7.out.size
    have Kg7 := hid (Kg6.out.grown g7 (by simp; omega))
    have Kr7 := hid (Kr6.out.grown g7 (by simp; omega))
    have Os7 := hid (Os6.out.grown g7 (Os6.out.off hRs))
    clear g7
    clear hm7
    have gk0 : w7.cell? ⟨w4.heap.size + 1, 0, none⟩ = _ := Kg7.out.cell 0
    have gk1 : w7.cell? ⟨w4.heap.size + 1, 1, none⟩ = _ := Kg7.out.cell 1
    have gk2 : w7.cell? ⟨w4.heap.size + 1, 2, none⟩ = _ := Kg7.out.cell 2
    have gk3 : w7.cell? ⟨w4.heap.size + 1, 3, none⟩ = _ := Kg7.out.cell 3
    have rk0 : w7.cell? ⟨w.heap.size, 0, none⟩ = _ := Kr7.out.cell 0
    have rk1 : w7.cell? ⟨w.heap.size, 1, none⟩ = _ := Kr7.out.cell 1
    have rk2 : w7.cell? ⟨w.heap.size, 2, none⟩ = _ := Kr7.out.cell 2
    have rk3 : w7.cell? ⟨w.heap.size, 3, none⟩ = _ := Kr7.out.cell 3
    have gf : ∀ o, w7.frozen? ⟨w4.heap.size + 1, o, none⟩ = false := Kg7.out.frozen
    have rf : ∀ o, w7.frozen? ⟨w.heap.size, o, none⟩ = false := Kr7.out.frozen
    have gz : w4.heap.size + 1 < w7.heap.size := Kg7.out.lt
    have rz : w.heap.size < w7.heap.size := Kr7.out.lt
    have hn1 : w4.heap.size + 1 ≠ w.heap.size := by omega
    have hn2 : w.heap.size ≠ w4.heap.size + 1 := by omega
    have GG := hid ((only_setCell (only_setCell (only_setCell (only_setCell (only_setCell (only_setCell G7.out (p := ⟨w4.heap.size + 1, 0, none⟩) (.inr (by show w.heap.size ≤ w4.heap.size + 1; omega)) (.int .i64 m7)) (p := ⟨w4.heap.size + 1, 1, none⟩) (.inr (by show w.heap.size ≤ w4.heap.size + 1; omega)) (.int .i64 1000000)) (p := ⟨w.heap.size, 0, none⟩) (.inr (by show w.heap.size ≤ w.heap.size; omega)) (.int .i64 (m7))) (p := ⟨w.heap.size, 1, none⟩) (.inr (by show w.heap.size ≤ w.heap.size; omega)) (.int .i64 (1000000))) (p := ⟨w.heap.size, 2, none⟩) (.inr (by show w.heap.size ≤ w.heap.size; omega)) (.slice (some ⟨w4.heap.size, 0, none⟩) 3 3)) (p := ⟨w.heap.size, 3, none⟩) (.inr (by show w.heap.size ≤ w.heap.size; omega)) (.int .i64 (0))))
    have HH := hid (((((((h7.setCell (p := ⟨w4.heap.size + 1, 0, none⟩) (by show B ≤ w4.heap.size + 1; omega) (by show w4.heap.size + 1 ≠ R; omega) (.int .i64 m7)).setCell (p := ⟨w4.heap.size + 1, 1, none⟩) (by show B ≤ w4.heap.size + 1; omega) (by show w4.heap.size + 1 ≠ R; omega) (.int .i64 1000000)).setCell (p := ⟨w.heap.size, 0, none⟩) (by show B ≤ w.heap.size; omega) (by show w.heap.size ≠ R; omega) (.int .i64 (m7))).setCell (p := ⟨w.heap.size, 1, none⟩) (by show B ≤ w.heap.size; omega) (by show w.heap.size ≠ R; omega) (.int .i64 (1000000))).setCell (p := ⟨w.heap.size, 2, none⟩) (by show B ≤ w.heap.size; omega) (by show w.heap.size ≠ R; omega) (.slice (some ⟨w4.heap.size, 0, none⟩) 3 3)).setCell (p := ⟨w.heap.size, 3, none⟩) (by show B ≤ w.heap.size; omega) (by show w.heap.size ≠ R; omega) (.int .i64 (0))))
    have OO := hid (((((((Os7.out.far (p := ⟨w4.heap.size + 1, 0, none⟩) (by intro he; have h1 := Option.some.inj he; revert h1; show w4.heap.size = w4.heap.size + 1 → False; omega) (.int .i64 m7)).far (p := ⟨w4.heap.size + 1, 1, none⟩) (by intro he; have h1 := Option.some.inj he; revert h1; show w4.heap.size = w4.heap.size + 1 → False; omega) (.int .i64 1000000)).far (p := ⟨w.heap.size, 0, none⟩) (by intro he; have h1 := Option.some.inj he; revert h1; show w4.heap.size = w.heap.size → False; omega) (.int .i64 (m7))).far (p := ⟨w.heap.size, 1, none⟩) (by intro he; have h1 := Option.some.inj he; revert h1; show w4.heap.size = w.heap.size → False; omega) (.int .i64 (1000000))).far (p := ⟨w.heap.size, 2, none⟩) (by intro he; have h1 := Option.some.inj he; revert h1; show w4.heap.size = w.heap.size → False; omega) (.slice (some ⟨w4.heap.size, 0, none⟩) 3 3)).far (p := ⟨w.heap.size, 3, none⟩) (by intro he; have h1 := Option.some.inj he; revert h1; show w4.heap.size = w.heap.size → False; omega) (.int .i64 (0))))
    go_wp2
    exact bodyPost_ret (v := .agg #[.int .i64 (m7), .int .i64 (1000000), .slice (some ⟨w4.heap.size, 0, none⟩) 3 3, .int .i64 (0)]) (by simp [results, Tryz.results92, go_sem, *]) rfl ⟨_, _, _, _, _, S5, by rw [HSL5.out], by rw [HSL5.out]; omega, by rw [HSL5.out]; exact OO.out.less (by omega), HH.out.more (by omega), GG.out⟩
  have y0 : (m6 == 0) = false := beq_eq_false_iff_ne.2 q0
  clear q0
  by_cases q1 : m6 = 1
  · have y1 : (m6 == 1) = true := by rw [q1]; rfl
    clear q1
    have s2 : w6.cell? ⟨w4.heap.size + 1, 2, none⟩ = some (.slice (some ⟨w4.heap.size, 0, none⟩) 3 3) := Kg6.out.cell 2
    have hgbz : w4.heap.size + 1 < w6.heap.size := Kg6.out.lt
    have h9 : Rdr w6.drew B R (N + 1) := h6
    have S9 := hid (show GSt w w6.drew R w4.heap.size (w4.heap.size + 1) w.heap.size #[.int .i64 0, .int .i64 1000000, .slice (some ⟨w4.heap.size, 0, none⟩) 3 3, .int .i64 0] #[.int .i64 0, .int .i64 0, .slice none 0 0, .int .i64 0] (.slice (some ⟨w4.heap.size, 0, none⟩) 3 3) S5 from ⟨only_drew G6.out, Kg6.out, Kr6.out, Os6.out.drew⟩)
    clear h6 G6 Kg6 Kr6 Os6
    go_wp2_with fail
    go_region_held3 (fun x => x.cell? ⟨w4.heap.size + 1, 2, none⟩ = some (.slice (some ⟨w4.heap.size, 0, none⟩) 3 3) ∧ w4.heap.size + 1 < x.heap.size) (((repeat' apply And.intro) <;> first | assumption | (simp; omega) | (exact (World.cell?_alloc_lt _ _ _ (by first | omega | (simp; omega))).trans (by assumption)) | (exact (World.cell?_alloc_lt _ _ _ (by simp; omega)).trans ((World.cell?_alloc_lt _ _ _ (by omega)).trans (by assumption))) | (simp [go_sem, *]; done))) (first
      | (go_at_call 31; refine Calls.mono (pick_any 3 _ B R (N + 1) (by first | exact h9 | exact h9.alloc _ | exact (h9.alloc _).alloc _) (by omega)) ?_; rintro e w10 ⟨m10, rfl, a10, b10, c10, h10, g10⟩; have u10 := b10 (by omega); clear b10; obtain ⟨k10, rfl⟩ : ∃ k : Nat, m10 = (k : Int) := ⟨m10.toNat, (by omega)⟩; have hk10 : k10 < 3 := (by omega); have S10 := hid (GSt.grown (show GSt w _ R w4.heap.size (w4.heap.size + 1) w.heap.size #[.int .i64 0, .int .i64 1000000, .slice (some ⟨w4.heap.size, 0, none⟩) 3 3, .int .i64 0] #[.int .i64 0, .int .i64 0, .slice none 0 0, .int .i64 0] (.slice (some ⟨w4.heap.size, 0, none⟩) 3 3) S5 from (by first | exact S9.out | exact S9.out.alloc _ | exact (S9.out.alloc _).alloc _)) g10 hRs (by omega) hRw); have q10 := hid (fun (v : Value) (l : List Int) ho => Own.grown (enc := enc1) (sz := 1) (e := 3) (base := w.heap.size) (v := v) (l := l) ho g10 (ho.off hRw)); have s10 : w10.cell? ⟨w4.heap.size + 1, 2, none⟩ = some (.slice (some ⟨w4.heap.size, 0, none⟩) 3 3) := S10.out.2.1.cell 2; have y10 : w4.heap.size + 1 < w10.heap.size := S10.out.2.1.lt; have v10 : w.heap.size ≤ w10.heap.size := (by omega); clear g10)
      | (go_at_call 68; refine Calls.mono (one_own [5, 10, 1000000] 3 3 _ _ B R (N + 1 + 1 + 1) w.heap.size (by first | exact h11 | exact h11.alloc _ | exact (h11.alloc _).alloc _) (by omega) hRw rfl (by simp) (by simp) (by repeat (first | (refine Own.lit len1 ?_ ?_ rfl ?_ rfl <;> (first | rfl | (simp; done) | omega | (simp; omega))) | (refine q11.out _ _ ?_) | (refine q10.out _ _ ?_) | (refine Own.alloc ?_ _)))) ?_; rintro e w12 ⟨m12, rfl, h12, g12⟩; have S12 := hid (GSt.grown (show GSt w _ R w4.heap.size (w4.heap.size + 1) w.heap.size #[.int .i64 0, .int .i64 1000000, .slice (some ⟨w4.heap.size, 0, none⟩) 3 3, .int .i64 0] #[.int .i64 0, .int .i64 0, .slice none 0 0, .int .i64 0] (.slice (some ⟨w4.heap.size, 0, none⟩) 3 3) S5 from (by first | exact S11.out | exact S11.out.alloc _ | exact (S11.out.alloc _).alloc _)) g12 hRs (by omega) hRw); have q12 := hid (fun (v : Value) (l : List Int) ho => Own.grown (enc := enc1) (sz := 1) (e := 3) (base := w.heap.size) (v := v) (l := l) ho g12 (ho.off hRw)); have s12 : w12.cell? ⟨w4.heap.size + 1, 2, none⟩ = some (.slice (some ⟨w4.heap.size, 0, none⟩) 3 3) := S12.out.2.1.cell 2; have y12 : w4.heap.size + 1 < w12.heap.size := S12.out.2.1.lt; have v12 : w.heap.size ≤ w12.heap.size := (by omega); clear g12; have Os12 := hid S12.out.2.2.2; have Kg12 := hid S12.out.2.1; have Kr12 := hid S12.out.2.2.1; have G12 := hid S12.out.1; have x1 : w12.cell? ⟨w4.heap.size, k10 * 2, none⟩ = some (.int .i64 0) := (by simpa using Os12.out.cell len2 HSL5.out.symm (HTG.out k10 hk10) (j := 0) rfl); have x2 : w12.cell? ⟨w4.heap.size, k10 * 2 + 1, none⟩ = some (.int .i64 1000000) := (by simpa using Os12.out.cell len2 HSL5.out.symm (HTG.out k10 hk10) (j := 1) rfl); have x3 : ∀ o, w12.frozen? ⟨w4.heap.size, o, none⟩ = false := fun o => Os12.out.frozen HSL5.out.symm o; have x4 : w4.heap.size < w12.heap.size := (by have := Kg12.out.lt; omega); have x5 : (k10 : Int) < 3 := (by omega); have x6 : w4.heap.size + 1 ≠ w4.heap.size := (by omega); have x7 : w4.heap.size ≠ w4.heap.size + 1 := (by omega))
      | (go_at_call 68; refine Calls.mono (one_own [1, 2, 3] 3 3 _ _ B R (N + 1 + 1) w.heap.size (by first | exact h10 | exact h10.alloc _ | exact (h10.alloc _).alloc _) (by omega) hRw rfl (by simp) (by simp) (by repeat (first | (refine Own.lit len1 ?_ ?_ rfl ?_ rfl <;> (first | rfl | (simp; done) | omega | (simp; omega))) | (refine q11.out _ _ ?_) | (refine q10.out _ _ ?_) | (refine Own.alloc ?_ _)))) ?_; rintro e w11 ⟨m11, rfl, h11, g11⟩; have S11 := hid (GSt.grown (show GSt w _ R w4.heap.size (w4.heap.size + 1) w.heap.size #[.int .i64 0, .int .i64 1000000, .slice (some ⟨w4.heap.size, 0, none⟩) 3 3, .int .i64 0] #[.int .i64 0, .int .i64 0, .slice none 0 0, .int .i64 0] (.slice (some ⟨w4.heap.size, 0, none⟩) 3 3) S5 from (by first | exact S10.out | exact S10.out.alloc _ | exact (S10.out.alloc _).alloc _)) g11 hRs (by omega) hRw); have q11 := hid (fun (v : Value) (l : List Int) ho => Own.grown (enc := enc1) (sz := 1) (e := 3) (base := w.heap.size) (v := v) (l := l) ho g11 (ho.off hRw)); have s11 : w11.cell? ⟨w4.heap.size + 1, 2, none⟩ = some (.slice (some ⟨w4.heap.size, 0, none⟩) 3 3) := S11.out.2.1.cell 2; have y11 : w4.heap.size + 1 < w11.heap.size := S11.out.2.1.lt; have v11 : w.heap.size ≤ w11.heap.size := (by omega); clear g11))
    all_goals
      clear x1 x2 x3 x4 x5 s10 s11 s12
      obtain ⟨w13, hw13⟩ : ∃ x, x = (w12.setCell ⟨w4.heap.size, k10 * 2, none⟩ (.int .i64 m11)).setCell ⟨w4.heap.size, k10 * 2 + 1, none⟩ (.int .i64 m12) := ⟨_, rfl⟩
      have HW13 := hid hw13
      have o13 := ((Os12.out.store len2 HSL5.out.symm (HTG.out k10 hk10) (j := 0) (a' := (m11, 1000000)) (by omega) (u := .int .i64 m11) rfl).store len2 (by rw [List.length_set]; exact HSL5.out.symm) (List.getElem?_set_self (by rw [HSL5.out]; exact hk10)) (j := 1) (a' := (m11, m12)) (by omega) (u := .int .i64 m12) rfl)
      have HSL13 := hid (show ((S5.set k10 (m11, 1000000)).set k10 (m11, m12)).length = 3 by rw [List.length_set, List.length_set, HSL5.out])
      obtain ⟨S13, hS13⟩ : ∃ S, (S5.set k10 (m11, 1000000)).set k10 (m11, m12) = S := ⟨_, rfl⟩
      rw [hS13] at o13 HSL13
      have Os13 := hid (show Own enc2 2 49 w13 w4.heap.size (.slice (some ⟨w4.heap.size, 0, none⟩) 3 3) S13 by rw [hw13]; simpa using o13)
      have Kg13 := hid (show Blk w13 (w4.heap.size + 1) 52 #[.int .i64 0, .int .i64 1000000, .slice (some ⟨w4.heap.size, 0, none⟩) 3 3, .int .i64 0] by rw [hw13]; exact (Kg12.out.far (by show _ ≠ w4.heap.size; omega) _).far (by show _ ≠ w4.heap.size; omega) _)
      have Kr13 := hid (show Blk w13 w.heap.size 52 #[.int .i64 0, .int .i64 0, .slice none 0 0, .int .i64 0] by rw [hw13]; exact (Kr12.out.far (by show _ ≠ w4.heap.size; omega) _).far (by show _ ≠ w4.heap.size; omega) _)
      have h13 : Rdr w13 B R (N + 1 + 1 + 1 + 1) := by rw [hw13]; exact (h12.setCell (by show _ ≤ w4.heap.size; omega) (by show w4.heap.size ≠ R; omega) _).setCell (by show _ ≤ w4.heap.size; omega) (by show w4.heap.size ≠ R; omega) _
      have G13 := hid (show w.grownBy w13 (some R) by rw [hw13]; exact only_setCell (only_setCell G12.out (.inr (by show _ ≤ w4.heap.size; omega)) _) (.inr (by show _ ≤ w4.heap.size; omega)) _)
      clear hw13 o13 hS13
      first | rw [← HW13.out] | (simp only [Nat.add_zero] at *; rw [← HW13.out]) | trace_state
      have gk0 : w13.cell? ⟨w4.heap.size + 1, 0, none⟩ = _ := Kg13.out.cell 0
      have gk1 : w13.cell? ⟨w4.heap.size + 1, 1, none⟩ = _ := Kg13.out.cell 1
      have gk2 : w13.cell? ⟨w4.heap.size + 1, 2, none⟩ = _ := Kg13.out.cell 2
      have gk3 : w13.cell? ⟨w4.heap.size + 1, 3, none⟩ = _ := Kg13.out.cell 3
      have rk0 : w13.cell? ⟨w.heap.size, 0, none⟩ = _ := Kr13.out.cell 0
      have rk1 : w13.cell? ⟨w.heap.size, 1, none⟩ = _ := Kr13.out.cell 1
      have rk2 : w13.cell? ⟨w.heap.size, 2, none⟩ = _ := Kr13.out.cell 2
      have rk3 : w13.cell? ⟨w.heap.size, 3, none⟩ = _ := Kr13.out.cell 3
      have gf : ∀ o, w13.frozen? ⟨w4.heap.size + 1, o, none⟩ = false := Kg13.out.frozen
      have rf : ∀ o, w13.frozen? ⟨w.heap.size, o, none⟩ = false := Kr13.out.frozen
      have gz : w4.heap.size + 1 < w13.heap.size := Kg13.out.lt
      have rz : w.heap.size < w13.heap.size := Kr13.out.lt
      have hn1 : w4.heap.size + 1 ≠ w.heap.size := by omega
      have hn2 : w.heap.size ≠ w4.heap.size + 1 := by omega
      have GG := hid ((only_setCell (only_setCell (only_setCell (only_setCell G13.out (p := ⟨w.heap.size, 0, none⟩) (.inr (by show w.heap.size ≤ w.heap.size; omega)) (.int .i64 (0))) (p := ⟨w.heap.size, 1, none⟩) (.inr (by show w.heap.size ≤ w.heap.size; omega)) (.int .i64 (1000000))) (p := ⟨w.heap.size, 2, none⟩) (.inr (by show w.heap.size ≤ w.heap.size; omega)) (.slice (some ⟨w4.heap.size, 0, none⟩) 3 3)) (p := ⟨w.heap.size, 3, none⟩) (.inr (by show w.heap.size ≤ w.heap.size; omega)) (.int .i64 (0))))
      have HH := hid (((((h13.setCell (p := ⟨w.heap.size, 0, none⟩) (by show B ≤ w.heap.size; omega) (by show w.heap.size ≠ R; omega) (.int .i64 (0))).setCell (p := ⟨w.heap.size, 1, none⟩) (by show B ≤ w.heap.size; omega) (by show w.heap.size ≠ R; omega) (.int .i64 (1000000))).setCell (p := ⟨w.heap.size, 2, none⟩) (by show B ≤ w.heap.size; omega) (by show w.heap.size ≠ R; omega) (.slice (some ⟨w4.heap.size, 0, none⟩) 3 3)).setCell (p := ⟨w.heap.size, 3, none⟩) (by show B ≤ w.heap.size; omega) (by show w.heap.size ≠ R; omega) (.int .i64 (0))))
      have OO := hid (((((Os13.out.far (p := ⟨w.heap.size, 0, none⟩) (by intro he; have h1 := Option.some.inj he; revert h1; show w4.heap.size = w.heap.size → False; omega) (.int .i64 (0))).far (p := ⟨w.heap.size, 1, none⟩) (by intro he; have h1 := Option.some.inj he; revert h1; show w4.heap.size = w.heap.size → False; omega) (.int .i64 (1000000))).far (p := ⟨w.heap.size, 2, none⟩) (by intro he; have h1 := Option.some.inj he; revert h1; show w4.heap.size = w.heap.size → False; omega) (.slice (some ⟨w4.heap.size, 0, none⟩) 3 3)).far (p := ⟨w.heap.size, 3, none⟩) (by intro he; have h1 := Option.some.inj he; revert h1; show w4.heap.size = w.heap.size → False; omega) (.int .i64 (0))))
      go_wp2
      exact bodyPost_ret (v := .agg #[.int .i64 (0), .int .i64 (1000000), .slice (some ⟨w4.heap.size, 0, none⟩) 3 3, .int .i64 (0)]) (by simp [results, Tryz.results92, go_sem, *]) rfl ⟨_, _, _, _, _, S13, by rw [HSL13.out], by rw [HSL13.out]; omega, by rw [HSL13.out]; exact OO.out.less (by omega), HH.out.more (by omega), GG.out⟩
  have y1 : (m6 == 1) = false := beq_eq_false_iff_ne.2 q1
  clear q1
  by_cases q2 : m6 = 2
  · have y2 : (m6 == 2) = true := by rw [q2]; rfl
    clear q2
    go_wp2_with fail
    refine (pick_any _ _ _ _ _ h6 (by omega)).mono ?_
    rintro e w7 ⟨m7, rfl, a7, b7, c7, h7, g7⟩
    have u7 := b7 (by omega)
    clear b7
    have G7 := hid (only_trans G6.out g7)
    have z7 := G7.out.size
    have Kg7 := hid (Kg6.out.grown g7 (by simp; omega))
    have Kr7 := hid (Kr6.out.grown g7 (by simp; omega))
    have Os7 := hid (Os6.out.grown g7 (Os6.out.off hRs))
    clear g7
    have hw1 : IntKind.i64.wrap (1 + m7) = 1 + m7 := IntWalk.i64_in _ (by omega)
    have gk0 : w7.cell? ⟨w4.heap.size + 1, 0, none⟩ = _ := Kg7.out.cell 0
    have gk1 : w7.cell? ⟨w4.heap.size + 1, 1, none⟩ = _ := Kg7.out.cell 1
    have gk2 : w7.cell? ⟨w4.heap.size + 1, 2, none⟩ = _ := Kg7.out.cell 2
    have gk3 : w7.cell? ⟨w4.heap.size + 1, 3, none⟩ = _ := Kg7.out.cell 3
    have rk0 : w7.cell? ⟨w.heap.size, 0, none⟩ = _ := Kr7.out.cell 0
    have rk1 : w7.cell? ⟨w.heap.size, 1, none⟩ = _ := Kr7.out.cell 1
    have rk2 : w7.cell? ⟨w.heap.size, 2, none⟩ = _ := Kr7.out.cell 2
    have rk3 : w7.cell? ⟨w.heap.size, 3, none⟩ = _ := Kr7.out.cell 3
    have gf : ∀ o, w7.frozen? ⟨w4.heap.size + 1, o, none⟩ = false := Kg7.out.frozen
    have rf : ∀ o, w7.frozen? ⟨w.heap.size, o, none⟩ = false := Kr7.out.frozen
    have gz : w4.heap.size + 1 < w7.heap.size := Kg7.out.lt
    have rz : w.heap.size < w7.heap.size := Kr7.out.lt
    have hn1 : w4.heap.size + 1 ≠ w.heap.size := by omega
    have hn2 : w.heap.size ≠ w4.heap.size + 1 := by omega
    have GG := hid ((only_setCell (only_setCell (only_setCell (only_setCell (only_setCell G7.out (p := ⟨w4.heap.size + 1, 3, none⟩) (.inr (by show w.heap.size ≤ w4.heap.size + 1; omega)) (.int .i64 (1 + m7))) (p := ⟨w.heap.size, 0, none⟩) (.inr (by show w.heap.size ≤ w.heap.size; omega)) (.int .i64 (0))) (p := ⟨w.heap.size, 1, none⟩) (.inr (by show w.heap.size ≤ w.heap.size; omega)) (.int .i64 (1000000))) (p := ⟨w.heap.size, 2, none⟩) (.inr (by show w.heap.size ≤ w.heap.size; omega)) (.slice (some ⟨w4.heap.size, 0, none⟩) 3 3)) (p := ⟨w.heap.size, 3, none⟩) (.inr (by show w.heap.size ≤ w.heap.size; omega)) (.int .i64 (1 + m7))))
    have HH := hid ((((((h7.setCell (p := ⟨w4.heap.size + 1, 3, none⟩) (by show B ≤ w4.heap.size + 1; omega) (by show w4.heap.size + 1 ≠ R; omega) (.int .i64 (1 + m7))).setCell (p := ⟨w.heap.size, 0, none⟩) (by show B ≤ w.heap.size; omega) (by show w.heap.size ≠ R; omega) (.int .i64 (0))).setCell (p := ⟨w.heap.size, 1, none⟩) (by show B ≤ w.heap.size; omega) (by show w.heap.size ≠ R; omega) (.int .i64 (1000000))).setCell (p := ⟨w.heap.size, 2, none⟩) (by show B ≤ w.heap.size; omega) (by show w.heap.size ≠ R; omega) (.slice (some ⟨w4.heap.size, 0, none⟩) 3 3)).setCell (p := ⟨w.heap.size, 3, none⟩) (by show B ≤ w.heap.size; omega) (by show w.heap.size ≠ R; omega) (.int .i64 (1 + m7))))
    have OO := hid ((((((Os7.out.far (p := ⟨w4.heap.size + 1, 3, none⟩) (by intro he; have h1 := Option.some.inj he; revert h1; show w4.heap.size = w4.heap.size + 1 → False; omega) (.int .i64 (1 + m7))).far (p := ⟨w.heap.size, 0, none⟩) (by intro he; have h1 := Option.some.inj he; revert h1; show w4.heap.size = w.heap.size → False; omega) (.int .i64 (0))).far (p := ⟨w.heap.size, 1, none⟩) (by intro he; have h1 := Option.some.inj he; revert h1; show w4.heap.size = w.heap.size → False; omega) (.int .i64 (1000000))).far (p := ⟨w.heap.size, 2, none⟩) (by intro he; have h1 := Option.some.inj he; revert h1; show w4.heap.size = w.heap.size → False; omega) (.slice (some ⟨w4.heap.size, 0, none⟩) 3 3)).far (p := ⟨w.heap.size, 3, none⟩) (by intro he; have h1 := Option.some.inj he; revert h1; show w4.heap.size = w.heap.size → False; omega) (.int .i64 (1 + m7))))
    go_wp2
    exact bodyPost_ret (v := .agg #[.int .i64 (0), .int .i64 (1000000), .slice (some ⟨w4.heap.size, 0, none⟩) 3 3, .int .i64 (1 + m7)]) (by simp [results, Tryz.results92, go_sem, *]) rfl ⟨_, _, _, _, _, S5, by rw [HSL5.out], by rw [HSL5.out]; omega, by rw [HSL5.out]; exact OO.out.less (by omega), HH.out.more (by omega), GG.out⟩
  have y2 : (m6 == 2) = false := beq_eq_false_iff_ne.2 q2
  clear q2
  by_cases q3 : m6 = 3
  · have y3 : (m6 == 3) = true := by rw [q3]; rfl
    clear q3
    go_wp2_with fail
    refine (someSpan_any _ _ _ _ h6 (by omega)).mono ?_
    rintro e w7 ⟨x, y, rfl, h7, g7⟩
    have G7 := hid (only_trans G6.out g7)
    have z7 := G7.out.size
    have Kg7 := hid (Kg6.out.grown g7 (by simp; omega))
    have Kr7 := hid (Kr6.out.grown g7 (by simp; omega))
    have Os7 := hid (Os6.out.grown g7 (Os6.out.off hRs))
    clear g7
    have e0 : w7.cell? ⟨w4.heap.size + 1, 0, none⟩ = _ := Kg7.out.cell 0
    have e1 : w7.cell? ⟨w4.heap.size + 1, 1, none⟩ = _ := Kg7.out.cell 1
    have e2 : w7.cell? ⟨w4.heap.size + 1, 2, none⟩ = _ := Kg7.out.cell 2
    have e3 : w7.cell? ⟨w4.heap.size + 1, 3, none⟩ = _ := Kg7.out.cell 3
    have ef : ∀ o, w7.frozen? ⟨w4.heap.size + 1, o, none⟩ = false := Kg7.out.frozen
    have ez : w4.heap.size + 1 < w7.heap.size := Kg7.out.lt
    obtain ⟨w8, hw8⟩ : ∃ x', x' = (w7.setCell ⟨w4.heap.size + 1, 0, none⟩ (.int .i64 x)).setCell ⟨w4.heap.size + 1, 1, none⟩ (.int .i64 y) := ⟨_, rfl⟩
    have HW8 := hid hw8
    have z78 : w7.heap.size = w8.heap.size := by rw [hw8]; simp
    have Kg8 := hid (show Blk w8.drew (w4.heap.size + 1) 52 #[.int .i64 x, .int .i64 y, .slice (some ⟨w4.heap.size, 0, none⟩) 3 3, .int .i64 0] by show Blk w8 _ _ _; rw [hw8]; exact (Kg7.out.set_ 0 (.int .i64 x)).set_ 1 (.int .i64 y))
    have Kr8 := hid (show Blk w8.drew w.heap.size 52 #[.int .i64 0, .int .i64 0, .slice none 0 0, .int .i64 0] by show Blk w8 _ _ _; rw [hw8]; exact (Kr7.out.far (by show _ ≠ w4.heap.size + 1; omega) _).far (by show _ ≠ w4.heap.size + 1; omega) _)
    have h8 : Rdr w8.drew B R (N + 1 + 2) := by show Rdr w8 _ _ _; rw [hw8]; exact (h7.setCell (by show _ ≤ w4.heap.size + 1; omega) (by show w4.heap.size + 1 ≠ R; omega) _).setCell (by show _ ≤ w4.heap.size + 1; omega) (by show w4.heap.size + 1 ≠ R; omega) _
    have G8 := hid (show w.grownBy w8.drew (some R) by refine only_drew ?_; rw [hw8]; exact only_setCell (only_setCell G7.out (.inr (by show _ ≤ w4.heap.size + 1; omega)) _) (.inr (by show _ ≤ w4.heap.size + 1; omega)) _)
    have Os8 := hid (show Own enc2 2 49 w8.drew w4.heap.size (.slice (some ⟨w4.heap.size, 0, none⟩) 3 3) S5 by refine Own.drew ?_; rw [hw8]; exact (Os7.out.far (by intro he; have h1 := Option.some.inj he; revert h1; show w4.heap.size = w4.heap.size + 1 → False; omega) _).far (by intro he; have h1 := Option.some.inj he; revert h1; show w4.heap.size = w4.heap.size + 1 → False; omega) _)
    have s8 : w8.cell? ⟨w4.heap.size + 1, 2, none⟩ = some (.slice (some ⟨w4.heap.size, 0, none⟩) 3 3) := Kg8.out.cell 2
    have z8 := G8.out.size
    clear hw8 e0 e1 e2 e3 ef ez
    have k70 : w7.cell? ⟨w4.heap.size + 1, 0, none⟩ = _ := Kg7.out.cell 0
    have k71 : w7.cell? ⟨w4.heap.size + 1, 1, none⟩ = _ := Kg7.out.cell 1
    have k72 : w7.cell? ⟨w4.heap.size + 1, 2, none⟩ = _ := Kg7.out.cell 2
    have k73 : w7.cell? ⟨w4.heap.size + 1, 3, none⟩ = _ := Kg7.out.cell 3
    have kf7 : ∀ o, w7.frozen? ⟨w4.heap.size + 1, o, none⟩ = false := Kg7.out.frozen
    have kz7 : w4.heap.size + 1 < w7.heap.size := Kg7.out.lt
    go_wp2_with fail
    rw [← HW8.out]
    clear k70 k71 k72 k73 kf7 kz7
    go_region_held3 (fun x => x.cell? ⟨w4.heap.size + 1, 2, none⟩ = some (.slice (some ⟨w4.heap.size, 0, none⟩) 3 3)) (first | assumption | (simp [go_sem, *]; done)) ((go_at_call 110; refine (someSpan_any _ _ _ _ h8 (by omega)).mono ?_; rintro e w9 ⟨x', y', rfl, h9, g9⟩; have G9 := hid (only_trans G8.out g9); have z9 := G9.out.size; have Kg9 := hid (Kg8.out.grown g9 (by simp; omega)); have Kr9 := hid (Kr8.out.grown g9 (by simp; omega)); have Os9 := hid (Os8.out.grown g9 (Os8.out.off hRs)); clear g9; have x1 : w9.cell? ⟨w4.heap.size, 0, none⟩ = some (.int .i64 0) := (by simpa using Os9.out.cell len2 HSL5.out.symm (HTG.out 0 (by omega)) (j := 0) rfl); have x2 : w9.cell? ⟨w4.heap.size, 1, none⟩ = some (.int .i64 1000000) := (by simpa using Os9.out.cell len2 HSL5.out.symm (HTG.out 0 (by omega)) (j := 1) rfl); have x3 : ∀ o, w9.frozen? ⟨w4.heap.size, o, none⟩ = false := fun o => Os9.out.frozen HSL5.out.symm o; have x4 : w4.heap.size < w9.heap.size := (by have := Kg9.out.lt; omega); have x6 : w4.heap.size + 1 ≠ w4.heap.size := (by omega); have x7 : w4.heap.size ≠ w4.heap.size + 1 := (by omega); have s9 : w9.cell? ⟨w4.heap.size + 1, 2, none⟩ = some (.slice (some ⟨w4.heap.size, 0, none⟩) 3 3) := Kg9.out.cell 2; have y9 : w4.heap.size + 1 < w9.heap.size := Kg9.out.lt))
    clear x1 x2 x3 x4 s8 s9
    obtain ⟨w13, hw13⟩ : ∃ x, x = (w9.setCell ⟨w4.heap.size, 0, none⟩ (.int .i64 x')).setCell ⟨w4.heap.size, 1, none⟩ (.int .i64 y') := ⟨_, rfl⟩
    have HW13 := hid hw13
    have o13 := ((Os9.out.store len2 HSL5.out.symm (HTG.out 0 (by omega)) (j := 0) (a' := (x', 1000000)) (by omega) (u := .int .i64 x') rfl).store len2 (by rw [List.length_set]; exact HSL5.out.symm) (List.getElem?_set_self (by rw [HSL5.out]; omega)) (j := 1) (a' := (x', y')) (by omega) (u := .int .i64 y') rfl)
    have HSL13 := hid (show ((S5.set 0 (x', 1000000)).set 0 (x', y')).length = 3 by rw [List.length_set, List.length_set, HSL5.out])
    obtain ⟨S13, hS13⟩ : ∃ S, (S5.set 0 (x', 1000000)).set 0 (x', y') = S := ⟨_, rfl⟩
    rw [hS13] at o13 HSL13
    have Os13 := hid (show Own enc2 2 49 w13 w4.heap.size (.slice (some ⟨w4.heap.size, 0, none⟩) 3 3) S13 by rw [hw13]; simpa using o13)
    have Kg13 := hid (show Blk w13 (w4.heap.size + 1) 52 #[.int .i64 x, .int .i64 y, .slice (some ⟨w4.heap.size, 0, none⟩) 3 3, .int .i64 0] by rw [hw13]; exact (Kg9.out.far (by show _ ≠ w4.heap.size; omega) _).far (by show _ ≠ w4.heap.size; omega) _)
    have Kr13 := hid (show Blk w13 w.heap.size 52 #[.int .i64 0, .int .i64 0, .slice none 0 0, .int .i64 0] by rw [hw13]; exact (Kr9.out.far (by show _ ≠ w4.heap.size; omega) _).far (by show _ ≠ w4.heap.size; omega) _)
    have h13 : Rdr w13 B R (N + 1 + 2 + 2) := by rw [hw13]; exact (h9.setCell (by show _ ≤ w4.heap.size; omega) (by show w4.heap.size ≠ R; omega) _).setCell (by show _ ≤ w4.heap.size; omega) (by show w4.heap.size ≠ R; omega) _
    have G13 := hid (show w.grownBy w13 (some R) by rw [hw13]; exact only_setCell (only_setCell G9.out (.inr (by show _ ≤ w4.heap.size; omega)) _) (.inr (by show _ ≤ w4.heap.size; omega)) _)
    clear hw13 o13 hS13
    rw [← HW13.out]
    have gk0 : w13.cell? ⟨w4.heap.size + 1, 0, none⟩ = _ := Kg13.out.cell 0
    have gk1 : w13.cell? ⟨w4.heap.size + 1, 1, none⟩ = _ := Kg13.out.cell 1
    have gk2 : w13.cell? ⟨w4.heap.size + 1, 2, none⟩ = _ := Kg13.out.cell 2
    have gk3 : w13.cell? ⟨w4.heap.size + 1, 3, none⟩ = _ := Kg13.out.cell 3
    have rk0 : w13.cell? ⟨w.heap.size, 0, none⟩ = _ := Kr13.out.cell 0
    have rk1 : w13.cell? ⟨w.heap.size, 1, none⟩ = _ := Kr13.out.cell 1
    have rk2 : w13.cell? ⟨w.heap.size, 2, none⟩ = _ := Kr13.out.cell 2
    have rk3 : w13.cell? ⟨w.heap.size, 3, none⟩ = _ := Kr13.out.cell 3
    have gf : ∀ o, w13.frozen? ⟨w4.heap.size + 1, o, none⟩ = false := Kg13.out.frozen
    have rf : ∀ o, w13.frozen? ⟨w.heap.size, o, none⟩ = false := Kr13.out.frozen
    have gz : w4.heap.size + 1 < w13.heap.size := Kg13.out.lt
    have rz : w.heap.size < w13.heap.size := Kr13.out.lt
    have hn1 : w4.heap.size + 1 ≠ w.heap.size := by omega
    have hn2 : w.heap.size ≠ w4.heap.size + 1 := by omega
    have GG := hid ((only_setCell (only_setCell (only_setCell (only_setCell G13.out (p := ⟨w.heap.size, 0, none⟩) (.inr (by show w.heap.size ≤ w.heap.size; omega)) (.int .i64 (x))) (p := ⟨w.heap.size, 1, none⟩) (.inr (by show w.heap.size ≤ w.heap.size; omega)) (.int .i64 (y))) (p := ⟨w.heap.size, 2, none⟩) (.inr (by show w.heap.size ≤ w.heap.size; omega)) (.slice (some ⟨w4.heap.size, 0, none⟩) 3 3)) (p := ⟨w.heap.size, 3, none⟩) (.inr (by show w.heap.size ≤ w.heap.size; omega)) (.int .i64 (0))))
    have HH := hid (((((h13.setCell (p := ⟨w.heap.size, 0, none⟩) (by show B ≤ w.heap.size; omega) (by show w.heap.size ≠ R; omega) (.int .i64 (x))).setCell (p := ⟨w.heap.size, 1, none⟩) (by show B ≤ w.heap.size; omega) (by show w.heap.size ≠ R; omega) (.int .i64 (y))).setCell (p := ⟨w.heap.size, 2, none⟩) (by show B ≤ w.heap.size; omega) (by show w.heap.size ≠ R; omega) (.slice (some ⟨w4.heap.size, 0, none⟩) 3 3)).setCell (p := ⟨w.heap.size, 3, none⟩) (by show B ≤ w.heap.size; omega) (by show w.heap.size ≠ R; omega) (.int .i64 (0))))
    have OO := hid (((((Os13.out.far (p := ⟨w.heap.size, 0, none⟩) (by intro he; have h1 := Option.some.inj he; revert h1; show w4.heap.size = w.heap.size → False; omega) (.int .i64 (x))).far (p := ⟨w.heap.size, 1, none⟩) (by intro he; have h1 := Option.some.inj he; revert h1; show w4.heap.size = w.heap.size → False; omega) (.int .i64 (y))).far (p := ⟨w.heap.size, 2, none⟩) (by intro he; have h1 := Option.some.inj he; revert h1; show w4.heap.size = w.heap.size → False; omega) (.slice (some ⟨w4.heap.size, 0, none⟩) 3 3)).far (p := ⟨w.heap.size, 3, none⟩) (by intro he; have h1 := Option.some.inj he; revert h1; show w4.heap.size = w.heap.size → False; omega) (.int .i64 (0))))
    go_wp2
    exact bodyPost_ret (v := .agg #[.int .i64 (x), .int .i64 (y), .slice (some ⟨w4.heap.size, 0, none⟩) 3 3, .int .i64 (0)]) (by simp [results, Tryz.results92, go_sem, *]) rfl ⟨_, _, _, _, _, S13, by rw [HSL13.out], by rw [HSL13.out]; omega, by rw [HSL13.out]; exact OO.out.less (by omega), HH.out.more (by omega), GG.out⟩
  have y3 : (m6 == 3) = false := beq_eq_false_iff_ne.2 q3
  clear q3
  have gk0 : w6.cell? ⟨w4.heap.size + 1, 0, none⟩ = _ := Kg6.out.cell 0
  have gk1 : w6.cell? ⟨w4.heap.size + 1, 1, none⟩ = _ := Kg6.out.cell 1
  have gk2 : w6.cell? ⟨w4.heap.size + 1, 2, none⟩ = _ := Kg6.out.cell 2
  have gk3 : w6.cell? ⟨w4.heap.size + 1, 3, none⟩ = _ := Kg6.out.cell 3
  have rk0 : w6.cell? ⟨w.heap.size, 0, none⟩ = _ := Kr6.out.cell 0
  have rk1 : w6.cell? ⟨w.heap.size, 1, none⟩ = _ := Kr6.out.cell 1
  have rk2 : w6.cell? ⟨w.heap.size, 2, none⟩ = _ := Kr6.out.cell 2
  have rk3 : w6.cell? ⟨w.heap.size, 3, none⟩ = _ := Kr6.out.cell 3
  have gf : ∀ o, w6.frozen? ⟨w4.heap.size + 1, o, none⟩ = false := Kg6.out.frozen
  have rf : ∀ o, w6.frozen? ⟨w.heap.size, o, none⟩ = false := Kr6.out.frozen
  have gz : w4.heap.size + 1 < w6.heap.size := Kg6.out.lt
  have rz : w.heap.size < w6.heap.size := Kr6.out.lt
  have hn1 : w4.heap.size + 1 ≠ w.heap.size := by omega
  have hn2 : w.heap.size ≠ w4.heap.size + 1 := by omega
  have GG := hid ((only_setCell (only_setCell (only_setCell (only_setCell G6.out (p := ⟨w.heap.size, 0, none⟩) (.inr (by show w.heap.size ≤ w.heap.size; omega)) (.int .i64 (0))) (p := ⟨w.heap.size, 1, none⟩) (.inr (by show w.heap.size ≤ w.heap.size; omega)) (.int .i64 (1000000))) (p := ⟨w.heap.size, 2, none⟩) (.inr (by show w.heap.size ≤ w.heap.size; omega)) (.slice (some ⟨w4.heap.size, 0, none⟩) 3 3)) (p := ⟨w.heap.size, 3, none⟩) (.inr (by show w.heap.size ≤ w.heap.size; omega)) (.int .i64 (0))))
  have HH := hid (((((h6.setCell (p := ⟨w.heap.size, 0, none⟩) (by show B ≤ w.heap.size; omega) (by show w.heap.size ≠ R; omega) (.int .i64 (0))).setCell (p := ⟨w.heap.size, 1, none⟩) (by show B ≤ w.heap.size; omega) (by show w.heap.size ≠ R; omega) (.int .i64 (1000000))).setCell (p := ⟨w.heap.size, 2, none⟩) (by show B ≤ w.heap.size; omega) (by show w.heap.size ≠ R; omega) (.slice (some ⟨w4.heap.size, 0, none⟩) 3 3)).setCell (p := ⟨w.heap.size, 3, none⟩) (by show B ≤ w.heap.size; omega) (by show w.heap.size ≠ R; omega) (.int .i64 (0))))
  have OO := hid (((((Os6.out.far (p := ⟨w.heap.size, 0, none⟩) (by intro he; have h1 := Option.some.inj he; revert h1; show w4.heap.size = w.heap.size → False; omega) (.int .i64 (0))).far (p := ⟨w.heap.size, 1, none⟩) (by intro he; have h1 := Option.some.inj he; revert h1; show w4.heap.size = w.heap.size → False; omega) (.int .i64 (1000000))).far (p := ⟨w.heap.size, 2, none⟩) (by intro he; have h1 := Option.some.inj he; revert h1; show w4.heap.size = w.heap.size → False; omega) (.slice (some ⟨w4.heap.size, 0, none⟩) 3 3)).far (p := ⟨w.heap.size, 3, none⟩) (by intro he; have h1 := Option.some.inj he; revert h1; show w4.heap.size = w.heap.size → False; omega) (.int .i64 (0))))
  go_wp2
  exact bodyPost_ret (v := .agg #[.int .i64 (0), .int .i64 (1000000), .slice (some ⟨w4.heap.size, 0, none⟩) 3 3, .int .i64 (0)]) (by simp [results, Tryz.results92, go_sem, *]) rfl ⟨_, _, _, _, _, S5, by rw [HSL5.out], by rw [HSL5.out]; omega, by rw [HSL5.out]; exact OO.out.less (by omega), HH.out.more (by omega), GG.out⟩

end Go.Proofs.YtkgofklpogdpmaaGreat
