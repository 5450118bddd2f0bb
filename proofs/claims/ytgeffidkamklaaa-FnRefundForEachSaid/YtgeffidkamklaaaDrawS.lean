/- Contracts of the generator of sold lines: it returns some sold line of small numbers. -/
import Derived.Test.YtgeffidkamklaaaReader
import Derived.Deep.RegionHeld3
namespace Go.Proofs.Ytgeffidkamklaaa
open Go.RowKit

/-- Some number in a range, and the reader moved by at most k. -/
def SomePost (w : World) (B R M : Nat) (lo hi : Int) (e : Ending) (w' : World) : Prop :=
  ∃ m : Int, e = .returned (.int .i64 m) ∧ lo ≤ m ∧ m ≤ hi ∧ Rdr w' B R M ∧ w.grownBy w' (some R)

set_option maxHeartbeats 400000 in
theorem someAmount_any (w : World) (B R N : Nat) (h : Rdr w B R N) (hN : N ≤ 999999) :
    Calls Try.prog 37 #[.pointer (some ⟨R, 0, none⟩)] w (SomePost w B R (N + 2) 0 1000000) := by
  go_enter Try.func37, Try.ntmps37
  go_wp2_with fail
  refine (pick_any _ _ _ _ _ h (by omega)).mono ?_
  rintro e w1 ⟨m, rfl, m1, m2, m3, h1, g1⟩
  have m4 := m2 (by omega)
  clear m2 m3
  go_wp2_with fail
  refine (one_any [0, 1, 99, 100, 250, 1000, 333, 12345, 1000000, 5 * m] _ _ _ _ _ _ _ h1 (by omega) rfl rfl (by simp) rfl (by simp)).mono ?_
  rintro e w2 ⟨m', rfl, hm, h2, g2⟩
  have G := hid (only_trans g1 g2)
  have HM := hid hm
  clear g1 g2 hm
  go_wp2
  go_ret
  have hm := HM.out
  simp at hm
  exact ⟨m', rfl, by omega, by omega, h2, G.out⟩

/-- Some sold line. -/
def SalePost (w : World) (B R M : Nat) (e : Ending) (w' : World) : Prop :=
  ∃ c p b : Int, e = .returned (.agg #[.int .i64 c, .int .i64 p, .int .i64 b]) ∧ -9 ≤ c ∧ c ≤ 99 ∧ -9 ≤ b ∧ b ≤ 99 ∧ Rdr w' B R M ∧ w.grownBy w' (some R)

set_option maxHeartbeats 1600000 in
theorem anySale_any (w : World) (B R N : Nat) (h : Rdr w B R N) (hN : N ≤ 999000) :
    Calls Try.prog 34 #[.pointer (some ⟨R, 0, none⟩)] w (SalePost w B R (N + 8)) := by
  have hR := h.lt
  have hRB := hR.1
  have hRw := hR.2
  clear hR
  have h0 := h.alloc (.cells #[.int .i64 0, .int .i64 0, .int .i64 0] 25)
  go_enter Try.func34, Try.ntmps34
  go_wp2_with fail
  refine (one_any [3, 1, 5, 20, 7] _ _ _ _ _ _ _ h0 (by omega) (by simp) rfl (by simp) rfl (by simp)).mono ?_
  rintro e w1 ⟨n, rfl, hm, h1, g1⟩
  simp at hm
  have n1 : 1 ≤ n := by omega
  have n2 : n ≤ 20 := by omega
  clear hm
  go_wp2_with fail
  refine (someAmount_any _ _ _ _ h1 (by omega)).mono ?_
  rintro e w2 ⟨p, rfl, p1, p2, h2, g2⟩
  go_wp2_with fail
  refine (pick_any _ _ _ _ _ h2 (by omega)).mono ?_
  rintro e w3 ⟨b, rfl, b1, b2, b3, h3, g3⟩
  have b4 := b2 (by omega)
  clear b2 b3
  have G3 := only_trans (only_trans g1 g2) g3
  clear g1 g2 g3
  have B3 : Blk w3 w.heap.size 25 #[.int .i64 0, .int .i64 0, .int .i64 0] := (Blk.new w _ _).grown G3 (by simp; omega)
  have z3 := B3.lt
  have G4 := hid (only_trans (only_alloc (only_refl (w := w) (row := some R)) (.cells #[.int .i64 0, .int .i64 0, .int .i64 0] 25)) G3)
  clear G3
  have h4 := h3.alloc (.cells #[.int .i64 n, .int .i64 p, .int .i64 b] 25)
  have hR3 := h3.lt.2
  go_wp2_with fail
  refine (pick_any _ _ _ _ _ h4 (by omega)).mono ?_
  rintro e w4 ⟨m, rfl, m1, m2, m3, h5, g4⟩
  have K4 : Blk w4 w3.heap.size 25 #[.int .i64 n, .int .i64 p, .int .i64 b] := (Blk.new w3 _ _).grown g4 (by simp; omega)
  have B4 : Blk w4 w.heap.size 25 #[.int .i64 0, .int .i64 0, .int .i64 0] := (B3.alloc _).grown g4 (by simp; omega)
  have G5 := hid (only_trans (only_alloc G4.out (.cells #[.int .i64 n, .int .i64 p, .int .i64 b] 25)) g4)
  clear g4 G4
  by_cases hz : m = 0
  · subst hz
    clear m1 m2 m3
    go_wp2_with fail
    refine (one_any [0, 21, 3] _ _ _ _ _ _ _ h5 (by omega) rfl rfl (by simp) rfl (by simp)).mono ?_
    rintro e w5 ⟨c', rfl, m1, h6, g5⟩
    go_wp2_with fail
    refine (one_any [-1, 1000001, 5] _ _ _ _ _ _ _ h6 (by omega) rfl rfl (by simp) rfl (by simp)).mono ?_
    rintro e w6 ⟨p', rfl, m2, h7, g6⟩
    go_wp2_with fail
    refine (one_any [-1, 0, 4] _ _ _ _ _ _ _ h7 (by omega) rfl rfl (by simp) rfl (by simp)).mono ?_
    rintro e w7 ⟨b', rfl, m3, h8, g7⟩
    have g8 := only_trans (only_trans g5 g6) g7
    have K7 := K4.grown g8 (by simp; omega)
    have B7 := B4.grown g8 (by simp; omega)
    have G8 := hid (only_trans G5.out g8)
    clear g5 g6 g7 g8 K4 B4 B3 G5 h h0 h1 h2 h3 h4 h5 h6 h7
    obtain ⟨k0, k1, k2, kf⟩ := K7.three
    obtain ⟨j0, j1, j2, jf⟩ := B7.three
    simp at m1 m3
    have x1 : -9 ≤ c' ∧ c' ≤ 99 := by omega
    have x2 : -9 ≤ b' ∧ b' ≤ 99 := by omega
    clear K7 B7 m1 m2 m3
    have HR := hid h8
    clear h8
    go_wp2
    refine bodyPost_ret (v := .agg #[.int .i64 c', .int .i64 p', .int .i64 b']) (by simp [results, Try.results34, go_sem, *]) rfl ⟨c', p', b', rfl, x1.1, x1.2, x2.1, x2.2, ?_, ?_⟩
    · exact ((((((HR.out.setCell (p := ⟨w3.heap.size, 0, none⟩) (by simp; omega) (by simp; omega) _).setCell (p := ⟨w3.heap.size, 1, none⟩) (by simp; omega) (by simp; omega) _).setCell (p := ⟨w3.heap.size, 2, none⟩) (by simp; omega) (by simp; omega) _).setCell (p := ⟨w.heap.size, 0, none⟩) (by simp; omega) (by simp; omega) _).setCell (p := ⟨w.heap.size, 1, none⟩) (by simp; omega) (by simp; omega) _).setCell (p := ⟨w.heap.size, 2, none⟩) (by simp; omega) (by simp; omega) _).more (by omega)
    · exact only_setCell (only_setCell (only_setCell (only_setCell (only_setCell (only_setCell G8.out (.inr (by simp; omega)) _) (.inr (by simp; omega)) _) (.inr (by simp; omega)) _) (.inr (Nat.le_refl _)) _) (.inr (Nat.le_refl _)) _) (.inr (Nat.le_refl _)) _
  · obtain ⟨k0, k1, k2, kf⟩ := K4.three
    obtain ⟨j0, j1, j2, jf⟩ := B4.three
    clear K4 B4 B3
    go_wp2
    refine bodyPost_ret (v := .agg #[.int .i64 n, .int .i64 p, .int .i64 b]) (by simp [results, Try.results34, go_sem, *]) rfl ⟨n, p, b, rfl, by omega, by omega, by omega, by omega, ?_, ?_⟩
    · exact (((h5.setCell (p := ⟨w.heap.size, 0, none⟩) (by simp; omega) (by simp; omega) _).setCell (p := ⟨w.heap.size, 1, none⟩) (by simp; omega) (by simp; omega) _).setCell (p := ⟨w.heap.size, 2, none⟩) (by simp; omega) (by simp; omega) _).more (by omega)
    · exact only_setCell (only_setCell (only_setCell G5.out (.inr (Nat.le_refl _)) _) (.inr (Nat.le_refl _)) _) (.inr (Nat.le_refl _)) _

/-- Some sold line; nothing of old memory has turned. -/
def SaleDraw (w : World) (e : Ending) (w' : World) : Prop :=
  ∃ c p b : Int, e = .returned (.agg #[.int .i64 c, .int .i64 p, .int .i64 b]) ∧ -9 ≤ c ∧ c ≤ 99 ∧ -9 ≤ b ∧ b ≤ 99 ∧ Below w.heap.size w w'

set_option maxHeartbeats 800000 in
theorem drawValidSale_any (w : World) (A : Option Addr) (len cap : Nat) (h : Bytes w w.heap.size A len cap) :
    Calls Try.prog 25 #[.slice A len cap] w (SaleDraw w) := by
  have h0 := h.alloc (Nat.le_refl _) (.cells #[.int .i64 0, .int .i64 0, .int .i64 0] 25)
  clear h
  go_enter Try.func25, Try.ntmps25
  go_wp2_with fail
  refine (newReader_any _ _ _ _ _ h0 (by simp)).mono ?_
  rintro e w1 ⟨rfl, h1, b1⟩
  simp only [World.size_alloc] at h1
  go_wp2_with fail
  refine (anySale_any _ _ _ _ h1 (by omega)).mono ?_
  rintro e w2 ⟨c, p, b, rfl, x1, x2, x3, x4, h2, g2⟩
  have B1 := (Blk.new w 25 #[.int .i64 0, .int .i64 0, .int .i64 0]).below b1 (by simp)
  have B2 := B1.grown g2 (by simp)
  have G2 := hid (below_of_only ((Below.refl w.heap.size w).alloc (Nat.le_refl _) _ |>.trans (b1.mono (by simp))) g2 (by have := b1.size; simp at this; omega) (by simp))
  obtain ⟨k0, k1, k2, kf⟩ := B2.three
  clear h0 h1 h2 b1 g2 B1 B2
  go_wp2
  refine bodyPost_ret (v := .agg #[.int .i64 c, .int .i64 p, .int .i64 b]) (by simp [results, Try.results25, go_sem, *]) rfl ⟨c, p, b, rfl, x1, x2, x3, x4, ?_⟩
  exact ((G2.out.setCell (Nat.le_refl _) _).setCell (Nat.le_refl _) _).setCell (Nat.le_refl _) _

set_option maxHeartbeats 800000 in
theorem drawKeptOf_any (w : World) (A : Option Addr) (len cap : Nat) (h : Bytes w w.heap.size A len cap) :
    Calls Try.prog 26 #[.slice A len cap] w (SaleDraw w) := by
  have h0 := h.alloc (Nat.le_refl _) (.cells #[.int .i64 0, .int .i64 0, .int .i64 0] 25)
  clear h
  go_enter Try.func26, Try.ntmps26
  go_wp2_with fail
  refine (newReader_any _ _ _ _ _ h0 (by simp)).mono ?_
  rintro e w1 ⟨rfl, h1, b1⟩
  simp only [World.size_alloc] at h1
  go_wp2_with fail
  refine (anySale_any _ _ _ _ h1 (by omega)).mono ?_
  rintro e w2 ⟨c, p, b, rfl, x1, x2, x3, x4, h2, g2⟩
  have B1 := (Blk.new w 25 #[.int .i64 0, .int .i64 0, .int .i64 0]).below b1 (by simp)
  have B2 := B1.grown g2 (by simp)
  have G2 := hid (below_of_only ((Below.refl w.heap.size w).alloc (Nat.le_refl _) _ |>.trans (b1.mono (by simp))) g2 (by have := b1.size; simp at this; omega) (by simp))
  obtain ⟨k0, k1, k2, kf⟩ := B2.three
  clear h0 h1 h2 b1 g2 B1 B2
  go_wp2
  refine bodyPost_ret (v := .agg #[.int .i64 c, .int .i64 p, .int .i64 b]) (by simp [results, Try.results26, go_sem, *]) rfl ⟨c, p, b, rfl, x1, x2, x3, x4, ?_⟩
  exact ((G2.out.setCell (Nat.le_refl _) _).setCell (Nat.le_refl _) _).setCell (Nat.le_refl _) _

/-- Some sold line and some number of pieces. -/
def RefundDraw (w : World) (e : Ending) (w' : World) : Prop :=
  ∃ c p b n : Int, e = .returned (.tuple #[.agg #[.int .i64 c, .int .i64 p, .int .i64 b], .int .i64 n]) ∧ -9 ≤ c ∧ c ≤ 99 ∧ -9 ≤ b ∧ b ≤ 99 ∧ -999 ≤ n ∧ n ≤ 999 ∧ Below w.heap.size w w'

set_option maxHeartbeats 1600000 in
theorem drawRefundFor_any (w : World) (A : Option Addr) (len cap : Nat) (h : Bytes w w.heap.size A len cap) :
    Calls Try.prog 27 #[.slice A len cap] w (RefundDraw w) := by
  have h0 := h.alloc (Nat.le_refl _) (.cells #[.int .i64 0, .int .i64 0, .int .i64 0] 25)
  clear h
  go_enter Try.func27, Try.ntmps27
  go_wp2_with fail
  refine (newReader_any _ _ _ _ _ h0 (by simp)).mono ?_
  rintro e w1 ⟨rfl, h1, b1⟩
  simp only [World.size_alloc] at h1
  go_wp2_with fail
  refine (anySale_any _ _ _ _ h1 (by omega)).mono ?_
  rintro e w2 ⟨c, p, b, rfl, x1, x2, x3, x4, h2, g2⟩
  have B1 := (Blk.new w 25 #[.int .i64 0, .int .i64 0, .int .i64 0]).below b1 (by simp)
  have B2 := (B1.grown g2 (by simp)).alloc (.cells #[.int .i64 c, .int .i64 p, .int .i64 b] 25)
  have z1 := b1.size
  have z2 := g2.size
  have z3 := h2.lt.2
  simp at z1
  have G2 := hid (below_of_only ((Below.refl w.heap.size w).alloc (Nat.le_refl _) _ |>.trans (b1.mono (by simp))) g2 (by omega) (by simp))
  have h3 := h2.alloc (.cells #[.int .i64 c, .int .i64 p, .int .i64 b] 25)
  have K2 := Blk.new w2 25 #[.int .i64 c, .int .i64 p, .int .i64 b]
  have hs : IntKind.i64.wrap (c - b) = c - b := IntWalk.i64_in _ (by omega)
  obtain ⟨k0, k1, k2, kf⟩ := K2.three
  clear h0 h1 b1 g2 B1
  go_wp2_with fail
  go_region_held3 (fun x => x.cell? ⟨w2.heap.size, 0, none⟩ = some (.int .i64 c) ∧ x.cell? ⟨w2.heap.size, 1, none⟩ = some (.int .i64 p) ∧ x.cell? ⟨w2.heap.size, 2, none⟩ = some (.int .i64 b)) ((refine ⟨?_, ?_, ?_⟩ <;> first | assumption | (simp [go_sem, *]; done))) ((go_at_call 36; refine (one_drew [1, 2, c - b, 0, c, 3] _ _ _ _ _ _ _ h3 (by omega) (by simp) rfl (by simp) rfl (by simp)).mono ?_; rintro e w3 ⟨n, rfl, hm, h4, g4⟩; have K3 := K2.grown g4 (by simp; omega); have B3 := B2.grown g4 (by simp); obtain ⟨j0, j1, j2, jf⟩ := K3.three; obtain ⟨r0, r1, r2, rf⟩ := B3.three; have HM := hid hm; clear hm))
  go_wp2
  have hm := HM.out
  simp at hm
  refine bodyPost_ret (v := .tuple #[.agg #[.int .i64 c, .int .i64 p, .int .i64 b], .int .i64 n]) (by simp [results, Try.results27, go_sem, *]) rfl ⟨c, p, b, n, rfl, x1, x2, x3, x4, by omega, by omega, ?_⟩
  have D3 := below_of_only (G2.out.alloc (by omega) (.cells #[.int .i64 c, .int .i64 p, .int .i64 b] 25)) g4 (by simp; omega) (by omega)
  exact ((D3.setCell (Nat.le_refl _) _).setCell (Nat.le_refl _) _).setCell (Nat.le_refl _) _

set_option maxHeartbeats 800000 in
theorem drawGiveBack_any (w : World) (A : Option Addr) (len cap : Nat) (h : Bytes w w.heap.size A len cap) :
    Calls Try.prog 28 #[.slice A len cap] w (RefundDraw w) := by
  have h0 := (h.alloc (Nat.le_refl _) (.cells #[.int .i64 0, .int .i64 0, .int .i64 0] 25)).up (B' := (w.alloc (.cells #[.int .i64 0, .int .i64 0, .int .i64 0] 25)).heap.size) (by simp)
  clear h
  go_enter Try.func28, Try.ntmps28
  go_wp2_with fail
  refine (drawRefundFor_any _ _ _ _ h0).mono ?_
  rintro e w1 ⟨c, p, b, n, rfl, x1, x2, x3, x4, x5, x6, b1⟩
  have B1 := (Blk.new w 25 #[.int .i64 0, .int .i64 0, .int .i64 0]).below b1 (by simp)
  have D1 := hid (((Below.refl w.heap.size w).alloc (Nat.le_refl _) _).trans (b1.mono (by simp)))
  obtain ⟨k0, k1, k2, kf⟩ := B1.three
  clear h0 b1 B1
  go_wp2
  refine bodyPost_ret (v := .tuple #[.agg #[.int .i64 c, .int .i64 p, .int .i64 b], .int .i64 n]) (by simp [results, Try.results28, go_sem, *]) rfl ⟨c, p, b, n, rfl, x1, x2, x3, x4, x5, x6, ?_⟩
  exact ((D1.out.setCell (Nat.le_refl _) _).setCell (Nat.le_refl _) _).setCell (Nat.le_refl _) _

end Go.Proofs.Ytgeffidkamklaaa
