/- Contracts of the generator of the arguments: points earned, points spent. -/
import Derived.Test.YtdnfhpgiphobgaaDrawDay
import Derived.Test.YtdnfhpgiphobgaaLotsW2
namespace Go.Proofs.Ytdnfhpgiphobgaa
open Go.RowKit

def LotsDraw2 (w : World) (e : Ending) (w' : World) : Prop :=
  ∃ (l : List (Int × Int)) (v : Value) (p d : Int), e = .returned (.tuple #[v, .int .i64 p, .int .i64 d]) ∧ l.length ≤ 9 ∧ Own enc2 2 33 w' w.heap.size v l ∧ Below w.heap.size w w'

set_option maxHeartbeats 800000 in
theorem drawEarnPoints_any (w : World) (A : Option Addr) (len cap : Nat) (h : Bytes w w.heap.size A len cap) :
    Calls Try.prog 11 #[.slice A len cap] w (LotsDraw2 w) := by
  go_enter Try.func11, Try.ntmps11
  go_wp2_with fail
  refine (newReader_any _ _ _ _ _ h (Nat.le_refl _)).mono ?_
  rintro e w1 ⟨rfl, h1, b1⟩
  have z1 := b1.size
  have hw1 := h1.lt.2
  go_wp2_with fail
  refine (anyLots_any _ _ _ _ h1 (by omega)).mono ?_
  rintro e w2 ⟨l, v, rfl, hl, _, O2, h2, g2⟩
  go_wp2_with fail
  refine (someDay_any _ _ _ _ h2 (by omega)).mono ?_
  rintro e w3 ⟨d, rfl, d1, d2, h3, g3⟩
  have O3 := O2.grown g3 (O2.off hw1)
  have G3 := only_trans g2 g3
  clear O2 h1 h2 g2 g3 h
  obtain ⟨A3, c3, rfl, _, r3⟩ := O3.reads len2
  by_cases hl0 : l.length = 0
  · have hd : decide (0 < l.length) = false := decide_eq_false (by omega)
    have HL := hid hl0
    clear hl0
    go_wp2_with fail
    refine (one_any [10, 1, 50000, 50001, 0, 77] _ _ _ _ _ _ _ h3 (by omega) rfl rfl (by simp) rfl (by simp)).mono ?_
    rintro e w4 ⟨p, rfl, _, h4, g4⟩
    have O4 := (O3.grown g4 (O3.off hw1)).less z1
    have G4 := hid (below_of_only b1 (only_trans G3 g4) z1 (Nat.le_refl _))
    clear O3 h3 h4 b1 g4 r3 G3
    go_wp2
    go_ret3
    exact ⟨l, _, p, d, rfl, hl, O4, G4.out⟩
  · have hd : decide (0 < l.length) = true := decide_eq_true (by omega)
    go_wp2_with fail
    refine (pick_any _ _ _ _ _ h3 (by omega)).mono ?_
    rintro e w4 ⟨m, rfl, m1, _, _, h4, g4⟩
    have O4 := O3.grown g4 (O3.off hw1)
    have G4 := only_trans G3 g4
    clear O3 h3 g4 r3 G3
    by_cases hm : m = 0
    · subst hm
      clear m1
      go_wp2_with fail
      refine (pick_any _ _ _ _ _ h4 (by omega)).mono ?_
      rintro e w5 ⟨q, rfl, q1, q2, _, h5, g5⟩
      have q3 := q2 (by omega)
      clear q2
      have O5 := O4.grown g5 (O4.off hw1)
      have G5 := only_trans G4 g5
      clear O4 h4 g5 G4
      obtain ⟨A5, c5, he, _, r5⟩ := O5.reads len2
      obtain ⟨rfl, _, rfl⟩ : A3 = A5 ∧ l.length = l.length ∧ c3 = c5 := by simpa using he
      obtain ⟨b, off, rfl, hbb, k1, _⟩ := r5.get2 (k := q.toNat) (by omega)
      clear he
      go_wp2_with fail
      refine (one_any [10, 1, 50000, 50001, 0, 77] _ _ _ _ _ _ _ h5 (by omega) rfl rfl (by simp) rfl (by simp)).mono ?_
      rintro e w6 ⟨p, rfl, _, h6, g6⟩
      have O6 := (O5.grown g6 (O5.off hw1)).less z1
      have G6 := hid (below_of_only b1 (only_trans G5 g6) z1 (Nat.le_refl _))
      clear O5 h5 h6 b1 g6 r5 G5
      go_wp2
      go_ret3
      exact ⟨l, _, p, _, rfl, hl, O6, G6.out⟩
    · go_wp2_with fail
      refine (one_any [10, 1, 50000, 50001, 0, 77] _ _ _ _ _ _ _ h4 (by omega) rfl rfl (by simp) rfl (by simp)).mono ?_
      rintro e w6 ⟨p, rfl, _, h6, g6⟩
      have O6 := (O4.grown g6 (O4.off hw1)).less z1
      have G6 := hid (below_of_only b1 (only_trans G4 g6) z1 (Nat.le_refl _))
      clear O4 h4 h6 b1 g6 G4
      go_wp2
      go_ret3
      exact ⟨l, _, p, d, rfl, hl, O6, G6.out⟩

theorem ptsW_bd {d : Int} : ∀ (l : List (Int × Int)) (n : Int), (∀ x ∈ l, 0 ≤ x.2 ∧ x.2 ≤ 50001) → 0 ≤ n → n + 50001 * l.length ≤ 1000000000 → 0 ≤ l.foldl (fun n x => if d ≤ x.1 then wrap64 (n + x.2) else n) n ∧ l.foldl (fun n x => if d ≤ x.1 then wrap64 (n + x.2) else n) n ≤ n + 50001 * l.length
  | [], n, _, h0, _ => by simp; omega
  | x :: r, n, h, h0, h1 => by
    have hx := h x (by simp)
    simp only [List.length_cons] at h1 ⊢
    simp only [List.foldl_cons]
    by_cases hd : d ≤ x.1
    · rw [if_pos hd, IntWalk.wrap64_in _ (by omega)]
      have := ptsW_bd (d := d) r (n + x.2) (fun y hy => h y (by simp [hy])) (by omega) (by omega)
      omega
    · rw [if_neg hd]
      have := ptsW_bd (d := d) r n (fun y hy => h y (by simp [hy])) h0 (by omega)
      omega

set_option maxHeartbeats 800000 in
theorem drawSpendPoints_any (w : World) (A : Option Addr) (len cap : Nat) (h : Bytes w w.heap.size A len cap) :
    Calls Try.prog 15 #[.slice A len cap] w (LotsDraw2 w) := by
  go_enter Try.func15, Try.ntmps15
  go_wp2_with fail
  refine (newReader_any _ _ _ _ _ h (Nat.le_refl _)).mono ?_
  rintro e w1 ⟨rfl, h1, b1⟩
  have z1 := b1.size
  have hw1 := h1.lt.2
  go_wp2_with fail
  refine (anyLots_any _ _ _ _ h1 (by omega)).mono ?_
  rintro e w2 ⟨l, v, rfl, hl, hx, O2, h2, g2⟩
  go_wp2_with fail
  refine (someDay_any _ _ _ _ h2 (by omega)).mono ?_
  rintro e w3 ⟨d, rfl, d1, d2, h3, g3⟩
  have hp := ptsW_bd (d := d) l 0 hx (Int.le_refl _) (by omega)
  obtain ⟨P, hP⟩ : ∃ P, ptsW d l = P := ⟨_, rfl⟩
  rw [show l.foldl (fun n x => if d ≤ x.1 then wrap64 (n + x.2) else n) 0 = P from hP] at hp
  have p1 := hp.1
  have p2 : P ≤ 1000000 := by omega
  have HP := hid hP
  have O3 := O2.grown g3 (O2.off hw1)
  have G3 := only_trans g2 g3
  clear O2 h1 h2 g2 g3 h hx hp hP
  obtain ⟨A3, c3, rfl, _, r3⟩ := O3.reads len2
  go_wp2_with fail
  refine (spointsOn_any l A3 c3 d _ r3 (by omega)).mono ?_
  rintro e w4 ⟨rfl, b4⟩
  rw [HP.out]
  have r4 := (r3.below b4 (Nat.le_refl _)).more b4.size
  have O4 := O3.below b4 (Nat.le_refl _)
  have h4 := h3.below b4 h3.lt.2
  have G4 := only_trans G3 (only_of_below (row := some w.heap.size) b4 (Nat.le_refl _))
  clear O3 h3 b4 r3 G3
  go_wp2_with fail
  refine (spointsOn_any l A3 c3 d _ r4 (by omega)).mono ?_
  rintro e w5 ⟨rfl, b5⟩
  rw [HP.out]
  have O5 := O4.below b5 (Nat.le_refl _)
  have h5 := h4.below b5 h4.lt.2
  have G5 := only_trans G4 (only_of_below (row := some w.heap.size) b5 (Nat.le_refl _))
  clear O4 h4 b5 r4 G4
  go_wp2_with fail
  refine (one_any [1, 10, 11, 110, 0, P, P + 1] _ _ _ _ _ _ _ h5 (by omega) rfl rfl (by simp) rfl (by simp)).mono ?_
  rintro e w6 ⟨p, rfl, _, h6, g6⟩
  have O6 := (O5.grown g6 (O5.off hw1)).less z1
  have G6 := hid (below_of_only b1 (only_trans G5 g6) z1 (Nat.le_refl _))
  clear O5 h5 h6 b1 g6 G5
  go_wp2
  go_ret3
  exact ⟨l, _, p, d, rfl, hl, O6, G6.out⟩

end Go.Proofs.Ytdnfhpgiphobgaa
