/- The plain law of lots of points: fewer lots, fewer points. No program in sight. -/
import Derived.Test.YtmlmjapmhdbcpaaLotsS
import Derived.Test.YtmlmjapmhdbcpaaLotsE
namespace Go.Proofs.Ytmlmjapmhdbcpaa

theorem SL.sub {l m : List (Int × Int)} (h : SL l) (hs : m.Sublist l) : SL m :=
  ⟨h.1.sublist hs, fun x hx => h.2.1 x (hs.subset hx), by have := hs.length_le; have := h.2.2; omega⟩
theorem vLots_erase {l : List (Int × Int)} {k : Nat} (h : vLots l = true) : vLots (l.take k ++ l.drop (k + 1)) = true := by
  refine vLots_iff.2 ((vLots_iff.1 h).sub ?_)
  rw [← List.eraseIdx_eq_take_drop_succ]
  exact List.eraseIdx_sublist ..
theorem ptsOn_anti {d d' : Int} (h : d ≤ d') : ∀ (l : List (Int × Int)), (∀ x ∈ l, 1 ≤ x.2 ∧ x.2 ≤ 50000) → ptsOn d' l ≤ ptsOn d l
  | [], _ => Int.le_refl _
  | x :: r, hb => by
    have := ptsOn_anti h r (fun y hy => hb y (by simp [hy]))
    have := hb x (by simp)
    simp only [ptsOn]
    split <;> split <;> omega
def ptot : List (Int × Int) → Int
  | [] => 0
  | x :: r => x.2 + ptot r
theorem ptot_append : ∀ (a b : List (Int × Int)), ptot (a ++ b) = ptot a + ptot b
  | [], b => by simp [ptot]
  | x :: r, b => by simp only [List.cons_append, ptot, ptot_append r b]; omega
theorem ptot_step {l : List (Int × Int)} {k : Nat} (hk : k < l.length) : ptot (l.take (k + 1)) = ptot (l.take k) + g2 l k := by
  rw [take_succ2 hk, ptot_append]; simp [ptot]
theorem ptot_bd : ∀ (l : List (Int × Int)), (∀ x ∈ l, 1 ≤ x.2 ∧ x.2 ≤ 50000) → 0 ≤ ptot l ∧ ptot l ≤ 50000 * l.length
  | [], _ => by simp [ptot]
  | x :: r, h => by
    have h1 := h x (by simp)
    have h2 := ptot_bd r (fun y hy => h y (by simp [hy]))
    simp only [ptot, List.length_cons]
    omega
theorem ptot_take {l : List (Int × Int)} (h : SL l) (k : Nat) : 0 ≤ ptot (l.take k) ∧ ptot (l.take k) ≤ 400000 := by
  have h1 := h.sub (List.take_sublist k l)
  have := ptot_bd _ h1.bd
  have := h1.2.2
  omega
theorem ptsOn_zero : ∀ (l : List (Int × Int)), (∀ x ∈ l, 0 ≤ x.1) → ptsOn 0 l = ptot l
  | [], _ => rfl
  | x :: r, h => by simp only [ptsOn, ptot]; rw [if_pos (h x (by simp)), ptsOn_zero r (fun y hy => h y (by simp [hy]))]
theorem ptsOn_tot {l : List (Int × Int)} (h : SL l) : ptsOn 0 l = ptot l := ptsOn_zero l fun x hx => (h.2.1 x hx).1.1

end Go.Proofs.Ytmlmjapmhdbcpaa
