/- Words on lists of pairs, element by element. No program in sight. -/
import Derived.Test.YtmgphagahdepfaaNum
import Derived.Test.YtmgphagahdepfaaSl
namespace Go.Proofs.Ytmgphagahdepfaa

/-- Whatever ascends from each element to the next ascends. -/
theorem asc_of_next {f : Nat → Int} {n : Nat} (h : ∀ k, k < n → k = 0 ∨ f (k - 1) < f k) : ∀ j i, i < j → j < n → f i < f j := by
  intro j
  induction j with
  | zero => intro i hi; omega
  | succ j ih =>
    intro i hi hj
    have h1 : f j < f (j + 1) := by
      rcases h (j + 1) hj with h | h
      · omega
      · simpa using h
    rcases Nat.lt_succ_iff_lt_or_eq.1 hi with h2 | h2
    · have := ih i h2 (by omega); omega
    · subst h2; exact h1
/-- How the loop goes on. -/
theorem range_all_succ {p : Nat → Bool} {k : Nat} (h : (List.range k).all p = true) (hp : p k = true) : (List.range (k + 1)).all p = true := by
  rw [List.range_succ, List.all_append, h]; simp [hp]
theorem range_all_no {p : Nat → Bool} {n k : Nat} (hk : k < n) (hp : p k = false) : (List.range n).all p = false := by
  rw [List.all_eq_false]
  exact ⟨k, List.mem_range.2 hk, by simp [hp]⟩
theorem take_succ2 {l : List (Int × Int)} {k : Nat} (hk : k < l.length) : l.take (k + 1) = l.take k ++ [(g1 l k, g2 l k)] := by
  rw [List.take_succ_eq_append_getElem hk, g12_eq hk]
theorem ext12 {l m : List (Int × Int)} (h : l.length = m.length) (hi : ∀ i, i < l.length → g1 l i = g1 m i ∧ g2 l i = g2 m i) : l = m := by
  refine List.ext_getElem h fun i h1 h2 => ?_
  rw [g12_eq h1, g12_eq h2, (hi i h1).1, (hi i h1).2]
theorem g1_set {l : List (Int × Int)} {i j : Nat} {x : Int × Int} (hi : i < l.length) : g1 (l.set i x) j = if i = j then x.1 else g1 l j := by
  simp only [g1, List.getD_eq_getElem?_getD, List.getElem?_set]
  split
  · first | rfl | (rw [if_pos hi]; rfl)
  · rfl
theorem g2_set {l : List (Int × Int)} {i j : Nat} {x : Int × Int} (hi : i < l.length) : g2 (l.set i x) j = if i = j then x.2 else g2 l j := by
  simp only [g2, List.getD_eq_getElem?_getD, List.getElem?_set]
  split
  · first | rfl | (rw [if_pos hi]; rfl)
  · rfl
theorem g1_take {l : List (Int × Int)} {n k : Nat} (h : k < n) : g1 (l.take n) k = g1 l k := by
  simp only [g1, List.getD_eq_getElem?_getD, List.getElem?_take]; rw [if_pos h]
theorem g2_take {l : List (Int × Int)} {n k : Nat} (h : k < n) : g2 (l.take n) k = g2 l k := by
  simp only [g2, List.getD_eq_getElem?_getD, List.getElem?_take]; rw [if_pos h]
theorem mem12 {l : List (Int × Int)} {i : Nat} (hi : i < l.length) : (g1 l i, g2 l i) ∈ l := by rw [← g12_eq hi]; exact List.getElem_mem hi

end Go.Proofs.Ytmgphagahdepfaa
