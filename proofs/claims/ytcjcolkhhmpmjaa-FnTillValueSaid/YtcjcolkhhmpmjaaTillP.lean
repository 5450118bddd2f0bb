/- The plain law of tills: valid tills, their values. No program in sight. -/
import Derived.Test.YtcjcolkhhmpmjaaRng
namespace Go.Proofs.Ytcjcolkhhmpmjaa
open Go.RowKit (wrap64)

def coinOk (l : List (Int × Int)) (k : Nat) : Bool := withinB (g1 l k) 1 500 && (withinB (g2 l k) 0 20 && (decide (k = 0) || decide (g1 l (k - 1) < g1 l k)))
def vTill (l : List (Int × Int)) : Bool := (List.range l.length).all (coinOk l) && decide (l.length ≤ 5)

/-- Valid tills, as lists. -/
def ST (l : List (Int × Int)) : Prop := l.Pairwise (fun a b => a.1 < b.1) ∧ (∀ x ∈ l, (1 ≤ x.1 ∧ x.1 ≤ 500) ∧ 0 ≤ x.2 ∧ x.2 ≤ 20) ∧ l.length ≤ 5

theorem coinOk_true {l : List (Int × Int)} {k : Nat} : coinOk l k = true ↔ (1 ≤ g1 l k ∧ g1 l k ≤ 500) ∧ (0 ≤ g2 l k ∧ g2 l k ≤ 20) ∧ (k = 0 ∨ g1 l (k - 1) < g1 l k) := by
  simp [coinOk, withinB]

theorem vTill_iff {l : List (Int × Int)} : vTill l = true ↔ ST l := by
  unfold vTill
  rw [Bool.and_eq_true, List.all_eq_true, decide_eq_true_eq]
  constructor
  · rintro ⟨h, hl⟩
    have h' : ∀ k, k < l.length → _ := fun k hk => coinOk_true.1 (h k (List.mem_range.2 hk))
    refine ⟨?_, ?_, hl⟩
    · rw [List.pairwise_iff_getElem]
      intro i j hi hj hij
      have := asc_of_next (f := g1 l) (fun k hk => (h' k hk).2.2) j i hij hj
      rw [g12_eq hi, g12_eq hj]
      exact this
    · intro x hx
      obtain ⟨k, hk, rfl⟩ := List.mem_iff_getElem.1 hx
      rw [g12_eq hk]
      exact ⟨(h' k hk).1, (h' k hk).2.1⟩
  · rintro ⟨h1, h2, h3⟩
    refine ⟨fun k hk => ?_, h3⟩
    have hk' := List.mem_range.1 hk
    have hx := h2 l[k] (List.getElem_mem hk')
    rw [g12_eq hk'] at hx
    refine coinOk_true.2 ⟨hx.1, hx.2, ?_⟩
    by_cases h0 : k = 0
    · exact .inl h0
    · refine .inr ?_
      have := List.pairwise_iff_getElem.1 h1 (k - 1) k (by omega) hk' (by omega)
      rwa [g12_eq (by omega : k - 1 < l.length), g12_eq hk'] at this

theorem ST.bd {l : List (Int × Int)} (h : ST l) {k : Nat} (hk : k < l.length) : (1 ≤ g1 l k ∧ g1 l k ≤ 500) ∧ 0 ≤ g2 l k ∧ g2 l k ≤ 20 := by
  have hx := h.2.1 l[k] (List.getElem_mem hk)
  rw [g12_eq hk] at hx
  exact hx
theorem ST.sub {l m : List (Int × Int)} (h : ST l) (hs : m.Sublist l) : ST m :=
  ⟨h.1.sublist hs, fun x hx => h.2.1 x (hs.subset hx), by have := hs.length_le; have := h.2.2; omega⟩
theorem ST.set {l : List (Int × Int)} (h : ST l) {k : Nat} {c : Int} (hk : k < l.length) (h0 : 0 ≤ c) (h1 : c ≤ 20) : ST (l.set k (g1 l k, c)) := by
  refine vTill_iff.1 ?_
  have hv := vTill_iff.2 h
  unfold vTill at hv ⊢
  rw [Bool.and_eq_true, List.all_eq_true, decide_eq_true_eq] at hv ⊢
  obtain ⟨a1, a2⟩ := hv
  rw [List.length_set]
  refine ⟨fun j hj => ?_, a2⟩
  have hj' := List.mem_range.1 hj
  have := coinOk_true.1 (a1 j hj)
  have e1 : ∀ i, g1 (l.set k (g1 l k, c)) i = g1 l i := by
    intro i
    rw [g1_set hk]
    split
    · rename_i hki; subst hki; rfl
    · rfl
  refine coinOk_true.2 ⟨by rw [e1]; exact this.1, ?_, by rw [e1, e1]; exact this.2.2⟩
  rw [g2_set hk]
  split
  · exact ⟨h0, h1⟩
  · exact this.2.1

/-! ### Values -/
def tval : List (Int × Int) → Int
  | [] => 0
  | x :: r => x.1 * x.2 + tval r
theorem tval_append : ∀ (a b : List (Int × Int)), tval (a ++ b) = tval a + tval b
  | [], b => by simp [tval]
  | x :: r, b => by simp only [List.cons_append, tval, tval_append r b]; omega
theorem tval_step {l : List (Int × Int)} {k : Nat} (hk : k < l.length) : tval (l.take (k + 1)) = tval (l.take k) + g1 l k * g2 l k := by
  rw [take_succ2 hk, tval_append]; simp [tval]
theorem mul_bd {a b : Int} (h : (1 ≤ a ∧ a ≤ 500) ∧ 0 ≤ b ∧ b ≤ 20) : 0 ≤ a * b ∧ a * b ≤ 10000 := by
  refine ⟨Int.mul_nonneg (by omega) (by omega), ?_⟩
  have h1 : a * b ≤ 500 * b := Int.mul_le_mul_of_nonneg_right (by omega) (by omega)
  omega
theorem tval_bd : ∀ (l : List (Int × Int)), (∀ x ∈ l, (1 ≤ x.1 ∧ x.1 ≤ 500) ∧ 0 ≤ x.2 ∧ x.2 ≤ 20) → 0 ≤ tval l ∧ tval l ≤ 10000 * l.length
  | [], _ => by simp [tval]
  | x :: r, h => by
    have h1 := mul_bd (h x (by simp))
    have h2 := tval_bd r (fun y hy => h y (by simp [hy]))
    simp only [tval, List.length_cons]
    omega
theorem tval_of {l : List (Int × Int)} (h : ST l) : 0 ≤ tval l ∧ tval l ≤ 50000 := by
  have := tval_bd l h.2.1
  have := h.2.2
  omega
theorem tval_take {l : List (Int × Int)} (h : ST l) (k : Nat) : 0 ≤ tval (l.take k) ∧ tval (l.take k) ≤ 50000 := tval_of (h.sub (List.take_sublist ..))

end Go.Proofs.Ytcjcolkhhmpmjaa
