/- The plain law of carts: lines with ascending articles. No program in sight. -/
import Derived.Test.YtmgphagahdepfaaRng
namespace Go.Proofs.Ytmgphagahdepfaa

def lineOk (n : Int) (l : List (Int × Int)) (k : Nat) : Bool := withinB (g1 l k) 0 (n - 1) && (withinB (g2 l k) 1 20 && (decide (k = 0) || decide (g1 l (k - 1) < g1 l k)))
def vCart (n : Int) (l : List (Int × Int)) : Bool := (List.range l.length).all (lineOk n l) && decide (l.length ≤ 8)

/-- Carts of n articles, as lists. -/
def SC (n : Int) (l : List (Int × Int)) : Prop := l.Pairwise (fun a b => a.1 < b.1) ∧ (∀ x ∈ l, (0 ≤ x.1 ∧ x.1 < n) ∧ 1 ≤ x.2 ∧ x.2 ≤ 20) ∧ l.length ≤ 8

theorem lineOk_true {n : Int} {l : List (Int × Int)} {k : Nat} : lineOk n l k = true ↔ (0 ≤ g1 l k ∧ g1 l k ≤ n - 1) ∧ (1 ≤ g2 l k ∧ g2 l k ≤ 20) ∧ (k = 0 ∨ g1 l (k - 1) < g1 l k) := by
  simp [lineOk, withinB]
theorem vCart_iff {n : Int} {l : List (Int × Int)} : vCart n l = true ↔ SC n l := by
  unfold vCart
  rw [Bool.and_eq_true, List.all_eq_true, decide_eq_true_eq]
  constructor
  · rintro ⟨h, hl⟩
    have h' : ∀ k, k < l.length → _ := fun k hk => lineOk_true.1 (h k (List.mem_range.2 hk))
    refine ⟨?_, ?_, hl⟩
    · rw [List.pairwise_iff_getElem]
      intro i j hi hj hij
      have := asc_of_next (f := g1 l) (fun k hk => (h' k hk).2.2) j i hij hj
      rw [g12_eq hi, g12_eq hj]
      exact this
    · intro x hx
      obtain ⟨k, hk, rfl⟩ := List.mem_iff_getElem.1 hx
      rw [g12_eq hk]
      have := (h' k hk).1
      exact ⟨⟨this.1, by dsimp only; omega⟩, (h' k hk).2.1⟩
  · rintro ⟨h1, h2, h3⟩
    refine ⟨fun k hk => ?_, h3⟩
    have hk' := List.mem_range.1 hk
    have hx := h2 l[k] (List.getElem_mem hk')
    rw [g12_eq hk'] at hx
    refine lineOk_true.2 ⟨⟨hx.1.1, by have := hx.1.2; dsimp only at this; omega⟩, hx.2, ?_⟩
    by_cases h0 : k = 0
    · exact .inl h0
    · refine .inr ?_
      have := List.pairwise_iff_getElem.1 h1 (k - 1) k (by omega) hk' (by omega)
      rwa [g12_eq (by omega : k - 1 < l.length), g12_eq hk'] at this
theorem SC.at_ {n : Int} {l : List (Int × Int)} (h : SC n l) {k : Nat} (hk : k < l.length) : (0 ≤ g1 l k ∧ g1 l k < n) ∧ 1 ≤ g2 l k ∧ g2 l k ≤ 20 := h.2.1 _ (mem12 hk)
theorem vCart_nil (n : Int) : vCart n [] = true := rfl

/-- The pieces of an article. -/
def cnt (i : Int) : List (Int × Int) → Int
  | [] => 0
  | x :: r => (if x.1 = i then x.2 else 0) + cnt i r
theorem cnt_append {i : Int} : ∀ (a b : List (Int × Int)), cnt i (a ++ b) = cnt i a + cnt i b
  | [], b => by simp [cnt]
  | x :: r, b => by simp only [List.cons_append, cnt, cnt_append r b]; omega
theorem cnt_step {i : Int} {l : List (Int × Int)} {k : Nat} (hk : k < l.length) : cnt i (l.take (k + 1)) = cnt i (l.take k) + if g1 l k = i then g2 l k else 0 := by
  rw [take_succ2 hk, cnt_append]; simp [cnt]
theorem cnt_bd {i : Int} : ∀ (l : List (Int × Int)), (∀ x ∈ l, 1 ≤ x.2 ∧ x.2 ≤ 20) → 0 ≤ cnt i l ∧ cnt i l ≤ 20 * l.length
  | [], _ => by simp [cnt]
  | x :: r, h => by
    have h1 := h x (by simp)
    have h2 := cnt_bd (i := i) r (fun y hy => h y (by simp [hy]))
    simp only [cnt, List.length_cons]
    split <;> omega
theorem cnt_none {i : Int} : ∀ (l : List (Int × Int)), (∀ x ∈ l, x.1 ≠ i) → cnt i l = 0
  | [], _ => rfl
  | x :: r, h => by simp only [cnt]; rw [if_neg (h x (by simp)), cnt_none r (fun y hy => h y (by simp [hy]))]; rfl
theorem cnt_mem : ∀ {l : List (Int × Int)} {x : Int × Int}, (∀ x ∈ l, 1 ≤ x.2 ∧ x.2 ≤ 20) → x ∈ l → x.2 ≤ cnt x.1 l
  | y :: r, x, h, hx => by
    have hr := fun z hz => h z (List.mem_cons_of_mem y hz)
    simp only [cnt]
    rcases List.mem_cons.1 hx with rfl | hx
    · rw [if_pos rfl]; have := (cnt_bd (i := x.1) r hr).1; omega
    · have := cnt_mem hr hx
      have := h y (by simp)
      split <;> omega
  | [], _, _, hx => absurd hx (by simp)
/-- An article has one line. -/
theorem cnt_one : ∀ {l : List (Int × Int)} {x : Int × Int}, l.Pairwise (fun a b => a.1 < b.1) → x ∈ l → cnt x.1 l = x.2
  | y :: r, x, h, hx => by
    rw [List.pairwise_cons] at h
    simp only [cnt]
    rcases List.mem_cons.1 hx with rfl | hx
    · rw [if_pos rfl, cnt_none r (fun z hz => by have := h.1 z hz; omega)]; omega
    · have := h.1 x hx
      rw [if_neg (by omega), cnt_one h.2 hx]; omega
  | [], _, _, hx => absurd hx (by simp)
def csum : List (Int × Int) → Int
  | [] => 0
  | x :: r => x.2 + csum r
theorem csum_append : ∀ (a b : List (Int × Int)), csum (a ++ b) = csum a + csum b
  | [], b => by simp [csum]
  | x :: r, b => by simp only [List.cons_append, csum, csum_append r b]; omega
theorem csum_step {l : List (Int × Int)} {k : Nat} (hk : k < l.length) : csum (l.take (k + 1)) = csum (l.take k) + g2 l k := by
  rw [take_succ2 hk, csum_append]; simp [csum]
theorem csum_bd : ∀ (l : List (Int × Int)), (∀ x ∈ l, 1 ≤ x.2 ∧ x.2 ≤ 20) → 0 ≤ csum l ∧ csum l ≤ 20 * l.length
  | [], _ => by simp [csum]
  | x :: r, h => by
    have h1 := h x (by simp)
    have h2 := csum_bd r (fun y hy => h y (by simp [hy]))
    simp only [csum, List.length_cons]
    omega
theorem SC.bd {n : Int} {l : List (Int × Int)} (h : SC n l) : ∀ x ∈ l, 1 ≤ x.2 ∧ x.2 ≤ 20 := fun x hx => (h.2.1 x hx).2

end Go.Proofs.Ytmgphagahdepfaa
