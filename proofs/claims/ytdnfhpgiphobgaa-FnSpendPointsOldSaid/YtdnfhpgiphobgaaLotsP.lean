/- The plain law of lots of points: valid lots, their sums, earning, spending. No program in sight. -/
import Derived.Test.YtdnfhpgiphobgaaNum
import Derived.Test.YtdnfhpgiphobgaaSl
namespace Go.Proofs.Ytdnfhpgiphobgaa
open Go.RowKit (wrap64)

def lotOk (l : List (Int × Int)) (k : Nat) : Bool := withinB (g1 l k) 0 999 && (withinB (g2 l k) 1 50000 && (decide (k = 0) || decide (g1 l (k - 1) < g1 l k)))
def vLots (l : List (Int × Int)) : Bool := (List.range l.length).all (lotOk l) && decide (l.length ≤ 8)

/-- Valid lots, as lists. -/
def SL (l : List (Int × Int)) : Prop := l.Pairwise (fun a b => a.1 < b.1) ∧ (∀ x ∈ l, (0 ≤ x.1 ∧ x.1 ≤ 999) ∧ 1 ≤ x.2 ∧ x.2 ≤ 50000) ∧ l.length ≤ 8

theorem lotOk_true {l : List (Int × Int)} {k : Nat} : lotOk l k = true ↔ (0 ≤ g1 l k ∧ g1 l k ≤ 999) ∧ (1 ≤ g2 l k ∧ g2 l k ≤ 50000) ∧ (k = 0 ∨ g1 l (k - 1) < g1 l k) := by
  simp [lotOk, withinB]

/-- Whatever ascends from each element to the next ascends. -/
theorem asc_of_next {f : Nat → Int} {n : Nat} (h : ∀ k, k < n → k = 0 ∨ f (k - 1) < f k) : ∀ j i, i < j → j < n → f i < f j := by
  intro j
  induction j with
  | zero => intro i hi; omega
  | succ j ih =>
    intro i hi hj
    have h1 : f j < f (j + 1) := by
      rcases h (j + 1) hj with h | h
      · omega
      · simpa using h
    rcases Nat.lt_succ_iff_lt_or_eq.1 hi with h2 | h2
    · have := ih i h2 (by omega); omega
    · subst h2; exact h1

theorem vLots_iff {l : List (Int × Int)} : vLots l = true ↔ SL l := by
  unfold vLots
  rw [Bool.and_eq_true, List.all_eq_true, decide_eq_true_eq]
  constructor
  · rintro ⟨h, hl⟩
    have h' : ∀ k, k < l.length → _ := fun k hk => lotOk_true.1 (h k (List.mem_range.2 hk))
    refine ⟨?_, ?_, hl⟩
    · rw [List.pairwise_iff_getElem]
      intro i j hi hj hij
      have := asc_of_next (f := g1 l) (fun k hk => (h' k hk).2.2) j i hij hj
      rw [g12_eq hi, g12_eq hj]
      exact this
    · intro x hx
      obtain ⟨k, hk, rfl⟩ := List.mem_iff_getElem.1 hx
      rw [g12_eq hk]
      exact ⟨(h' k hk).1, (h' k hk).2.1⟩
  · rintro ⟨h1, h2, h3⟩
    refine ⟨fun k hk => ?_, h3⟩
    have hk' := List.mem_range.1 hk
    have hx := h2 l[k] (List.getElem_mem hk')
    rw [g12_eq hk'] at hx
    refine lotOk_true.2 ⟨hx.1, hx.2, ?_⟩
    by_cases h0 : k = 0
    · exact .inl h0
    · refine .inr ?_
      have := List.pairwise_iff_getElem.1 h1 (k - 1) k (by omega) hk' (by omega)
      rwa [g12_eq (by omega : k - 1 < l.length), g12_eq hk'] at this

/-- How the loop goes on. -/
theorem range_all_succ {p : Nat → Bool} {k : Nat} (h : (List.range k).all p = true) (hp : p k = true) : (List.range (k + 1)).all p = true := by
  rw [List.range_succ, List.all_append, h]; simp [hp]
theorem range_all_no {p : Nat → Bool} {n k : Nat} (hk : k < n) (hp : p k = false) : (List.range n).all p = false := by
  rw [List.all_eq_false]
  exact ⟨k, List.mem_range.2 hk, by simp [hp]⟩

/-! ### Sums -/
def ptsOn (day : Int) : List (Int × Int) → Int
  | [] => 0
  | x :: r => (if day ≤ x.1 then x.2 else 0) + ptsOn day r
/-- As the loop sums, with the machine's wrap. -/
def ptsW (day : Int) (l : List (Int × Int)) : Int := l.foldl (fun n x => if day ≤ x.1 then wrap64 (n + x.2) else n) 0

theorem take_succ2 {l : List (Int × Int)} {k : Nat} (hk : k < l.length) : l.take (k + 1) = l.take k ++ [(g1 l k, g2 l k)] := by
  rw [List.take_succ_eq_append_getElem hk, g12_eq hk]
theorem ptsW_step {day : Int} {l : List (Int × Int)} {k : Nat} (hk : k < l.length) :
    ptsW day (l.take (k + 1)) = if day ≤ g1 l k then wrap64 (ptsW day (l.take k) + g2 l k) else ptsW day (l.take k) := by
  unfold ptsW
  rw [take_succ2 hk, List.foldl_append]
  rfl

theorem ptsOn_append {day : Int} : ∀ (a b : List (Int × Int)), ptsOn day (a ++ b) = ptsOn day a + ptsOn day b
  | [], b => by simp [ptsOn]
  | x :: r, b => by simp only [List.cons_append, ptsOn, ptsOn_append r b]; omega
theorem ptsOn_bd {day : Int} : ∀ (l : List (Int × Int)), (∀ x ∈ l, 1 ≤ x.2 ∧ x.2 ≤ 50000) → 0 ≤ ptsOn day l ∧ ptsOn day l ≤ 50000 * l.length
  | [], _ => by simp [ptsOn]
  | x :: r, h => by
    have h1 := h x (by simp)
    have h2 := ptsOn_bd (day := day) r (fun y hy => h y (by simp [hy]))
    simp only [ptsOn, List.length_cons]
    split <;> omega
theorem SL.bd {l : List (Int × Int)} (h : SL l) : ∀ x ∈ l, 1 ≤ x.2 ∧ x.2 ≤ 50000 := fun x hx => (h.2.1 x hx).2
theorem ptsOn_of {day : Int} {l : List (Int × Int)} (h : SL l) : 0 ≤ ptsOn day l ∧ ptsOn day l ≤ 400000 := by
  have := ptsOn_bd (day := day) l h.bd
  have := h.2.2
  omega
theorem ptsW_eq {day : Int} : ∀ (l : List (Int × Int)) (n : Int), (∀ x ∈ l, 1 ≤ x.2 ∧ x.2 ≤ 50000) → 0 ≤ n → n + 50000 * l.length ≤ 1000000000 → l.foldl (fun n x => if day ≤ x.1 then wrap64 (n + x.2) else n) n = n + ptsOn day l
  | [], n, _, _, _ => by simp [ptsOn]
  | x :: r, n, h, h0, hn => by
    have h1 := h x (by simp)
    simp only [List.length_cons] at hn
    simp only [List.foldl_cons, ptsOn]
    by_cases hd : day ≤ x.1
    · rw [if_pos hd, if_pos hd, IntWalk.wrap64_in _ (by omega), ptsW_eq r _ (fun y hy => h y (by simp [hy])) (by omega) (by omega)]; omega
    · rw [if_neg hd, if_neg hd, ptsW_eq r _ (fun y hy => h y (by simp [hy])) h0 (by omega)]; omega
theorem ptsW_on {day : Int} {l : List (Int × Int)} (h : SL l) : ptsW day l = ptsOn day l := by
  unfold ptsW
  rw [ptsW_eq l 0 h.bd (by omega) (by have := h.2.2; omega)]; omega

end Go.Proofs.Ytdnfhpgiphobgaa
