/- The plain law of change, row by row: what the tables hold. No program in sight. -/
import Derived.Test.YtcjcolkhhmpmjaaTillC
namespace Go.Proofs.Ytcjcolkhhmpmjaa

/-- The fewest coins of the first k kinds, for each amount below m. -/
def fewK (l : List (Int × Int)) (k : Nat) (n : Int) : Int := few (l.take k).reverse n
def rowI (l : List (Int × Int)) (m k : Nat) : List Int := (List.range m).map fun (n : Nat) => fewK l k n
def conv (z : Int) : Int := if z < noneC then z else -1
def rowS (l : List (Int × Int)) (m k : Nat) : List Int := (List.range m).map fun (n : Nat) => conv (fewK l k n)
theorem rowI_len {l : List (Int × Int)} {m k : Nat} : (rowI l m k).length = m := by simp [rowI]
theorem rowS_len {l : List (Int × Int)} {m k : Nat} : (rowS l m k).length = m := by simp [rowS]
theorem rowI_at {l : List (Int × Int)} {m k n : Nat} (h : n < m) : g0 (rowI l m k) n = fewK l k n := by simp [g0, rowI, List.getD, h]
theorem rowS_at {l : List (Int × Int)} {m k n : Nat} (h : n < m) : g0 (rowS l m k) n = conv (fewK l k n) := by simp [g0, rowS, List.getD, h]
theorem fewK_zero {l : List (Int × Int)} {n : Int} : fewK l 0 n = if n = 0 then 0 else noneC := by simp [fewK, few]
theorem take_rev {l : List (Int × Int)} {k : Nat} (h : k < l.length) : (l.take (k + 1)).reverse = (g1 l k, g2 l k) :: (l.take k).reverse := by
  rw [take_succ2 h, List.reverse_append]; rfl
theorem fewK_succ {l : List (Int × Int)} {k : Nat} {n : Int} (h : k < l.length) : fewK l (k + 1) n = mTo (g1 l k, g2 l k) (fewK l k) n (tries (g1 l k, g2 l k) n) := by
  unfold fewK; rw [take_rev h]; rfl
theorem fewK_all {l : List (Int × Int)} {n : Int} : fewK l l.length n = few l.reverse n := by unfold fewK; rw [List.take_length]
theorem fewK_nonneg {l : List (Int × Int)} {k : Nat} {n : Int} : 0 ≤ fewK l k n := few_nonneg _ _
theorem fewK_none {l : List (Int × Int)} {k : Nat} {n : Int} : fewK l k n ≤ noneC := few_none _ _
/-- Where there is a choice its number is small. -/
theorem fewK_small {l : List (Int × Int)} {k : Nat} {n : Int} (hl : ST l) (hn : 0 ≤ n) (h : fewK l k n < noneC) : fewK l k n ≤ 100 := by
  have hc : CT (l.take k).reverse := (hl.ct.take k).rev
  obtain ⟨h1, h2⟩ := trace_sel hc hn h
  have h3 := h1.bd hc
  have h4 : (l.take k).reverse.length ≤ 5 := by rw [List.length_reverse, List.length_take]; have := hl.2.2; omega
  unfold fewK
  omega
theorem tries_pos {x : Int × Int} {n : Int} : 1 ≤ tries x n := by unfold tries; omega
theorem tries_le {x : Int × Int} {n : Int} (h : x.2 ≤ 20) : tries x n ≤ 21 := by unfold tries; omega

/-- One number of coins more: the program's step. -/
theorem mTo_succ {x : Int × Int} {f : Int → Int} {n : Int} {c : Nat} : mTo x f n (c + 1) = min (mTo x f n c) ((c : Int) + f (n - (c : Int) * x.1)) := rfl
/-- The reference's step. -/
theorem conv_no {M F : Int} {c : Nat} (hM : M ≤ noneC) (hF : ¬ F < noneC) : conv (min M ((c : Int) + F)) = conv M := by
  have : min M ((c : Int) + F) = M := by omega
  rw [this]
theorem conv_lt {z : Int} (h : z < noneC) : conv z = z := if_pos h
theorem conv_ge {z : Int} (h : ¬ z < noneC) : conv z = -1 := if_neg h
theorem conv_yes {M F : Int} {c : Nat} (hM0 : 0 ≤ M) (hF : F ≤ 100) (hc : c ≤ 21) (h0 : 0 ≤ F) (h : conv M < 0 ∨ F + (c : Int) < conv M) : conv (min M ((c : Int) + F)) = F + (c : Int) := by
  have h1 : (c : Int) + F < noneC := by unfold noneC; omega
  have e : min M ((c : Int) + F) = (c : Int) + F := by
    refine Int.min_eq_right ?_
    by_cases hM : M < noneC
    · rw [conv_lt hM] at h; omega
    · omega
  rw [e, conv_lt h1]; omega
theorem conv_keep {M F : Int} {c : Nat} (h : ¬ (conv M < 0 ∨ F + (c : Int) < conv M)) : conv (min M ((c : Int) + F)) = conv M := by
  have e : min M ((c : Int) + F) = M := by
    refine Int.min_eq_left ?_
    by_cases hM : M < noneC
    · rw [conv_lt hM] at h; omega
    · rw [conv_ge hM] at h; omega
  rw [e]
theorem conv_neg {z : Int} (h0 : 0 ≤ z) : conv z < 0 ↔ ¬ z < noneC := by unfold conv; split <;> omega
theorem conv_bd {z : Int} (h0 : 0 ≤ z) : -1 ≤ conv z ∧ conv z ≤ 1073741824 := by unfold conv noneC; split <;> omega

/-! ### Which coins -/
/-- How many coins of kind k are chosen for an amount. -/
def pickK (l : List (Int × Int)) (k : Nat) (n : Int) : Nat := pick (g1 l k, g2 l k) (fewK l k) n (fewK l (k + 1) n)
theorem pickC_max {x : Int × Int} {f : Int → Int} {n best : Int} : ∀ {m : Nat} (j : Nat), pickC x f n best m < j → j ≤ m → fitC x f n best j = false
  | 0, j, h, hm => by omega
  | m + 1, j, h, hm => by
    simp only [pickC] at h
    by_cases hf : fitC x f n best ((m + 1 : Nat) : Int) = true
    · rw [if_pos hf] at h; omega
    · rw [if_neg hf] at h
      rcases Nat.lt_succ_iff_lt_or_eq.1 (Nat.lt_succ_of_le hm) with h2 | h2
      · exact pickC_max j h (by omega)
      · subst h2; simpa using hf
/-- The chosen number fits, and no greater one does. -/
theorem pickK_fit {l : List (Int × Int)} {k : Nat} {n : Int} (hl : ST l) (hk : k < l.length) (hn : 0 ≤ n) (h : fewK l (k + 1) n < noneC) :
    (pickK l k n : Int) ≤ g2 l k ∧ (pickK l k n : Int) * g1 l k ≤ n ∧ (pickK l k n : Int) + fewK l k (n - (pickK l k n : Int) * g1 l k) = fewK l (k + 1) n := by
  have hb := hl.bd hk
  have h' : few ((g1 l k, g2 l k) :: (l.take k).reverse) n < noneC := by rw [← take_rev hk]; exact h
  have := pick_fit (x := (g1 l k, g2 l k)) (r := (l.take k).reverse) (by dsimp only; omega) hn h'
  rw [← take_rev hk] at this
  have h2 : pickK l k n = pick (g1 l k, g2 l k) (few (l.take k).reverse) n (few (l.take (k + 1)).reverse n) := rfl
  rw [← h2] at this
  refine ⟨this.1, this.2.1, ?_⟩
  have h3 := this.2.2
  show (pickK l k n : Int) + few (l.take k).reverse _ = few (l.take (k + 1)).reverse n
  rw [h3]; omega
theorem pickK_max {l : List (Int × Int)} {k : Nat} {n : Int} {t : Nat} (h : pickK l k n < t) (ht : (t : Int) ≤ g2 l k) : (t : Int) * g1 l k ≤ n → (t : Int) + fewK l k (n - (t : Int) * g1 l k) ≠ fewK l (k + 1) n := by
  intro h1 h2
  have := pickC_max (x := (g1 l k, g2 l k)) (f := fewK l k) (n := n) (best := fewK l (k + 1) n) (m := (g2 l k).toNat) t h (by omega)
  have h3 := (fitC_iff (x := (g1 l k, g2 l k)) (f := fewK l k) (n := n) (best := fewK l (k + 1) n) (c := (t : Int))).2 ⟨h1, h2⟩
  rw [h3] at this
  cases this
/-- What is chosen of the first kinds, in their order. -/
def chK (l : List (Int × Int)) (k : Nat) (n : Int) : List Int := (trace (l.take k).reverse n).reverse
theorem chK_succ {l : List (Int × Int)} {k : Nat} {n : Int} (hk : k < l.length) : chK l (k + 1) n = chK l k (n - (pickK l k n : Int) * g1 l k) ++ [(pickK l k n : Int)] := by
  unfold chK
  rw [take_rev hk]
  simp only [trace, List.reverse_cons]
  have h2 : pick (g1 l k, g2 l k) (few (l.take k).reverse) n (few ((g1 l k, g2 l k) :: (l.take k).reverse) n) = pickK l k n := by
    rw [← take_rev hk]; rfl
  rw [h2]
theorem chK_zero {l : List (Int × Int)} {n : Int} : chK l 0 n = [] := by simp [chK, trace]
theorem chK_all {l : List (Int × Int)} {n : Int} : chK l l.length n = chg l n := by unfold chK chg; rw [List.take_length]
theorem chK_len {l : List (Int × Int)} {k : Nat} {n : Int} (hk : k ≤ l.length) : (chK l k n).length = k := by
  unfold chK; rw [List.length_reverse, trace_len, List.length_reverse, List.length_take]; omega

end Go.Proofs.Ytcjcolkhhmpmjaa
