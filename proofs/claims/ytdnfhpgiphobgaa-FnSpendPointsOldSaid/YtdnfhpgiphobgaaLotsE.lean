/- The plain law of earning points. No program in sight. -/
import Derived.Test.YtdnfhpgiphobgaaLotsP
namespace Go.Proofs.Ytdnfhpgiphobgaa

def eqSum (u : Int) : List (Int × Int) → Int
  | [] => 0
  | x :: r => (if x.1 = u then x.2 else 0) + eqSum u r
def lower (u : Int) (l : List (Int × Int)) : List (Int × Int) := l.filter fun x => decide (x.1 < u)
def upper (u : Int) (l : List (Int × Int)) : List (Int × Int) := l.filter fun x => decide (u < x.1)
/-- Lots with points more in the lot of a day. -/
def earn (p u : Int) (l : List (Int × Int)) : List (Int × Int) := lower u l ++ (u, p + eqSum u l) :: upper u l

theorem eqSum_append {u : Int} : ∀ (a b : List (Int × Int)), eqSum u (a ++ b) = eqSum u a + eqSum u b
  | [], b => by simp [eqSum]
  | x :: r, b => by simp only [List.cons_append, eqSum, eqSum_append r b]; omega
theorem eqSum_none {u : Int} : ∀ (a : List (Int × Int)), (∀ x ∈ a, x.1 ≠ u) → eqSum u a = 0
  | [], _ => rfl
  | x :: r, h => by simp only [eqSum]; rw [if_neg (h x (by simp)), eqSum_none r (fun y hy => h y (by simp [hy]))]; omega
theorem eqSum_lower {u t : Int} (h : u ≤ t) : ∀ (a : List (Int × Int)), eqSum t (lower u a) = 0 := fun a =>
  eqSum_none _ fun x hx => by have := (List.mem_filter.1 hx).2; simp at this; omega
theorem eqSum_upper {u t : Int} (h : t ≤ u) : ∀ (a : List (Int × Int)), eqSum t (upper u a) = 0 := fun a =>
  eqSum_none _ fun x hx => by have := (List.mem_filter.1 hx).2; simp at this; omega
theorem eqSum_lower' {u t : Int} (h : t < u) : ∀ (a : List (Int × Int)), eqSum t (lower u a) = eqSum t a
  | [] => rfl
  | x :: r => by
    unfold lower at *
    rw [List.filter_cons]
    split
    · simp only [eqSum]; rw [show eqSum t (r.filter fun x => decide (x.1 < u)) = eqSum t r from eqSum_lower' h r]
    · rename_i h1
      simp at h1
      simp only [eqSum]; rw [show eqSum t (r.filter fun x => decide (x.1 < u)) = eqSum t r from eqSum_lower' h r, if_neg (by omega)]; omega
theorem eqSum_upper' {u t : Int} (h : u < t) : ∀ (a : List (Int × Int)), eqSum t (upper u a) = eqSum t a
  | [] => rfl
  | x :: r => by
    unfold upper at *
    rw [List.filter_cons]
    split
    · simp only [eqSum]; rw [show eqSum t (r.filter fun x => decide (u < x.1)) = eqSum t r from eqSum_upper' h r]
    · rename_i h1
      simp at h1
      simp only [eqSum]; rw [show eqSum t (r.filter fun x => decide (u < x.1)) = eqSum t r from eqSum_upper' h r, if_neg (by omega)]; omega
theorem eqSum_bd {u : Int} : ∀ (l : List (Int × Int)), (∀ x ∈ l, 1 ≤ x.2 ∧ x.2 ≤ 50000) → 0 ≤ eqSum u l ∧ eqSum u l ≤ 50000 * l.length
  | [], _ => by simp [eqSum]
  | x :: r, h => by
    have h1 := h x (by simp)
    have h2 := eqSum_bd (u := u) r (fun y hy => h y (by simp [hy]))
    simp only [eqSum, List.length_cons]
    split <;> omega

theorem lower_append {u : Int} (a b : List (Int × Int)) : lower u (a ++ b) = lower u a ++ lower u b := List.filter_append ..
theorem upper_append {u : Int} (a b : List (Int × Int)) : upper u (a ++ b) = upper u a ++ upper u b := List.filter_append ..
theorem lower_all {u : Int} {l : List (Int × Int)} (h : ∀ x ∈ l, x.1 < u) : lower u l = l := List.filter_eq_self.2 fun x hx => by simpa using h x hx
theorem upper_none {u : Int} {l : List (Int × Int)} (h : ∀ x ∈ l, x.1 < u) : upper u l = [] := List.filter_eq_nil_iff.2 fun x hx => by have := h x hx; simp; omega
theorem lower_lower {u t : Int} (h : u ≤ t) (l : List (Int × Int)) : lower t (lower u l) = lower u l := lower_all fun x hx => by have := (List.mem_filter.1 hx).2; simp at this; omega
theorem lower_lower' {u t : Int} (h : t ≤ u) (l : List (Int × Int)) : lower t (lower u l) = lower t l := by
  unfold lower; rw [List.filter_filter]; congr 1; funext x; rw [← Bool.decide_and, decide_eq_decide]; omega
theorem upper_upper {u t : Int} (h : t ≤ u) (l : List (Int × Int)) : upper t (upper u l) = upper u l := List.filter_eq_self.2 fun x hx => by have := (List.mem_filter.1 hx).2; simp at this ⊢; omega
theorem upper_upper' {u t : Int} (h : u ≤ t) (l : List (Int × Int)) : upper t (upper u l) = upper t l := by
  unfold upper; rw [List.filter_filter]; congr 1; funext x; rw [← Bool.decide_and, decide_eq_decide]; omega
theorem lower_upper {u t : Int} (h : t ≤ u) (l : List (Int × Int)) : lower t (upper u l) = [] := List.filter_eq_nil_iff.2 fun x hx => by have := (List.mem_filter.1 hx).2; simp at this ⊢; omega
theorem upper_lower {u t : Int} (h : u ≤ t) (l : List (Int × Int)) : upper t (lower u l) = [] := List.filter_eq_nil_iff.2 fun x hx => by have := (List.mem_filter.1 hx).2; simp at this ⊢; omega
theorem lower_upper_comm (u t : Int) (l : List (Int × Int)) : lower t (upper u l) = upper u (lower t l) := by
  unfold lower upper; rw [List.filter_filter, List.filter_filter]; congr 1; funext x; rw [Bool.and_comm]

/-! ### As the program earns: one lot at a time -/
theorem earn_lt {p u : Int} {l : List (Int × Int)} (h : ∀ x ∈ l, x.1 < u) : earn p u l = l ++ [(u, p)] := by
  unfold earn; rw [lower_all h, upper_none h, eqSum_none l fun x hx => by have := h x hx; omega]; simp
theorem earn_snoc_gt {p u : Int} {l : List (Int × Int)} {x : Int × Int} (h : u < x.1) : earn p u (l ++ [x]) = earn p u l ++ [x] := by
  have h1 : lower u [x] = [] := by simp [lower]; omega
  have h2 : upper u [x] = [x] := by simp [upper, h]
  unfold earn; rw [lower_append, upper_append, eqSum_append, h1, h2]; simp [eqSum, show ¬ x.1 = u by omega]
theorem earn_snoc_eq {p u : Int} {l : List (Int × Int)} {x : Int × Int} (hl : ∀ y ∈ l, y.1 < u) (h : x.1 = u) : earn p u (l ++ [x]) = l ++ [(u, x.2 + p)] := by
  have h1 : lower u [x] = [] := by simp [lower]; omega
  have h2 : upper u [x] = [] := by simp [upper]; omega
  unfold earn; rw [lower_append, upper_append, eqSum_append, h1, h2, lower_all hl, upper_none hl, eqSum_none l fun y hy => by have := hl y hy; omega]; simp [eqSum, h]; omega

/-! ### As the reference earns -/
theorem lower_snoc {u : Int} {l : List (Int × Int)} {x : Int × Int} : lower u (l ++ [x]) = if x.1 < u then lower u l ++ [x] else lower u l := by
  rw [lower_append]; split <;> rename_i h <;> simp [lower, h]
theorem upper_snoc {u : Int} {l : List (Int × Int)} {x : Int × Int} : upper u (l ++ [x]) = if u < x.1 then upper u l ++ [x] else upper u l := by
  rw [upper_append]; split <;> rename_i h <;> simp [upper, h]
theorem eqSum_snoc {u : Int} {l : List (Int × Int)} {x : Int × Int} : eqSum u (l ++ [x]) = if x.1 = u then eqSum u l + x.2 else eqSum u l := by
  rw [eqSum_append]; split <;> rename_i h <;> simp [eqSum, h]

/-! ### What earning does -/
theorem ptsOn_split (d u : Int) : ∀ (l : List (Int × Int)), ptsOn d l = ptsOn d (lower u l) + (if d ≤ u then eqSum u l else 0) + ptsOn d (upper u l)
  | [] => by simp [ptsOn, lower, upper, eqSum]
  | x :: r => by
    have ih := ptsOn_split d u r
    have e1 : lower u (x :: r) = if x.1 < u then x :: lower u r else lower u r := by unfold lower; rw [List.filter_cons]; simp
    have e2 : upper u (x :: r) = if u < x.1 then x :: upper u r else upper u r := by unfold upper; rw [List.filter_cons]; simp
    by_cases h1 : x.1 < u
    · have e3 : eqSum u (x :: r) = eqSum u r := by simp only [eqSum]; rw [if_neg (by omega)]; omega
      rw [e1, e2, e3, if_pos h1, if_neg (show ¬ u < x.1 by omega)]
      simp only [ptsOn, ih]
      omega
    · by_cases h2 : u < x.1
      · have e3 : eqSum u (x :: r) = eqSum u r := by simp only [eqSum]; rw [if_neg (by omega)]; omega
        rw [e1, e2, e3, if_neg h1, if_pos h2]
        simp only [ptsOn, ih]
        omega
      · have hx : x.1 = u := by omega
        have e3 : eqSum u (x :: r) = x.2 + eqSum u r := by simp only [eqSum]; rw [if_pos hx]
        rw [e1, e2, e3, if_neg h1, if_neg h2]
        simp only [ptsOn, ih, hx]
        split <;> omega
theorem ptsOn_earn (d p u : Int) (l : List (Int × Int)) : ptsOn d (earn p u l) = ptsOn d l + if d ≤ u then p else 0 := by
  rw [ptsOn_split d u l]
  unfold earn
  rw [ptsOn_append]
  simp only [ptsOn]
  split <;> omega

theorem earn_comm_lt {p u q t : Int} (h : t < u) (l : List (Int × Int)) : earn p u (earn q t l) = earn q t (earn p u l) := by
  have a1 : lower u (earn q t l) = lower t l ++ (t, q + eqSum t l) :: lower u (upper t l) := by
    unfold earn
    rw [lower_append, lower_lower (by omega)]
    congr 1
    show lower u ([(t, q + eqSum t l)] ++ upper t l) = _
    rw [lower_append]
    simp [lower, h]
  have a2 : eqSum u (earn q t l) = eqSum u l := by
    unfold earn
    rw [eqSum_append, eqSum_lower (by omega)]
    simp only [eqSum]
    rw [if_neg (by omega), eqSum_upper' h]; omega
  have a3 : upper u (earn q t l) = upper u l := by
    unfold earn
    rw [upper_append, upper_lower (by omega)]
    show [] ++ upper u ([(t, q + eqSum t l)] ++ upper t l) = _
    rw [upper_append, upper_upper' (by omega)]
    have : upper u [(t, q + eqSum t l)] = [] := by simp [upper]; omega
    rw [this]; rfl
  have c1 : lower t (earn p u l) = lower t l := by
    unfold earn
    rw [lower_append, lower_lower' (by omega)]
    show lower t l ++ lower t ([(u, p + eqSum u l)] ++ upper u l) = _
    rw [lower_append, lower_upper (by omega)]
    have : lower t [(u, p + eqSum u l)] = [] := by simp [lower]; omega
    rw [this]; simp
  have c2 : eqSum t (earn p u l) = eqSum t l := by
    unfold earn
    rw [eqSum_append, eqSum_lower' h]
    simp only [eqSum]
    rw [if_neg (by omega), eqSum_upper (by omega)]; omega
  have c3 : upper t (earn p u l) = upper t (lower u l) ++ (u, p + eqSum u l) :: upper u l := by
    unfold earn
    rw [upper_append]
    congr 1
    show upper t ([(u, p + eqSum u l)] ++ upper u l) = _
    rw [upper_append, upper_upper (by omega)]
    simp [upper, h]
  rw [show earn p u (earn q t l) = lower u (earn q t l) ++ (u, p + eqSum u (earn q t l)) :: upper u (earn q t l) from rfl, a1, a2, a3,
    show earn q t (earn p u l) = lower t (earn p u l) ++ (t, q + eqSum t (earn p u l)) :: upper t (earn p u l) from rfl, c1, c2, c3, lower_upper_comm]
  simp
theorem earn_comm (p u q t : Int) (l : List (Int × Int)) : earn p u (earn q t l) = earn q t (earn p u l) := by
  rcases Int.lt_trichotomy t u with h | h | h
  · exact earn_comm_lt h l
  · subst h
    have a1 : ∀ q, lower t (earn q t l) = lower t l := fun q => by
      unfold earn
      rw [lower_append, lower_lower (by omega)]
      show lower t l ++ lower t ([(t, q + eqSum t l)] ++ upper t l) = _
      rw [lower_append, lower_upper (by omega)]
      simp [lower]
    have a2 : ∀ q, eqSum t (earn q t l) = q + eqSum t l := fun q => by
      unfold earn
      rw [eqSum_append, eqSum_lower (by omega)]
      simp only [eqSum, if_true]
      rw [eqSum_upper (by omega)]; omega
    have a3 : ∀ q, upper t (earn q t l) = upper t l := fun q => by
      unfold earn
      rw [upper_append, upper_lower (by omega)]
      show [] ++ upper t ([(t, q + eqSum t l)] ++ upper t l) = _
      rw [upper_append, upper_upper (by omega)]
      simp [upper]
    rw [show earn p t (earn q t l) = lower t (earn q t l) ++ (t, p + eqSum t (earn q t l)) :: upper t (earn q t l) from rfl, a1, a2, a3,
      show earn q t (earn p t l) = lower t (earn p t l) ++ (t, q + eqSum t (earn p t l)) :: upper t (earn p t l) from rfl, a1, a2, a3]
    rw [show p + (q + eqSum t l) = q + (p + eqSum t l) by omega]
  · exact (earn_comm_lt h l).symm

/-- Earning is fine. -/
def okEarn (l : List (Int × Int)) (p u : Int) : Bool := vLots l && (withinB p 1 50000 && (withinB u 0 999 && vLots (earn p u l)))
theorem okEarn_true {l : List (Int × Int)} {p u : Int} (h : okEarn l p u = true) : vLots l = true ∧ (1 ≤ p ∧ p ≤ 50000) ∧ (0 ≤ u ∧ u ≤ 999) ∧ vLots (earn p u l) = true := by
  simp only [okEarn, Bool.and_eq_true, withinB_true] at h
  exact ⟨h.1, h.2.1, h.2.2.1, h.2.2.2⟩
theorem vLots_one {p u : Int} (h1 : 1 ≤ p ∧ p ≤ 50000) (h2 : 0 ≤ u ∧ u ≤ 999) : vLots [(u, p)] = true :=
  vLots_iff.2 ⟨by simp, fun x hx => by simp at hx; subst hx; exact ⟨h2, h1⟩, by simp⟩
theorem okEarn_nil {p u : Int} (h1 : 1 ≤ p ∧ p ≤ 50000) (h2 : 0 ≤ u ∧ u ≤ 999) : okEarn [] p u = true := by
  have : earn p u [] = [(u, p)] := by simp [earn, lower, upper, eqSum]
  simp only [okEarn, this, vLots_one h1 h2, withinB_true.2 h1, withinB_true.2 h2]
  rfl

end Go.Proofs.Ytdnfhpgiphobgaa
