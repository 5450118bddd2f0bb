/- The plain law of spending points. No program in sight. -/
import Derived.Test.YtdnfhpgiphobgaaLotsP
namespace Go.Proofs.Ytdnfhpgiphobgaa

def spend (d : Int) : Int → List (Int × Int) → List (Int × Int)
  | _, [] => []
  | p, x :: r => if x.1 < d then spend d p r else (if 0 < x.2 - min x.2 p then [(x.1, x.2 - min x.2 p)] else []) ++ spend d (p - min x.2 p) r
/-- What is left to be paid, and the lots so far: one step of the loop. -/
def spStep (d : Int) (s : Int × List (Int × Int)) (x : Int × Int) : Int × List (Int × Int) :=
  if x.1 < d then s else (s.1 - min x.2 s.1, s.2 ++ if 0 < x.2 - min x.2 s.1 then [(x.1, x.2 - min x.2 s.1)] else [])
def spTo (d p : Int) (l : List (Int × Int)) : Int × List (Int × Int) := l.foldl (spStep d) (p, [])

theorem spTo_step {d p : Int} {l : List (Int × Int)} {k : Nat} (hk : k < l.length) : spTo d p (l.take (k + 1)) = spStep d (spTo d p (l.take k)) (g1 l k, g2 l k) := by
  unfold spTo; rw [take_succ2 hk, List.foldl_append]; rfl
theorem spFold (d : Int) : ∀ (l : List (Int × Int)) (s : Int × List (Int × Int)), (l.foldl (spStep d) s).2 = s.2 ++ spend d s.1 l
  | [], s => by simp [spend]
  | x :: r, s => by
    rw [List.foldl_cons, spFold d r]
    simp only [spStep, spend]
    split <;> simp
theorem spTo_all (d p : Int) (l : List (Int × Int)) : (spTo d p l).2 = spend d p l := by
  unfold spTo; rw [spFold]; rfl
theorem spTo_length (d p : Int) (l : List (Int × Int)) : (spTo d p l).2.length ≤ l.length := by
  rw [spTo_all]
  induction l generalizing p with
  | nil => simp [spend]
  | cons x r ih =>
    simp only [spend, List.length_cons]
    split
    · have := ih p; omega
    · rw [List.length_append]
      have := ih (p - min x.2 p)
      split <;> simp <;> omega
theorem spFold_bd (d : Int) : ∀ (l : List (Int × Int)) (s : Int × List (Int × Int)), (∀ x ∈ l, 1 ≤ x.2 ∧ x.2 ≤ 50000) → 0 ≤ s.1 → 0 ≤ (l.foldl (spStep d) s).1 ∧ (l.foldl (spStep d) s).1 ≤ s.1
  | [], s, _, h => ⟨h, Int.le_refl _⟩
  | x :: r, s, h, h0 => by
    have hx := h x (by simp)
    rw [List.foldl_cons]
    have h1 : 0 ≤ (spStep d s x).1 ∧ (spStep d s x).1 ≤ s.1 := by
      simp only [spStep]; split
      · exact ⟨h0, Int.le_refl _⟩
      · dsimp only; omega
    have := spFold_bd d r (spStep d s x) (fun y hy => h y (by simp [hy])) h1.1
    omega
theorem spTo_bd {d p : Int} {l : List (Int × Int)} (h : ∀ x ∈ l, 1 ≤ x.2 ∧ x.2 ≤ 50000) (h0 : 0 ≤ p) : 0 ≤ (spTo d p l).1 ∧ (spTo d p l).1 ≤ p := spFold_bd d l (p, []) h h0

section
variable {d : Int}
theorem spend_lt {p : Int} {x : Int × Int} {r : List (Int × Int)} (h : x.1 < d) : spend d p (x :: r) = spend d p r := by simp only [spend]; rw [if_pos h]
theorem spend_more {p : Int} {x : Int × Int} {r : List (Int × Int)} (h : ¬ x.1 < d) (hp : x.2 ≤ p) : spend d p (x :: r) = spend d (p - x.2) r := by
  simp only [spend]; rw [if_neg h, Int.min_eq_left hp, if_neg (by omega)]; rfl
theorem spend_less {p : Int} {x : Int × Int} {r : List (Int × Int)} (h : ¬ x.1 < d) (hp : p < x.2) : spend d p (x :: r) = (x.1, x.2 - p) :: spend d 0 r := by
  simp only [spend]; rw [if_neg h, Int.min_eq_right (by omega), if_pos (by omega), Int.sub_self]; rfl
theorem ptsOn_lt {x : Int × Int} {r : List (Int × Int)} (h : x.1 < d) : ptsOn d (x :: r) = ptsOn d r := by simp only [ptsOn]; rw [if_neg (by omega)]; omega
theorem ptsOn_ge {x : Int × Int} {r : List (Int × Int)} (h : ¬ x.1 < d) : ptsOn d (x :: r) = x.2 + ptsOn d r := by simp only [ptsOn]; rw [if_pos (by omega)]

theorem spend_zero : ∀ (l : List (Int × Int)), (∀ x ∈ l, 1 ≤ x.2) → (∀ x ∈ l, d ≤ x.1) → spend d 0 l = l
  | [], _, _ => rfl
  | x :: r, h, hd => by
    rw [spend_less (by have := hd x (by simp); omega) (by have := h x (by simp); omega), spend_zero r (fun y hy => h y (by simp [hy])) (fun y hy => hd y (by simp [hy]))]
    simp
theorem ptsOn_spend : ∀ (l : List (Int × Int)) (p : Int), (∀ x ∈ l, 1 ≤ x.2) → 0 ≤ p → p ≤ ptsOn d l → ptsOn d (spend d p l) = ptsOn d l - p
  | [], p, _, h0, h1 => by simp [spend, ptsOn] at *; omega
  | x :: r, p, h, h0, h1 => by
    have hr : ∀ y ∈ r, 1 ≤ y.2 := fun y hy => h y (by simp [hy])
    have hx := h x (by simp)
    by_cases hd : x.1 < d
    · rw [spend_lt hd, ptsOn_lt hd] at *
      exact ptsOn_spend r p hr h0 h1
    · rw [ptsOn_ge hd] at h1 ⊢
      by_cases hp : x.2 ≤ p
      · rw [spend_more hd hp, ptsOn_spend r _ hr (by omega) (by omega)]; omega
      · have h2 : 0 ≤ ptsOn d r := by
          clear h1
          induction r with
          | nil => simp [ptsOn]
          | cons y s ih =>
            have := hr y (by simp)
            have := ih (fun z hz => by rcases List.mem_cons.1 hz with rfl | hz; exact hx; exact hr z (by simp [hz])) (fun z hz => hr z (by simp [hz]))
            simp only [ptsOn]; split <;> omega
        rw [spend_less hd (by omega), ptsOn_ge (by exact hd), ptsOn_spend r 0 hr (by omega) h2]; dsimp only; omega
theorem spend_mem : ∀ (l : List (Int × Int)) (p : Int), (∀ x ∈ l, 1 ≤ x.2) → 0 ≤ p → ∀ y ∈ spend d p l, d ≤ y.1 ∧ 1 ≤ y.2 ∧ ∃ x ∈ l, x.1 = y.1 ∧ y.2 ≤ x.2
  | [], _, _, _ => by simp [spend]
  | x :: r, p, h, h0 => by
    have hr : ∀ y ∈ r, 1 ≤ y.2 := fun y hy => h y (by simp [hy])
    have up : ∀ q, 0 ≤ q → ∀ y ∈ spend d q r, d ≤ y.1 ∧ 1 ≤ y.2 ∧ ∃ z ∈ x :: r, z.1 = y.1 ∧ y.2 ≤ z.2 := fun q hq y hy => by
      obtain ⟨h1, h2, z, hz, h3⟩ := spend_mem r q hr hq y hy
      exact ⟨h1, h2, z, by simp [hz], h3⟩
    by_cases hd : x.1 < d
    · rw [spend_lt hd]; exact up p h0
    · by_cases hp : x.2 ≤ p
      · rw [spend_more hd hp]; exact up _ (by omega)
      · rw [spend_less hd (by omega)]
        intro y hy
        rcases List.mem_cons.1 hy with rfl | hy
        · exact ⟨by dsimp only; omega, by dsimp only; omega, x, by simp, rfl, by dsimp only; omega⟩
        · exact up 0 (by omega) y hy
theorem spend_pair : ∀ (l : List (Int × Int)) (p : Int), (∀ x ∈ l, 1 ≤ x.2) → 0 ≤ p → l.Pairwise (fun a b => a.1 < b.1) → (spend d p l).Pairwise (fun a b => a.1 < b.1)
  | [], _, _, _, _ => by simp [spend]
  | x :: r, p, h, h0, hl => by
    have hr : ∀ y ∈ r, 1 ≤ y.2 := fun y hy => h y (by simp [hy])
    rw [List.pairwise_cons] at hl
    by_cases hd : x.1 < d
    · rw [spend_lt hd]; exact spend_pair r p hr h0 hl.2
    · by_cases hp : x.2 ≤ p
      · rw [spend_more hd hp]; exact spend_pair r _ hr (by omega) hl.2
      · rw [spend_less hd (by omega), List.pairwise_cons]
        refine ⟨fun y hy => ?_, spend_pair r 0 hr (by omega) hl.2⟩
        obtain ⟨_, _, z, hz, h3, _⟩ := spend_mem r 0 hr (by omega) y hy
        have := hl.1 z hz
        dsimp only; omega
theorem spend_length (p : Int) (l : List (Int × Int)) : (spend d p l).length ≤ l.length := by rw [← spTo_all]; exact spTo_length d p l
theorem SL_spend {l : List (Int × Int)} {p : Int} (h : SL l) (h0 : 0 ≤ p) : SL (spend d p l) := by
  have h1 : ∀ x ∈ l, 1 ≤ x.2 := fun x hx => (h.bd x hx).1
  refine ⟨spend_pair l p h1 h0 h.1, fun y hy => ?_, ?_⟩
  · obtain ⟨h2, h3, z, hz, h4, h5⟩ := spend_mem l p h1 h0 y hy
    have := h.2.1 z hz
    omega
  · have := spend_length (d := d) p l
    have := h.2.2
    omega
theorem spend_all {l : List (Int × Int)} (h : SL l) : spend d (ptsOn d l) l = [] := by
  have h1 : ∀ x ∈ l, 1 ≤ x.2 := fun x hx => (h.bd x hx).1
  have h0 := (ptsOn_of (day := d) h).1
  have h2 := ptsOn_spend (d := d) l _ h1 h0 (Int.le_refl _)
  rw [Int.sub_self] at h2
  match hs : spend d (ptsOn d l) l with
  | [] => rfl
  | y :: r =>
    have hm := spend_mem (d := d) l _ h1 h0
    rw [hs] at h2 hm
    have hy := hm y (by simp)
    have hb := ptsOn_bd (day := d) (y :: r) (fun x hx => by
      have := hm x hx
      obtain ⟨_, h4, z, hz, _, h6⟩ := this
      have := (h.bd z hz).2
      omega)
    rw [ptsOn_ge (by omega)] at h2
    have hb2 := (ptsOn_bd (day := d) r (fun x hx => by
      obtain ⟨_, h4, z, hz, _, h6⟩ := hm x (by simp [hx])
      have := (h.bd z hz).2
      omega)).1
    omega
/-- Of the lots that are left the first one is less, and the others are as they were. -/
theorem spend_form : ∀ (l : List (Int × Int)) (p : Int), (∀ x ∈ l, 1 ≤ x.2) → l.Pairwise (fun a b => a.1 < b.1) → 0 ≤ p →
    spend d p l = [] ∨ ∃ n q, n < l.length ∧ spend d p l = (g1 l n, q) :: l.drop (n + 1) ∧ q ≤ g2 l n
  | [], _, _, _, _ => .inl rfl
  | x :: r, p, h, hl, h0 => by
    have hr : ∀ y ∈ r, 1 ≤ y.2 := fun y hy => h y (by simp [hy])
    rw [List.pairwise_cons] at hl
    have up : ∀ q, 0 ≤ q → spend d q r = [] ∨ ∃ n q', n < (x :: r).length ∧ spend d q r = (g1 (x :: r) n, q') :: (x :: r).drop (n + 1) ∧ q' ≤ g2 (x :: r) n := fun q hq => by
      rcases spend_form r q hr hl.2 hq with h1 | ⟨n, q', h1, h2, h3⟩
      · exact .inl h1
      · exact .inr ⟨n + 1, q', by simpa using h1, by simpa [g1] using h2, by simpa [g2] using h3⟩
    by_cases hd : x.1 < d
    · rw [spend_lt hd]; exact up p h0
    · by_cases hp : x.2 ≤ p
      · rw [spend_more hd hp]; exact up _ (by omega)
      · rw [spend_less hd (by omega), spend_zero r hr (fun y hy => by have := hl.1 y hy; omega)]
        exact .inr ⟨0, x.2 - p, by simp, by simp [g1], by simp [g2]; omega⟩
theorem spend_twice : ∀ (l : List (Int × Int)) (p m : Int), (∀ x ∈ l, 1 ≤ x.2) → 0 ≤ m → m ≤ p → spend d (p - m) (spend d m l) = spend d p l
  | [], _, _, _, _, _ => rfl
  | x :: r, p, m, h, h0, hm => by
    have hr : ∀ y ∈ r, 1 ≤ y.2 := fun y hy => h y (by simp [hy])
    have hx := h x (by simp)
    by_cases hd : x.1 < d
    · rw [spend_lt hd, spend_lt hd]; exact spend_twice r p m hr h0 hm
    · by_cases h1 : x.2 ≤ m
      · rw [spend_more hd h1, spend_more hd (by omega), ← spend_twice r (p - x.2) (m - x.2) hr (by omega) (by omega), show p - x.2 - (m - x.2) = p - m by omega]
      · rw [spend_less hd (by omega)]
        by_cases h2 : x.2 ≤ p
        · rw [spend_more (by exact hd) (by dsimp only; omega), spend_more hd h2]
          have := spend_twice r (p - x.2) 0 hr (by omega) (by omega)
          rw [← this]
          dsimp only
          rw [show p - m - (x.2 - m) = p - x.2 - 0 by omega]
        · rw [spend_less (by exact hd) (by dsimp only; omega), spend_less hd (by omega)]
          have := spend_twice r 0 0 hr (by omega) (by omega)
          rw [Int.sub_self] at this
          rw [this]
          dsimp only
          rw [show x.2 - m - (p - m) = x.2 - p by omega]
end

/-- Spending is fine. -/
def okSpend (l : List (Int × Int)) (p d : Int) : Bool := vLots l && (withinB d 0 999 && (decide (1 ≤ p) && decide (p ≤ ptsOn d l)))
theorem okSpend_true {l : List (Int × Int)} {p d : Int} : okSpend l p d = true ↔ vLots l = true ∧ (0 ≤ d ∧ d ≤ 999) ∧ 1 ≤ p ∧ p ≤ ptsOn d l := by
  simp only [okSpend, Bool.and_eq_true, withinB_true, decide_eq_true_eq]

end Go.Proofs.Ytdnfhpgiphobgaa
