/- The plain law of stocks: pieces free and held, moved by carts, missing. No program in sight. -/
import Derived.Test.YtnjkdgndmodeeaaCartP
namespace Go.Proofs.Ytnjkdgndmodeeaa

def stockOk (l : List (Int × Int)) (k : Nat) : Bool := withinB (g1 l k) 0 100 && withinB (g2 l k) 0 100
def vStock (l : List (Int × Int)) : Bool := (List.range l.length).all (stockOk l) && withinB l.length 1 10
def SS (l : List (Int × Int)) : Prop := (∀ k, k < l.length → (0 ≤ g1 l k ∧ g1 l k ≤ 100) ∧ 0 ≤ g2 l k ∧ g2 l k ≤ 100) ∧ 1 ≤ l.length ∧ l.length ≤ 10
theorem vStock_iff {l : List (Int × Int)} : vStock l = true ↔ SS l := by
  unfold vStock SS
  rw [Bool.and_eq_true, List.all_eq_true, withinB_true]
  constructor
  · rintro ⟨h, hl⟩
    refine ⟨fun k hk => ?_, by omega⟩
    have := h k (List.mem_range.2 hk)
    simpa [stockOk, withinB_true] using this
  · rintro ⟨h, hl⟩
    refine ⟨fun k hk => ?_, by omega⟩
    have := h k (List.mem_range.1 hk)
    simpa [stockOk, withinB_true] using this

/-- One line's step. -/
def mvStep (f h : Int) (o : List (Int × Int)) (x : Int × Int) : List (Int × Int) := o.set x.1.toNat (g1 o x.1.toNat + f * x.2, g2 o x.1.toNat + h * x.2)
def mvTo (f h : Int) (l c : List (Int × Int)) : List (Int × Int) := c.foldl (mvStep f h) l
theorem mvTo_step {f h : Int} {l c : List (Int × Int)} {k : Nat} (hk : k < c.length) : mvTo f h l (c.take (k + 1)) = mvStep f h (mvTo f h l (c.take k)) (g1 c k, g2 c k) := by
  unfold mvTo; rw [take_succ2 hk, List.foldl_append]; rfl
theorem mvTo_len {f h : Int} : ∀ (c l : List (Int × Int)), (mvTo f h l c).length = l.length
  | [], _ => rfl
  | x :: r, l => by
    show (mvTo f h (mvStep f h l x) r).length = _
    rw [mvTo_len r]; simp [mvStep]
theorem mvTo_at {f h : Int} : ∀ {c l : List (Int × Int)} {i : Nat}, (∀ x ∈ c, 0 ≤ x.1 ∧ x.1 < l.length) → i < l.length → g1 (mvTo f h l c) i = g1 l i + f * cnt i c ∧ g2 (mvTo f h l c) i = g2 l i + h * cnt i c
  | [], l, i, _, _ => by simp [mvTo, cnt]
  | x :: r, l, i, hc, hi => by
    have hx := hc x (by simp)
    have hxl : x.1.toNat < l.length := by omega
    have hl : (mvStep f h l x).length = l.length := by simp [mvStep]
    have ih := mvTo_at (f := f) (h := h) (c := r) (l := mvStep f h l x) (i := i) (fun y hy => by rw [hl]; exact hc y (by simp [hy])) (by rw [hl]; exact hi)
    show g1 (mvTo f h (mvStep f h l x) r) i = _ ∧ g2 (mvTo f h (mvStep f h l x) r) i = _
    rw [ih.1, ih.2]
    simp only [mvStep, cnt]
    rw [g1_set hxl, g2_set hxl, Int.mul_add, Int.mul_add]
    by_cases he : x.1.toNat = i
    · rw [if_pos he, if_pos he, if_pos (by omega)]; subst he; dsimp only; omega
    · rw [if_neg he, if_neg he, if_neg (by omega), Int.mul_zero, Int.mul_zero]; omega

def okMv (f h : Int) (l c : List (Int × Int)) : Bool := vStock l && (vCart l.length c && vStock (mvTo f h l c))
def mvL (f h : Int) (l c : List (Int × Int)) : List (Int × Int) := if okMv f h l c then mvTo f h l c else []
theorem okMv_true {f h : Int} {l c : List (Int × Int)} : okMv f h l c = true ↔ SS l ∧ SC l.length c ∧ SS (mvTo f h l c) := by
  simp only [okMv, Bool.and_eq_true, vStock_iff, vCart_iff]
theorem SC.in_ {n : Nat} {c : List (Int × Int)} (h : SC n c) : ∀ x ∈ c, 0 ≤ x.1 ∧ x.1 < n := fun x hx => (h.2.1 x hx).1
theorem SC.cnt_bd {n : Int} {c : List (Int × Int)} (h : SC n c) (i : Int) : 0 ≤ cnt i c ∧ cnt i c ≤ 160 := by
  have := Go.Proofs.Ytnjkdgndmodeeaa.cnt_bd (i := i) c h.bd
  have := h.2.2
  omega
/-- While the lines are moved the numbers stay small. -/
theorem mvTo_small {f h : Int} {l c : List (Int × Int)} {n : Nat} (hn : n = l.length) (hl : SS l) (hc : SC n c) (hf : -1 ≤ f ∧ f ≤ 1) (hh : -1 ≤ h ∧ h ≤ 1) (k : Nat) {i : Nat} (hi : i < l.length) :
    (-1000 ≤ g1 (mvTo f h l (c.take k)) i ∧ g1 (mvTo f h l (c.take k)) i ≤ 1000) ∧ -1000 ≤ g2 (mvTo f h l (c.take k)) i ∧ g2 (mvTo f h l (c.take k)) i ≤ 1000 := by
  subst hn
  have h1 := mvTo_at (f := f) (h := h) (c := c.take k) (l := l) (i := i) (fun x hx => hc.in_ x (List.mem_of_mem_take hx)) hi
  have h2 := Go.Proofs.Ytnjkdgndmodeeaa.cnt_bd (i := i) (c.take k) (fun x hx => hc.bd x (List.mem_of_mem_take hx))
  have h3 := hl.1 i hi
  have h4 := hc.2.2
  have h5 : (c.take k).length ≤ 8 := by rw [List.length_take]; omega
  rw [h1.1, h1.2]
  generalize cnt i (c.take k) = q at *
  have hq : f = -1 ∨ f = 0 ∨ f = 1 := by omega
  have hr : h = -1 ∨ h = 0 ∨ h = 1 := by omega
  rcases hq with rfl | rfl | rfl <;> rcases hr with rfl | rfl | rfl <;> omega

/-- Moved back. -/
theorem mv_back {l c : List (Int × Int)} (f h : Int) (hc : SC l.length c) : mvTo (-f) (-h) (mvTo f h l c) c = l := by
  refine ext12 (by rw [mvTo_len, mvTo_len]) fun i hi => ?_
  rw [mvTo_len, mvTo_len] at hi
  have h1 := mvTo_at (f := f) (h := h) hc.in_ hi
  have h2 := mvTo_at (f := -f) (h := -h) (c := c) (l := mvTo f h l c) (i := i) (by rw [mvTo_len]; exact hc.in_) (by rw [mvTo_len]; exact hi)
  rw [h2.1, h2.2, h1.1, h1.2, Int.neg_mul, Int.neg_mul]
  omega
theorem okMv_back {l c : List (Int × Int)} {f h : Int} (hk : okMv f h l c = true) : okMv (-f) (-h) (mvTo f h l c) c = true := by
  obtain ⟨h1, h2, h3⟩ := okMv_true.1 hk
  refine okMv_true.2 ⟨h3, by rw [mvTo_len]; exact h2, ?_⟩
  rw [mv_back f h h2]; exact h1
theorem okMv_nil {l : List (Int × Int)} (f h : Int) (hl : vStock l = true) : okMv f h l [] = true := by
  simp [okMv, hl, vCart_nil, mvTo]
theorem mvTo_nil {l : List (Int × Int)} (f h : Int) : mvTo f h l [] = l := rfl
/-- Held, then sold. -/
theorem okMv_sell {l c : List (Int × Int)} (hk : okMv (-1) 1 l c = true) : okMv 0 (-1) (mvTo (-1) 1 l c) c = true ∧
    ∀ i, i < l.length → g2 (mvTo 0 (-1) (mvTo (-1) 1 l c) c) i = g2 l i ∧ g1 (mvTo 0 (-1) (mvTo (-1) 1 l c) c) i = g1 (mvTo (-1) 1 l c) i := by
  obtain ⟨h1, h2, h3⟩ := okMv_true.1 hk
  have key : ∀ i, i < l.length → g2 (mvTo 0 (-1) (mvTo (-1) 1 l c) c) i = g2 l i ∧ g1 (mvTo 0 (-1) (mvTo (-1) 1 l c) c) i = g1 (mvTo (-1) 1 l c) i := fun i hi => by
    have a1 := mvTo_at (f := -1) (h := 1) h2.in_ hi
    have a2 := mvTo_at (f := 0) (h := -1) (c := c) (l := mvTo (-1) 1 l c) (i := i) (by rw [mvTo_len]; exact h2.in_) (by rw [mvTo_len]; exact hi)
    rw [a2.1, a2.2, a1.1, a1.2]
    omega
  refine ⟨okMv_true.2 ⟨h3, by rw [mvTo_len]; exact h2, ?_⟩, key⟩
  refine ⟨fun i hi => ?_, by rw [mvTo_len, mvTo_len]; exact h1.2⟩
  rw [mvTo_len, mvTo_len] at hi
  rw [(key i hi).1, (key i hi).2]
  exact ⟨(h3.1 i (by rw [mvTo_len]; exact hi)).1, (h1.1 i hi).2⟩

/-! ### What is missing -/
def missF (l : List (Int × Int)) (x : Int × Int) : Option (Int × Int) := if 0 < x.2 - g1 l x.1.toNat then some (x.1, x.2 - g1 l x.1.toNat) else none
def missTo (l c : List (Int × Int)) : List (Int × Int) := c.filterMap (missF l)
def okMiss (l c : List (Int × Int)) : Bool := vStock l && vCart l.length c
def missL (l c : List (Int × Int)) : List (Int × Int) := if okMiss l c then missTo l c else []
theorem okMiss_true {l c : List (Int × Int)} : okMiss l c = true ↔ SS l ∧ SC l.length c := by
  simp only [okMiss, Bool.and_eq_true, vStock_iff, vCart_iff]
theorem missTo_yes {l c : List (Int × Int)} {k : Nat} (hk : k < c.length) (h : 0 < g2 c k - g1 l (g1 c k).toNat) : missTo l (c.take (k + 1)) = missTo l (c.take k) ++ [(g1 c k, g2 c k - g1 l (g1 c k).toNat)] := by
  unfold missTo; rw [take_succ2 hk, List.filterMap_append]; simp only [List.filterMap_cons, missF, List.filterMap_nil]; rw [if_pos h]
theorem missTo_no {l c : List (Int × Int)} {k : Nat} (hk : k < c.length) (h : ¬ 0 < g2 c k - g1 l (g1 c k).toNat) : missTo l (c.take (k + 1)) = missTo l (c.take k) := by
  unfold missTo; rw [take_succ2 hk, List.filterMap_append]; simp only [List.filterMap_cons, missF, List.filterMap_nil]; rw [if_neg h]; simp
theorem missTo_len {l c : List (Int × Int)} : (missTo l c).length ≤ c.length := List.length_filterMap_le ..
theorem missTo_at {l c : List (Int × Int)} {k : Nat} (hk : k < c.length) (h : 0 < g2 c k - g1 l (g1 c k).toNat) :
    (missTo l (c.take k)).length < (missTo l c).length ∧ g1 (missTo l c) (missTo l (c.take k)).length = g1 c k ∧ g2 (missTo l c) (missTo l (c.take k)).length = g2 c k - g1 l (g1 c k).toNat := by
  have h1 : missTo l c = missTo l (c.take (k + 1)) ++ missTo l (c.drop (k + 1)) := by
    unfold missTo; rw [← List.filterMap_append, List.take_append_drop]
  have h2 : (missTo l c)[(missTo l (c.take k)).length]? = some (g1 c k, g2 c k - g1 l (g1 c k).toNat) := by
    rw [h1, missTo_yes hk h, List.append_assoc, List.getElem?_append_right (Nat.le_refl _), Nat.sub_self]
    rfl
  refine ⟨(List.getElem?_eq_some_iff.1 h2).1, ?_, ?_⟩
  · simp [g1, List.getD_eq_getElem?_getD, h2]
  · simp [g2, List.getD_eq_getElem?_getD, h2]
theorem missTo_none {l c : List (Int × Int)} (h : ∀ x ∈ c, x.2 ≤ g1 l x.1.toNat) : missTo l c = [] := by
  unfold missTo
  rw [List.filterMap_eq_nil_iff]
  intro x hx
  have := h x hx
  simp only [missF]; rw [if_neg (by omega)]
theorem missTo_some {l c : List (Int × Int)} (h : missTo l c ≠ []) : ∃ x ∈ c, g1 l x.1.toNat < x.2 := by
  by_cases hx : ∃ x ∈ c, g1 l x.1.toNat < x.2
  · exact hx
  · refine absurd (missTo_none fun x hc => ?_) h
    by_cases h1 : x.2 ≤ g1 l x.1.toNat
    · exact h1
    · exact absurd ⟨x, hc, by omega⟩ hx
/-- What can be held is not missing. -/
theorem miss_hold {l c : List (Int × Int)} (hk : okMv (-1) 1 l c = true) : missTo l c = [] := by
  obtain ⟨h1, h2, h3⟩ := okMv_true.1 hk
  refine missTo_none fun x hx => ?_
  have hi := h2.in_ x hx
  have hi' : x.1.toNat < l.length := by omega
  have a := (mvTo_at (f := -1) (h := 1) h2.in_ hi').1
  have b := (h3.1 x.1.toNat (by rw [mvTo_len]; exact hi')).1
  have d := cnt_mem h2.bd hx
  rw [show (x.1.toNat : Int) = x.1 by omega] at a
  omega
theorem hold_miss {l c : List (Int × Int)} (h : missTo l c ≠ []) : okMv (-1) 1 l c = false := by
  cases hk : okMv (-1) 1 l c
  · rfl
  · exact absurd (miss_hold hk) h
/-- What was freed is not missing. -/
theorem miss_free {l c : List (Int × Int)} (hk : okMv 1 (-1) l c = true) : missTo (mvTo 1 (-1) l c) c = [] := by
  obtain ⟨h1, h2, h3⟩ := okMv_true.1 hk
  refine missTo_none fun x hx => ?_
  have hi := h2.in_ x hx
  have hi' : x.1.toNat < l.length := by omega
  have a := (mvTo_at (f := 1) (h := -1) h2.in_ hi').1
  have b := (h1.1 x.1.toNat hi').1
  have d := cnt_mem h2.bd hx
  rw [show (x.1.toNat : Int) = x.1 by omega] at a
  omega
/-- With all pieces that fit nothing is missing. -/
def fullL (l : List (Int × Int)) : List (Int × Int) := l.map fun x => (100, x.2)
theorem fullL_at {l : List (Int × Int)} {i : Nat} (hi : i < l.length) : g1 (fullL l) i = 100 ∧ g2 (fullL l) i = g2 l i := by
  simp [g1, g2, fullL, List.getD_eq_getElem?_getD, hi]
theorem fullL_SS {l : List (Int × Int)} (h : SS l) : SS (fullL l) := by
  refine ⟨fun k hk => ?_, by simpa [fullL] using h.2⟩
  have hk' : k < l.length := by simpa [fullL] using hk
  rw [(fullL_at hk').1, (fullL_at hk').2]
  exact ⟨by omega, (h.1 k hk').2⟩
theorem miss_full {l c : List (Int × Int)} (hc : SC l.length c) : missTo (fullL l) c = [] := by
  refine missTo_none fun x hx => ?_
  have h1 := hc.2.1 x hx
  have hi : x.1.toNat < l.length := by omega
  rw [(fullL_at hi).1]
  omega
theorem fullL_take {l : List (Int × Int)} {k : Nat} (hk : k < l.length) : fullL (l.take (k + 1)) = fullL (l.take k) ++ [(100, g2 l k)] := by
  rw [take_succ2 hk]; simp [fullL]

/-! ### Sums -/
def cntTo (c : List (Int × Int)) : Nat → Int
  | 0 => 0
  | n + 1 => cntTo c n + cnt n c
theorem cntTo_nil : ∀ n : Nat, cntTo [] n = 0
  | 0 => rfl
  | n + 1 => by simp only [cntTo, cntTo_nil n, cnt]; rfl
theorem cntTo_cons {x : Int × Int} {r : List (Int × Int)} (hx : 0 ≤ x.1) : ∀ n : Nat, cntTo (x :: r) n = (if x.1 < n then x.2 else 0) + cntTo r n
  | 0 => by simp only [cntTo]; rw [if_neg (by omega)]; rfl
  | n + 1 => by
    simp only [cntTo, cnt, cntTo_cons hx n]
    by_cases h1 : x.1 < n
    · rw [if_pos h1, if_neg (by omega), if_pos (by omega)]; omega
    · by_cases h2 : x.1 = n
      · rw [if_neg h1, if_pos h2, if_pos (by omega)]; omega
      · rw [if_neg h1, if_neg h2, if_neg (by omega)]; omega
theorem cntTo_all {n : Nat} : ∀ {c : List (Int × Int)}, (∀ x ∈ c, 0 ≤ x.1 ∧ x.1 < n) → cntTo c n = csum c
  | [], _ => cntTo_nil n
  | x :: r, h => by
    rw [cntTo_cons (h x (by simp)).1, if_pos (h x (by simp)).2, cntTo_all (fun y hy => h y (by simp [hy]))]; rfl
theorem cntTo_bd {c : List (Int × Int)} {m : Int} (h : SC m c) : ∀ n : Nat, 0 ≤ cntTo c n ∧ cntTo c n ≤ 160 * n
  | 0 => by simp [cntTo]
  | n + 1 => by have := cntTo_bd h n; have := h.cnt_bd n; simp only [cntTo]; omega

end Go.Proofs.Ytnjkdgndmodeeaa
