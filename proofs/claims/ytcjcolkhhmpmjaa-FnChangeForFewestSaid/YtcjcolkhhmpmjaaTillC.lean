/- The plain law of change: the fewest coins, and which. No program in sight. -/
import Derived.Test.YtcjcolkhhmpmjaaTillP
namespace Go.Proofs.Ytcjcolkhhmpmjaa

/-- More than any number of coins. -/
def noneC : Int := 1073741824

/-- The least of c coins and those that make the rest, for c < n. -/
def mTo (x : Int × Int) (f : Int → Int) (n : Int) : Nat → Int
  | 0 => noneC
  | c + 1 => min (mTo x f n c) ((c : Int) + f (n - (c : Int) * x.1))
/-- How many numbers of coins are tried. -/
def tries (x : Int × Int) (n : Int) : Nat := min (x.2.toNat + 1) ((n / x.1).toNat + 1)
/-- The fewest coins (the last kind first). -/
def few : List (Int × Int) → Int → Int
  | [], n => if n = 0 then 0 else noneC
  | x :: r, n => mTo x (few r) n (tries x n)

/-- What a till holds. -/
def CT (l : List (Int × Int)) : Prop := ∀ x ∈ l, (1 ≤ x.1 ∧ x.1 ≤ 500) ∧ 0 ≤ x.2 ∧ x.2 ≤ 20
theorem CT.tail {x : Int × Int} {r : List (Int × Int)} (h : CT (x :: r)) : CT r := fun y hy => h y (by simp [hy])
theorem ST.ct {l : List (Int × Int)} (h : ST l) : CT l := h.2.1
theorem CT.rev {l : List (Int × Int)} (h : CT l) : CT l.reverse := fun x hx => h x (by simpa using hx)
theorem CT.take {l : List (Int × Int)} (h : CT l) (k : Nat) : CT (l.take k) := fun x hx => h x (List.mem_of_mem_take hx)

theorem tries_iff {x : Int × Int} {n : Int} (hx : 1 ≤ x.1 ∧ 0 ≤ x.2) (hn : 0 ≤ n) {c : Nat} : c < tries x n ↔ (c : Int) ≤ x.2 ∧ (c : Int) * x.1 ≤ n := by
  unfold tries
  have h1 : (c : Int) * x.1 ≤ n ↔ (c : Int) ≤ n / x.1 := (Int.le_ediv_iff_mul_le (by omega)).symm
  rw [h1]
  have h2 : 0 ≤ n / x.1 := Int.ediv_nonneg hn (by omega)
  omega

theorem mTo_le {x : Int × Int} {f : Int → Int} {n : Int} : ∀ {m c : Nat}, c < m → mTo x f n m ≤ (c : Int) + f (n - (c : Int) * x.1)
  | m + 1, c, h => by
    simp only [mTo]
    rcases Nat.lt_succ_iff_lt_or_eq.1 h with h | h
    · have := mTo_le (x := x) (f := f) (n := n) h; omega
    · subst h; omega
theorem mTo_none {x : Int × Int} {f : Int → Int} {n : Int} : ∀ m : Nat, mTo x f n m ≤ noneC
  | 0 => Int.le_refl _
  | m + 1 => by have := mTo_none (x := x) (f := f) (n := n) m; simp only [mTo]; omega
theorem mTo_att {x : Int × Int} {f : Int → Int} {n : Int} : ∀ {m : Nat}, mTo x f n m < noneC → ∃ c : Nat, c < m ∧ mTo x f n m = (c : Int) + f (n - (c : Int) * x.1)
  | 0, h => absurd h (by simp [mTo])
  | m + 1, h => by
    simp only [mTo] at h ⊢
    by_cases hc : (m : Int) + f (n - (m : Int) * x.1) ≤ mTo x f n m
    · exact ⟨m, by omega, by omega⟩
    · obtain ⟨c, h1, h2⟩ := mTo_att (x := x) (f := f) (n := n) (m := m) (by omega)
      exact ⟨c, by omega, by omega⟩
theorem mTo_nonneg {x : Int × Int} {f : Int → Int} {n : Int} (hf : ∀ k, 0 ≤ f k) : ∀ m : Nat, 0 ≤ mTo x f n m
  | 0 => by simp [mTo, noneC]
  | m + 1 => by have := mTo_nonneg (x := x) (n := n) hf m; have := hf (n - (m : Int) * x.1); simp only [mTo]; omega
theorem few_nonneg : ∀ (l : List (Int × Int)) (n : Int), 0 ≤ few l n
  | [], n => by simp only [few, noneC]; split <;> omega
  | x :: r, n => by simp only [few]; exact mTo_nonneg (few_nonneg r) _
theorem few_none : ∀ (l : List (Int × Int)) (n : Int), few l n ≤ noneC
  | [], n => by simp only [few, noneC]; split <;> omega
  | x :: r, n => by simp only [few]; exact mTo_none _

/-! ### Choices of coins -/
def Sel : List (Int × Int) → List Int → Int → Prop
  | [], [], n => n = 0
  | x :: r, c :: cs, n => 0 ≤ c ∧ c ≤ x.2 ∧ Sel r cs (n - c * x.1)
  | _, _, _ => False
def isum : List Int → Int
  | [] => 0
  | x :: r => x + isum r

theorem Sel.len : ∀ {l : List (Int × Int)} {cs : List Int} {n : Int}, Sel l cs n → cs.length = l.length
  | [], [], _, _ => rfl
  | x :: r, c :: cs, n, h => by simp only [List.length_cons]; rw [Sel.len h.2.2]
  | [], _ :: _, _, h => h.elim
  | _ :: _, [], _, h => h.elim
theorem Sel.bd : ∀ {l : List (Int × Int)} {cs : List Int} {n : Int}, CT l → Sel l cs n → 0 ≤ n ∧ n ≤ tval l ∧ 0 ≤ isum cs ∧ isum cs ≤ 20 * l.length ∧ isum cs ≤ n
  | [], [], n, _, h => by simp only [Sel] at h; subst h; simp [tval, isum]
  | x :: r, c :: cs, n, hl, h => by
    obtain ⟨h1, h2, h3⟩ := h
    have hx := hl x (by simp)
    have ih := Sel.bd hl.tail h3
    have p1 : 0 ≤ c * x.1 := Int.mul_nonneg h1 (by omega)
    have p2 : c * x.1 ≤ x.1 * x.2 := by rw [Int.mul_comm]; exact Int.mul_le_mul_of_nonneg_left h2 (by omega)
    have p3 : c * 1 ≤ c * x.1 := Int.mul_le_mul_of_nonneg_left (by omega) h1
    simp only [tval, isum, List.length_cons]
    omega
  | [], _ :: _, _, _, h => h.elim
  | _ :: _, [], _, _, h => h.elim

theorem few_le : ∀ {l : List (Int × Int)} {cs : List Int} {n : Int}, CT l → Sel l cs n → few l n ≤ isum cs
  | [], [], n, _, h => by simp only [Sel] at h; subst h; simp [few, isum]
  | x :: r, c :: cs, n, hl, h => by
    obtain ⟨h1, h2, h3⟩ := h
    have hx := hl x (by simp)
    have ih := few_le hl.tail h3
    have hb := (Sel.bd hl.tail h3).1
    have p1 : 0 ≤ c * x.1 := Int.mul_nonneg h1 (by omega)
    obtain ⟨k, rfl⟩ := Int.eq_ofNat_of_zero_le h1
    have := mTo_le (x := x) (f := few r) (n := n) ((tries_iff (by omega) (by omega)).2 ⟨h2, by omega⟩ : k < tries x n)
    simp only [few, isum]
    omega
  | [], _ :: _, _, _, h => h.elim
  | _ :: _, [], _, _, h => h.elim

/-! ### The choice that is made: the most coins of the last kind, then of the one before -/
def fitC (x : Int × Int) (f : Int → Int) (n best : Int) (c : Int) : Bool := decide (c * x.1 ≤ n) && decide (c + f (n - c * x.1) = best)
/-- The greatest number of coins up to another one that fits. -/
def pickC (x : Int × Int) (f : Int → Int) (n best : Int) : Nat → Nat
  | 0 => 0
  | c + 1 => if fitC x f n best ((c + 1 : Nat) : Int) then c + 1 else pickC x f n best c
def pick (x : Int × Int) (f : Int → Int) (n : Int) (best : Int) : Nat := pickC x f n best x.2.toNat
def trace : List (Int × Int) → Int → List Int
  | [], _ => []
  | x :: r, n => (pick x (few r) n (few (x :: r) n) : Int) :: trace r (n - (pick x (few r) n (few (x :: r) n) : Int) * x.1)

theorem pickC_le {x : Int × Int} {f : Int → Int} {n best : Int} : ∀ m : Nat, pickC x f n best m ≤ m
  | 0 => Nat.le_refl _
  | m + 1 => by have := pickC_le (x := x) (f := f) (n := n) (best := best) m; simp only [pickC]; split <;> omega
theorem pickC_fit {x : Int × Int} {f : Int → Int} {n best : Int} : ∀ {m c : Nat}, c ≤ m → fitC x f n best c = true → fitC x f n best (pickC x f n best m) = true
  | 0, c, h, hc => by
    obtain rfl : c = 0 := by omega
    exact hc
  | m + 1, c, h, hc => by
    simp only [pickC]
    split
    · rename_i h1; exact h1
    · rename_i h1
      rcases Nat.lt_succ_iff_lt_or_eq.1 (Nat.lt_succ_of_le h) with h2 | h2
      · exact pickC_fit (Nat.le_of_lt_succ h2) hc
      · subst h2; exact absurd hc h1
/-- How the loop finds it: nothing above fits, and this one does. -/
theorem pickC_is {x : Int × Int} {f : Int → Int} {n best : Int} : ∀ {m c : Nat}, c ≤ m → fitC x f n best c = true → (∀ j : Nat, c < j → j ≤ m → fitC x f n best j = false) → pickC x f n best m = c
  | 0, c, h, _, _ => by simp [pickC]; omega
  | m + 1, c, h, hc, hn => by
    simp only [pickC]
    rcases Nat.lt_succ_iff_lt_or_eq.1 (Nat.lt_succ_of_le h) with h2 | h2
    · rw [if_neg (by rw [hn (m + 1) (by omega) (Nat.le_refl _)]; simp)]
      exact pickC_is (Nat.le_of_lt_succ h2) hc (fun j h3 h4 => hn j h3 (by omega))
    · subst h2; rw [if_pos hc]

theorem fitC_iff {x : Int × Int} {f : Int → Int} {n best c : Int} : fitC x f n best c = true ↔ c * x.1 ≤ n ∧ c + f (n - c * x.1) = best := by simp [fitC]
theorem pick_fit {x : Int × Int} {r : List (Int × Int)} {n : Int} (hx : (1 ≤ x.1 ∧ x.1 ≤ 500) ∧ 0 ≤ x.2 ∧ x.2 ≤ 20) (hn : 0 ≤ n) (h : few (x :: r) n < noneC) :
    (pick x (few r) n (few (x :: r) n) : Int) ≤ x.2 ∧ (pick x (few r) n (few (x :: r) n) : Int) * x.1 ≤ n ∧ few r (n - (pick x (few r) n (few (x :: r) n) : Int) * x.1) = few (x :: r) n - (pick x (few r) n (few (x :: r) n) : Int) := by
  obtain ⟨c, h1, h2⟩ := mTo_att (x := x) (f := few r) (n := n) (m := tries x n) h
  obtain ⟨h3, h4⟩ := (tries_iff (by omega) hn).1 h1
  have h5 := fitC_iff.1 (pickC_fit (x := x) (f := few r) (n := n) (best := few (x :: r) n) (m := x.2.toNat) (c := c) (by omega) (fitC_iff.2 ⟨h4, h2.symm⟩))
  have h6 := pickC_le (x := x) (f := few r) (n := n) (best := few (x :: r) n) x.2.toNat
  unfold pick
  generalize pickC x (few r) n (few (x :: r) n) x.2.toNat = q at *
  omega
theorem trace_sel : ∀ {l : List (Int × Int)} {n : Int}, CT l → 0 ≤ n → few l n < noneC → Sel l (trace l n) n ∧ isum (trace l n) = few l n
  | [], n, _, _, h => by
    simp only [few] at h
    have hn : n = 0 := by
      by_cases h0 : n = 0
      · exact h0
      · rw [if_neg h0] at h; omega
    subst hn; simp [trace, Sel, few, isum]
  | x :: r, n, hl, hn, h => by
    obtain ⟨h1, h2, h3⟩ := pick_fit (hl x (by simp)) hn h
    simp only [trace, Sel, isum]
    generalize hq : pick x (few r) n (few (x :: r) n) = q at *
    obtain ⟨h4, h5⟩ := trace_sel (l := r) (n := n - (q : Int) * x.1) hl.tail (by omega) (by omega)
    exact ⟨⟨by omega, h1, h4⟩, by omega⟩
theorem trace_len : ∀ (l : List (Int × Int)) (n : Int), (trace l n).length = l.length
  | [], _ => rfl
  | x :: r, n => by simp only [trace, List.length_cons]; rw [trace_len r]

/-! ### Forward and backward -/
theorem Sel.app : ∀ {a b : List (Int × Int)} {cs ds : List Int} {n m : Int}, Sel a cs n → Sel b ds m → Sel (a ++ b) (cs ++ ds) (n + m)
  | [], _, [], _, n, m, h, k => by simp only [Sel] at h; subst h; simpa using k
  | x :: r, b, c :: cs, ds, n, m, h, k => by
    refine ⟨h.1, h.2.1, ?_⟩
    rw [show n + m - c * x.1 = n - c * x.1 + m by omega]
    exact Sel.app h.2.2 k
  | [], _, _ :: _, _, _, _, h, _ => h.elim
  | _ :: _, _, [], _, _, _, h, _ => h.elim
theorem Sel.rev : ∀ {l : List (Int × Int)} {cs : List Int} {n : Int}, Sel l cs n → Sel l.reverse cs.reverse n
  | [], [], n, h => h
  | x :: r, c :: cs, n, h => by
    rw [List.reverse_cons, List.reverse_cons, show n = (n - c * x.1) + c * x.1 by omega]
    exact Sel.app (Sel.rev h.2.2) ⟨h.1, h.2.1, by simp [Sel]⟩
  | [], _ :: _, _, h => h.elim
  | _ :: _, [], _, h => h.elim
theorem isum_app : ∀ (a b : List Int), isum (a ++ b) = isum a + isum b
  | [], b => by simp [isum]
  | x :: r, b => by simp only [List.cons_append, isum, isum_app r b]; omega
theorem isum_rev : ∀ (a : List Int), isum a.reverse = isum a
  | [] => rfl
  | x :: r => by rw [List.reverse_cons, isum_app, isum_rev r]; simp only [isum]; omega
theorem isum_step {l : List Int} {k : Nat} (hk : k < l.length) : isum (l.take (k + 1)) = isum (l.take k) + g0 l k := by
  rw [List.take_succ_eq_append_getElem hk, isum_app, g0_eq hk]; simp [isum]

/-- One coin more or less of a kind. -/
theorem Sel.bump : ∀ {l : List (Int × Int)} {cs : List Int} {n : Int} {i : Nat} {d : Int}, Sel l cs n → i < l.length → 0 ≤ g0 cs i + d → g0 cs i + d ≤ g2 l i →
    Sel l (cs.set i (g0 cs i + d)) (n + d * g1 l i) ∧ isum (cs.set i (g0 cs i + d)) = isum cs + d
  | x :: r, c :: cs, n, 0, d, h, _, h0, h1 => by
    simp only [g0, g1, g2, List.getD_cons_zero, List.set_cons_zero, Sel, isum] at *
    refine ⟨⟨h0, h1, ?_⟩, by omega⟩
    rw [Int.add_mul, show n + d * x.1 - (c * x.1 + d * x.1) = n - c * x.1 by omega]
    exact h.2.2
  | x :: r, c :: cs, n, i + 1, d, h, hi, h0, h1 => by
    simp only [g0, g1, g2, List.getD_cons_succ, List.set_cons_succ, Sel, isum] at *
    have hi' : i < r.length := by simpa using hi
    have := Sel.bump (l := r) (cs := cs) (n := n - c * x.1) (i := i) (d := d) h.2.2 hi' h0 h1
    simp only [g0, g1] at this
    refine ⟨⟨h.1, h.2.1, ?_⟩, by omega⟩
    rw [show n + d * (r.getD i (0, 0)).1 - c * x.1 = n - c * x.1 + d * (r.getD i (0, 0)).1 by omega]
    exact this.1
  | [], _, _, i, _, _, hi, _, _ => absurd hi (by simp)
  | _ :: _, [], _, _, _, h, _, _, _ => h.elim
/-- The same choice out of a till with another number of a kind. -/
theorem Sel.over : ∀ {l : List (Int × Int)} {cs : List Int} {n : Int} {i : Nat} {m : Int}, Sel l cs n → i < l.length → g0 cs i ≤ m → Sel (l.set i (g1 l i, m)) cs n
  | x :: r, c :: cs, n, 0, m, h, _, h1 => by
    simp only [g0, g1, List.getD_cons_zero, List.set_cons_zero, Sel] at *
    exact ⟨h.1, h1, h.2.2⟩
  | x :: r, c :: cs, n, i + 1, m, h, hi, h1 => by
    simp only [g0, g1, List.getD_cons_succ, List.set_cons_succ, Sel] at *
    exact ⟨h.1, h.2.1, Sel.over h.2.2 (by simpa using hi) h1⟩
  | [], _, _, i, _, _, hi, _ => absurd hi (by simp)
  | _ :: _, [], _, _, _, h, _, _ => h.elim
theorem Sel.at_ : ∀ {l : List (Int × Int)} {cs : List Int} {n : Int} {i : Nat}, Sel l cs n → i < l.length → 0 ≤ g0 cs i ∧ g0 cs i ≤ g2 l i
  | x :: r, c :: cs, n, 0, h, _ => by simp only [g0, g2, List.getD_cons_zero]; exact ⟨h.1, h.2.1⟩
  | x :: r, c :: cs, n, i + 1, h, hi => by
    simp only [g0, g2, List.getD_cons_succ]
    exact Sel.at_ h.2.2 (by simpa using hi)
  | [], _, _, i, _, hi => absurd hi (by simp)
  | _ :: _, [], _, _, h, _ => h.elim
theorem Sel.zero : ∀ {l : List (Int × Int)}, CT l → Sel l (List.replicate l.length 0) 0
  | [], _ => rfl
  | x :: r, h => by
    have hx := h x (by simp)
    refine ⟨Int.le_refl _, by omega, ?_⟩
    simp only [Int.zero_mul, Int.sub_zero]
    exact Sel.zero h.tail
theorem isum_zero : ∀ n : Nat, isum (List.replicate n 0) = 0
  | 0 => rfl
  | n + 1 => by simp only [List.replicate_succ, isum, isum_zero n]; rfl
theorem Sel.all : ∀ {l : List (Int × Int)}, CT l → Sel l (l.map Prod.snd) (tval l)
  | [], _ => rfl
  | x :: r, h => by
    have hx := h x (by simp)
    refine ⟨hx.2.1, Int.le_refl _, ?_⟩
    rw [tval, show x.1 * x.2 + tval r - x.2 * x.1 = tval r by rw [Int.mul_comm x.2]; omega]
    exact Sel.all h.tail
theorem g0_zero {n i : Nat} : g0 (List.replicate n 0) i = 0 := by
  simp only [g0, List.getD_eq_getElem?_getD, List.getElem?_replicate]; split <;> rfl

/-! ### Change -/
def okC (l : List (Int × Int)) (n : Int) : Bool := vTill l && (withinB n 0 300 && decide (few l.reverse n < noneC))
def chg (l : List (Int × Int)) (n : Int) : List Int := (trace l.reverse n).reverse
def chgL (l : List (Int × Int)) (n : Int) : List Int := if okC l n then chg l n else []
theorem okC_true {l : List (Int × Int)} {n : Int} : okC l n = true ↔ ST l ∧ (0 ≤ n ∧ n ≤ 300) ∧ few l.reverse n < noneC := by
  simp only [okC, Bool.and_eq_true, withinB_true, decide_eq_true_eq, vTill_iff]
/-- What change is: a choice of coins that makes the amount, of the fewest. -/
theorem chg_sel {l : List (Int × Int)} {n : Int} (h : okC l n = true) : Sel l (chg l n) n ∧ isum (chg l n) = few l.reverse n := by
  obtain ⟨h1, h2, h3⟩ := okC_true.1 h
  obtain ⟨h4, h5⟩ := trace_sel h1.ct.rev h2.1 h3
  unfold chg
  refine ⟨?_, by rw [isum_rev]; exact h5⟩
  have := h4.rev
  rwa [List.reverse_reverse] at this
theorem few_rev_le {l : List (Int × Int)} {n : Int} {cs : List Int} (hl : CT l) (h : Sel l cs n) : few l.reverse n ≤ isum cs := by
  have := few_le hl.rev h.rev
  rwa [isum_rev] at this
/-- Whatever can be made can be given. -/
theorem okC_of {l : List (Int × Int)} {n : Int} {cs : List Int} (hl : ST l) (hn : 0 ≤ n ∧ n ≤ 300) (h : Sel l cs n) : okC l n = true := by
  refine okC_true.2 ⟨hl, hn, ?_⟩
  have h1 := few_rev_le hl.ct h
  have h2 := h.bd hl.ct
  have h3 := hl.2.2
  simp only [noneC]
  omega
theorem chg_le {l : List (Int × Int)} {n : Int} {cs : List Int} (hk : okC l n = true) (h : Sel l cs n) : isum (chg l n) ≤ isum cs := by
  rw [(chg_sel hk).2]; exact few_rev_le (okC_true.1 hk).1.ct h
theorem chg_bd {l : List (Int × Int)} {n : Int} (hk : okC l n = true) : 0 ≤ isum (chg l n) ∧ isum (chg l n) ≤ 100 ∧ n ≤ tval l := by
  obtain ⟨h1, h2, h3⟩ := okC_true.1 hk
  have := (chg_sel hk).1.bd h1.ct
  have := h1.2.2
  omega
theorem chg_len {l : List (Int × Int)} {n : Int} : (chg l n).length = l.length := by
  unfold chg; rw [List.length_reverse, trace_len, List.length_reverse]

/-! ### Paying out -/
def payL : List (Int × Int) → List Int → List (Int × Int)
  | x :: r, c :: cs => (x.1, x.2 - c) :: payL r cs
  | [], _ => []
  | x :: r, [] => x :: r
theorem payL_len : ∀ (l : List (Int × Int)) (cs : List Int), (payL l cs).length = l.length
  | x :: r, c :: cs => by simp only [payL, List.length_cons]; rw [payL_len r cs]
  | [], _ => rfl
  | x :: r, [] => rfl
theorem payL_at : ∀ {l : List (Int × Int)} {cs : List Int} {i : Nat}, cs.length = l.length → i < l.length → g1 (payL l cs) i = g1 l i ∧ g2 (payL l cs) i = g2 l i - g0 cs i
  | x :: r, c :: cs, 0, _, _ => ⟨rfl, rfl⟩
  | x :: r, c :: cs, i + 1, h, hi => by
    have := payL_at (l := r) (cs := cs) (i := i) (by simpa using h) (by simpa using hi)
    simpa [payL, g1, g2, g0] using this
  | [], _, i, _, hi => absurd hi (by simp)
  | _ :: _, [], _, h, _ => absurd h (by simp)
theorem payL_tval : ∀ {l : List (Int × Int)} {cs : List Int} {n : Int}, Sel l cs n → tval (payL l cs) = tval l - n
  | [], [], n, h => by simp only [Sel] at h; subst h; rfl
  | x :: r, c :: cs, n, h => by
    have := payL_tval h.2.2
    simp only [payL, tval, Int.mul_sub]
    have : x.1 * c = c * x.1 := Int.mul_comm ..
    omega
  | [], _ :: _, _, h => h.elim
  | _ :: _, [], _, h => h.elim
theorem payL_ST {l : List (Int × Int)} {cs : List Int} {n : Int} (hl : ST l) (h : Sel l cs n) : ST (payL l cs) := by
  have hv := vTill_iff.2 hl
  refine vTill_iff.1 ?_
  unfold vTill at hv ⊢
  rw [Bool.and_eq_true, List.all_eq_true, decide_eq_true_eq] at hv ⊢
  obtain ⟨a1, a2⟩ := hv
  rw [payL_len]
  refine ⟨fun j hj => ?_, a2⟩
  have hj' := List.mem_range.1 hj
  have h1 := coinOk_true.1 (a1 j hj)
  have h2 := payL_at h.len hj'
  have h3 := h.at_ hj'
  refine coinOk_true.2 ⟨by rw [h2.1]; exact h1.1, by rw [h2.2]; omega, ?_⟩
  rcases h1.2.2 with h4 | h4
  · exact .inl h4
  · refine .inr ?_
    rw [h2.1, (payL_at h.len (show j - 1 < l.length by omega)).1]
    exact h4
def payI (l : List (Int × Int)) (n : Int) : List (Int × Int) := if okC l n then payL l (chg l n) else []

/-! ### The laws -/
theorem chg_one {l : List (Int × Int)} {i : Nat} (hk : okC l (g1 l i) = true) (hi : i < l.length) (h0 : 0 < g2 l i) : isum (chg l (g1 l i)) = 1 := by
  obtain ⟨h1, h2, h3⟩ := okC_true.1 hk
  have hb := h1.bd hi
  obtain ⟨s1, s2⟩ := (Sel.zero h1.ct).bump (i := i) (d := 1) hi (by rw [g0_zero]; omega) (by rw [g0_zero]; omega)
  rw [Int.one_mul, Int.zero_add] at s1
  have h4 := chg_le hk s1
  rw [s2, isum_zero] at h4
  have h5 := chg_bd hk
  have h6 := (chg_sel hk).1
  by_cases hz : isum (chg l (g1 l i)) = 0
  · exfalso
    have : ∀ {l : List (Int × Int)} {cs : List Int} {n : Int}, Sel l cs n → isum cs = 0 → n = 0 := by
      intro l
      induction l with
      | nil => intro cs n h _; match cs, h with | [], h => exact h
      | cons x r ih =>
        intro cs n h hz
        match cs, h with
        | c :: cs, h =>
          have hp : ∀ {l : List (Int × Int)} {cs : List Int} {n : Int}, Sel l cs n → 0 ≤ isum cs := by
            intro l
            induction l with
            | nil => intro cs n h; match cs, h with | [], _ => exact Int.le_refl _
            | cons x r ih => intro cs n h; match cs, h with | c :: cs, h => have := ih h.2.2; have := h.1; simp only [isum]; omega
          have h7 := hp h.2.2
          simp only [isum] at hz
          obtain ⟨a, b, d⟩ := h
          have : c = 0 := by omega
          subst this
          have := ih d (by omega)
          omega
    have := this h6 hz
    omega
  · omega
theorem chg_two {l : List (Int × Int)} {i k : Nat} (hk : okC l (g1 l i + g1 l k) = true) (hi : i < l.length) (hk' : k < l.length) (h0 : 0 < g2 l i) (h1 : 0 < g2 l k) (h2 : i ≠ k ∨ 1 < g2 l i) : isum (chg l (g1 l i + g1 l k)) ≤ 2 := by
  obtain ⟨a1, a2, a3⟩ := okC_true.1 hk
  obtain ⟨s1, s2⟩ := (Sel.zero a1.ct).bump (i := i) (d := 1) hi (by rw [g0_zero]; omega) (by rw [g0_zero]; omega)
  rw [g0_zero, Int.one_mul, Int.zero_add, Int.zero_add] at s1
  rw [g0_zero, isum_zero, Int.zero_add] at s2
  have hg : g0 ((List.replicate l.length 0).set i 1) k = if i = k then 1 else 0 := by
    simp only [g0, List.getD_eq_getElem?_getD, List.getElem?_set, List.getElem?_replicate, List.length_replicate]
    split <;> simp
  have hg1 : g0 ((List.replicate l.length 0).set i 1) k + 1 ≤ g2 l k := by
    rw [hg]
    by_cases he : i = k
    · rw [if_pos he]; subst he; omega
    · rw [if_neg he]; omega
  obtain ⟨s3, s4⟩ := s1.bump (i := k) (d := 1) hk' (by rw [hg]; split <;> omega) hg1
  rw [Int.one_mul] at s3
  have := chg_le hk s3
  rw [s4, s2] at this
  exact this
theorem chg_zero {l : List (Int × Int)} (h : ST l) : okC l 0 = true ∧ isum (chg l 0) = 0 := by
  have h1 := Sel.zero h.ct
  have hk := okC_of h ⟨Int.le_refl _, by omega⟩ h1
  have h2 := chg_le hk h1
  rw [isum_zero] at h2
  have := chg_bd hk
  exact ⟨hk, by omega⟩
theorem chg_pos {l : List (Int × Int)} {n : Int} (hk : okC l n = true) : n = 0 ↔ isum (chg l n) = 0 := by
  constructor
  · intro h; subst h; exact (chg_zero (okC_true.1 hk).1).2
  · intro h
    have key : ∀ {l : List (Int × Int)} {cs : List Int} {n : Int}, Sel l cs n → 0 ≤ isum cs ∧ (isum cs = 0 → n = 0) := by
      intro l
      induction l with
      | nil => intro cs n h; match cs, h with | [], h => exact ⟨Int.le_refl _, fun _ => h⟩
      | cons x r ih =>
        intro cs n h
        match cs, h with
        | c :: cs, h =>
          obtain ⟨a, b, d⟩ := h
          obtain ⟨e1, e2⟩ := ih d
          simp only [isum]
          refine ⟨by omega, fun hz => ?_⟩
          have h0 : c = 0 := by omega
          subst h0
          have := e2 (by omega)
          omega
    exact (key (chg_sel hk).1).2 h
theorem chg_more {l : List (Int × Int)} {n : Int} {k : Nat} (hk : okC l n = true) (hi : k < l.length) :
    okC (l.set k (g1 l k, min (g2 l k + 1) 20)) n = true ∧ isum (chg (l.set k (g1 l k, min (g2 l k + 1) 20)) n) ≤ isum (chg l n) := by
  obtain ⟨h1, h2, h3⟩ := okC_true.1 hk
  have hb := h1.bd hi
  have hs := (chg_sel hk).1
  have ha := hs.at_ hi
  have hs' := hs.over (i := k) (m := min (g2 l k + 1) 20) hi (by omega)
  have hk' := okC_of (h1.set (k := k) (c := min (g2 l k + 1) 20) hi (by omega) (by omega)) h2 hs'
  exact ⟨hk', chg_le hk' hs'⟩
theorem set_back {l : List (Int × Int)} {i : Nat} {m : Int} (hi : i < l.length) : (l.set i (g1 l i, m)).set i (g1 l i, g2 l i) = l := by
  rw [List.set_set, ← g12_eq hi, List.set_getElem_self]
theorem chg_part {l : List (Int × Int)} {n : Int} {i : Nat} (hk : okC l n = true) (hi : i < l.length) (h0 : g0 (chg l n) i ≠ 0) :
    okC (l.set i (g1 l i, g2 l i - 1)) (n - g1 l i) = true ∧ isum (chg (l.set i (g1 l i, g2 l i - 1)) (n - g1 l i)) = isum (chg l n) - 1 := by
  obtain ⟨h1, h2, h3⟩ := okC_true.1 hk
  have hb := h1.bd hi
  have hs := (chg_sel hk).1
  have ha := hs.at_ hi
  obtain ⟨s1, s2⟩ := hs.bump (i := i) (d := -1) hi (by omega) (by omega)
  rw [show n + -1 * g1 l i = n - g1 l i by omega] at s1
  have hcl : i < (chg l n).length := by rw [chg_len]; exact hi
  have hgs : g0 ((chg l n).set i (g0 (chg l n) i + -1)) i = g0 (chg l n) i - 1 := by
    simp [g0, List.getD_eq_getElem?_getD, hcl]; omega
  have hs' := s1.over (i := i) (m := g2 l i - 1) hi (by rw [hgs]; omega)
  have hL := h1.set (k := i) (c := g2 l i - 1) hi (by omega) (by omega)
  have hn' := (s1.bd h1.ct).1
  have hk' := okC_of hL ⟨hn', by omega⟩ hs'
  refine ⟨hk', ?_⟩
  have le1 := chg_le hk' hs'
  rw [s2] at le1
  have t := (chg_sel hk').1
  have hl' : i < (l.set i (g1 l i, g2 l i - 1)).length := by rw [List.length_set]; exact hi
  have ht := t.at_ hl'
  rw [g2_set hi, if_pos rfl] at ht
  have t1 := t.over (i := i) (m := g2 l i) hl' (by omega)
  rw [g1_set hi, if_pos rfl, set_back hi] at t1
  obtain ⟨t2, t3⟩ := t1.bump (i := i) (d := 1) hi (by omega) (by omega)
  rw [show n - g1 l i + 1 * g1 l i = n by omega] at t2
  have le2 := chg_le hk t2
  rw [t3] at le2
  omega
theorem chg_all {l : List (Int × Int)} (h : ST l) (hn : tval l ≤ 300) : okC l (tval l) = true := okC_of h ⟨(tval_of h).1, hn⟩ (Sel.all h.ct)

end Go.Proofs.Ytcjcolkhhmpmjaa
