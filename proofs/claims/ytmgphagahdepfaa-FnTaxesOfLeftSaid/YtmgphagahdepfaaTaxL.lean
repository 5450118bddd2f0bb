/- The plain law of the taxes of a cart. No program in sight. -/
import Derived.Test.YtmgphagahdepfaaTaxP
import Derived.Test.YtmgphagahdepfaaCartP
import Derived.Test.YtmgphagahdepfaaSl34
namespace Go.Proofs.Ytmgphagahdepfaa

def artOk (s : List (Int × Int × Int × Int)) (k : Nat) : Bool := withinB (q1 s k) 1 5000 && (withinB (q2 s k) 0 2 && (withinB (q3 s k) 0 300 && withinB (q4 s k) 0 5000))
def vShop (s : List (Int × Int × Int × Int)) : Bool := (List.range s.length).all (artOk s) && withinB s.length 1 10
/-- The price of a line. -/
def amt (s : List (Int × Int × Int × Int)) (c : List (Int × Int)) (k : Nat) : Int := q1 s (g1 c k).toNat * g2 c k
def rtK (s : List (Int × Int × Int × Int)) (c : List (Int × Int)) (k : Nat) : Int := q3 s (g1 c k).toNat
def amts (s : List (Int × Int × Int × Int)) (c : List (Int × Int)) : List Int := (List.range c.length).map (amt s c)
def lftOk (s : List (Int × Int × Int × Int)) (c : List (Int × Int)) (l : List Int) (k : Nat) : Bool := withinB (g0 l k) 0 (amt s c k)
def vLeft (s : List (Int × Int × Int × Int)) (c : List (Int × Int)) (l : List Int) : Bool := (List.range c.length).all (lftOk s c l) && decide (l.length = c.length)
def fitTax (s : List (Int × Int × Int × Int)) (c : List (Int × Int)) (l : List Int) : Bool := (vShop s && vCart s.length c) && vLeft s c l

/-- What is left of the lines with a rate, of so many lines. -/
def gr (rt lf : Nat → Int) (r : Int) : Nat → Int
  | 0 => 0
  | k + 1 => gr rt lf r k + (if rt k = r then lf k else 0)
/-- Whether a line has a rate. -/
def has (rt : Nat → Int) (r : Int) : Nat → Bool
  | 0 => false
  | k + 1 => has rt r k || (rt k == r)
def rts (rt : Nat → Int) (n : Nat) : Nat → List Int
  | 0 => []
  | R + 1 => rts rt n R ++ (if has rt R n = true then [(R : Int)] else [])
def tx (rt lf : Nat → Int) (n : Nat) (r : Int) : Int × Int × Int := (r, gr rt lf r n, taxI (gr rt lf r n) r)
def txs (rt lf : Nat → Int) (n : Nat) : Nat → List (Int × Int × Int)
  | 0 => []
  | R + 1 => txs rt lf n R ++ (if has rt R n = true then [tx rt lf n R] else [])
theorem txs_map (rt lf : Nat → Int) (n : Nat) : ∀ R, txs rt lf n R = (rts rt n R).map (tx rt lf n)
  | 0 => rfl
  | R + 1 => by simp only [txs, rts, txs_map rt lf n R, List.map_append]; split <;> rfl
theorem rts_len (rt : Nat → Int) (n : Nat) : ∀ R, (rts rt n R).length ≤ R
  | 0 => Nat.le_refl _
  | R + 1 => by
    have := rts_len rt n R
    simp only [rts, List.length_append]
    split <;> simp <;> omega
theorem txs_len (rt lf : Nat → Int) (n R : Nat) : (txs rt lf n R).length = (rts rt n R).length := by rw [txs_map, List.length_map]
theorem rts_mem (rt : Nat → Int) (n : Nat) : ∀ R, ∀ x ∈ rts rt n R, 0 ≤ x ∧ x < R
  | 0, x, h => by simp [rts] at h
  | R + 1, x, h => by
    simp only [rts, List.mem_append] at h
    rcases h with h | h
    · have := rts_mem rt n R x h; omega
    · split at h
      · simp at h; subst h; omega
      · simp at h
theorem gr_bd {rt lf : Nat → Int} {r b : Int} : ∀ n, (∀ k, k < n → 0 ≤ lf k ∧ lf k ≤ b) → 0 ≤ gr rt lf r n ∧ gr rt lf r n ≤ b * n
  | 0, _ => by simp [gr]
  | n + 1, h => by
    have h1 := gr_bd (rt := rt) (r := r) n (fun k hk => h k (by omega))
    have h2 := h n (by omega)
    have e : b * ((n + 1 : Nat) : Int) = b * n + b := by rw [Int.natCast_succ, Int.mul_add, Int.mul_one]
    simp only [gr]
    rw [e]
    split <;> omega
theorem gr_none {rt lf : Nat → Int} {r : Int} : ∀ n, has rt r n = false → gr rt lf r n = 0
  | 0, _ => rfl
  | n + 1, h => by
    simp only [has, Bool.or_eq_false_iff] at h
    simp only [gr, gr_none n h.1]
    rw [if_neg (by have := h.2; simpa using this)]
    rfl

/-- The sums of the amounts and of the taxes of a list. -/
def sgr : List (Int × Int × Int) → Int
  | [] => 0
  | x :: r => x.2.1 + sgr r
def sta : List (Int × Int × Int) → Int
  | [] => 0
  | x :: r => x.2.2 + sta r
theorem sgr_append : ∀ (a b : List (Int × Int × Int)), sgr (a ++ b) = sgr a + sgr b
  | [], b => by simp [sgr]
  | x :: r, b => by simp only [List.cons_append, sgr, sgr_append r b]; omega
theorem sta_append : ∀ (a b : List (Int × Int × Int)), sta (a ++ b) = sta a + sta b
  | [], b => by simp [sta]
  | x :: r, b => by simp only [List.cons_append, sta, sta_append r b]; omega
/-- What is left of the lines with rates under a bound. -/
def low (rt lf : Nat → Int) (R : Int) : Nat → Int
  | 0 => 0
  | k + 1 => low rt lf R k + (if rt k < R then lf k else 0)
theorem low_zero {rt lf : Nat → Int} : ∀ n, (∀ k, k < n → 0 ≤ rt k) → low rt lf 0 n = 0
  | 0, _ => rfl
  | n + 1, h => by
    simp only [low, low_zero n (fun k hk => h k (by omega))]
    rw [if_neg (by have := h n (by omega); omega)]; rfl
theorem low_step {rt lf : Nat → Int} {R : Int} : ∀ n, low rt lf (R + 1) n = low rt lf R n + gr rt lf R n
  | 0 => rfl
  | n + 1 => by
    simp only [low, gr, low_step n]
    split <;> split <;> split <;> omega
theorem sgr_txs {rt lf : Nat → Int} {n : Nat} (h : ∀ k, k < n → 0 ≤ rt k) : ∀ R : Nat, sgr (txs rt lf n R) = low rt lf R n
  | 0 => (low_zero n h).symm
  | R + 1 => by
    rw [show ((R + 1 : Nat) : Int) = (R : Int) + 1 from rfl, low_step, txs, sgr_append, sgr_txs h R]
    split
    · simp [sgr, tx]
    · rename_i hh
      rw [gr_none n (by simpa using hh)]
      rfl
/-- All that is left. -/
def tot (lf : Nat → Int) : Nat → Int
  | 0 => 0
  | k + 1 => tot lf k + lf k
theorem low_all {rt lf : Nat → Int} {R : Int} : ∀ n, (∀ k, k < n → rt k < R) → low rt lf R n = tot lf n
  | 0, _ => rfl
  | n + 1, h => by
    simp only [low, tot, low_all n (fun k hk => h k (by omega))]
    rw [if_pos (h n (by omega))]
theorem tot_bd {lf : Nat → Int} {b : Int} : ∀ n, (∀ k, k < n → 0 ≤ lf k ∧ lf k ≤ b) → 0 ≤ tot lf n ∧ tot lf n ≤ b * n
  | 0, _ => by simp [tot]
  | n + 1, h => by
    have h1 := tot_bd n (fun k hk => h k (by omega))
    have h2 := h n (by omega)
    have e : b * ((n + 1 : Nat) : Int) = b * n + b := by rw [Int.natCast_succ, Int.mul_add, Int.mul_one]
    simp only [tot]
    rw [e]
    omega

theorem artOk_true {s : List (Int × Int × Int × Int)} {k : Nat} : artOk s k = true ↔ (1 ≤ q1 s k ∧ q1 s k ≤ 5000) ∧ (0 ≤ q2 s k ∧ q2 s k ≤ 2) ∧ (0 ≤ q3 s k ∧ q3 s k ≤ 300) ∧ (0 ≤ q4 s k ∧ q4 s k ≤ 5000) := by
  simp [artOk, withinB]
theorem vShop_at {s : List (Int × Int × Int × Int)} (h : vShop s = true) {k : Nat} (hk : k < s.length) : (1 ≤ q1 s k ∧ q1 s k ≤ 5000) ∧ (0 ≤ q2 s k ∧ q2 s k ≤ 2) ∧ (0 ≤ q3 s k ∧ q3 s k ≤ 300) ∧ (0 ≤ q4 s k ∧ q4 s k ≤ 5000) := by
  unfold vShop at h
  rw [Bool.and_eq_true, List.all_eq_true] at h
  exact artOk_true.1 (h.1 k (List.mem_range.2 hk))
theorem vShop_len {s : List (Int × Int × Int × Int)} (h : vShop s = true) : 1 ≤ s.length ∧ s.length ≤ 10 := by
  unfold vShop at h
  rw [Bool.and_eq_true] at h
  have := withinB_true.1 h.2
  omega

/-- All that a walk through a cart that fits asks. -/
theorem fit_at {s : List (Int × Int × Int × Int)} {c : List (Int × Int)} (hs : vShop s = true) (hc : vCart s.length c = true) {k : Nat} (hk : k < c.length) :
    (g1 c k).toNat < s.length ∧ ((g1 c k).toNat : Int) = g1 c k ∧ (1 ≤ g2 c k ∧ g2 c k ≤ 20) ∧ (1 ≤ amt s c k ∧ amt s c k ≤ 100000) ∧ 0 ≤ rtK s c k ∧ rtK s c k ≤ 300 := by
  have h1 := (vCart_iff.1 hc).at_ hk
  have hlt : (g1 c k).toNat < s.length := by omega
  have h2 := vShop_at hs hlt
  refine ⟨hlt, by omega, h1.2, ?_, h2.2.2.1⟩
  have p1 : (1 : Int) * 1 ≤ q1 s (g1 c k).toNat * g2 c k := Int.mul_le_mul h2.1.1 h1.2.1 (by omega) (by omega)
  have p2 : q1 s (g1 c k).toNat * g2 c k ≤ 5000 * 20 := Int.mul_le_mul h2.1.2 h1.2.2 (by omega) (by omega)
  unfold amt
  omega
theorem left_at {s : List (Int × Int × Int × Int)} {c : List (Int × Int)} {l : List Int} (hs : vShop s = true) (hc : vCart s.length c = true) (hl : vLeft s c l = true) {k : Nat} (hk : k < c.length) : 0 ≤ g0 l k ∧ g0 l k ≤ 100000 := by
  unfold vLeft at hl
  rw [Bool.and_eq_true, List.all_eq_true] at hl
  have h := withinB_true.1 (hl.1 k (List.mem_range.2 hk))
  have := (fit_at hs hc hk).2.2.2.1
  omega
theorem vLeft_len {s : List (Int × Int × Int × Int)} {c : List (Int × Int)} {l : List Int} (hl : vLeft s c l = true) : l.length = c.length := by
  unfold vLeft at hl
  rw [Bool.and_eq_true, decide_eq_true_eq] at hl
  exact hl.2

def taxesI (s : List (Int × Int × Int × Int)) (c : List (Int × Int)) (l : List Int) : List (Int × Int × Int) :=
  if fitTax s c l = true then txs (rtK s c) (g0 l) c.length 301 else []
def netI (s : List (Int × Int × Int × Int)) (c : List (Int × Int)) (l : List Int) : Int :=
  if fitTax s c l = true then sgr (taxesI s c l) - sta (taxesI s c l) else -1
theorem taxesI_len (s : List (Int × Int × Int × Int)) (c : List (Int × Int)) (l : List Int) : (taxesI s c l).length ≤ 301 := by
  unfold taxesI
  split
  · rw [txs_len]; exact rts_len _ _ _
  · simp

end Go.Proofs.Ytmgphagahdepfaa
