/- The plain law of sold lines: what is refunded and what is kept. No program in sight. -/
import Derived.Test.YtgeffidkamklaaaNum
namespace Go.Proofs.Ytgeffidkamklaaa

def vSale (c p b : Int) : Bool := withinB c 1 20 && withinB p 0 1000000 && withinB b 0 c
def partI (p n c : Int) : Int := p * n / c
def keptI (c p b : Int) : Int := if vSale c p b then p - partI p b c else -1
/-- Pieces of a valid sold line can be given back. -/
def okBack (c p b n : Int) : Bool := vSale c p b && withinB n 1 (c - b)
def refundI (c p b n : Int) : Int := if okBack c p b n then partI p (b + n) c - partI p b c else -1

theorem vSale_true {c p b : Int} (h : vSale c p b = true) : 1 ≤ c ∧ c ≤ 20 ∧ 0 ≤ p ∧ p ≤ 1000000 ∧ 0 ≤ b ∧ b ≤ c := by
  simp only [vSale, withinB, Bool.and_eq_true, decide_eq_true_eq] at h; omega
theorem vSale_mk {c p b : Int} (h1 : 1 ≤ c) (h2 : c ≤ 20) (h3 : 0 ≤ p) (h4 : p ≤ 1000000) (h5 : 0 ≤ b) (h6 : b ≤ c) : vSale c p b = true := by
  simp only [vSale, withinB, Bool.and_eq_true, decide_eq_true_eq]; omega
theorem okBack_true {c p b n : Int} (h : okBack c p b n = true) : vSale c p b = true ∧ 1 ≤ n ∧ n ≤ c - b := by
  simp only [okBack, withinB, Bool.and_eq_true, decide_eq_true_eq] at h; exact ⟨h.1, h.2.1, h.2.2⟩
theorem okBack_mk {c p b n : Int} (h : vSale c p b = true) (h1 : 1 ≤ n) (h2 : n ≤ c - b) : okBack c p b n = true := by
  simp only [okBack, withinB, h, Bool.true_and, decide_eq_true_eq]; omega

theorem mul_bd {p n : Int} (h3 : 0 ≤ p) (h4 : p ≤ 1000000) (h5 : 0 ≤ n) (h6 : n ≤ 20) : 0 ≤ p * n ∧ p * n ≤ 20000000 := by
  refine ⟨Int.mul_nonneg h3 h5, ?_⟩
  have h7 : p * n ≤ 1000000 * n := Int.mul_le_mul_of_nonneg_right h4 h5
  omega
theorem part_bd {c p n : Int} (h1 : 1 ≤ c) (h3 : 0 ≤ p) (h5 : 0 ≤ n) (h6 : n ≤ c) : 0 ≤ partI p n c ∧ partI p n c ≤ p := by
  unfold partI
  refine ⟨Int.ediv_nonneg (Int.mul_nonneg h3 h5) (by omega), ?_⟩
  have h7 : p * n ≤ p * c := Int.mul_le_mul_of_nonneg_left h6 h3
  have h8 := Int.ediv_le_ediv (c := c) (by omega) h7
  rwa [Int.mul_ediv_cancel _ (by omega)] at h8
theorem part_all {c p : Int} (h1 : 1 ≤ c) : partI p c c = p := by
  unfold partI; exact Int.mul_ediv_cancel _ (by omega)
theorem part_zero {c p : Int} : partI p 0 c = 0 := by simp [partI]
theorem part_mono {c p m n : Int} (h1 : 1 ≤ c) (h3 : 0 ≤ p) (h : m ≤ n) : partI p m c ≤ partI p n c := by
  unfold partI
  exact Int.ediv_le_ediv (by omega) (Int.mul_le_mul_of_nonneg_left h h3)

end Go.Proofs.Ytgeffidkamklaaa
