/- The plain law of taxes in amounts, and of gross amounts. No program in sight. -/
import Derived.Test.YtmgphagahdepfaaNum
namespace Go.Proofs.Ytmgphagahdepfaa

def taxI (a r : Int) : Int := (2 * a * r + (1000 + r)) / (2 * (1000 + r))
/-- The least gross amount. -/
def grossL (net r : Int) : Int := (2 * (net * (1000 + r)) - (1000 + r)) / 2000 + 1

theorem tax_bd {a r : Int} (ha : 0 ≤ a) (hr : 0 ≤ r ∧ r ≤ 300) : 0 ≤ taxI a r ∧ taxI a r ≤ a := by
  have h0 : 0 ≤ 2 * a * r := Int.mul_nonneg (by omega) hr.1
  unfold taxI
  refine ⟨Int.ediv_nonneg (by omega) (by omega), ?_⟩
  have h1 : (2 * a * r + (1000 + r)) / (2 * (1000 + r)) < a + 1 := by
    rw [Int.ediv_lt_iff_lt_mul (by omega)]
    have e : (a + 1) * (2 * (1000 + r)) = 2000 * a + 2 * a * r + 2 * (1000 + r) := by
      rw [Int.add_mul, Int.mul_comm 2 a, Int.mul_assoc a 2 r, Int.mul_left_comm, Int.mul_add]
      rw [show a * (2 * r) = 2 * (a * r) from Int.mul_left_comm ..]
      omega
    omega
  omega
/-- What is left of an amount is at least a net amount. -/
theorem left_ge {n r net : Int} (hr : 0 ≤ r ∧ r ≤ 300) : net ≤ n - taxI n r ↔ 2 * (net * (1000 + r)) - (1000 + r) < 2000 * n := by
  have h1 : taxI n r < n - net + 1 ↔ 2 * n * r + (1000 + r) < (n - net + 1) * (2 * (1000 + r)) := by
    unfold taxI; exact Int.ediv_lt_iff_lt_mul (by omega)
  have e : (n - net + 1) * (2 * (1000 + r)) = 2000 * n + 2 * n * r - 2 * (net * (1000 + r)) + 2 * (1000 + r) := by
    rw [Int.add_mul, Int.sub_mul]
    rw [show n * (2 * (1000 + r)) = 2000 * n + 2 * n * r by
      rw [Int.mul_comm 2 n, Int.mul_assoc n 2 r, Int.mul_left_comm, Int.mul_add]
      rw [show n * (2 * r) = 2 * (n * r) from Int.mul_left_comm ..]
      omega]
    rw [show net * (2 * (1000 + r)) = 2 * (net * (1000 + r)) from Int.mul_left_comm ..]
    omega
  rw [e] at h1
  omega
theorem left_iff {n r net : Int} (hr : 0 ≤ r ∧ r ≤ 300) : net ≤ n - taxI n r ↔ grossL net r ≤ n := by
  rw [left_ge hr]; unfold grossL; omega
theorem prod_ge {net r : Int} (hn : 0 ≤ net ∧ net ≤ 500000) (hr : 0 ≤ r ∧ r ≤ 300) : 1000 * net ≤ net * (1000 + r) ∧ net * (1000 + r) ≤ 650000000 := by
  have h1 : 0 ≤ net * r := Int.mul_nonneg hn.1 hr.1
  have h2 : net * r ≤ 500000 * 300 := Int.mul_le_mul hn.2 hr.2 hr.1 (by omega)
  rw [Int.mul_add]
  omega
theorem gross_bd {net r : Int} (hn : 0 ≤ net ∧ net ≤ 500000) (hr : 0 ≤ r ∧ r ≤ 300) : net ≤ grossL net r ∧ grossL net r ≤ 700000 := by
  have := prod_ge hn hr
  unfold grossL
  omega
/-- It leaves the net amount itself. -/
theorem gross_eq {net r : Int} (hr : 0 ≤ r ∧ r ≤ 300) : grossL net r - taxI (grossL net r) r = net := by
  have h1 := (left_iff (n := grossL net r) (net := net) hr).2 (Int.le_refl _)
  have h2 : ¬ net + 1 ≤ grossL net r - taxI (grossL net r) r := by
    rw [left_ge hr, Int.add_mul, Int.one_mul]
    unfold grossL
    omega
  omega
theorem gross_less {n net r : Int} (hr : 0 ≤ r ∧ r ≤ 300) (h : n < grossL net r) : n - taxI n r < net := by
  have := (left_iff (n := n) (net := net) hr)
  omega
theorem gross_near {net r : Int} (hn : 0 ≤ net ∧ net ≤ 500000) (hr : 0 ≤ r ∧ r ≤ 300) : grossL net r = net * (1000 + r) / 1000 ∨ grossL net r = net * (1000 + r) / 1000 + 1 := by
  have := prod_ge hn hr
  unfold grossL
  omega
theorem gross_zero {net : Int} : grossL net 0 = net := by unfold grossL; omega
def grossI (net r : Int) : Int := if withinB net 0 500000 && withinB r 0 300 then grossL net r else -1

end Go.Proofs.Ytmgphagahdepfaa
