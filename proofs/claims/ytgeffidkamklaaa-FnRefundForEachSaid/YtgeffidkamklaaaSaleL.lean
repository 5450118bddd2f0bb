/- The plain law of sold lines, in the walk's own spelling. -/
import Derived.Test.YtgeffidkamklaaaSaleW3
import Derived.Test.YtgeffidkamklaaaDrawS
namespace Go.Proofs.Ytgeffidkamklaaa
open Go.RowKit

/-! ### The plain law, in the walk's own spelling -/
theorem giveV_yes {c p b n : Int} (h : okBack c p b n = true) : giveV c p b n = .tuple #[.agg #[.int .i64 c, .int .i64 p, .int .i64 (b + n)], .bool true] := by simp [giveV, h]
theorem giveV_no {c p b n : Int} (h : okBack c p b n = false) : giveV c p b n = .tuple #[.agg #[.int .i64 0, .int .i64 0, .int .i64 0], .bool false] := by simp [giveV, h]
theorem vSale_back {c p b n : Int} (h : vSale c p b = true) (h1 : 0 ≤ b + n) (h2 : b + n ≤ c) : vSale c p (b + n) = true := by
  obtain ⟨a1, a2, a3, a4, a5, a6⟩ := vSale_true h
  exact vSale_mk a1 a2 a3 a4 h1 h2
theorem kept_yes {c p b : Int} (h : vSale c p b = true) : keptI c p b = p - partI p b c := by simp [keptI, h]
theorem refund_yes {c p b n : Int} (h : okBack c p b n = true) : refundI c p b n = partI p (b + n) c - partI p b c := by simp [refundI, h]

end Go.Proofs.Ytgeffidkamklaaa
