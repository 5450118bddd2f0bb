/- Contract: a rule meant for a line, as the paper says it. -/
import Derived.Test.YtkgofklpogdpmaaGreatZE
import Derived.Test.YtkgofklpogdpmaaGreatZJ
import Derived.RegionTactic
import Derived.BigRegion
namespace Go.Proofs.YtkgofklpogdpmaaGreat
open Go.RowKit

set_option maxHeartbeats 1600000 in
set_option maxRecDepth 100000 in
theorem meant_any (s : List (Int × Int × Int × Int)) (A : Option Addr) (cap : Nat) (n lv rk gp kd vl cp lo hi cn : Int) (a : Option Addr) (C : Nat) (S : List (Int × Int)) (j : Nat) (q : Int) (w : World) (hA : Sl enc4 4 w w.heap.size A s) (hj : j < s.length) :
    Calls Tryz.prog 107 #[.slice A s.length cap, .agg #[.int .i64 n, .int .i64 lv, .int .i64 rk, .int .i64 gp, .int .i64 kd, .int .i64 vl, .int .i64 cp, .int .i64 lo, .int .i64 hi, .slice a S.length C, .int .i64 cn], .agg #[.int .i64 (j : Int), .int .i64 q]] w fun e w' => e = .returned (.bool (decide (gp < 0) || decide (q2 s j = gp))) ∧ Below w.heap.size w w' := by
  obtain ⟨b, off, rfl, hbb, _, c1, _⟩ := hA.get4 hj
  have hji : (j : Int) < (s.length : Int) := by omega
  obtain ⟨g, hg⟩ : ∃ g, q2 s j = g := ⟨_, rfl⟩
  rw [hg] at c1
  rw [hg]
  have DD := hid (((Below.refl w.heap.size w).alloc (Nat.le_refl _) (.cells #[.int .i64 n, .int .i64 lv, .int .i64 rk, .int .i64 gp, .int .i64 kd, .int .i64 vl, .int .i64 cp, .int .i64 lo, .int .i64 hi, .slice a S.length C, .int .i64 cn] 54)).alloc (by simp) (.cells #[.int .i64 (j : Int), .int .i64 q] 83))
  have d1 : ((w.alloc (.cells #[.int .i64 n, .int .i64 lv, .int .i64 rk, .int .i64 gp, .int .i64 kd, .int .i64 vl, .int .i64 cp, .int .i64 lo, .int .i64 hi, .slice a S.length C, .int .i64 cn] 54)).alloc (.cells #[.int .i64 (j : Int), .int .i64 q] 83)).cell? ⟨b, off + j * 4 + 1, none⟩ = some (.int .i64 g) := (World.cell?_alloc_lt _ _ _ (by simp; omega)).trans ((World.cell?_alloc_lt _ _ _ hbb).trans c1)
  clear hg hA
  by_cases h1 : gp < 0
  · have e1 : decide (gp < 0) = true := decide_eq_true h1
    have HE := hid (show (decide (gp < 0) || decide (g = gp)) = true by rw [e1]; rfl)
    clear h1
    go_enter Tryz.func107, Tryz.ntmps107
    go_wp2_with fail
    go_quiet (fail)
    go_wp2
    go_ret
    exact ⟨ret_bool HE.out.symm, below_drewN DD.out _⟩
  · have e1 : decide (gp < 0) = false := decide_eq_false h1
    by_cases h2 : g = gp
    · have e2 : (g == gp) = true := by rw [h2]; simp
      have HE := hid (show (decide (gp < 0) || decide (g = gp)) = true by rw [decide_eq_true h2]; simp)
      clear h1 h2
      go_enter Tryz.func107, Tryz.ntmps107
      go_wp2_with fail
      go_quiet (fail)
      go_wp2
      go_ret
      exact ⟨ret_bool HE.out.symm, below_drewN DD.out _⟩
    · have e2 : (g == gp) = false := beq_eq_false_iff_ne.2 h2
      have HE := hid (show (decide (gp < 0) || decide (g = gp)) = false by rw [e1, decide_eq_false h2]; rfl)
      clear h1 h2
      go_enter Tryz.func107, Tryz.ntmps107
      go_wp2_with fail
      go_quiet (fail)
      go_wp2
      go_ret
      exact ⟨ret_bool HE.out.symm, below_drewN DD.out _⟩

end Go.Proofs.YtkgofklpogdpmaaGreat
