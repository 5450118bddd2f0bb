/- Contracts: the first number that is not 0, numbers compared, rules compared in their order. -/
import Derived.Test.YtkgofklpogdpmaaGreatZLib
import Derived.Test.YtkgofklpogdpmaaGreatZC
import Derived.Deep.RegionHeld3
namespace Go.Proofs.YtkgofklpogdpmaaGreat
open Go.RowKit

def first0 : List Int → Int
  | [] => 0
  | x :: r => if x = 0 then first0 r else x
theorem first0_hit : ∀ (l : List Int) (k : Nat), k < l.length → (∀ j, j < k → g0 l j = 0) → g0 l k ≠ 0 → first0 l = g0 l k
  | [], k, h, _, _ => by simp at h
  | x :: r, 0, _, _, h => by
    have h' : x ≠ 0 := by simpa [g0] using h
    simp [first0, g0, h']
  | x :: r, k + 1, hk, h0, h => by
    have h1 : x = 0 := by simpa [g0] using h0 0 (by omega)
    have h2 : g0 (x :: r) (k + 1) = g0 r k := by simp [g0]
    rw [h2] at h ⊢
    simp only [first0, if_pos h1]
    refine first0_hit r k (by simpa using hk) (fun j hj => ?_) h
    have := h0 (j + 1) (by omega)
    simpa [g0] using this
theorem first0_none : ∀ (l : List Int), (∀ j, j < l.length → g0 l j = 0) → first0 l = 0
  | [], _ => rfl
  | x :: r, h => by
    have h1 : x = 0 := by simpa [g0] using h 0 (by simp)
    simp only [first0, if_pos h1]
    exact first0_none r (fun j hj => by have := h (j + 1) (by simpa using hj); simpa [g0] using this)

set_option maxHeartbeats 800000 in
theorem or_any (l : List Int) (A : Option Addr) (cap : Nat) (w : World) (h : Sl enc1 1 w w.heap.size A l) (hl : l.length ≤ 1000) :
    Calls Tryz.prog 43 #[.slice A l.length cap] w fun e w' => e = .returned (.int .i64 (first0 l)) ∧ w = w' := by
  go_enter Tryz.func43, Tryz.ntmps43
  go_wp2_with fail
  go_loop [8] (fun i => ∃ k : Nat, k ≤ l.length ∧ i = .int .i64 k ∧ ∀ j, j < k → g0 l j = 0) (fun i => l.length - (intOf i).toNat)
  case atStart => exact ⟨0, Nat.zero_le _, rfl, fun j hj => by omega⟩
  case round =>
    obtain ⟨k, hk, rfl, h0⟩ := hrel
    have H0 := hid h0
    clear h0
    by_cases hlt : k < l.length
    · obtain ⟨b, off, rfl, hbb, c1⟩ := h.get1 hlt
      obtain ⟨x, hx⟩ : ∃ x, g0 l k = x := ⟨_, rfl⟩
      rw [hx] at c1
      have HX := hid hx
      clear hx
      by_cases hz : x = 0
      · have e1 : (x != 0) = false := by rw [hz]; rfl
        have HZ := hid hz
        clear hz
        go_wp2
        go_round
        case rel => exact ⟨k + 1, by omega, by go_num, fun j hj => by
          by_cases hjk : j = k
          · rw [hjk, HX.out, HZ.out]
          · exact H0.out j (by omega)⟩
        case measure => simp [intOf]; omega
      · have e1 : (x != 0) = true := by simpa using hz
        have HE := hid (show first0 l = x by rw [first0_hit l k hlt H0.out (by rw [HX.out]; exact hz), HX.out])
        clear hz
        go_wp2
        go_ret
        exact ⟨ret_int HE.out.symm, rfl⟩
    · have hkl : k = l.length := by omega
      subst hkl
      have HE := hid (first0_none l H0.out)
      go_wp2
      go_ret
      exact ⟨ret_int HE.out.symm, rfl⟩

theorem compare_any (x y : Int) (w : World) : Calls Tryz.prog 44 #[.int .i64 x, .int .i64 y] w fun e w' => e = .returned (.int .i64 (Lib.compareInt x y)) ∧ w = w' := by
  have h := AnyG.cmp_Compare_int Tryz.cmpInt x y w
  change Calls Tryz.prog 44 _ _ _ at h
  exact h.mono fun e w' ⟨h1, h2⟩ => ⟨h1, h2.symm⟩

/-- How rules come one after the other. -/
def cfL (lv rk n lv' rk' n' : Int) : Int := first0 [Lib.compareInt lv lv', Lib.compareInt rk rk', Lib.compareInt n n']
def cfR (x y : ((Int × Int × Int × Int × Int × Int × Int) × (Int × Int) × (Option Addr × Nat × List (Int × Int)) × Int)) : Int := cfL x.1.2.1 x.1.2.2.1 x.1.1 y.1.2.1 y.1.2.2.1 y.1.1

end Go.Proofs.YtkgofklpogdpmaaGreat
