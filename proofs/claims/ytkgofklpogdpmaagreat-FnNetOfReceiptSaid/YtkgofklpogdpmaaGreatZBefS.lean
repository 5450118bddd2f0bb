/- Contract: one rule before another, as the paper says it; the plain law of insertion. -/
import Derived.Test.YtkgofklpogdpmaaGreatZOrdI
namespace Go.Proofs.YtkgofklpogdpmaaGreat
open Go.RowKit

def befB (lv rk n lv' rk' n' : Int) : Bool := if lv = lv' then (if rk = rk' then decide (n < n') else decide (rk < rk')) else decide (lv < lv')
theorem befB_iff (lv rk n lv' rk' n' : Int) : befB lv rk n lv' rk' n' = true ↔ befL lv rk n lv' rk' n' := by
  unfold befB befL
  split
  · split
    · rw [decide_eq_true_eq]; omega
    · rw [decide_eq_true_eq]; omega
  · rw [decide_eq_true_eq]; omega

set_option maxHeartbeats 1600000 in
set_option maxRecDepth 100000 in
theorem before_any (n lv rk gp kd vl cp lo hi cn : Int) (a : Option Addr) (C : Nat) (S : List (Int × Int)) (n' lv' rk' gp' kd' vl' cp' lo' hi' cn' : Int) (a' : Option Addr) (C' : Nat) (S' : List (Int × Int)) (w : World) :
    Calls Tryz.prog 86 #[.agg #[.int .i64 n, .int .i64 lv, .int .i64 rk, .int .i64 gp, .int .i64 kd, .int .i64 vl, .int .i64 cp, .int .i64 lo, .int .i64 hi, .slice a S.length C, .int .i64 cn], .agg #[.int .i64 n', .int .i64 lv', .int .i64 rk', .int .i64 gp', .int .i64 kd', .int .i64 vl', .int .i64 cp', .int .i64 lo', .int .i64 hi', .slice a' S'.length C', .int .i64 cn']] w fun e w' => e = .returned (.bool (befB lv rk n lv' rk' n')) ∧ Below w.heap.size w w' := by
  by_cases h1 : lv = lv'
  · have e1 : (lv == lv') = true := by rw [h1]; simp
    have e1' : (lv != lv') = false := by rw [h1]; simp
    by_cases h2 : rk = rk'
    · have e2 : (rk == rk') = true := by rw [h2]; simp
      have e2' : (rk != rk') = false := by rw [h2]; simp
      have HE := hid (show befB lv rk n lv' rk' n' = decide (n < n') by unfold befB; rw [if_pos h1, if_pos h2])
      clear h1 h2
      go_enter Tryz.func86, Tryz.ntmps86
      go_wp2
      go_ret
      refine ⟨ret_bool HE.out.symm, ?_⟩
      repeat (first | exact Below.refl _ _ | (refine Below.alloc ?_ (by (try simp) <;> omega) _) | (refine Below.setCell ?_ (by (try simp) <;> omega) _) | (refine Below.drew ?_) | (refine below_drewN ?_ _) | (refine Below.trans ?_ (Below.mono (by assumption) (by (try simp) <;> omega))))
    · have e2 : (rk == rk') = false := beq_eq_false_iff_ne.2 h2
      have e2' : (rk != rk') = true := by simpa using h2
      have HE := hid (show befB lv rk n lv' rk' n' = decide (rk < rk') by unfold befB; rw [if_pos h1, if_neg h2])
      clear h1 h2
      go_enter Tryz.func86, Tryz.ntmps86
      go_wp2
      go_ret
      refine ⟨ret_bool HE.out.symm, ?_⟩
      repeat (first | exact Below.refl _ _ | (refine Below.alloc ?_ (by (try simp) <;> omega) _) | (refine Below.setCell ?_ (by (try simp) <;> omega) _) | (refine Below.drew ?_) | (refine below_drewN ?_ _) | (refine Below.trans ?_ (Below.mono (by assumption) (by (try simp) <;> omega))))
  · have e1 : (lv == lv') = false := beq_eq_false_iff_ne.2 h1
    have e1' : (lv != lv') = true := by simpa using h1
    have HE := hid (show befB lv rk n lv' rk' n' = decide (lv < lv') by unfold befB; rw [if_neg h1])
    clear h1
    go_enter Tryz.func86, Tryz.ntmps86
    go_wp2
    go_ret
    refine ⟨ret_bool HE.out.symm, ?_⟩
    repeat (first | exact Below.refl _ _ | (refine Below.alloc ?_ (by (try simp) <;> omega) _) | (refine Below.setCell ?_ (by (try simp) <;> omega) _) | (refine Below.drew ?_) | (refine below_drewN ?_ _) | (refine Below.trans ?_ (Below.mono (by assumption) (by (try simp) <;> omega))))

/-! ### Insertion -/
/-- All in order but the element at a place, which comes before none of the later ones. -/
def Ins (q : List ((Int × Int × Int × Int × Int × Int × Int) × (Int × Int) × (Option Addr × Nat × List (Int × Int)) × Int)) (k : Nat) : Prop := (∀ a b, a < b → b < q.length → a ≠ k → b ≠ k → ¬ befR (atR q b) (atR q a)) ∧ ∀ b, k < b → b < q.length → ¬ befR (atR q b) (atR q k)
def Asc (q : List ((Int × Int × Int × Int × Int × Int × Int) × (Int × Int) × (Option Addr × Nat × List (Int × Int)) × Int)) : Prop := ∀ i j, i < j → j < q.length → ¬ befR (atR q j) (atR q i)
theorem atR_push_lt {q : List ((Int × Int × Int × Int × Int × Int × Int) × (Int × Int) × (Option Addr × Nat × List (Int × Int)) × Int)} {x : ((Int × Int × Int × Int × Int × Int × Int) × (Int × Int) × (Option Addr × Nat × List (Int × Int)) × Int)} {i : Nat} (h : i < q.length) : atR (q ++ [x]) i = atR q i := by
  simp [atR, List.getD, List.getElem?_append_left h]
theorem atR_push_last {q : List ((Int × Int × Int × Int × Int × Int × Int) × (Int × Int) × (Option Addr × Nat × List (Int × Int)) × Int)} {x : ((Int × Int × Int × Int × Int × Int × Int) × (Int × Int) × (Option Addr × Nat × List (Int × Int)) × Int)} : atR (q ++ [x]) q.length = x := by simp [atR, List.getD]
theorem ins_push {q : List ((Int × Int × Int × Int × Int × Int × Int) × (Int × Int) × (Option Addr × Nat × List (Int × Int)) × Int)} {x : ((Int × Int × Int × Int × Int × Int × Int) × (Int × Int) × (Option Addr × Nat × List (Int × Int)) × Int)} (h : Asc q) : Ins (q ++ [x]) q.length := by
  refine ⟨fun a b hab hb ha hb' => ?_, fun b hb hb' => ?_⟩
  · rw [List.length_append] at hb
    simp only [List.length_cons, List.length_nil] at hb
    rw [atR_push_lt (by omega), atR_push_lt (by omega)]
    exact h a b hab (by omega)
  · rw [List.length_append] at hb'
    simp only [List.length_cons, List.length_nil] at hb'
    omega
theorem befR_ntrans {x y z : ((Int × Int × Int × Int × Int × Int × Int) × (Int × Int) × (Option Addr × Nat × List (Int × Int)) × Int)} (h1 : ¬ befR x y) (h2 : ¬ befR y z) : ¬ befR x z := by unfold befR befL at *; omega
theorem befR_asymm {x y : ((Int × Int × Int × Int × Int × Int × Int) × (Int × Int) × (Option Addr × Nat × List (Int × Int)) × Int)} (h : befR x y) : ¬ befR y x := by unfold befR befL at *; omega
theorem ins_done {q : List ((Int × Int × Int × Int × Int × Int × Int) × (Int × Int) × (Option Addr × Nat × List (Int × Int)) × Int)} {k : Nat} (h : Ins q k) (hk : k < q.length) (hd : k = 0 ∨ ¬ befR (atR q k) (atR q (k - 1))) : Asc q := by
  intro i j hij hj
  by_cases h1 : i = k
  · subst h1; exact h.2 j hij hj
  · by_cases h2 : j = k
    · subst h2
      rcases hd with hd | hd
      · omega
      · by_cases h3 : i = j - 1
        · rw [h3]; exact hd
        · exact befR_ntrans hd (h.1 i (j - 1) (by omega) (by omega) h1 (by omega))
    · exact h.1 i j hij hj h1 h2
def swapR (q : List ((Int × Int × Int × Int × Int × Int × Int) × (Int × Int) × (Option Addr × Nat × List (Int × Int)) × Int)) (k : Nat) : List ((Int × Int × Int × Int × Int × Int × Int) × (Int × Int) × (Option Addr × Nat × List (Int × Int)) × Int) := (q.set k (atR q (k - 1))).set (k - 1) (atR q k)
theorem atR_swap {q : List ((Int × Int × Int × Int × Int × Int × Int) × (Int × Int) × (Option Addr × Nat × List (Int × Int)) × Int)} {k i : Nat} (hk : 0 < k) (hkl : k < q.length) : atR (swapR q k) i = if i = k - 1 then atR q k else if i = k then atR q (k - 1) else atR q i := by
  by_cases h1 : i = k - 1
  · rw [if_pos h1]
    subst h1
    simp only [atR, swapR, List.getD_eq_getElem?_getD]
    rw [List.getElem?_set_self (by rw [List.length_set]; omega)]
    rfl
  · rw [if_neg h1]
    by_cases h2 : i = k
    · rw [if_pos h2]
      subst h2
      simp only [atR, swapR, List.getD_eq_getElem?_getD]
      rw [List.getElem?_set_ne (by omega), List.getElem?_set_self hkl]
      rfl
    · rw [if_neg h2]
      simp only [atR, swapR, List.getD_eq_getElem?_getD]
      rw [List.getElem?_set_ne (by omega), List.getElem?_set_ne (by omega)]
theorem swapR_len {q : List ((Int × Int × Int × Int × Int × Int × Int) × (Int × Int) × (Option Addr × Nat × List (Int × Int)) × Int)} {k : Nat} : (swapR q k).length = q.length := by simp [swapR]
theorem swapR_perm {q : List ((Int × Int × Int × Int × Int × Int × Int) × (Int × Int) × (Option Addr × Nat × List (Int × Int)) × Int)} {k : Nat} (hk : 0 < k) (hkl : k < q.length) : (swapR q k).Perm q := by
  unfold swapR
  rw [← atR_eq hkl, ← atR_eq (show k - 1 < q.length by omega)]
  exact List.set_set_perm hkl (by omega)
theorem ins_step {q : List ((Int × Int × Int × Int × Int × Int × Int) × (Int × Int) × (Option Addr × Nat × List (Int × Int)) × Int)} {k : Nat} (h : Ins q k) (hk : 0 < k) (hkl : k < q.length) (hb : befR (atR q k) (atR q (k - 1))) : Ins (swapR q k) (k - 1) := by
  refine ⟨fun a b hab hbl ha hb' => ?_, fun b hb1 hbl => ?_⟩
  · rw [swapR_len] at hbl
    rw [atR_swap hk hkl, atR_swap hk hkl, if_neg ha, if_neg hb']
    by_cases h1 : a = k
    · rw [if_pos h1, if_neg (by omega)]
      exact h.1 (k - 1) b (by omega) hbl (by omega) (by omega)
    · rw [if_neg h1]
      by_cases h2 : b = k
      · rw [if_pos h2]
        exact h.1 a (k - 1) (by omega) (by omega) (by omega) (by omega)
      · rw [if_neg h2]; exact h.1 a b hab hbl h1 h2
  · rw [swapR_len] at hbl
    rw [atR_swap hk hkl, atR_swap hk hkl, if_neg (by omega), if_pos rfl]
    by_cases h2 : b = k
    · rw [if_pos h2]; exact befR_asymm hb
    · rw [if_neg h2]; exact h.2 b (by omega) hbl

end Go.Proofs.YtkgofklpogdpmaaGreat
