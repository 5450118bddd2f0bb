/- The plain law of change: sums, one by one. No program in sight. -/
import Derived.Test.YtcjcolkhhmpmjaaTillC
namespace Go.Proofs.Ytcjcolkhhmpmjaa

def dotL : List (Int × Int) → List Int → Int
  | x :: r, c :: cs => c * x.1 + dotL r cs
  | _, _ => 0
theorem dotL_sel : ∀ {l : List (Int × Int)} {cs : List Int} {n : Int}, Sel l cs n → dotL l cs = n
  | [], [], n, h => h.symm
  | x :: r, c :: cs, n, h => by simp only [dotL]; rw [dotL_sel h.2.2]; omega
  | [], _ :: _, _, h => h.elim
  | _ :: _, [], _, h => h.elim
theorem dotL_app : ∀ {l m : List (Int × Int)} {cs ds : List Int}, cs.length = l.length → dotL (l ++ m) (cs ++ ds) = dotL l cs + dotL m ds
  | [], m, [], ds, _ => by simp [dotL]
  | x :: r, m, c :: cs, ds, h => by
    simp only [List.cons_append, dotL]
    rw [dotL_app (by simpa using h)]; omega
  | [], _, _ :: _, _, h => absurd h (by simp)
  | _ :: _, _, [], _, h => absurd h (by simp)
theorem dotL_step {l : List (Int × Int)} {cs : List Int} (h : cs.length = l.length) {k : Nat} (hk : k < l.length) : dotL (l.take (k + 1)) (cs.take (k + 1)) = dotL (l.take k) (cs.take k) + g0 cs k * g1 l k := by
  rw [take_succ2 hk, List.take_succ_eq_append_getElem (by omega : k < cs.length), dotL_app (by rw [List.length_take, List.length_take]; omega), g0_eq (by omega)]
  simp [dotL]
theorem dotL_bd : ∀ {l : List (Int × Int)} {cs : List Int}, CT l → (∀ c ∈ cs, 0 ≤ c ∧ c ≤ 20) → 0 ≤ dotL l cs ∧ dotL l cs ≤ 10000 * l.length
  | x :: r, c :: cs, hl, hc => by
    have h1 := hl x (by simp)
    have h2 := hc c (by simp)
    have h3 := dotL_bd (l := r) (cs := cs) hl.tail (fun d hd => hc d (by simp [hd]))
    have p1 : 0 ≤ c * x.1 := Int.mul_nonneg h2.1 (by omega)
    have p2 : c * x.1 ≤ 20 * 500 := Int.mul_le_mul h2.2 (by omega) (by omega) (by omega)
    simp only [dotL, List.length_cons]
    omega
  | [], cs, _, _ => by cases cs <;> simp [dotL]
  | x :: r, [], _, _ => by simp only [dotL, List.length_cons]; omega
theorem Sel.mem : ∀ {l : List (Int × Int)} {cs : List Int} {n : Int}, CT l → Sel l cs n → ∀ c ∈ cs, 0 ≤ c ∧ c ≤ 20
  | [], [], _, _, _ => by simp
  | x :: r, c :: cs, n, hl, h => by
    have hx := hl x (by simp)
    intro d hd
    rcases List.mem_cons.1 hd with rfl | hd
    · have := h.1; have := h.2.1; omega
    · exact Sel.mem hl.tail h.2.2 d hd
  | [], _ :: _, _, _, h => h.elim
  | _ :: _, [], _, _, h => h.elim

end Go.Proofs.Ytcjcolkhhmpmjaa
