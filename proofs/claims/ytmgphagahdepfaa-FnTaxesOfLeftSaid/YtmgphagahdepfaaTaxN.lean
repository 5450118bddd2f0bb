/- The plain law of net amounts. No program in sight. -/
import Derived.Test.YtmgphagahdepfaaTaxL
namespace Go.Proofs.Ytmgphagahdepfaa

theorem fit_parts {s : List (Int × Int × Int × Int)} {c : List (Int × Int)} {l : List Int} (h : fitTax s c l = true) : vShop s = true ∧ vCart s.length c = true ∧ vLeft s c l = true := by
  unfold fitTax at h; simp only [Bool.and_eq_true] at h; exact ⟨h.1.1, h.1.2, h.2⟩
theorem gr_lim {s : List (Int × Int × Int × Int)} {c : List (Int × Int)} {l : List Int} (hs : vShop s = true) (hc : vCart s.length c = true) (hl : vLeft s c l = true) (r : Int) {k : Nat} (hk : k ≤ c.length) :
    0 ≤ gr (rtK s c) (g0 l) r k ∧ gr (rtK s c) (g0 l) r k ≤ 800000 := by
  have h1 := gr_bd (rt := rtK s c) (lf := g0 l) (r := r) (b := 100000) k (fun i hi => left_at hs hc hl (by omega))
  have h2 := (vCart_iff.1 hc).2.2
  omega

/-- What is left of the gross amounts without the taxes. -/
def snt (L : List (Int × Int × Int)) : Int := sgr L - sta L
theorem take_succ3 {l : List (Int × Int × Int)} {k : Nat} (hk : k < l.length) : l.take (k + 1) = l.take k ++ [(t1 l k, t2 l k, t3 l k)] := by
  rw [List.take_succ_eq_append_getElem hk, t_eq hk]
theorem snt_succ {L : List (Int × Int × Int)} {k : Nat} (h : k < L.length) : snt (L.take (k + 1)) = snt (L.take k) + (t2 L k - t3 L k) := by
  unfold snt
  rw [take_succ3 h, sgr_append, sta_append]
  simp only [sgr, sta]
  omega
theorem snt_bd {L : List (Int × Int × Int)} (h : ∀ i, i < L.length → 0 ≤ t3 L i ∧ t3 L i ≤ t2 L i ∧ t2 L i ≤ 800000) : ∀ k, k ≤ L.length → 0 ≤ snt (L.take k) ∧ snt (L.take k) ≤ 800000 * (k : Int)
  | 0, _ => by simp [snt, sgr, sta]
  | k + 1, hk => by
    have h1 := snt_bd h k (by omega)
    have h2 := h k (by omega)
    rw [snt_succ (by omega)]
    omega
theorem txs_at {rt lf : Nat → Int} {n R i : Nat} (h : i < (txs rt lf n R).length) : ∃ r : Int, 0 ≤ r ∧ r < R ∧ (t1 (txs rt lf n R) i, t2 (txs rt lf n R) i, t3 (txs rt lf n R) i) = tx rt lf n r := by
  rw [← t_eq h]
  have hm : (txs rt lf n R)[i] ∈ txs rt lf n R := List.getElem_mem h
  have hm2 : (txs rt lf n R)[i] ∈ (rts rt n R).map (tx rt lf n) := by
    rw [← txs_map]; exact hm
  obtain ⟨r, h1, h2⟩ := List.mem_map.1 hm2
  have := rts_mem rt n R r h1
  exact ⟨r, this.1, this.2, h2.symm⟩
/-- A tax of a cart that fits: its rate, what is left of its lines, the tax in it. -/
theorem taxes_at {s : List (Int × Int × Int × Int)} {c : List (Int × Int)} {l : List Int} (h : fitTax s c l = true) {i : Nat} (hi : i < (taxesI s c l).length) :
    0 ≤ t1 (taxesI s c l) i ∧ t1 (taxesI s c l) i ≤ 300 ∧ 0 ≤ t2 (taxesI s c l) i ∧ t2 (taxesI s c l) i ≤ 800000 ∧ t3 (taxesI s c l) i = taxI (t2 (taxesI s c l) i) (t1 (taxesI s c l) i) ∧ t2 (taxesI s c l) i = gr (rtK s c) (g0 l) (t1 (taxesI s c l) i) c.length := by
  obtain ⟨h1, h2, h3⟩ := fit_parts h
  have e : taxesI s c l = txs (rtK s c) (g0 l) c.length 301 := by unfold taxesI; rw [if_pos h]
  rw [e] at hi ⊢
  obtain ⟨r, r1, r2, hr⟩ := txs_at hi
  have e1 := congrArg (fun x : Int × Int × Int => x.1) hr
  have e2 := congrArg (fun x : Int × Int × Int => x.2.1) hr
  have e3 := congrArg (fun x : Int × Int × Int => x.2.2) hr
  simp only [tx] at e1 e2 e3
  have hb := gr_lim h1 h2 h3 r (Nat.le_refl _)
  rw [e3, e2, e1]
  refine ⟨r1, by omega, hb.1, hb.2, rfl, rfl⟩
theorem taxes_lim {s : List (Int × Int × Int × Int)} {c : List (Int × Int)} {l : List Int} (h : fitTax s c l = true) {i : Nat} (hi : i < (taxesI s c l).length) :
    0 ≤ t3 (taxesI s c l) i ∧ t3 (taxesI s c l) i ≤ t2 (taxesI s c l) i ∧ t2 (taxesI s c l) i ≤ 800000 := by
  obtain ⟨h1, h2, h3, h4, h5, _⟩ := taxes_at h hi
  have := tax_bd h3 ⟨h1, h2⟩
  rw [h5]
  exact ⟨this.1, this.2, h4⟩
theorem netI_fit {s : List (Int × Int × Int × Int)} {c : List (Int × Int)} {l : List Int} (h : fitTax s c l = true) : netI s c l = snt (taxesI s c l) := by
  unfold netI snt; rw [if_pos h]
theorem netI_no {s : List (Int × Int × Int × Int)} {c : List (Int × Int)} {l : List Int} (h : fitTax s c l = false) : netI s c l = -1 := by
  unfold netI; rw [if_neg (by simp [h])]

/-! ### The laws -/
/-- The gross amounts add up to what is left. -/
theorem sgr_taxes {s : List (Int × Int × Int × Int)} {c : List (Int × Int)} {l : List Int} (h : fitTax s c l = true) : sgr (taxesI s c l) = tot (g0 l) l.length := by
  obtain ⟨h1, h2, h3⟩ := fit_parts h
  have e : taxesI s c l = txs (rtK s c) (g0 l) c.length 301 := by unfold taxesI; rw [if_pos h]
  rw [e, sgr_txs (fun k hk => (fit_at h1 h2 hk).2.2.2.2.1), low_all _ (fun k hk => by have := (fit_at h1 h2 hk).2.2.2.2.2; omega), vLeft_len h3]
theorem sta_bd {L : List (Int × Int × Int)} (h : ∀ i, i < L.length → 0 ≤ t3 L i ∧ t3 L i ≤ t2 L i ∧ t2 L i ≤ 800000) : ∀ k, k ≤ L.length → 0 ≤ sta (L.take k) ∧ sta (L.take k) ≤ 800000 * (k : Int)
  | 0, _ => by simp [sta]
  | k + 1, hk => by
    have h1 := sta_bd h k (by omega)
    have h2 := h k (by omega)
    rw [take_succ3 (by omega), sta_append]
    simp only [sta]
    omega
theorem sgr_bd {L : List (Int × Int × Int)} (h : ∀ i, i < L.length → 0 ≤ t3 L i ∧ t3 L i ≤ t2 L i ∧ t2 L i ≤ 800000) : ∀ k, k ≤ L.length → 0 ≤ sgr (L.take k) ∧ sgr (L.take k) ≤ 800000 * (k : Int)
  | 0, _ => by simp [sgr]
  | k + 1, hk => by
    have h1 := sgr_bd h k (by omega)
    have h2 := h k (by omega)
    rw [take_succ3 (by omega), sgr_append]
    simp only [sgr]
    omega
theorem sta_succ {L : List (Int × Int × Int)} {k : Nat} (h : k < L.length) : sta (L.take (k + 1)) = sta (L.take k) + t3 L k := by
  rw [take_succ3 h, sta_append]; simp only [sta]; omega
theorem sgr_succ {L : List (Int × Int × Int)} {k : Nat} (h : k < L.length) : sgr (L.take (k + 1)) = sgr (L.take k) + t2 L k := by
  rw [take_succ3 h, sgr_append]; simp only [sgr]; omega
/-- The rates ascend. -/
theorem txs_asc {rt lf : Nat → Int} {n : Nat} : ∀ R i, i + 1 < (txs rt lf n R).length → t1 (txs rt lf n R) i < t1 (txs rt lf n R) (i + 1)
  | 0, i, h => by simp [txs] at h
  | R + 1, i, h => by
    by_cases hh : has rt R n = true
    · have e : txs rt lf n (R + 1) = txs rt lf n R ++ [tx rt lf n R] := by rw [show txs rt lf n (R + 1) = txs rt lf n R ++ (if has rt R n = true then [tx rt lf n R] else []) from rfl, if_pos hh]
      rw [e] at h ⊢
      rw [List.length_append] at h
      simp only [List.length_cons, List.length_nil] at h
      have g : ∀ j, j < (txs rt lf n R).length → t1 (txs rt lf n R ++ [tx rt lf n R]) j = t1 (txs rt lf n R) j := fun j hj => by
        simp [t1, List.getD, List.getElem?_append_left hj]
      by_cases hl : i + 1 < (txs rt lf n R).length
      · rw [g _ hl, g _ (by omega)]
        exact txs_asc R i hl
      · have hi : i + 1 = (txs rt lf n R).length := by omega
        rw [g _ (by omega)]
        have e1 : t1 (txs rt lf n R ++ [tx rt lf n R]) (i + 1) = (R : Int) := by
          rw [hi]; simp [t1, List.getD, tx]
        rw [e1]
        obtain ⟨r, _, r2, hr⟩ := txs_at (rt := rt) (lf := lf) (n := n) (R := R) (i := i) (by omega)
        have e2 := congrArg (fun x : Int × Int × Int => x.1) hr
        simp only [tx] at e2
        omega
    · have e : txs rt lf n (R + 1) = txs rt lf n R := by rw [show txs rt lf n (R + 1) = txs rt lf n R ++ (if has rt R n = true then [tx rt lf n R] else []) from rfl, if_neg hh, List.append_nil]
      rw [e] at h ⊢
      exact txs_asc R i h
theorem taxes_asc {s : List (Int × Int × Int × Int)} {c : List (Int × Int)} {l : List Int} (h : fitTax s c l = true) {i : Nat} (hi : i + 1 < (taxesI s c l).length) : t1 (taxesI s c l) i < t1 (taxesI s c l) (i + 1) := by
  have e : taxesI s c l = txs (rtK s c) (g0 l) c.length 301 := by unfold taxesI; rw [if_pos h]
  rw [e] at hi ⊢
  exact txs_asc 301 i hi
/-- Nothing that is left of a cart that fits. -/
theorem zeros_at {n k : Nat} : g0 (List.replicate n 0) k = 0 := by
  simp only [g0, List.getD_eq_getElem?_getD, List.getElem?_replicate]; split <;> rfl
theorem fit_zero {s : List (Int × Int × Int × Int)} {c : List (Int × Int)} {l : List Int} (h : fitTax s c l = true) : fitTax s c (List.replicate l.length 0) = true := by
  obtain ⟨h1, h2, h3⟩ := fit_parts h
  unfold fitTax
  rw [h1, h2]
  simp only [Bool.true_and]
  unfold vLeft
  rw [Bool.and_eq_true]
  refine ⟨List.all_eq_true.2 fun k hk => withinB_true.2 ?_, by simp [vLeft_len h3]⟩
  have := (fit_at h1 h2 (List.mem_range.1 hk)).2.2.2.1
  rw [zeros_at]
  omega
theorem gr_zero {rt lf : Nat → Int} {r : Int} (h : ∀ k, lf k = 0) : ∀ n, gr rt lf r n = 0
  | 0 => rfl
  | n + 1 => by simp only [gr, gr_zero h n, h]; split <;> rfl
theorem zero_txs {rt lf : Nat → Int} (h : ∀ k, lf k = 0) (n R : Nat) : txs rt lf n R = (rts rt n R).map fun r => (r, 0, taxI 0 r) := by
  rw [txs_map]
  refine List.map_congr_left fun r _ => ?_
  unfold tx
  rw [gr_zero h]
theorem zero_tax {r : Int} (h : 0 ≤ r ∧ r ≤ 300) : taxI 0 r = 0 := by
  have := tax_bd (a := 0) (Int.le_refl 0) h
  omega
/-- Nothing that is left is taxed with the same rates, and all amounts are 0. -/
theorem zero_taxes {s : List (Int × Int × Int × Int)} {c : List (Int × Int)} {l : List Int} (h : fitTax s c l = true) :
    (taxesI s c (List.replicate l.length 0)).length = (taxesI s c l).length ∧ ∀ i, i < (taxesI s c l).length → t1 (taxesI s c (List.replicate l.length 0)) i = t1 (taxesI s c l) i ∧ t2 (taxesI s c (List.replicate l.length 0)) i = 0 ∧ t3 (taxesI s c (List.replicate l.length 0)) i = 0 := by
  have e : taxesI s c l = txs (rtK s c) (g0 l) c.length 301 := by unfold taxesI; rw [if_pos h]
  have hz := fit_zero h
  have e0 : taxesI s c (List.replicate l.length 0) = txs (rtK s c) (g0 (List.replicate l.length 0)) c.length 301 := by unfold taxesI; rw [if_pos hz]
  have hlen : (taxesI s c (List.replicate l.length 0)).length = (taxesI s c l).length := by rw [e, e0, txs_len, txs_len]
  refine ⟨hlen, fun i hi => ?_⟩
  obtain ⟨a1, a2, a3, a4, a5, a6⟩ := taxes_at hz (i := i) (by omega)
  have z2 : t2 (taxesI s c (List.replicate l.length 0)) i = 0 := by rw [a6, gr_zero (fun k => zeros_at)]
  refine ⟨?_, z2, by rw [a5, z2]; exact zero_tax ⟨a1, a2⟩⟩
  have k1 : (taxesI s c (List.replicate l.length 0)).map (fun x => x.1) = (taxesI s c l).map (fun x => x.1) := by
    rw [e, e0, txs_map, txs_map, List.map_map, List.map_map]
    rfl
  have k2 := congrArg (fun x : List Int => x.getD i 0) k1
  simp only [t1, List.getD_eq_getElem?_getD, List.getElem?_map] at k2 ⊢
  rw [List.getElem?_eq_getElem hi, List.getElem?_eq_getElem (show i < (taxesI s c (List.replicate l.length 0)).length by omega)] at k2 ⊢
  simpa using k2

end Go.Proofs.Ytmgphagahdepfaa
