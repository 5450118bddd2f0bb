/- The plain law of receipts. No program in sight (but for the orders of rules). -/
import Derived.Test.YtkgofklpogdpmaaGreatZE
import Derived.Test.YtkgofklpogdpmaaGreatZG
import Derived.Test.YtkgofklpogdpmaaGreatZBefS
import Derived.Test.YtkgofklpogdpmaaGreatZC
namespace Go.Proofs.YtkgofklpogdpmaaGreat

/-- What is left behind discounts; the notes of discounts. -/
def lessL (l m : List Int) : List Int := (List.range l.length).map fun k => g0 l k - g0 m k
def ntK (n : Int) (m : List Int) (k : Nat) : List (Int × Int × Int) := if 0 < g0 m k then [((k : Int), n, g0 m k)] else []
def notesTo (n : Int) (m : List Int) : Nat → List (Int × Int × Int)
  | 0 => []
  | k + 1 => notesTo n m k ++ ntK n m k
def effR (s : List (Int × Int × Int × Int)) (c : List (Int × Int)) (r : ((Int × Int × Int × Int × Int × Int × Int) × (Int × Int) × (Option Addr × Nat × List (Int × Int)) × Int)) (l : List Int) : List Int := effP s c r.1.2.2.2.1 r.1.2.2.2.2.1 r.1.2.2.2.2.2.1 r.1.2.2.2.2.2.2 l
def hldR (T : Int) (cs cp : List Int) (r : ((Int × Int × Int × Int × Int × Int × Int) × (Int × Int) × (Option Addr × Nat × List (Int × Int)) × Int)) : Bool := hldB T cs cp r.2.1.1 r.2.1.2 r.2.2.1.2.2 r.2.2.2
def rcpStep (s : List (Int × Int × Int × Int)) (c : List (Int × Int)) (T : Int) (cs cp : List Int) (st : List Int × List (Int × Int × Int)) (r : ((Int × Int × Int × Int × Int × Int × Int) × (Int × Int) × (Option Addr × Nat × List (Int × Int)) × Int)) : List Int × List (Int × Int × Int) :=
  if hldR T cs cp r = true then (lessL st.1 (effR s c r st.1), st.2 ++ notesTo (numR r) (effR s c r st.1) (effR s c r st.1).length) else st
def rcpL (s : List (Int × Int × Int × Int)) (c : List (Int × Int)) (T : Int) (cs cp : List Int) (l0 : List Int) (o : List ((Int × Int × Int × Int × Int × Int × Int) × (Int × Int) × (Option Addr × Nat × List (Int × Int)) × Int)) : List Int × List (Int × Int × Int) := o.foldl (rcpStep s c T cs cp) (l0, [])
theorem rcpL_step (s : List (Int × Int × Int × Int)) (c : List (Int × Int)) (T : Int) (cs cp : List Int) (l0 : List Int) (o : List ((Int × Int × Int × Int × Int × Int × Int) × (Int × Int) × (Option Addr × Nat × List (Int × Int)) × Int)) {k : Nat} (h : k < o.length) :
    rcpL s c T cs cp l0 (o.take (k + 1)) = rcpStep s c T cs cp (rcpL s c T cs cp l0 (o.take k)) (atR o k) := by
  unfold rcpL
  rw [List.take_succ_eq_append_getElem h, List.foldl_append, atR_eq h]
  rfl

/-! ### One order -/
theorem ord_uniq {l o o' : List ((Int × Int × Int × Int × Int × Int × Int) × (Int × Int) × (Option Addr × Nat × List (Int × Int)) × Int)} (hv : vRules l = true) (h : OrdList l o) (h' : OrdList l o') : o = o' := by
  have pw : ∀ {q : List ((Int × Int × Int × Int × Int × Int × Int) × (Int × Int) × (Option Addr × Nat × List (Int × Int)) × Int)}, (∀ i j, i < j → j < q.length → ¬ befR (atR q j) (atR q i)) → q.Pairwise (fun x y => ¬ befR y x) := fun {q} hq => by
    rw [List.pairwise_iff_getElem]
    intro i j hi hj hij
    rw [atR_eq hi, atR_eq hj]
    exact hq i j hij hj
  refine List.Perm.eq_of_pairwise (le := fun x y => ¬ befR y x) ?_ (pw h.2) (pw h'.2) (h.1.trans h'.1.symm)
  intro a b ha hb h1 h2
  have ha' := (h.1.mem_iff).1 ha
  have hb' := (h'.1.mem_iff).1 hb
  obtain ⟨i, hi, rfl⟩ := List.mem_iff_getElem.1 ha'
  obtain ⟨j, hj, rfl⟩ := List.mem_iff_getElem.1 hb'
  rw [atR_eq hi, atR_eq hj] at h1 h2 ⊢
  have hn : nmK l i = nmK l j := by
    unfold befR befL at h1 h2
    unfold nmK numR
    omega
  by_cases hij : i = j
  · rw [hij]
  · rcases Nat.lt_or_gt_of_ne hij with hlt | hlt
    · exact absurd hn (vRules_new hv hlt hj)
    · exact absurd hn.symm (vRules_new hv hlt hi)
theorem ord_len {l o : List ((Int × Int × Int × Int × Int × Int × Int) × (Int × Int) × (Option Addr × Nat × List (Int × Int)) × Int)} (h : OrdList l o) : o.length = l.length := h.1.length_eq
theorem ord_valid {l o : List ((Int × Int × Int × Int × Int × Int × Int) × (Int × Int) × (Option Addr × Nat × List (Int × Int)) × Int)} (hv : vRules l = true) (h : OrdList l o) {k : Nat} (hk : k < o.length) : vR (atR o k) = true := by
  have h1 := (h.1.mem_iff).1 (atR_mem hk)
  obtain ⟨i, hi, he⟩ := List.mem_iff_getElem.1 h1
  rw [← he, atR_eq hi]
  exact vRules_at hv hi
theorem ord_spans {l o : List ((Int × Int × Int × Int × Int × Int × Int) × (Int × Int) × (Option Addr × Nat × List (Int × Int)) × Int)} {w : World} {B : Nat} (hS : SpansIn w B l) (h : OrdList l o) : SpansIn w B o := fun r hr => hS r ((h.1.mem_iff).1 hr)

/-! ### What is left stays what can be left -/
theorem lessL_len (l m : List Int) : (lessL l m).length = l.length := by simp [lessL]
theorem lessL_at {l m : List Int} {k : Nat} (h : k < l.length) : g0 (lessL l m) k = g0 l k - g0 m k := by simp [g0, lessL, List.getD, h]
theorem vLeft_len' {s : List (Int × Int × Int × Int)} {c : List (Int × Int)} {l : List Int} (h : vLeft s c l = true) : l.length = c.length := vLeft_len h
theorem vLeft_at' {s : List (Int × Int × Int × Int)} {c : List (Int × Int)} {l : List Int} (h : vLeft s c l = true) {k : Nat} (hk : k < c.length) : 0 ≤ g0 l k ∧ g0 l k ≤ amt s c k := by
  unfold vLeft at h
  rw [Bool.and_eq_true, List.all_eq_true] at h
  exact withinB_true.1 (h.1 k (List.mem_range.2 hk))
theorem vLeft_mk {s : List (Int × Int × Int × Int)} {c : List (Int × Int)} {l : List Int} (h : l.length = c.length) (hk : ∀ k, k < c.length → 0 ≤ g0 l k ∧ g0 l k ≤ amt s c k) : vLeft s c l = true :=
  vLeft_yes h (List.all_eq_true.2 fun k hk' => withinB_true.2 (hk k (List.mem_range.1 hk')))
theorem vLeft_amts {s : List (Int × Int × Int × Int)} {c : List (Int × Int)} (hs : vShop s = true) (hc : vCart s.length c = true) : vLeft s c (amts s c) = true := by
  refine vLeft_mk (amts_len s c) fun k hk => ?_
  rw [amts_at hk]
  have := (fit_at hs hc hk).2.2.2.1
  omega
theorem vR_kind {r : ((Int × Int × Int × Int × Int × Int × Int) × (Int × Int) × (Option Addr × Nat × List (Int × Int)) × Int)} (h : vR r = true) : vKind r.1.2.2.2.2.1 r.1.2.2.2.2.2.1 = true ∧ 0 ≤ r.1.2.2.2.2.2.2 ∧ r.1.2.2.2.2.2.2 ≤ 1000000 := by
  unfold vR vRule at h
  simp only [Bool.and_eq_true, withinB_true] at h
  exact ⟨h.2.2.2.2.2.2, h.2.2.2.2.1⟩
theorem vR_guard {r : ((Int × Int × Int × Int × Int × Int × Int) × (Int × Int) × (Option Addr × Nat × List (Int × Int)) × Int)} (h : vR r = true) : vGuard r.2.1.1 r.2.1.2 r.2.2.1.2.2 r.2.2.2 = true := by
  unfold vR vRule at h
  simp only [Bool.and_eq_true, withinB_true] at h
  exact h.2.2.2.2.2.1
theorem effR_bd {s : List (Int × Int × Int × Int)} {c : List (Int × Int)} {l : List Int} {r : ((Int × Int × Int × Int × Int × Int × Int) × (Int × Int) × (Option Addr × Nat × List (Int × Int)) × Int)} (hs : vShop s = true) (hc : vCart s.length c = true) (hl : vLeft s c l = true) (hr : vR r = true) :
    (effR s c r l).length = c.length ∧ ∀ k, k < c.length → 0 ≤ g0 (effR s c r l) k ∧ g0 (effR s c r l) k ≤ g0 l k := eff_bd hs hc hl (vR_kind hr).1
theorem vLeft_less {s : List (Int × Int × Int × Int)} {c : List (Int × Int)} {l : List Int} {r : ((Int × Int × Int × Int × Int × Int × Int) × (Int × Int) × (Option Addr × Nat × List (Int × Int)) × Int)} (hs : vShop s = true) (hc : vCart s.length c = true) (hl : vLeft s c l = true) (hr : vR r = true) : vLeft s c (lessL l (effR s c r l)) = true := by
  have hll := vLeft_len hl
  refine vLeft_mk (by rw [lessL_len, hll]) fun k hk => ?_
  rw [lessL_at (by omega)]
  have h1 := (effR_bd hs hc hl hr).2 k hk
  have h2 := vLeft_at' hl hk
  omega
theorem rcp_left {s : List (Int × Int × Int × Int)} {c : List (Int × Int)} {T : Int} {cs cp : List Int} {l0 : List Int} {o : List ((Int × Int × Int × Int × Int × Int × Int) × (Int × Int) × (Option Addr × Nat × List (Int × Int)) × Int)} (hs : vShop s = true) (hc : vCart s.length c = true) (hl : vLeft s c l0 = true) (ho : ∀ k, k < o.length → vR (atR o k) = true) :
    ∀ k, k ≤ o.length → vLeft s c (rcpL s c T cs cp l0 (o.take k)).1 = true
  | 0, _ => by simpa [rcpL] using hl
  | k + 1, hk => by
    have ih := rcp_left (T := T) (cs := cs) (cp := cp) hs hc hl ho k (by omega)
    rw [rcpL_step s c T cs cp l0 o (by omega)]
    unfold rcpStep
    split
    · exact vLeft_less hs hc ih (ho k (by omega))
    · exact ih
theorem notesTo_len (n : Int) (m : List Int) : ∀ k, (notesTo n m k).length ≤ k
  | 0 => Nat.le_refl _
  | k + 1 => by
    have := notesTo_len n m k
    simp only [notesTo, List.length_append, ntK]
    split <;> simp <;> omega
theorem rcp_notes {s : List (Int × Int × Int × Int)} {c : List (Int × Int)} {T : Int} {cs cp : List Int} {l0 : List Int} {o : List ((Int × Int × Int × Int × Int × Int × Int) × (Int × Int) × (Option Addr × Nat × List (Int × Int)) × Int)} (hs : vShop s = true) (hc : vCart s.length c = true) (hl : vLeft s c l0 = true) (ho : ∀ k, k < o.length → vR (atR o k) = true) :
    ∀ k, k ≤ o.length → (rcpL s c T cs cp l0 (o.take k)).2.length ≤ 8 * k
  | 0, _ => by simp [rcpL]
  | k + 1, hk => by
    have ih := rcp_notes (T := T) (cs := cs) (cp := cp) hs hc hl ho k (by omega)
    have hv := rcp_left (T := T) (cs := cs) (cp := cp) hs hc hl ho k (by omega)
    have hc8 := (vCart_iff.1 hc).2.2
    rw [rcpL_step s c T cs cp l0 o (by omega)]
    unfold rcpStep
    split
    · have h1 := notesTo_len (numR (atR o k)) (effR s c (atR o k) (rcpL s c T cs cp l0 (o.take k)).1) (effR s c (atR o k) (rcpL s c T cs cp l0 (o.take k)).1).length
      rw [(effR_bd hs hc hv (ho k (by omega))).1] at h1
      rw [(effR_bd hs hc hv (ho k (by omega))).1]
      simp only [List.length_append]
      omega
    · omega

end Go.Proofs.YtkgofklpogdpmaaGreat
