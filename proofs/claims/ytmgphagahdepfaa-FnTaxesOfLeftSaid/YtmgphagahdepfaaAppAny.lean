/- The walk's law for 'out = append(out, src...)' on a slice of the call's own, whatever the source: nil, empty or not. No program in sight. -/
import Derived.Test.YtmgphagahdepfaaApp
namespace Go.Proofs.Ytmgphagahdepfaa
open Go.RowKit

theorem run_append_nilsrc {P : Program} (w : World) (base : Nat) (t ty e : TypeId) (i : TypeInfo) (size : Nat) (ht : P.underlying t = some (.slice e)) (hi : P.info? e = some i)
    (v : Value) (n : Nat) (xs : List Value) (hown : w.ownsRow base e size v n xs) (c : Nat) : (Builtin.append_ #[t, t] ty #[v, .slice none 0 c]).run P w = .ok v w := by
  rcases hown.2 with ⟨rfl, rfl⟩ | ⟨g, cap, cur, rfl, _, _, hnc, _⟩
  · simp [Builtin.append_, run_underlying ht, sizeOf, typeInfo, hi, Builtin.lenOf, Builtin.firstCells]
  · simp [Builtin.append_, run_underlying ht, sizeOf, typeInfo, hi, Builtin.lenOf, Builtin.firstCells, hnc, storeCells]

theorem wpList_pushAny {P : Program} {ops : Array Oper} {rest : List Oper} {o : Oper} {a : Act} {Q : Exit → Act → World → Prop} {α : Type} {enc : α → List Value} {sz : Nat} (henc : ∀ y, (enc y).length = sz) (hone : ∀ y, ∀ u ∈ enc y, u.oneCell' = true) (hgd : o.guard = none) (s x : Operand) (t : TypeId)
    (ho : o.op = .call { callee := .builtin .append, args := #[s, x], argTypes := #[t, t] })
    {e : TypeId} {z : Value} {bytes : Nat} (ht : P.underlying t = some (.slice e)) (hinfo : (P.info? e).map (fun i => (i.zero, i.size, i.bytes)) = some (some z, sz, bytes)) (hzs : z.cells.size = sz) (hsz : 0 < sz) (hby : bytes ≤ 64)
    {v : Value} {l m : List α} {W : World} {base B : Nat} (hs : a.eval s = v) (hown : Own enc sz e W base v l) {A : Option Addr} {n c : Nat} (hn : n = m.length) (hx : a.eval x = .slice A n c) (hm : Sl enc sz W B A m)
    (hlen : l.length + m.length ≤ 1000000000) (hbase : base ≤ W.heap.size)
    (h : ∀ v' w', Own enc sz e w' base v' (l ++ m) → W.grownBy w' v.ownBlock → wpList P ops Q rest (a.put o.dst v') w') : wpList P ops Q (o :: rest) a W := by
  by_cases hne : m = []
  · subst hne
    subst hn
    obtain ⟨i, hi, hz, hsize, hbytes⟩ := info_parts hinfo
    rcases A with _ | ad
    · refine wpList_plain hgd fun K hK => ?_
      have hrun := run_append_nilsrc (P := P) W base t o.type e i sz ht hi v l.length (l.flatMap enc) hown c
      unfold Oper.wp execOp
      simp only [ho, resolve, invoke, builtin, Sem.run_bind, Sem.run_pure, Result.andThen_ok, List.map_toArray, List.map_cons, List.map_nil, hs, hx, List.length_nil, hrun]
      exact hK _ _ (h v W (by rw [List.append_nil]; exact hown) (World.grownBy.refl W _))
    · refine wpList_append_own_at (w := W) hgd s x t ho base e i z sz bytes ht hi hz hsize hbytes hzs hsz v l.length (l.flatMap enc) hs hown ad 0 c [] hx (by simp) (by simp) (by simp) (by simp only [maxLen]; omega) ?_ hbase ?_
      · have : (l.length + 0) * bytes ≤ (l.length + 0) * 64 := Nat.mul_le_mul_left _ hby
        simp only [List.length_nil] at hlen
        omega
      · intro v' w' h1 h2 _ _
        refine h v' w' ?_ h2
        rw [List.append_nil]
        have h9 : w'.ownsRow base e sz v' l.length (l.flatMap enc) := by simpa using h1
        exact h9
  · exact wpList_pushAll henc hone hgd s x t ho ht hinfo hzs hsz hby hs hown hn hx hm hne hlen hbase fun v' w' h1 h2 _ => h v' w' h1 h2

/-- The same at a step of a region that draws its order. -/
theorem step_pushAny {P : Program} {ops : Array Oper} {o : Oper} {a : Act} {Q : Exit → Act → World → Prop} {α : Type} {enc : α → List Value} {sz : Nat} (henc : ∀ y, (enc y).length = sz) (hone : ∀ y, ∀ u ∈ enc y, u.oneCell' = true) {K : Act → World → Prop} {E : Prop} (hgd : o.guard = none) (s x : Operand) (t : TypeId)
    (ho : o.op = .call { callee := .builtin .append, args := #[s, x], argTypes := #[t, t] })
    {e : TypeId} {z : Value} {bytes : Nat} (ht : P.underlying t = some (.slice e)) (hinfo : (P.info? e).map (fun i => (i.zero, i.size, i.bytes)) = some (some z, sz, bytes)) (hzs : z.cells.size = sz) (hsz : 0 < sz) (hby : bytes ≤ 64)
    {v : Value} {l m : List α} {W : World} {base B : Nat} (hs : a.eval s = v) (hown : Own enc sz e W base v l) {A : Option Addr} {n c : Nat} (hn : n = m.length) (hx : a.eval x = .slice A n c) (hm : Sl enc sz W B A m)
    (hlen : l.length + m.length ≤ 1000000000) (hbase : base ≤ W.heap.size)
    (h : ∀ v' w', Own enc sz e w' base v' (l ++ m) → W.grownBy w' v.ownBlock → K (a.put o.dst v') w') :
    if Region.wanted o (yielded ops a.tmps) = true then Oper.wp P o a W K Q else E := by
  subst hn
  have hw : Region.wanted o (yielded ops a.tmps) = true := by simp [Region.wanted, hgd]
  rw [if_pos hw]
  obtain ⟨i, hi, hz, hsize, hbytes⟩ := info_parts hinfo
  have key : ∃ v' w', (Builtin.append_ #[t, t] o.type #[v, .slice A m.length c]).run P W = .ok v' w' ∧ Own enc sz e w' base v' (l ++ m) ∧ W.grownBy w' v.ownBlock := by
    by_cases hne : m = []
    · subst hne
      rcases A with _ | ad
      · exact ⟨v, W, run_append_nilsrc W base t o.type e i sz ht hi v l.length (l.flatMap enc) hown c, by rw [List.append_nil]; exact hown, World.grownBy.refl W _⟩
      · obtain ⟨v', w', hr, h2, h3, _, _⟩ := run_append_own_at (P := P) W base t o.type e i z sz bytes ht hi hz hsize hbytes hzs hsz v l.length (l.flatMap enc) hown ad 0 c [] (by simp) (by simp) (by simp) (by simp only [List.length_nil] at hlen; simp only [maxLen]; omega)
          (by have : (l.length + 0) * bytes ≤ (l.length + 0) * 64 := Nat.mul_le_mul_left _ hby
              simp only [List.length_nil] at hlen
              omega) hbase
        refine ⟨v', w', hr, ?_, h3⟩
        rw [List.append_nil]
        have h9 : w'.ownsRow base e sz v' l.length (l.flatMap enc) := by simpa using h2
        exact h9
    · rcases hm with hm | ⟨b, off, rfl, _, hc⟩
      · exact absurd hm hne
      obtain ⟨v', w', hr, h2, h3, _, _⟩ := run_append_own_at (P := P) W base t o.type e i z sz bytes ht hi hz hsize hbytes hzs hsz v l.length (l.flatMap enc) hown ⟨b, off, none⟩ m.length c (m.flatMap enc) (flatMap_length henc m) (Sl.flat henc hsz hc)
        (fun u hu => by obtain ⟨y, _, hy⟩ := List.mem_flatMap.1 hu; exact hone y u hy) (by simp only [maxLen]; omega)
        (by have : (l.length + m.length) * bytes ≤ (l.length + m.length) * 64 := Nat.mul_le_mul_left _ hby
            omega) hbase
      refine ⟨v', w', hr, ?_, h3⟩
      show World.ownsRow _ _ _ _ _ (l ++ m).length _
      rw [List.flatMap_append, List.length_append]
      exact h2
  obtain ⟨v', w', hr, h2, h3⟩ := key
  unfold Oper.wp execOp
  simp only [ho, resolve, invoke, builtin, Sem.run_bind, Sem.run_pure, Result.andThen_ok, List.map_toArray, List.map_cons, List.map_nil, hs, hx, hr]
  exact h v' w' h2 h3

end Go.Proofs.Ytmgphagahdepfaa
