/- The walk's law for 'out = append(out, x)' in a region that draws its order, with the block that the new slice lies in. No program in sight. -/
import Derived.Test.YtmgphagahdepfaaApp
namespace Go.Proofs.Ytmgphagahdepfaa
open Go.RowKit

theorem step_pushB {P : Program} {ops : Array Oper} {o : Oper} {a : Act} {Q : Exit → Act → World → Prop} {α : Type} {enc : α → List Value} {sz : Nat} (henc : ∀ y, (enc y).length = sz) (hone : ∀ y, ∀ u ∈ enc y, u.oneCell' = true) {K : Act → World → Prop} {E : Prop} (hgd : o.guard = none) (s x : Operand) (t : TypeId)
    (ho : o.op = .call { callee := .builtin .append, args := #[s, x], argTypes := #[t, t] })
    {e : TypeId} {z : Value} {bytes : Nat} (ht : P.underlying t = some (.slice e)) (hinfo : (P.info? e).map (fun i => (i.zero, i.size, i.bytes)) = some (some z, sz, bytes)) (hzs : z.cells.size = sz) (hsz : 0 < sz) (hby : bytes ≤ 64)
    {v : Value} {l : List α} {W : World} {base : Nat} (hs : a.eval s = v) (hown : Own enc sz e W base v l) (y : α) {cs : Array Value} {g : Nat} (hg : g = W.heap.size) (hcs : cs.toList = enc y) (hx : a.eval x = .slice (some ⟨g, 0, none⟩) 1 1)
    (hlen : l.length ≤ 1000000000) (hbase : base ≤ W.heap.size)
    (h : ∀ v' w', Own enc sz e w' base v' (l ++ [y]) → (W.alloc (.cells cs e)).grownBy w' v.ownBlock → (v'.ownBlock = v.ownBlock ∨ v'.ownBlock = some (W.heap.size + 1)) → K (a.put o.dst v') w') :
    if Region.wanted o (yielded ops a.tmps) = true then Oper.wp P o a (W.alloc (.cells cs e)).drew K Q else E := by
  subst hg
  obtain ⟨i, hi, hz, hsize, hbytes⟩ := info_parts hinfo
  refine step_append_lies (W.alloc (.cells cs e)).drew hgd s x t ho base e i z sz bytes ht hi hz hsize hbytes hzs hsz v l.length (l.flatMap enc) hs (World.ownsRow.drew (World.ownsRow.alloc hown _)) ⟨W.heap.size, 0, none⟩ 1 1 (enc y) hx (by rw [henc]; omega) ?_ (hone y) (by omega) (by simp only [maxLen]; omega) ?_ (by simp; omega) _ rfl ?_
  · intro j u hj
    rw [Addr.add_lit, Nat.zero_add, World.cell?_drew, World.cell?_alloc_new, ← Array.getElem?_toList, hcs, hj]
  · have : (l.length + 1) * bytes ≤ (l.length + 1) * 64 := Nat.mul_le_mul_left _ hby
    omega
  · intro g' cap w' h1 h2 h3 _
    refine h _ w' ?_ ⟨h2.os, h2.tape, h2.output, h2.size, h2.block⟩ ?_
    · show World.ownsRow _ _ _ _ _ (l ++ [y]).length _
      rw [List.flatMap_append, List.length_append]
      simpa using h1
    · rcases h3 with h3 | h3
      · exact .inl (by rw [h3]; rfl)
      · refine .inr ?_
        have h4 : g' = W.heap.size + 1 := by simpa using h3
        rw [h4]; rfl

end Go.Proofs.Ytmgphagahdepfaa
