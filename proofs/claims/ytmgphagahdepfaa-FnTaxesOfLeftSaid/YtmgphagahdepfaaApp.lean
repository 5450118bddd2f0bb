/- The walk's law for 'out = append(out, x)' on a slice of the call's own, read as a list. No program in sight. -/
import Derived.Test.YtmgphagahdepfaaSl
import Derived.Deep.AppendLies
namespace Go.Proofs.Ytmgphagahdepfaa
open Go.RowKit

section
variable {P : Program} {ops : Array Oper} {rest : List Oper} {o : Oper} {a : Act} {Q : Exit → Act → World → Prop}

theorem wpList_push {α : Type} {enc : α → List Value} {sz : Nat} (henc : ∀ y, (enc y).length = sz) (hone : ∀ y, ∀ u ∈ enc y, u.oneCell' = true) (hgd : o.guard = none) (s x : Operand) (t : TypeId)
    (ho : o.op = .call { callee := .builtin .append, args := #[s, x], argTypes := #[t, t] })
    {e : TypeId} {z : Value} {bytes : Nat} (ht : P.underlying t = some (.slice e)) (hinfo : (P.info? e).map (fun i => (i.zero, i.size, i.bytes)) = some (some z, sz, bytes)) (hzs : z.cells.size = sz) (hsz : 0 < sz) (hby : bytes ≤ 64)
    {v : Value} {l : List α} {W : World} {base : Nat} (hs : a.eval s = v) (hown : Own enc sz e W base v l) (y : α) {cs : Array Value} {g : Nat} (hg : g = W.heap.size) (hcs : cs.toList = enc y) (hx : a.eval x = .slice (some ⟨g, 0, none⟩) 1 1)
    (hlen : l.length ≤ 1000000000) (hbase : base ≤ W.heap.size)
    (h : ∀ v' w', Own enc sz e w' base v' (l ++ [y]) → (W.alloc (.cells cs e)).grownBy w' v.ownBlock → (v'.ownBlock = v.ownBlock ∨ v'.ownBlock = some (W.heap.size + 1)) → wpList P ops Q rest (a.put o.dst v') w') : wpList P ops Q (o :: rest) a (W.alloc (.cells cs e)) := by
  subst hg
  obtain ⟨i, hi, hz, hsize, hbytes⟩ := info_parts hinfo
  refine wpList_append_own_at (w := W.alloc (.cells cs e)) hgd s x t ho base e i z sz bytes ht hi hz hsize hbytes hzs hsz v l.length (l.flatMap enc) hs (World.ownsRow.alloc hown _) ⟨W.heap.size, 0, none⟩ 1 1 (enc y) hx (by rw [henc]; omega) ?_ (hone y) (by simp only [maxLen]; omega) ?_ (by simp; omega) ?_
  · intro j u hj
    rw [Addr.add_lit, Nat.zero_add, World.cell?_alloc_new, ← Array.getElem?_toList, hcs, hj]
  · have : (l.length + 1) * bytes ≤ (l.length + 1) * 64 := Nat.mul_le_mul_left _ hby
    omega
  · intro v' w' h1 h2 _ h4
    refine h v' w' ?_ h2 (by simpa using h4)
    show World.ownsRow _ _ _ _ _ (l ++ [y]).length _
    rw [List.flatMap_append, List.length_append]
    simpa using h1
/-- The same at a step of a region that draws its order. -/
theorem step_push {α : Type} {enc : α → List Value} {sz : Nat} (henc : ∀ y, (enc y).length = sz) (hone : ∀ y, ∀ u ∈ enc y, u.oneCell' = true) {K : Act → World → Prop} {E : Prop} (hgd : o.guard = none) (s x : Operand) (t : TypeId)
    (ho : o.op = .call { callee := .builtin .append, args := #[s, x], argTypes := #[t, t] })
    {e : TypeId} {z : Value} {bytes : Nat} (ht : P.underlying t = some (.slice e)) (hinfo : (P.info? e).map (fun i => (i.zero, i.size, i.bytes)) = some (some z, sz, bytes)) (hzs : z.cells.size = sz) (hsz : 0 < sz) (hby : bytes ≤ 64)
    {v : Value} {l : List α} {W : World} {base : Nat} (hs : a.eval s = v) (hown : Own enc sz e W base v l) (y : α) {cs : Array Value} {g : Nat} (hg : g = W.heap.size) (hcs : cs.toList = enc y) (hx : a.eval x = .slice (some ⟨g, 0, none⟩) 1 1)
    (hlen : l.length ≤ 1000000000) (hbase : base ≤ W.heap.size)
    (h : ∀ v' w', Own enc sz e w' base v' (l ++ [y]) → (W.alloc (.cells cs e)).grownBy w' v.ownBlock → K (a.put o.dst v') w') :
    if Region.wanted o (yielded ops a.tmps) = true then Oper.wp P o a (W.alloc (.cells cs e)).drew K Q else E := by
  subst hg
  obtain ⟨i, hi, hz, hsize, hbytes⟩ := info_parts hinfo
  refine step_append_lies (W.alloc (.cells cs e)).drew hgd s x t ho base e i z sz bytes ht hi hz hsize hbytes hzs hsz v l.length (l.flatMap enc) hs (World.ownsRow.drew (World.ownsRow.alloc hown _)) ⟨W.heap.size, 0, none⟩ 1 1 (enc y) hx (by rw [henc]; omega) ?_ (hone y) (by omega) (by simp only [maxLen]; omega) ?_ (by simp; omega) _ rfl ?_
  · intro j u hj
    rw [Addr.add_lit, Nat.zero_add, World.cell?_drew, World.cell?_alloc_new, ← Array.getElem?_toList, hcs, hj]
  · have : (l.length + 1) * bytes ≤ (l.length + 1) * 64 := Nat.mul_le_mul_left _ hby
    omega
  · intro g' cap w' h1 h2 _ _
    refine h _ w' ?_ ⟨h2.os, h2.tape, h2.output, h2.size, h2.block⟩
    show World.ownsRow _ _ _ _ _ (l ++ [y]).length _
    rw [List.flatMap_append, List.length_append]
    simpa using h1
/-- The same behind a call of that region. -/
theorem step_push0 {α : Type} {enc : α → List Value} {sz : Nat} (henc : ∀ y, (enc y).length = sz) (hone : ∀ y, ∀ u ∈ enc y, u.oneCell' = true) {K : Act → World → Prop} {E : Prop} (hgd : o.guard = none) (s x : Operand) (t : TypeId)
    (ho : o.op = .call { callee := .builtin .append, args := #[s, x], argTypes := #[t, t] })
    {e : TypeId} {z : Value} {bytes : Nat} (ht : P.underlying t = some (.slice e)) (hinfo : (P.info? e).map (fun i => (i.zero, i.size, i.bytes)) = some (some z, sz, bytes)) (hzs : z.cells.size = sz) (hsz : 0 < sz) (hby : bytes ≤ 64)
    {v : Value} {l : List α} {W : World} {base : Nat} (hs : a.eval s = v) (hown : Own enc sz e W base v l) (y : α) {cs : Array Value} {g : Nat} (hg : g = W.heap.size) (hcs : cs.toList = enc y) (hx : a.eval x = .slice (some ⟨g, 0, none⟩) 1 1)
    (hlen : l.length ≤ 1000000000) (hbase : base ≤ W.heap.size)
    (h : ∀ v' w', Own enc sz e w' base v' (l ++ [y]) → (W.alloc (.cells cs e)).grownBy w' v.ownBlock → K (a.put o.dst v') w') :
    if Region.wanted o (yielded ops a.tmps) = true then Oper.wp P o a (W.alloc (.cells cs e)) K Q else E := by
  subst hg
  obtain ⟨i, hi, hz, hsize, hbytes⟩ := info_parts hinfo
  refine step_append_lies (W.alloc (.cells cs e)) hgd s x t ho base e i z sz bytes ht hi hz hsize hbytes hzs hsz v l.length (l.flatMap enc) hs (World.ownsRow.alloc hown _) ⟨W.heap.size, 0, none⟩ 1 1 (enc y) hx (by rw [henc]; omega) ?_ (hone y) (by omega) (by simp only [maxLen]; omega) ?_ (by simp; omega) _ rfl ?_
  · intro j u hj
    rw [Addr.add_lit, Nat.zero_add, World.cell?_alloc_new, ← Array.getElem?_toList, hcs, hj]
  · have : (l.length + 1) * bytes ≤ (l.length + 1) * 64 := Nat.mul_le_mul_left _ hby
    omega
  · intro g' cap w' h1 h2 _ _
    refine h _ w' ?_ ⟨h2.os, h2.tape, h2.output, h2.size, h2.block⟩
    show World.ownsRow _ _ _ _ _ (l ++ [y]).length _
    rw [List.flatMap_append, List.length_append]
    simpa using h1
end

theorem below_push {α : Type} {enc : α → List Value} {sz : Nat} {e : TypeId} {B base : Nat} {w W w' : World} {o : Obj} {v : Value} {l : List α} (hb : Below B w W) (hB : B ≤ W.heap.size) (ho : Own enc sz e W base v l) (hbase : B ≤ base) (hg : (W.alloc o).grownBy w' v.ownBlock) : Below B w w' :=
  (hb.alloc hB o).grown hg (by simp; omega) (fun k hk => by have := (ho.lt k hk).1; omega)
theorem Own.off_new {α : Type} {enc : α → List Value} {sz : Nat} {e : TypeId} {base : Nat} {W : World} {v : Value} {l : List α} (ho : Own enc sz e W base v l) {g : Nat} (hg : W.heap.size ≤ g) : some g ≠ v.ownBlock := fun he => by
  have := (ho.lt g he.symm).2; omega

/-- What a list's cells are, one after the other. -/
theorem Sl.flat {α : Type} {enc : α → List Value} {sz : Nat} (henc : ∀ y, (enc y).length = sz) (hsz : 0 < sz) {w : World} {b off : Nat} {l : List α} (h : ∀ i a, l[i]? = some a → ∀ j u, (enc a)[j]? = some u → w.cell? ⟨b, off + (i * sz + j), none⟩ = some u) :
    ∀ j u, (l.flatMap enc)[j]? = some u → w.cell? ((⟨b, off, none⟩ : Addr).add j) = some u := by
  intro j u hu
  have hj : j < l.length * sz := by
    have := (List.getElem?_eq_some_iff.1 hu).1
    rwa [flatMap_length henc] at this
  have hi : j / sz < l.length := by rwa [Nat.div_lt_iff_lt_mul hsz]
  have hm : j % sz < sz := Nat.mod_lt _ hsz
  have hdm : j / sz * sz + j % sz = j := by rw [Nat.mul_comm]; exact Nat.div_add_mod j sz
  have h1 := flatMap_at henc l (j / sz) l[j / sz] (List.getElem?_eq_getElem hi) (j % sz) hm
  rw [hdm, hu] at h1
  have h2 := h (j / sz) _ (List.getElem?_eq_getElem hi) (j % sz) u h1.symm
  rw [hdm] at h2
  rw [Addr.add_lit]; exact h2

/-- 'append(v, src...)', the source a slice that is not nil. -/
theorem wpList_pushAll {P : Program} {ops : Array Oper} {rest : List Oper} {o : Oper} {a : Act} {Q : Exit → Act → World → Prop} {α : Type} {enc : α → List Value} {sz : Nat} (henc : ∀ y, (enc y).length = sz) (hone : ∀ y, ∀ u ∈ enc y, u.oneCell' = true) (hgd : o.guard = none) (s x : Operand) (t : TypeId)
    (ho : o.op = .call { callee := .builtin .append, args := #[s, x], argTypes := #[t, t] })
    {e : TypeId} {z : Value} {bytes : Nat} (ht : P.underlying t = some (.slice e)) (hinfo : (P.info? e).map (fun i => (i.zero, i.size, i.bytes)) = some (some z, sz, bytes)) (hzs : z.cells.size = sz) (hsz : 0 < sz) (hby : bytes ≤ 64)
    {v : Value} {l m : List α} {W : World} {base B : Nat} (hs : a.eval s = v) (hown : Own enc sz e W base v l) {A : Option Addr} {n c : Nat} (hn : n = m.length) (hx : a.eval x = .slice A n c) (hm : Sl enc sz W B A m) (hne : m ≠ [])
    (hlen : l.length + m.length ≤ 1000000000) (hbase : base ≤ W.heap.size)
    (h : ∀ v' w', Own enc sz e w' base v' (l ++ m) → W.grownBy w' v.ownBlock → (v'.ownBlock = v.ownBlock ∨ v'.ownBlock = some W.heap.size) → wpList P ops Q rest (a.put o.dst v') w') : wpList P ops Q (o :: rest) a W := by
  subst hn
  obtain ⟨i, hi, hz, hsize, hbytes⟩ := info_parts hinfo
  rcases hm with hm | ⟨b, off, rfl, _, hc⟩
  · exact absurd hm hne
  refine wpList_append_own_at (w := W) hgd s x t ho base e i z sz bytes ht hi hz hsize hbytes hzs hsz v l.length (l.flatMap enc) hs hown ⟨b, off, none⟩ m.length c (m.flatMap enc) hx (flatMap_length henc m) (Sl.flat henc hsz hc) ?_ (by simp only [maxLen]; omega) ?_ hbase ?_
  · intro u hu
    obtain ⟨y, _, hy⟩ := List.mem_flatMap.1 hu
    exact hone y u hy
  · have : (l.length + m.length) * bytes ≤ (l.length + m.length) * 64 := Nat.mul_le_mul_left _ hby
    omega
  · intro v' w' h1 h2 _ h4
    refine h v' w' ?_ h2 h4
    show World.ownsRow _ _ _ _ _ (l ++ m).length _
    rw [List.flatMap_append, List.length_append]
    exact h1

theorem madeCells_list {α : Type} {enc : α → List Value} {sz : Nat} (henc : ∀ y, (enc y).length = sz) (hsz : 0 < sz) {z : Value} {y : α} (hz : z.cells.toList = enc y) (n : Nat) : (madeCells z.cells (n * sz)).toList = (List.replicate n y).flatMap enc := by
  have hzs : z.cells.size = sz := by rw [← Array.length_toList, hz, henc]
  apply List.ext_getElem?
  intro j
  by_cases hj : j < n * sz
  · have hi : j / sz < n := by rwa [Nat.div_lt_iff_lt_mul hsz]
    have hm : j % sz < sz := Nat.mod_lt _ hsz
    have h1 := flatMap_at henc (List.replicate n y) (j / sz) y (by simp [hi]) (j % sz) hm
    rw [show j / sz * sz + j % sz = j by rw [Nat.mul_comm]; exact Nat.div_add_mod j sz] at h1
    rw [h1, ← hz]
    simp [madeCells, hj, hzs, hm]
  · rw [List.getElem?_eq_none (by rw [Array.length_toList, size_madeCells]; omega), List.getElem?_eq_none (by rw [flatMap_length henc]; simp; omega)]

/-- 'make([]T, n)' read as a list. -/
theorem wpList_makeL {P : Program} {ops : Array Oper} {rest : List Oper} {o : Oper} {a : Act} {Q : Exit → Act → World → Prop} {α : Type} {enc : α → List Value} {sz : Nat} (henc : ∀ y, (enc y).length = sz) (hsz : 0 < sz) (hgd : o.guard = none) (lo c : Operand) (t : TypeId) (hop : o.op = Op.makeSlice t lo c)
    {e : TypeId} {z : Value} {bytes : Nat} (ht : P.underlying t = some (.slice e)) (hinfo : (P.info? e).map (fun i => (i.zero, i.size, i.bytes)) = some (some z, sz, bytes)) (hby : bytes ≤ 64) {y : α} (hz : z.cells.toList = enc y)
    {W : World} {base n : Nat} (hl : a.eval lo = .int .i64 (n : Int)) (hc : a.eval c = .int .i64 (n : Int)) (hn : n ≤ 1000000000) (hbase : base ≤ W.heap.size)
    (h : ∀ w', Own enc sz e w' base (.slice (some ⟨W.heap.size, 0, none⟩) n n) (List.replicate n y) → W.grownBy w' none → wpList P ops Q rest (a.put o.dst (.slice (some ⟨W.heap.size, 0, none⟩) n n)) w') : wpList P ops Q (o :: rest) a W := by
  obtain ⟨i, hi, hz', hsize, hbytes⟩ := info_parts hinfo
  refine wpList_make_full W hgd lo c t hop base e i z sz ht hi hz' hsize .i64 .i64 (n : Int) (n : Int) n hl hc rfl rfl ?_ (by simp only [maxLen]; omega) hbase ?_
  · rw [hbytes]
    have : bytes * n ≤ 64 * n := Nat.mul_le_mul_right _ hby
    omega
  · intro w' h1 h2
    refine h w' ?_ h2
    show World.ownsRow _ _ _ _ _ (List.replicate n y).length _
    rw [List.length_replicate, ← madeCells_list henc hsz hz n]
    exact h1

theorem one1 (y : Int) : ∀ u ∈ enc1 y, u.oneCell' = true := by intro u hu; simp [enc1] at hu; subst hu; rfl
theorem one2 (y : Int × Int) : ∀ u ∈ enc2 y, u.oneCell' = true := by intro u hu; simp [enc2] at hu; rcases hu with rfl | rfl <;> rfl
theorem one3 (y : Int × Int × Int) : ∀ u ∈ enc3 y, u.oneCell' = true := by intro u hu; simp [enc3] at hu; rcases hu with rfl | rfl | rfl <;> rfl
theorem one4 (y : Int × Int × Int × Int) : ∀ u ∈ enc4 y, u.oneCell' = true := by intro u hu; simp [enc4] at hu; rcases hu with rfl | rfl | rfl | rfl <;> rfl

end Go.Proofs.Ytmgphagahdepfaa
