/- The walk's law for 'out = append(out, x)' on a slice of the call's own, read as a list. No program in sight. -/
import Derived.Test.YtkgofklpogdpmaaGreatZB
import Derived.Deep.AppendLies
import Derived.Test.YtkgofklpogdpmaaGreatZA
namespace Go.Proofs.YtkgofklpogdpmaaGreat
open Go.RowKit

section
variable {P : Program} {ops : Array Oper} {rest : List Oper} {o : Oper} {a : Act} {Q : Exit → Act → World → Prop}

theorem wpList_push {α : Type} {enc : α → List Value} {sz : Nat} (henc : ∀ y, (enc y).length = sz) (hone : ∀ y, ∀ u ∈ enc y, u.oneCell' = true) (hgd : o.guard = none) (s x : Operand) (t : TypeId)
    (ho : o.op = .call { callee := .builtin .append, args := #[s, x], argTypes := #[t, t] })
    {e : TypeId} {z : Value} {bytes : Nat} (ht : P.underlying t = some (.slice e)) (hinfo : (P.info? e).map (fun i => (i.zero, i.size, i.bytes)) = some (some z, sz, bytes)) (hzs : z.cells.size = sz) (hsz : 0 < sz) (hby : bytes ≤ 256)
    {v : Value} {l : List α} {W : World} {base : Nat} (hs : a.eval s = v) (hown : Own enc sz e W base v l) (y : α) {cs : Array Value} {g : Nat} (hg : g = W.heap.size) (hcs : cs.toList = enc y) (hx : a.eval x = .slice (some ⟨g, 0, none⟩) 1 1)
    (hlen : l.length ≤ 1000000000) (hbase : base ≤ W.heap.size)
    (h : ∀ v' w', Own enc sz e w' base v' (l ++ [y]) → (W.alloc (.cells cs e)).grownBy w' v.ownBlock → (v'.ownBlock = v.ownBlock ∨ v'.ownBlock = some (W.heap.size + 1)) → wpList P ops Q rest (a.put o.dst v') w') : wpList P ops Q (o :: rest) a (W.alloc (.cells cs e)) := by
  subst hg
  obtain ⟨i, hi, hz, hsize, hbytes⟩ := info_parts hinfo
  refine wpList_append_own_at (w := W.alloc (.cells cs e)) hgd s x t ho base e i z sz bytes ht hi hz hsize hbytes hzs hsz v l.length (l.flatMap enc) hs (World.ownsRow.alloc hown _) ⟨W.heap.size, 0, none⟩ 1 1 (enc y) hx (by rw [henc]; omega) ?_ (hone y) (by simp only [maxLen]; omega) ?_ (by simp; omega) ?_
  · intro j u hj
    rw [Addr.add_lit, Nat.zero_add, World.cell?_alloc_new, ← Array.getElem?_toList, hcs, hj]
  · have : (l.length + 1) * bytes ≤ (l.length + 1) * 256 := Nat.mul_le_mul_left _ hby
    omega
  · intro v' w' h1 h2 _ h4
    refine h v' w' ?_ h2 (by simpa using h4)
    show World.ownsRow _ _ _ _ _ (l ++ [y]).length _
    rw [List.flatMap_append, List.length_append]
    simpa using h1
/-- The same at a step of a region that draws its order. -/
theorem step_push {α : Type} {enc : α → List Value} {sz : Nat} (henc : ∀ y, (enc y).length = sz) (hone : ∀ y, ∀ u ∈ enc y, u.oneCell' = true) {K : Act → World → Prop} {E : Prop} (hgd : o.guard = none) (s x : Operand) (t : TypeId)
    (ho : o.op = .call { callee := .builtin .append, args := #[s, x], argTypes := #[t, t] })
    {e : TypeId} {z : Value} {bytes : Nat} (ht : P.underlying t = some (.slice e)) (hinfo : (P.info? e).map (fun i => (i.zero, i.size, i.bytes)) = some (some z, sz, bytes)) (hzs : z.cells.size = sz) (hsz : 0 < sz) (hby : bytes ≤ 256)
    {v : Value} {l : List α} {W : World} {base : Nat} (hs : a.eval s = v) (hown : Own enc sz e W base v l) (y : α) {cs : Array Value} {g : Nat} (hg : g = W.heap.size) (hcs : cs.toList = enc y) (hx : a.eval x = .slice (some ⟨g, 0, none⟩) 1 1)
    (hlen : l.length ≤ 1000000000) (hbase : base ≤ W.heap.size)
    (h : ∀ v' w', Own enc sz e w' base v' (l ++ [y]) → (W.alloc (.cells cs e)).grownBy w' v.ownBlock → K (a.put o.dst v') w') :
    if Region.wanted o (yielded ops a.tmps) = true then Oper.wp P o a (W.alloc (.cells cs e)).drew K Q else E := by
  subst hg
  obtain ⟨i, hi, hz, hsize, hbytes⟩ := info_parts hinfo
  refine step_append_lies (W.alloc (.cells cs e)).drew hgd s x t ho base e i z sz bytes ht hi hz hsize hbytes hzs hsz v l.length (l.flatMap enc) hs (World.ownsRow.drew (World.ownsRow.alloc hown _)) ⟨W.heap.size, 0, none⟩ 1 1 (enc y) hx (by rw [henc]; omega) ?_ (hone y) (by omega) (by simp only [maxLen]; omega) ?_ (by simp; omega) _ rfl ?_
  · intro j u hj
    rw [Addr.add_lit, Nat.zero_add, World.cell?_drew, World.cell?_alloc_new, ← Array.getElem?_toList, hcs, hj]
  · have : (l.length + 1) * bytes ≤ (l.length + 1) * 256 := Nat.mul_le_mul_left _ hby
    omega
  · intro g' cap w' h1 h2 _ _
    refine h _ w' ?_ ⟨h2.os, h2.tape, h2.output, h2.size, h2.block⟩
    show World.ownsRow _ _ _ _ _ (l ++ [y]).length _
    rw [List.flatMap_append, List.length_append]
    simpa using h1
/-- The same behind a call of that region. -/
theorem step_push0 {α : Type} {enc : α → List Value} {sz : Nat} (henc : ∀ y, (enc y).length = sz) (hone : ∀ y, ∀ u ∈ enc y, u.oneCell' = true) {K : Act → World → Prop} {E : Prop} (hgd : o.guard = none) (s x : Operand) (t : TypeId)
    (ho : o.op = .call { callee := .builtin .append, args := #[s, x], argTypes := #[t, t] })
    {e : TypeId} {z : Value} {bytes : Nat} (ht : P.underlying t = some (.slice e)) (hinfo : (P.info? e).map (fun i => (i.zero, i.size, i.bytes)) = some (some z, sz, bytes)) (hzs : z.cells.size = sz) (hsz : 0 < sz) (hby : bytes ≤ 256)
    {v : Value} {l : List α} {W : World} {base : Nat} (hs : a.eval s = v) (hown : Own enc sz e W base v l) (y : α) {cs : Array Value} {g : Nat} (hg : g = W.heap.size) (hcs : cs.toList = enc y) (hx : a.eval x = .slice (some ⟨g, 0, none⟩) 1 1)
    (hlen : l.length ≤ 1000000000) (hbase : base ≤ W.heap.size)
    (h : ∀ v' w', Own enc sz e w' base v' (l ++ [y]) → (W.alloc (.cells cs e)).grownBy w' v.ownBlock → K (a.put o.dst v') w') :
    if Region.wanted o (yielded ops a.tmps) = true then Oper.wp P o a (W.alloc (.cells cs e)) K Q else E := by
  subst hg
  obtain ⟨i, hi, hz, hsize, hbytes⟩ := info_parts hinfo
  refine step_append_lies (W.alloc (.cells cs e)) hgd s x t ho base e i z sz bytes ht hi hz hsize hbytes hzs hsz v l.length (l.flatMap enc) hs (World.ownsRow.alloc hown _) ⟨W.heap.size, 0, none⟩ 1 1 (enc y) hx (by rw [henc]; omega) ?_ (hone y) (by omega) (by simp only [maxLen]; omega) ?_ (by simp; omega) _ rfl ?_
  · intro j u hj
    rw [Addr.add_lit, Nat.zero_add, World.cell?_alloc_new, ← Array.getElem?_toList, hcs, hj]
  · have : (l.length + 1) * bytes ≤ (l.length + 1) * 256 := Nat.mul_le_mul_left _ hby
    omega
  · intro g' cap w' h1 h2 _ _
    refine h _ w' ?_ ⟨h2.os, h2.tape, h2.output, h2.size, h2.block⟩
    show World.ownsRow _ _ _ _ _ (l ++ [y]).length _
    rw [List.flatMap_append, List.length_append]
    simpa using h1
end

theorem below_push {α : Type} {enc : α → List Value} {sz : Nat} {e : TypeId} {B base : Nat} {w W w' : World} {o : Obj} {v : Value} {l : List α} (hb : Below B w W) (hB : B ≤ W.heap.size) (ho : Own enc sz e W base v l) (hbase : B ≤ base) (hg : (W.alloc o).grownBy w' v.ownBlock) : Below B w w' :=
  (hb.alloc hB o).grown hg (by simp; omega) (fun k hk => by have := (ho.lt k hk).1; omega)
theorem Own.off_new {α : Type} {enc : α → List Value} {sz : Nat} {e : TypeId} {base : Nat} {W : World} {v : Value} {l : List α} (ho : Own enc sz e W base v l) {g : Nat} (hg : W.heap.size ≤ g) : some g ≠ v.ownBlock := fun he => by
  have := (ho.lt g he.symm).2; omega

/-- What a list's cells are, one after the other. -/
theorem Sl.flat {α : Type} {enc : α → List Value} {sz : Nat} (henc : ∀ y, (enc y).length = sz) (hsz : 0 < sz) {w : World} {b off : Nat} {l : List α} (h : ∀ i a, l[i]? = some a → ∀ j u, (enc a)[j]? = some u → w.cell? ⟨b, off + (i * sz + j), none⟩ = some u) :
    ∀ j u, (l.flatMap enc)[j]? = some u → w.cell? ((⟨b, off, none⟩ : Addr).add j) = some u := by
  intro j u hu
  have hj : j < l.length * sz := by
    have := (List.getElem?_eq_some_iff.1 hu).1
    rwa [flatMap_length henc] at this
  have hi : j / sz < l.length := by rwa [Nat.div_lt_iff_lt_mul hsz]
  have hm : j % sz < sz := Nat.mod_lt _ hsz
  have hdm : j / sz * sz + j % sz = j := by rw [Nat.mul_comm]; exact Nat.div_add_mod j sz
  have h1 := flatMap_at henc l (j / sz) l[j / sz] (List.getElem?_eq_getElem hi) (j % sz) hm
  rw [hdm, hu] at h1
  have h2 := h (j / sz) _ (List.getElem?_eq_getElem hi) (j % sz) u h1.symm
  rw [hdm] at h2
  rw [Addr.add_lit]; exact h2

/-- 'append(v, src...)', the source a slice that is not nil. -/
theorem wpList_pushAll {P : Program} {ops : Array Oper} {rest : List Oper} {o : Oper} {a : Act} {Q : Exit → Act → World → Prop} {α : Type} {enc : α → List Value} {sz : Nat} (henc : ∀ y, (enc y).length = sz) (hone : ∀ y, ∀ u ∈ enc y, u.oneCell' = true) (hgd : o.guard = none) (s x : Operand) (t : TypeId)
    (ho : o.op = .call { callee := .builtin .append, args := #[s, x], argTypes := #[t, t] })
    {e : TypeId} {z : Value} {bytes : Nat} (ht : P.underlying t = some (.slice e)) (hinfo : (P.info? e).map (fun i => (i.zero, i.size, i.bytes)) = some (some z, sz, bytes)) (hzs : z.cells.size = sz) (hsz : 0 < sz) (hby : bytes ≤ 256)
    {v : Value} {l m : List α} {W : World} {base B : Nat} (hs : a.eval s = v) (hown : Own enc sz e W base v l) {A : Option Addr} {n c : Nat} (hn : n = m.length) (hx : a.eval x = .slice A n c) (hm : Sl enc sz W B A m) (hne : m ≠ [])
    (hlen : l.length + m.length ≤ 1000000000) (hbase : base ≤ W.heap.size)
    (h : ∀ v' w', Own enc sz e w' base v' (l ++ m) → W.grownBy w' v.ownBlock → (v'.ownBlock = v.ownBlock ∨ v'.ownBlock = some W.heap.size) → wpList P ops Q rest (a.put o.dst v') w') : wpList P ops Q (o :: rest) a W := by
  subst hn
  obtain ⟨i, hi, hz, hsize, hbytes⟩ := info_parts hinfo
  rcases hm with hm | ⟨b, off, rfl, _, hc⟩
  · exact absurd hm hne
  refine wpList_append_own_at (w := W) hgd s x t ho base e i z sz bytes ht hi hz hsize hbytes hzs hsz v l.length (l.flatMap enc) hs hown ⟨b, off, none⟩ m.length c (m.flatMap enc) hx (flatMap_length henc m) (Sl.flat henc hsz hc) ?_ (by simp only [maxLen]; omega) ?_ hbase ?_
  · intro u hu
    obtain ⟨y, _, hy⟩ := List.mem_flatMap.1 hu
    exact hone y u hy
  · have : (l.length + m.length) * bytes ≤ (l.length + m.length) * 256 := Nat.mul_le_mul_left _ hby
    omega
  · intro v' w' h1 h2 _ h4
    refine h v' w' ?_ h2 h4
    show World.ownsRow _ _ _ _ _ (l ++ m).length _
    rw [List.flatMap_append, List.length_append]
    exact h1

theorem madeCells_list {α : Type} {enc : α → List Value} {sz : Nat} (henc : ∀ y, (enc y).length = sz) (hsz : 0 < sz) {z : Value} {y : α} (hz : z.cells.toList = enc y) (n : Nat) : (madeCells z.cells (n * sz)).toList = (List.replicate n y).flatMap enc := by
  have hzs : z.cells.size = sz := by rw [← Array.length_toList, hz, henc]
  apply List.ext_getElem?
  intro j
  by_cases hj : j < n * sz
  · have hi : j / sz < n := by rwa [Nat.div_lt_iff_lt_mul hsz]
    have hm : j % sz < sz := Nat.mod_lt _ hsz
    have h1 := flatMap_at henc (List.replicate n y) (j / sz) y (by simp [hi]) (j % sz) hm
    rw [show j / sz * sz + j % sz = j by rw [Nat.mul_comm]; exact Nat.div_add_mod j sz] at h1
    rw [h1, ← hz]
    simp [madeCells, hj, hzs, hm]
  · rw [List.getElem?_eq_none (by rw [Array.length_toList, size_madeCells]; omega), List.getElem?_eq_none (by rw [flatMap_length henc]; simp; omega)]

/-- 'make([]T, n)' read as a list. -/
theorem wpList_makeL {P : Program} {ops : Array Oper} {rest : List Oper} {o : Oper} {a : Act} {Q : Exit → Act → World → Prop} {α : Type} {enc : α → List Value} {sz : Nat} (henc : ∀ y, (enc y).length = sz) (hsz : 0 < sz) (hgd : o.guard = none) (lo c : Operand) (t : TypeId) (hop : o.op = Op.makeSlice t lo c)
    {e : TypeId} {z : Value} {bytes : Nat} (ht : P.underlying t = some (.slice e)) (hinfo : (P.info? e).map (fun i => (i.zero, i.size, i.bytes)) = some (some z, sz, bytes)) (hby : bytes ≤ 256) {y : α} (hz : z.cells.toList = enc y)
    {W : World} {base n : Nat} (hl : a.eval lo = .int .i64 (n : Int)) (hc : a.eval c = .int .i64 (n : Int)) (hn : n ≤ 1000000000) (hbase : base ≤ W.heap.size)
    (h : ∀ w', Own enc sz e w' base (.slice (some ⟨W.heap.size, 0, none⟩) n n) (List.replicate n y) → W.grownBy w' none → wpList P ops Q rest (a.put o.dst (.slice (some ⟨W.heap.size, 0, none⟩) n n)) w') : wpList P ops Q (o :: rest) a W := by
  obtain ⟨i, hi, hz', hsize, hbytes⟩ := info_parts hinfo
  refine wpList_make_full W hgd lo c t hop base e i z sz ht hi hz' hsize .i64 .i64 (n : Int) (n : Int) n hl hc rfl rfl ?_ (by simp only [maxLen]; omega) hbase ?_
  · rw [hbytes]
    have : bytes * n ≤ 256 * n := Nat.mul_le_mul_right _ hby
    omega
  · intro w' h1 h2
    refine h w' ?_ h2
    show World.ownsRow _ _ _ _ _ (List.replicate n y).length _
    rw [List.length_replicate, ← madeCells_list henc hsz hz n]
    exact h1

theorem one1 (y : Int) : ∀ u ∈ enc1 y, u.oneCell' = true := by intro u hu; simp [enc1] at hu; subst hu; rfl
theorem one2 (y : Int × Int) : ∀ u ∈ enc2 y, u.oneCell' = true := by intro u hu; simp [enc2] at hu; rcases hu with rfl | rfl <;> rfl
theorem one3 (y : Int × Int × Int) : ∀ u ∈ enc3 y, u.oneCell' = true := by intro u hu; simp [enc3] at hu; rcases hu with rfl | rfl | rfl <;> rfl
theorem one4 (y : Int × Int × Int × Int) : ∀ u ∈ enc4 y, u.oneCell' = true := by intro u hu; simp [enc4] at hu; rcases hu with rfl | rfl | rfl | rfl <;> rfl

end Go.Proofs.YtkgofklpogdpmaaGreat

/- Words on rows of a call's own: how they read, how they lie apart. No program in sight. -/
namespace Go.Proofs.YtkgofklpogdpmaaGreat
open Go.RowKit

theorem Own.off {α : Type} {enc : α → List Value} {sz : Nat} {e : TypeId} {base : Nat} {w : World} {v : Value} {l : List α} (h : Own enc sz e w base v l) {R : Nat} (hR : R < base) : v.ownBlock = none ∨ v.ownBlock ≠ some R := by
  cases hv : v.ownBlock with
  | none => exact .inl rfl
  | some k => right; intro he; have := (h.lt k hv).1; cases he; omega
theorem Own.off' {α : Type} {enc : α → List Value} {sz : Nat} {e : TypeId} {base : Nat} {w : World} {v : Value} {l : List α} (h : Own enc sz e w base v l) {R : Nat} (hR : R < base) : v.ownBlock ≠ some R := fun he => by
  have := (h.lt R he).1; omega
theorem Own.sl {α : Type} {enc : α → List Value} {sz : Nat} {e : TypeId} {base : Nat} {w : World} {A : Option Addr} {n cap : Nat} {l : List α} (henc : ∀ a, (enc a).length = sz) (h : Own enc sz e w base (.slice A n cap) l) : Sl enc sz w w.heap.size A l := by
  obtain ⟨A', c', he, _, r⟩ := h.reads henc
  injection he with h1 h2 h3
  subst h1; exact r
theorem Own.drew {α : Type} {enc : α → List Value} {sz : Nat} {e : TypeId} {base : Nat} {w : World} {v : Value} {l : List α} (h : Own enc sz e w base v l) : Own enc sz e w.drew base v l := h
/-- Two rows, one made behind the other. -/
theorem Own.apart {α β : Type} {enc : α → List Value} {enc' : β → List Value} {sz sz' : Nat} {e e' : TypeId} {b b' : Nat} {w w' : World} {v v' : Value} {l : List α} {l' : List β}
    (h : Own enc sz e w b v l) (h' : Own enc' sz' e' w' b' v' l') (hlt : w.heap.size ≤ b' ∨ w'.heap.size ≤ b) : v.ownBlock = none ∨ v.ownBlock ≠ v'.ownBlock := by
  cases hv : v.ownBlock with
  | none => exact .inl rfl
  | some k =>
    right; intro he
    have h1 := h.lt k hv
    have h2 := h'.lt k he.symm
    omega
theorem only_grown {a b c : World} {row row' : Option Nat} (h : a.grownBy b row) (k : b.grownBy c row') (hr : ∀ g, row' = some g → a.heap.size ≤ g) : a.grownBy c row :=
  ⟨k.os.trans h.os, k.tape.trans h.tape, k.output.trans h.output, Nat.le_trans h.size k.size, fun i hi hne => (k.block i (Nat.lt_of_lt_of_le hi h.size) (fun e => by have := hr i e.symm; omega)).trans (h.block i hi hne)⟩
theorem only_row {α : Type} {enc : α → List Value} {sz : Nat} {e : TypeId} {base : Nat} {a b c W : World} {v : Value} {l : List α} {row : Option Nat} (h : a.grownBy b row) (ho : Own enc sz e W base v l) (hb : a.heap.size ≤ base) (hg : b.grownBy c v.ownBlock) : a.grownBy c row :=
  only_grown h hg fun g hv => by have := (ho.lt g hv).1; omega
theorem below_row {α : Type} {enc : α → List Value} {sz : Nat} {e : TypeId} {base B : Nat} {a b c W : World} {v : Value} {l : List α} (h : Below B a b) (ho : Own enc sz e W base v l) (hB : B ≤ base) (hb : B ≤ b.heap.size) (hg : b.grownBy c v.ownBlock) : Below B a c :=
  h.grown hg hb fun k hk => by have := (ho.lt k hk).1; omega

end Go.Proofs.YtkgofklpogdpmaaGreat

/- The walk's law for 'out = append(out, src...)' on a slice of the call's own, whatever the source: nil, empty or not. No program in sight. -/
namespace Go.Proofs.YtkgofklpogdpmaaGreat
open Go.RowKit

theorem run_append_nilsrc {P : Program} (w : World) (base : Nat) (t ty e : TypeId) (i : TypeInfo) (size : Nat) (ht : P.underlying t = some (.slice e)) (hi : P.info? e = some i)
    (v : Value) (n : Nat) (xs : List Value) (hown : w.ownsRow base e size v n xs) (c : Nat) : (Builtin.append_ #[t, t] ty #[v, .slice none 0 c]).run P w = .ok v w := by
  rcases hown.2 with ⟨rfl, rfl⟩ | ⟨g, cap, cur, rfl, _, _, hnc, _⟩
  · simp [Builtin.append_, run_underlying ht, sizeOf, typeInfo, hi, Builtin.lenOf, Builtin.firstCells]
  · simp [Builtin.append_, run_underlying ht, sizeOf, typeInfo, hi, Builtin.lenOf, Builtin.firstCells, hnc, storeCells]

theorem wpList_pushAny {P : Program} {ops : Array Oper} {rest : List Oper} {o : Oper} {a : Act} {Q : Exit → Act → World → Prop} {α : Type} {enc : α → List Value} {sz : Nat} (henc : ∀ y, (enc y).length = sz) (hone : ∀ y, ∀ u ∈ enc y, u.oneCell' = true) (hgd : o.guard = none) (s x : Operand) (t : TypeId)
    (ho : o.op = .call { callee := .builtin .append, args := #[s, x], argTypes := #[t, t] })
    {e : TypeId} {z : Value} {bytes : Nat} (ht : P.underlying t = some (.slice e)) (hinfo : (P.info? e).map (fun i => (i.zero, i.size, i.bytes)) = some (some z, sz, bytes)) (hzs : z.cells.size = sz) (hsz : 0 < sz) (hby : bytes ≤ 256)
    {v : Value} {l m : List α} {W : World} {base B : Nat} (hs : a.eval s = v) (hown : Own enc sz e W base v l) {A : Option Addr} {n c : Nat} (hn : n = m.length) (hx : a.eval x = .slice A n c) (hm : Sl enc sz W B A m)
    (hlen : l.length + m.length ≤ 1000000000) (hbase : base ≤ W.heap.size)
    (h : ∀ v' w', Own enc sz e w' base v' (l ++ m) → W.grownBy w' v.ownBlock → wpList P ops Q rest (a.put o.dst v') w') : wpList P ops Q (o :: rest) a W := by
  by_cases hne : m = []
  · subst hne
    subst hn
    obtain ⟨i, hi, hz, hsize, hbytes⟩ := info_parts hinfo
    rcases A with _ | ad
    · refine wpList_plain hgd fun K hK => ?_
      have hrun := run_append_nilsrc (P := P) W base t o.type e i sz ht hi v l.length (l.flatMap enc) hown c
      unfold Oper.wp execOp
      simp only [ho, resolve, invoke, builtin, Sem.run_bind, Sem.run_pure, Result.andThen_ok, List.map_toArray, List.map_cons, List.map_nil, hs, hx, List.length_nil, hrun]
      exact hK _ _ (h v W (by rw [List.append_nil]; exact hown) (World.grownBy.refl W _))
    · refine wpList_append_own_at (w := W) hgd s x t ho base e i z sz bytes ht hi hz hsize hbytes hzs hsz v l.length (l.flatMap enc) hs hown ad 0 c [] hx (by simp) (by simp) (by simp) (by simp only [maxLen]; omega) ?_ hbase ?_
      · have : (l.length + 0) * bytes ≤ (l.length + 0) * 256 := Nat.mul_le_mul_left _ hby
        simp only [List.length_nil] at hlen
        omega
      · intro v' w' h1 h2 _ _
        refine h v' w' ?_ h2
        rw [List.append_nil]
        have h9 : w'.ownsRow base e sz v' l.length (l.flatMap enc) := by simpa using h1
        exact h9
  · exact wpList_pushAll henc hone hgd s x t ho ht hinfo hzs hsz hby hs hown hn hx hm hne hlen hbase fun v' w' h1 h2 _ => h v' w' h1 h2

/-- The same at a step of a region that draws its order. -/
theorem step_pushAny {P : Program} {ops : Array Oper} {o : Oper} {a : Act} {Q : Exit → Act → World → Prop} {α : Type} {enc : α → List Value} {sz : Nat} (henc : ∀ y, (enc y).length = sz) (hone : ∀ y, ∀ u ∈ enc y, u.oneCell' = true) {K : Act → World → Prop} {E : Prop} (hgd : o.guard = none) (s x : Operand) (t : TypeId)
    (ho : o.op = .call { callee := .builtin .append, args := #[s, x], argTypes := #[t, t] })
    {e : TypeId} {z : Value} {bytes : Nat} (ht : P.underlying t = some (.slice e)) (hinfo : (P.info? e).map (fun i => (i.zero, i.size, i.bytes)) = some (some z, sz, bytes)) (hzs : z.cells.size = sz) (hsz : 0 < sz) (hby : bytes ≤ 256)
    {v : Value} {l m : List α} {W : World} {base B : Nat} (hs : a.eval s = v) (hown : Own enc sz e W base v l) {A : Option Addr} {n c : Nat} (hn : n = m.length) (hx : a.eval x = .slice A n c) (hm : Sl enc sz W B A m)
    (hlen : l.length + m.length ≤ 1000000000) (hbase : base ≤ W.heap.size)
    (h : ∀ v' w', Own enc sz e w' base v' (l ++ m) → W.grownBy w' v.ownBlock → K (a.put o.dst v') w') :
    if Region.wanted o (yielded ops a.tmps) = true then Oper.wp P o a W K Q else E := by
  subst hn
  have hw : Region.wanted o (yielded ops a.tmps) = true := by simp [Region.wanted, hgd]
  rw [if_pos hw]
  obtain ⟨i, hi, hz, hsize, hbytes⟩ := info_parts hinfo
  have key : ∃ v' w', (Builtin.append_ #[t, t] o.type #[v, .slice A m.length c]).run P W = .ok v' w' ∧ Own enc sz e w' base v' (l ++ m) ∧ W.grownBy w' v.ownBlock := by
    by_cases hne : m = []
    · subst hne
      rcases A with _ | ad
      · exact ⟨v, W, run_append_nilsrc W base t o.type e i sz ht hi v l.length (l.flatMap enc) hown c, by rw [List.append_nil]; exact hown, World.grownBy.refl W _⟩
      · obtain ⟨v', w', hr, h2, h3, _, _⟩ := run_append_own_at (P := P) W base t o.type e i z sz bytes ht hi hz hsize hbytes hzs hsz v l.length (l.flatMap enc) hown ad 0 c [] (by simp) (by simp) (by simp) (by simp only [List.length_nil] at hlen; simp only [maxLen]; omega)
          (by have : (l.length + 0) * bytes ≤ (l.length + 0) * 256 := Nat.mul_le_mul_left _ hby
              simp only [List.length_nil] at hlen
              omega) hbase
        refine ⟨v', w', hr, ?_, h3⟩
        rw [List.append_nil]
        have h9 : w'.ownsRow base e sz v' l.length (l.flatMap enc) := by simpa using h2
        exact h9
    · rcases hm with hm | ⟨b, off, rfl, _, hc⟩
      · exact absurd hm hne
      obtain ⟨v', w', hr, h2, h3, _, _⟩ := run_append_own_at (P := P) W base t o.type e i z sz bytes ht hi hz hsize hbytes hzs hsz v l.length (l.flatMap enc) hown ⟨b, off, none⟩ m.length c (m.flatMap enc) (flatMap_length henc m) (Sl.flat henc hsz hc)
        (fun u hu => by obtain ⟨y, _, hy⟩ := List.mem_flatMap.1 hu; exact hone y u hy) (by simp only [maxLen]; omega)
        (by have : (l.length + m.length) * bytes ≤ (l.length + m.length) * 256 := Nat.mul_le_mul_left _ hby
            omega) hbase
      refine ⟨v', w', hr, ?_, h3⟩
      show World.ownsRow _ _ _ _ _ (l ++ m).length _
      rw [List.flatMap_append, List.length_append]
      exact h2
  obtain ⟨v', w', hr, h2, h3⟩ := key
  unfold Oper.wp execOp
  simp only [ho, resolve, invoke, builtin, Sem.run_bind, Sem.run_pure, Result.andThen_ok, List.map_toArray, List.map_cons, List.map_nil, hs, hx, hr]
  exact h v' w' h2 h3

end Go.Proofs.YtkgofklpogdpmaaGreat

/- The plain law of rules, and how rules lie in memory. No program in sight. -/
namespace Go.Proofs.YtkgofklpogdpmaaGreat
open Go.RowKit

def vSpan (lo hi : Int) : Bool := withinB lo 0 1000000 && withinB hi lo 1000000
def spanK (S : List (Int × Int)) (k : Nat) : Bool := vSpan (g1 S k) (g2 S k)
def vGuard (lo hi : Int) (S : List (Int × Int)) (cn : Int) : Bool := (List.range S.length).all (spanK S) && (vSpan lo hi && (decide (S.length = 3) && withinB cn 0 9))
def vKind (kd vl : Int) : Bool := if kd = 1 then withinB vl 1 1000 else if kd = 2 then withinB vl 1 1000000 else if kd = 3 then withinB vl 2 20 else false
def vRule (n lv rk gp kd vl cp lo hi : Int) (S : List (Int × Int)) (cn : Int) : Bool :=
  withinB n 1 99 && (withinB lv 0 3 && (withinB rk 0 9 && (withinB gp (-1) 2 && (withinB cp 0 1000000 && (vGuard lo hi S cn && vKind kd vl)))))
def vR (r : ((Int × Int × Int × Int × Int × Int × Int) × (Int × Int) × (Option Addr × Nat × List (Int × Int)) × Int)) : Bool := vRule r.1.1 r.1.2.1 r.1.2.2.1 r.1.2.2.2.1 r.1.2.2.2.2.1 r.1.2.2.2.2.2.1 r.1.2.2.2.2.2.2 r.2.1.1 r.2.1.2 r.2.2.1.2.2 r.2.2.2
def numR (r : ((Int × Int × Int × Int × Int × Int × Int) × (Int × Int) × (Option Addr × Nat × List (Int × Int)) × Int)) : Int := r.1.1
def lvlR (r : ((Int × Int × Int × Int × Int × Int × Int) × (Int × Int) × (Option Addr × Nat × List (Int × Int)) × Int)) : Int := r.1.2.1
def rnkR (r : ((Int × Int × Int × Int × Int × Int × Int) × (Int × Int) × (Option Addr × Nat × List (Int × Int)) × Int)) : Int := r.1.2.2.1
def grpR (r : ((Int × Int × Int × Int × Int × Int × Int) × (Int × Int) × (Option Addr × Nat × List (Int × Int)) × Int)) : Int := r.1.2.2.2.1
def spnR (r : ((Int × Int × Int × Int × Int × Int × Int) × (Int × Int) × (Option Addr × Nat × List (Int × Int)) × Int)) : List (Int × Int) := r.2.2.1.2.2
/-- The rule at a place, and its number. -/
def atR (l : List ((Int × Int × Int × Int × Int × Int × Int) × (Int × Int) × (Option Addr × Nat × List (Int × Int)) × Int)) (k : Nat) : ((Int × Int × Int × Int × Int × Int × Int) × (Int × Int) × (Option Addr × Nat × List (Int × Int)) × Int) := l.getD k ((0, 0, 0, 0, 0, 0, 0), (0, 0), (none, 0, []), 0)
def nmK (l : List ((Int × Int × Int × Int × Int × Int × Int) × (Int × Int) × (Option Addr × Nat × List (Int × Int)) × Int)) (k : Nat) : Int := numR (atR l k)
/-- No rule before this one has its number. -/
def newK (l : List ((Int × Int × Int × Int × Int × Int × Int) × (Int × Int) × (Option Addr × Nat × List (Int × Int)) × Int)) (k : Nat) : Bool := (List.range k).all fun j => decide (nmK l j ≠ nmK l k)
def okK (l : List ((Int × Int × Int × Int × Int × Int × Int) × (Int × Int) × (Option Addr × Nat × List (Int × Int)) × Int)) (k : Nat) : Bool := vR (atR l k) && newK l k
def vRules (l : List ((Int × Int × Int × Int × Int × Int × Int) × (Int × Int) × (Option Addr × Nat × List (Int × Int)) × Int)) : Bool := (List.range l.length).all (okK l) && decide (l.length ≤ 6)
theorem atR_get {l : List ((Int × Int × Int × Int × Int × Int × Int) × (Int × Int) × (Option Addr × Nat × List (Int × Int)) × Int)} {k : Nat} (h : k < l.length) : l[k]? = some (atR l k) := by
  rw [List.getElem?_eq_getElem h]; simp [atR, List.getD, h]
theorem atR_eq {l : List ((Int × Int × Int × Int × Int × Int × Int) × (Int × Int) × (Option Addr × Nat × List (Int × Int)) × Int)} {k : Nat} (h : k < l.length) : l[k] = atR l k := by
  have := atR_get h; rw [List.getElem?_eq_getElem h] at this; exact Option.some.inj this
theorem atR_mem {l : List ((Int × Int × Int × Int × Int × Int × Int) × (Int × Int) × (Option Addr × Nat × List (Int × Int)) × Int)} {k : Nat} (h : k < l.length) : atR l k ∈ l := by rw [← atR_eq h]; exact List.getElem_mem h

/-! ### In memory -/
def encR (r : ((Int × Int × Int × Int × Int × Int × Int) × (Int × Int) × (Option Addr × Nat × List (Int × Int)) × Int)) : List Value := [.int .i64 r.1.1, .int .i64 r.1.2.1, .int .i64 r.1.2.2.1, .int .i64 r.1.2.2.2.1, .int .i64 r.1.2.2.2.2.1, .int .i64 r.1.2.2.2.2.2.1, .int .i64 r.1.2.2.2.2.2.2, .int .i64 r.2.1.1, .int .i64 r.2.1.2, .slice r.2.2.1.1 r.2.2.1.2.2.length r.2.2.1.2.1, .int .i64 r.2.2.2]
theorem lenR (r : ((Int × Int × Int × Int × Int × Int × Int) × (Int × Int) × (Option Addr × Nat × List (Int × Int)) × Int)) : (encR r).length = 11 := rfl
theorem oneR (r : ((Int × Int × Int × Int × Int × Int × Int) × (Int × Int) × (Option Addr × Nat × List (Int × Int)) × Int)) : ∀ u ∈ encR r, u.oneCell' = true := by intro u hu; simp [encR] at hu; rcases hu with rfl | rfl | rfl | rfl | rfl | rfl | rfl | rfl | rfl | rfl | rfl <;> rfl
/-- The spans of rules lie below a block. -/
def SpansIn (w : World) (B : Nat) (l : List ((Int × Int × Int × Int × Int × Int × Int) × (Int × Int) × (Option Addr × Nat × List (Int × Int)) × Int)) : Prop := ∀ r ∈ l, Sl enc2 2 w B r.2.2.1.1 r.2.2.1.2.2 ∧ r.2.2.1.2.2.length ≤ 4
theorem SpansIn.below {w w' : World} {B n : Nat} {l : List ((Int × Int × Int × Int × Int × Int × Int) × (Int × Int) × (Option Addr × Nat × List (Int × Int)) × Int)} (h : SpansIn w B l) (hb : Below n w w') (hn : B ≤ n) : SpansIn w' B l := fun r hr => ⟨(h r hr).1.below hb hn, (h r hr).2⟩
theorem SpansIn.more {w : World} {B B' : Nat} {l : List ((Int × Int × Int × Int × Int × Int × Int) × (Int × Int) × (Option Addr × Nat × List (Int × Int)) × Int)} (h : SpansIn w B l) (hB : B ≤ B') : SpansIn w B' l := fun r hr => ⟨(h r hr).1.more hB, (h r hr).2⟩
theorem SpansIn.alloc {w : World} {B : Nat} {l : List ((Int × Int × Int × Int × Int × Int × Int) × (Int × Int) × (Option Addr × Nat × List (Int × Int)) × Int)} (h : SpansIn w B l) (hB : B ≤ w.heap.size) (o : Obj) : SpansIn (w.alloc o) B l := fun r hr => ⟨(h r hr).1.alloc hB o, (h r hr).2⟩
theorem Sl.getR {w : World} {B : Nat} {A : Option Addr} {l : List ((Int × Int × Int × Int × Int × Int × Int) × (Int × Int) × (Option Addr × Nat × List (Int × Int)) × Int)} (h : Sl encR 11 w B A l) {k : Nat} {n lv rk gp kd vl cp lo hi cn : Int} {a : Option Addr} {c : Nat} {S : List (Int × Int)} (hk : l[k]? = some ((n, lv, rk, gp, kd, vl, cp), (lo, hi), (a, c, S), cn)) :
    ∃ b off, A = some ⟨b, off, none⟩ ∧ b < B ∧ w.cell? ⟨b, off + k * 11, none⟩ = some (.int .i64 n) ∧ w.cell? ⟨b, off + k * 11 + 1, none⟩ = some (.int .i64 lv) ∧ w.cell? ⟨b, off + k * 11 + 2, none⟩ = some (.int .i64 rk) ∧ w.cell? ⟨b, off + k * 11 + 3, none⟩ = some (.int .i64 gp)
      ∧ w.cell? ⟨b, off + k * 11 + 4, none⟩ = some (.int .i64 kd) ∧ w.cell? ⟨b, off + k * 11 + 5, none⟩ = some (.int .i64 vl) ∧ w.cell? ⟨b, off + k * 11 + 6, none⟩ = some (.int .i64 cp) ∧ w.cell? ⟨b, off + k * 11 + 7, none⟩ = some (.int .i64 lo) ∧ w.cell? ⟨b, off + k * 11 + 8, none⟩ = some (.int .i64 hi)
      ∧ w.cell? ⟨b, off + k * 11 + 9, none⟩ = some (.slice a S.length c) ∧ w.cell? ⟨b, off + k * 11 + 10, none⟩ = some (.int .i64 cn) := by
  obtain ⟨b, off, h1, h2, h3⟩ := h.at_ hk
  refine ⟨b, off, h1, h2, by simpa using h3 0 _ rfl, ?_, ?_, ?_, ?_, ?_, ?_, ?_, ?_, ?_, ?_⟩
  · simpa [Nat.add_assoc] using h3 1 _ rfl
  · simpa [Nat.add_assoc] using h3 2 _ rfl
  · simpa [Nat.add_assoc] using h3 3 _ rfl
  · simpa [Nat.add_assoc] using h3 4 _ rfl
  · simpa [Nat.add_assoc] using h3 5 _ rfl
  · simpa [Nat.add_assoc] using h3 6 _ rfl
  · simpa [Nat.add_assoc] using h3 7 _ rfl
  · simpa [Nat.add_assoc] using h3 8 _ rfl
  · simpa [Nat.add_assoc] using h3 9 _ rfl
  · simpa [Nat.add_assoc] using h3 10 _ rfl

theorem vGuard_no1 {lo hi cn : Int} {S : List (Int × Int)} {k : Nat} (h : k < S.length) (hs : spanK S k = false) : vGuard lo hi S cn = false := by
  unfold vGuard; rw [range_all_no h hs]; rfl
theorem vGuard_rest {lo hi cn : Int} {S : List (Int × Int)} (h : (List.range S.length).all (spanK S) = true) : vGuard lo hi S cn = (vSpan lo hi && (decide (S.length = 3) && withinB cn 0 9)) := by
  unfold vGuard; rw [h]; rfl
/-- What a guard that is valid is. -/
theorem vGuard_iff {lo hi cn : Int} {S : List (Int × Int)} : vGuard lo hi S cn = true ↔ (∀ k, k < S.length → vSpan (g1 S k) (g2 S k) = true) ∧ vSpan lo hi = true ∧ S.length = 3 ∧ 0 ≤ cn ∧ cn ≤ 9 := by
  unfold vGuard
  simp only [Bool.and_eq_true, List.all_eq_true, List.mem_range, decide_eq_true_eq, withinB_true]
  exact Iff.rfl
theorem vSpan_iff {lo hi : Int} : vSpan lo hi = true ↔ 0 ≤ lo ∧ lo ≤ hi ∧ hi ≤ 1000000 := by
  unfold vSpan
  rw [Bool.and_eq_true, withinB_true, withinB_true]
  omega

end Go.Proofs.YtkgofklpogdpmaaGreat

/- Contracts: valid spans, guards and rules, as the program does it. -/
namespace Go.Proofs.YtkgofklpogdpmaaGreat
open Go.RowKit

theorem money_yes {n : Int} (h : withinB n 0 1000000 = true) (w : World) :
    Calls Tryz.prog 82 #[.int .i64 n] w fun e w' => e = .returned (.bool true) ∧ w = w' := by
  have := money_any n w; rwa [h] at this
theorem money_no {n : Int} (h : withinB n 0 1000000 = false) (w : World) :
    Calls Tryz.prog 82 #[.int .i64 n] w fun e w' => e = .returned (.bool false) ∧ w = w' := by
  have := money_any n w; rwa [h] at this

set_option maxHeartbeats 800000 in
theorem validSpan_any (lo hi : Int) (w : World) :
    Calls Tryz.prog 81 #[.agg #[.int .i64 lo, .int .i64 hi]] w fun e w' => e = .returned (.bool (vSpan lo hi)) ∧ Below w.heap.size w w' := by
  by_cases h1 : withinB lo 0 1000000 = true
  · go_enter Tryz.func81, Tryz.ntmps81
    go_wp2_with (first | (go_at_call 82; refine (money_any _ _).mono ?_; rintro e w' ⟨rfl, rfl⟩) | (go_at_call 64; refine (within_any _ _ _ _).mono ?_; rintro e w' ⟨rfl, rfl⟩))
    go_ret
    refine ⟨ret_bool (by unfold vSpan; rw [h1]; rfl), ?_⟩
    repeat (first | exact Below.refl _ _ | (refine Below.alloc ?_ (by (try simp) <;> omega) _) | (refine Below.setCell ?_ (by (try simp) <;> omega) _) | (refine Below.drew ?_) | (refine below_drewN ?_ _) | (refine Below.trans ?_ (Below.mono (by assumption) (by (try simp) <;> omega))))
  · have h2 : withinB lo 0 1000000 = false := by simpa using h1
    clear h1
    go_enter Tryz.func81, Tryz.ntmps81
    go_wp2_with (first | (go_at_call 82; refine (money_any _ _).mono ?_; rintro e w' ⟨rfl, rfl⟩) | (go_at_call 64; refine (within_any _ _ _ _).mono ?_; rintro e w' ⟨rfl, rfl⟩))
    go_ret
    refine ⟨ret_bool (by unfold vSpan; rw [h2]; rfl), ?_⟩
    repeat (first | exact Below.refl _ _ | (refine Below.alloc ?_ (by (try simp) <;> omega) _) | (refine Below.setCell ?_ (by (try simp) <;> omega) _) | (refine Below.drew ?_) | (refine below_drewN ?_ _) | (refine Below.trans ?_ (Below.mono (by assumption) (by (try simp) <;> omega))))

set_option maxHeartbeats 1600000 in
theorem validGuard_any (lo hi cn : Int) (a : Option Addr) (C : Nat) (S : List (Int × Int)) (w : World) (hS : Sl enc2 2 w w.heap.size a S) (hl : S.length ≤ 1000) :
    Calls Tryz.prog 45 #[.agg #[.int .i64 lo, .int .i64 hi, .slice a S.length C, .int .i64 cn]] w fun e w' => e = .returned (.bool (vGuard lo hi S cn)) ∧ Below w.heap.size w w' := by
  have HB := hid ((Below.refl w.heap.size w).alloc (Nat.le_refl _) (.cells #[.int .i64 lo, .int .i64 hi, .slice a S.length C, .int .i64 cn] 52))
  have HK := hid (Blk.new w 52 #[.int .i64 lo, .int .i64 hi, .slice a S.length C, .int .i64 cn])
  obtain ⟨w0, hw0⟩ : ∃ x, x = w.alloc (.cells #[.int .i64 lo, .int .i64 hi, .slice a S.length C, .int .i64 cn] 52) := ⟨_, rfl⟩
  have hz0 : w.heap.size < w0.heap.size := by rw [hw0]; simp
  have HW := hid hw0
  rw [← hw0] at HB HK
  clear hw0
  have hS0 : Sl enc2 2 w0 w.heap.size a S := hS.below HB.out (Nat.le_refl _)
  clear hS
  go_enter Tryz.func45, Tryz.ntmps45
  go_wp2_with fail
  rw [← HW.out]
  go_loopw [8] (fun i wr => ∃ k : Nat, k ≤ S.length ∧ i = .int .i64 k ∧ (List.range k).all (spanK S) = true ∧ Below w0.heap.size w0 wr) (fun i _ => S.length - (intOf i).toNat)
  case atStart => exact ⟨0, Nat.zero_le _, rfl, rfl, Below.refl _ _⟩
  case round =>
    obtain ⟨k, hk, rfl, hall, hb⟩ := hrel
    have HA := hid hall
    have hsz := hb.size
    have HB2 := hid hb
    clear hall
    by_cases hlt : k < S.length
    · obtain ⟨b, off, rfl, hbb, c1, c2⟩ := hS0.get2 hlt
      have hgs : spanK S k = vSpan (g1 S k) (g2 S k) := rfl
      obtain ⟨x, hx⟩ : ∃ x, g1 S k = x := ⟨_, rfl⟩
      obtain ⟨y, hy⟩ : ∃ x, g2 S k = x := ⟨_, rfl⟩
      rw [hx, hy] at hgs
      rw [hx] at c1
      rw [hy] at c2
      have HGS := hid hgs
      have d1 : wr.cell? ⟨b, off + k * 2, none⟩ = some (.int .i64 x) := (hb.cell (by simp; omega)).trans c1
      have d2 : wr.cell? ⟨b, off + k * 2 + 1, none⟩ = some (.int .i64 y) := (hb.cell (by simp; omega)).trans c2
      have hbw : b < wr.heap.size := by omega
      clear c1 c2 hx hy hgs hb
      by_cases hv : vSpan x y = true
      · have HV := hid hv
        clear hv
        go_wp2_with fail
        refine (validSpan_any x y _).mono ?_
        rintro e w1 ⟨rfl, b1⟩
        rw [HV.out]
        have B1 := hid ((HB2.out.alloc hsz (.cells #[.int .i64 x, .int .i64 y] 49)).trans (b1.mono (by simp; omega)))
        clear b1
        go_wp2
        go_roundw
        case rel => exact ⟨k + 1, by omega, by go_num, range_all_succ HA.out (by rw [HGS.out, HV.out]), B1.out⟩
        case measure => simp [intOf]; omega
      · have HV := hid (show vSpan x y = false by simpa using hv)
        clear hv
        go_wp2_with fail
        refine (validSpan_any x y _).mono ?_
        rintro e w1 ⟨rfl, b1⟩
        rw [HV.out]
        have B1 := hid (HB.out.trans (((HB2.out.alloc hsz (.cells #[.int .i64 x, .int .i64 y] 49)).trans (b1.mono (by simp; omega))).mono (by omega)))
        have HNO := hid (vGuard_no1 (lo := lo) (hi := hi) (cn := cn) hlt (by rw [HGS.out, HV.out]))
        clear b1
        go_wp2
        go_ret
        exact ⟨ret_bool HNO.out.symm, B1.out⟩
    · have hkl : k = S.length := by omega
      subst hkl
      have HR := hid (vGuard_rest (lo := lo) (hi := hi) (cn := cn) HA.out)
      have K := HK.out.below hb hz0
      have k0 : wr.cell? ⟨w.heap.size, 0, none⟩ = some (.int .i64 lo) := K.cell 0
      have k1 : wr.cell? ⟨w.heap.size, 1, none⟩ = some (.int .i64 hi) := K.cell 1
      have k2 : wr.cell? ⟨w.heap.size, 2, none⟩ = some (.slice a S.length C) := K.cell 2
      have k3 : wr.cell? ⟨w.heap.size, 3, none⟩ = some (.int .i64 cn) := K.cell 3
      have hzr : w.heap.size < wr.heap.size := by omega
      have B0 := hid (HB.out.trans (hb.mono (by omega)))
      clear hb
      by_cases hv : vSpan lo hi = true
      · have HV := hid hv
        clear hv
        by_cases h3 : S.length = 3
        · have e3 : ((S.length : Int) == 3) = true := by rw [h3]; rfl
          have H3 := hid h3
          clear h3
          go_wp2_with fail
          refine (validSpan_any lo hi _).mono ?_
          rintro e w1 ⟨rfl, b1⟩
          rw [HV.out]
          have K1 := K.below b1 hzr
          have k2' : w1.cell? ⟨w.heap.size, 2, none⟩ = some (.slice a S.length C) := K1.cell 2
          have k3' : w1.cell? ⟨w.heap.size, 3, none⟩ = some (.int .i64 cn) := K1.cell 3
          have B1 := hid (B0.out.trans (b1.mono (by omega)))
          clear b1 K K1 k0 k1 k2 k3
          go_wp2_with (go_at_call 64; refine (within_any _ _ _ _).mono ?_; rintro e w' ⟨rfl, rfl⟩)
          go_ret
          exact ⟨ret_bool (by rw [HR.out, HV.out, H3.out]; rfl), B1.out⟩
        · have e3 : ((S.length : Int) == 3) = false := beq_eq_false_iff_ne.2 (by omega)
          have H3 := hid (show decide (S.length = 3) = false from decide_eq_false h3)
          clear h3
          go_wp2_with fail
          refine (validSpan_any lo hi _).mono ?_
          rintro e w1 ⟨rfl, b1⟩
          rw [HV.out]
          have K1 := K.below b1 hzr
          have k2' : w1.cell? ⟨w.heap.size, 2, none⟩ = some (.slice a S.length C) := K1.cell 2
          have B1 := hid (B0.out.trans (b1.mono (by omega)))
          clear b1 K K1 k0 k1 k2 k3
          go_wp2
          go_ret
          exact ⟨ret_bool (by rw [HR.out, HV.out, H3.out]; rfl), B1.out⟩
      · have HV := hid (show vSpan lo hi = false by simpa using hv)
        clear hv
        go_wp2_with fail
        refine (validSpan_any lo hi _).mono ?_
        rintro e w1 ⟨rfl, b1⟩
        rw [HV.out]
        have B1 := hid (B0.out.trans (b1.mono (by omega)))
        clear b1 K k0 k1 k2 k3
        go_wp2
        go_ret
        exact ⟨ret_bool (by rw [HR.out, HV.out]; rfl), B1.out⟩

set_option maxHeartbeats 3200000 in
set_option maxRecDepth 100000 in
theorem validRule_any (n lv rk gp kd vl cp lo hi cn : Int) (a : Option Addr) (C : Nat) (S : List (Int × Int)) (w : World) (hS : Sl enc2 2 w w.heap.size a S) (hl : S.length ≤ 1000) :
    Calls Tryz.prog 49 #[.agg #[.int .i64 n, .int .i64 lv, .int .i64 rk, .int .i64 gp, .int .i64 kd, .int .i64 vl, .int .i64 cp, .int .i64 lo, .int .i64 hi, .slice a S.length C, .int .i64 cn]] w fun e w' => e = .returned (.bool (vRule n lv rk gp kd vl cp lo hi S cn)) ∧ Below w.heap.size w w' := by
  have hS0 : Sl enc2 2 (w.alloc (.cells #[.int .i64 n, .int .i64 lv, .int .i64 rk, .int .i64 gp, .int .i64 kd, .int .i64 vl, .int .i64 cp, .int .i64 lo, .int .i64 hi, .slice a S.length C, .int .i64 cn] 54)) (w.alloc (.cells #[.int .i64 n, .int .i64 lv, .int .i64 rk, .int .i64 gp, .int .i64 kd, .int .i64 vl, .int .i64 cp, .int .i64 lo, .int .i64 hi, .slice a S.length C, .int .i64 cn] 54)).heap.size a S := (hS.alloc (Nat.le_refl _) _).more (by simp)
  have HB := hid ((Below.refl w.heap.size w).alloc (Nat.le_refl _) (.cells #[.int .i64 n, .int .i64 lv, .int .i64 rk, .int .i64 gp, .int .i64 kd, .int .i64 vl, .int .i64 cp, .int .i64 lo, .int .i64 hi, .slice a S.length C, .int .i64 cn] 54))
  have HK := hid (Blk.new w 54 #[.int .i64 n, .int .i64 lv, .int .i64 rk, .int .i64 gp, .int .i64 kd, .int .i64 vl, .int .i64 cp, .int .i64 lo, .int .i64 hi, .slice a S.length C, .int .i64 cn])
  by_cases h0 : withinB n 1 99 = true
  · skip
    by_cases h1 : withinB lv 0 3 = true
    · skip
      by_cases h2 : withinB rk 0 9 = true
      · skip
        by_cases h3 : withinB gp (-1) 2 = true
        · skip
          by_cases h4 : withinB cp 0 1000000 = true
          · skip
            by_cases hg : vGuard lo hi S cn = true
            · have HG := hid hg
              clear hg
              have HV := hid (show vRule n lv rk gp kd vl cp lo hi S cn = vKind kd vl by unfold vRule; rw [h0, h1, h2, h3, h4, HG.out]; rfl)
              by_cases hk1 : kd = 1
              · have HKD := hid (show vKind kd vl = withinB vl 1 1000 by unfold vKind; rw [if_pos hk1])
                have y1 : (kd == 1) = true := by rw [hk1]; rfl
                clear hk1
                go_enter Tryz.func49, Tryz.ntmps49
                go_wp2_with (first | (go_at_call 64; (first | (refine (within_yes (by assumption) _).mono ?_) | (refine (within_no (by assumption) _).mono ?_)); rintro e w' ⟨rfl, rfl⟩) | (go_at_call 82; (first | (refine (money_yes (by assumption) _).mono ?_) | (refine (money_no (by assumption) _).mono ?_)); rintro e w' ⟨rfl, rfl⟩))
                refine (validGuard_any lo hi cn a C S _ hS0 hl).mono ?_; rintro e w1 ⟨rfl, b1⟩
                rw [HG.out]
                have K1 := HK.out.below b1 (by simp)
                have k4 := K1.cell 4
                have k5 := K1.cell 5
                have k4' : w1.cell? ⟨w.heap.size, 4, none⟩ = some (.int .i64 kd) := k4
                have k5' : w1.cell? ⟨w.heap.size, 5, none⟩ = some (.int .i64 vl) := k5
                have B1 := hid (HB.out.trans (b1.mono (by simp)))
                clear k4 k5 K1 b1 hS0
                go_wp2_with (go_at_call 64; refine (within_any _ _ _ _).mono ?_; rintro e w' ⟨rfl, rfl⟩)
                go_ret
                exact ⟨ret_bool (by rw [HV.out, HKD.out]), B1.out⟩
              by_cases hk2 : kd = 2
              · have HKD := hid (show vKind kd vl = withinB vl 1 1000000 by unfold vKind; rw [if_neg hk1]; rw [if_pos hk2])
                have n1 : (kd == 1) = false := beq_eq_false_iff_ne.2 hk1
                have y2 : (kd == 2) = true := by rw [hk2]; rfl
                clear hk1 hk2
                go_enter Tryz.func49, Tryz.ntmps49
                go_wp2_with (first | (go_at_call 64; (first | (refine (within_yes (by assumption) _).mono ?_) | (refine (within_no (by assumption) _).mono ?_)); rintro e w' ⟨rfl, rfl⟩) | (go_at_call 82; (first | (refine (money_yes (by assumption) _).mono ?_) | (refine (money_no (by assumption) _).mono ?_)); rintro e w' ⟨rfl, rfl⟩))
                refine (validGuard_any lo hi cn a C S _ hS0 hl).mono ?_; rintro e w1 ⟨rfl, b1⟩
                rw [HG.out]
                have K1 := HK.out.below b1 (by simp)
                have k4 := K1.cell 4
                have k5 := K1.cell 5
                have k4' : w1.cell? ⟨w.heap.size, 4, none⟩ = some (.int .i64 kd) := k4
                have k5' : w1.cell? ⟨w.heap.size, 5, none⟩ = some (.int .i64 vl) := k5
                have B1 := hid (HB.out.trans (b1.mono (by simp)))
                clear k4 k5 K1 b1 hS0
                go_wp2_with (go_at_call 64; refine (within_any _ _ _ _).mono ?_; rintro e w' ⟨rfl, rfl⟩)
                go_ret
                exact ⟨ret_bool (by rw [HV.out, HKD.out]), B1.out⟩
              by_cases hk3 : kd = 3
              · have HKD := hid (show vKind kd vl = withinB vl 2 20 by unfold vKind; rw [if_neg hk1]; rw [if_neg hk2]; rw [if_pos hk3])
                have n1 : (kd == 1) = false := beq_eq_false_iff_ne.2 hk1
                have n2 : (kd == 2) = false := beq_eq_false_iff_ne.2 hk2
                have y3 : (kd == 3) = true := by rw [hk3]; rfl
                clear hk1 hk2 hk3
                go_enter Tryz.func49, Tryz.ntmps49
                go_wp2_with (first | (go_at_call 64; (first | (refine (within_yes (by assumption) _).mono ?_) | (refine (within_no (by assumption) _).mono ?_)); rintro e w' ⟨rfl, rfl⟩) | (go_at_call 82; (first | (refine (money_yes (by assumption) _).mono ?_) | (refine (money_no (by assumption) _).mono ?_)); rintro e w' ⟨rfl, rfl⟩))
                refine (validGuard_any lo hi cn a C S _ hS0 hl).mono ?_; rintro e w1 ⟨rfl, b1⟩
                rw [HG.out]
                have K1 := HK.out.below b1 (by simp)
                have k4 := K1.cell 4
                have k5 := K1.cell 5
                have k4' : w1.cell? ⟨w.heap.size, 4, none⟩ = some (.int .i64 kd) := k4
                have k5' : w1.cell? ⟨w.heap.size, 5, none⟩ = some (.int .i64 vl) := k5
                have B1 := hid (HB.out.trans (b1.mono (by simp)))
                clear k4 k5 K1 b1 hS0
                go_wp2_with (go_at_call 64; refine (within_any _ _ _ _).mono ?_; rintro e w' ⟨rfl, rfl⟩)
                go_ret
                exact ⟨ret_bool (by rw [HV.out, HKD.out]), B1.out⟩
              have HKD := hid (show vKind kd vl = false by unfold vKind; rw [if_neg hk1, if_neg hk2, if_neg hk3])
              have n1 : (kd == 1) = false := beq_eq_false_iff_ne.2 hk1
              have n2 : (kd == 2) = false := beq_eq_false_iff_ne.2 hk2
              have n3 : (kd == 3) = false := beq_eq_false_iff_ne.2 hk3
              clear hk1 hk2 hk3
              go_enter Tryz.func49, Tryz.ntmps49
              go_wp2_with (first | (go_at_call 64; (first | (refine (within_yes (by assumption) _).mono ?_) | (refine (within_no (by assumption) _).mono ?_)); rintro e w' ⟨rfl, rfl⟩) | (go_at_call 82; (first | (refine (money_yes (by assumption) _).mono ?_) | (refine (money_no (by assumption) _).mono ?_)); rintro e w' ⟨rfl, rfl⟩))
              refine (validGuard_any lo hi cn a C S _ hS0 hl).mono ?_; rintro e w1 ⟨rfl, b1⟩
              rw [HG.out]
              have K1 := HK.out.below b1 (by simp)
              have k4 := K1.cell 4
              have k5 := K1.cell 5
              have k4' : w1.cell? ⟨w.heap.size, 4, none⟩ = some (.int .i64 kd) := k4
              have k5' : w1.cell? ⟨w.heap.size, 5, none⟩ = some (.int .i64 vl) := k5
              have B1 := hid (HB.out.trans (b1.mono (by simp)))
              clear k4 k5 K1 b1 hS0
              go_wp2
              go_ret
              exact ⟨ret_bool (by rw [HV.out, HKD.out]), B1.out⟩
            · have HG := hid (show vGuard lo hi S cn = false by simpa using hg)
              clear hg
              have HV := hid (show vRule n lv rk gp kd vl cp lo hi S cn = false by unfold vRule; rw [HG.out]; simp)
              go_enter Tryz.func49, Tryz.ntmps49
              go_wp2_with (first | (go_at_call 64; (first | (refine (within_yes (by assumption) _).mono ?_) | (refine (within_no (by assumption) _).mono ?_)); rintro e w' ⟨rfl, rfl⟩) | (go_at_call 82; (first | (refine (money_yes (by assumption) _).mono ?_) | (refine (money_no (by assumption) _).mono ?_)); rintro e w' ⟨rfl, rfl⟩))
              refine (validGuard_any lo hi cn a C S _ hS0 hl).mono ?_; rintro e w1 ⟨rfl, b1⟩
              rw [HG.out]
              have B1 := hid (HB.out.trans (b1.mono (by simp)))
              clear b1 hS0
              go_wp2
              go_ret
              exact ⟨ret_bool HV.out.symm, B1.out⟩
          · have h4n : withinB cp 0 1000000 = false := by simpa using h4
            have HV := hid (show vRule n lv rk gp kd vl cp lo hi S cn = false by unfold vRule; rw [h4n]; simp)
            clear h4 hS0
            go_enter Tryz.func49, Tryz.ntmps49
            go_wp2_with (first | (go_at_call 64; (first | (refine (within_yes (by assumption) _).mono ?_) | (refine (within_no (by assumption) _).mono ?_)); rintro e w' ⟨rfl, rfl⟩) | (go_at_call 82; (first | (refine (money_yes (by assumption) _).mono ?_) | (refine (money_no (by assumption) _).mono ?_)); rintro e w' ⟨rfl, rfl⟩))
            go_ret
            exact ⟨ret_bool HV.out.symm, HB.out⟩
        · have h3n : withinB gp (-1) 2 = false := by simpa using h3
          have HV := hid (show vRule n lv rk gp kd vl cp lo hi S cn = false by unfold vRule; rw [h3n]; simp)
          clear h3 hS0
          go_enter Tryz.func49, Tryz.ntmps49
          go_wp2_with (first | (go_at_call 64; (first | (refine (within_yes (by assumption) _).mono ?_) | (refine (within_no (by assumption) _).mono ?_)); rintro e w' ⟨rfl, rfl⟩) | (go_at_call 82; (first | (refine (money_yes (by assumption) _).mono ?_) | (refine (money_no (by assumption) _).mono ?_)); rintro e w' ⟨rfl, rfl⟩))
          go_ret
          exact ⟨ret_bool HV.out.symm, HB.out⟩
      · have h2n : withinB rk 0 9 = false := by simpa using h2
        have HV := hid (show vRule n lv rk gp kd vl cp lo hi S cn = false by unfold vRule; rw [h2n]; simp)
        clear h2 hS0
        go_enter Tryz.func49, Tryz.ntmps49
        go_wp2_with (first | (go_at_call 64; (first | (refine (within_yes (by assumption) _).mono ?_) | (refine (within_no (by assumption) _).mono ?_)); rintro e w' ⟨rfl, rfl⟩) | (go_at_call 82; (first | (refine (money_yes (by assumption) _).mono ?_) | (refine (money_no (by assumption) _).mono ?_)); rintro e w' ⟨rfl, rfl⟩))
        go_ret
        exact ⟨ret_bool HV.out.symm, HB.out⟩
    · have h1n : withinB lv 0 3 = false := by simpa using h1
      have HV := hid (show vRule n lv rk gp kd vl cp lo hi S cn = false by unfold vRule; rw [h1n]; simp)
      clear h1 hS0
      go_enter Tryz.func49, Tryz.ntmps49
      go_wp2_with (first | (go_at_call 64; (first | (refine (within_yes (by assumption) _).mono ?_) | (refine (within_no (by assumption) _).mono ?_)); rintro e w' ⟨rfl, rfl⟩) | (go_at_call 82; (first | (refine (money_yes (by assumption) _).mono ?_) | (refine (money_no (by assumption) _).mono ?_)); rintro e w' ⟨rfl, rfl⟩))
      go_ret
      exact ⟨ret_bool HV.out.symm, HB.out⟩
  · have h0n : withinB n 1 99 = false := by simpa using h0
    have HV := hid (show vRule n lv rk gp kd vl cp lo hi S cn = false by unfold vRule; rw [h0n]; simp)
    clear h0 hS0
    go_enter Tryz.func49, Tryz.ntmps49
    go_wp2_with (first | (go_at_call 64; (first | (refine (within_yes (by assumption) _).mono ?_) | (refine (within_no (by assumption) _).mono ?_)); rintro e w' ⟨rfl, rfl⟩) | (go_at_call 82; (first | (refine (money_yes (by assumption) _).mono ?_) | (refine (money_no (by assumption) _).mono ?_)); rintro e w' ⟨rfl, rfl⟩))
    go_ret
    exact ⟨ret_bool HV.out.symm, HB.out⟩

end Go.Proofs.YtkgofklpogdpmaaGreat

/- Contract: valid lists of rules, as the program does it. -/
namespace Go.Proofs.YtkgofklpogdpmaaGreat
open Go.RowKit

/-- How the list goes on. -/
theorem vRules_bad {l : List ((Int × Int × Int × Int × Int × Int × Int) × (Int × Int) × (Option Addr × Nat × List (Int × Int)) × Int)} {k : Nat} (h : k < l.length) (ho : okK l k = false) : vRules l = false := by
  unfold vRules; rw [range_all_no h ho]; rfl
theorem vRules_rest {l : List ((Int × Int × Int × Int × Int × Int × Int) × (Int × Int) × (Option Addr × Nat × List (Int × Int)) × Int)} (h : (List.range l.length).all (okK l) = true) : vRules l = decide (l.length ≤ 6) := by
  unfold vRules; rw [h]; rfl
theorem vRules_at {l : List ((Int × Int × Int × Int × Int × Int × Int) × (Int × Int) × (Option Addr × Nat × List (Int × Int)) × Int)} (h : vRules l = true) {k : Nat} (hk : k < l.length) : vR (atR l k) = true := by
  unfold vRules at h
  rw [Bool.and_eq_true, List.all_eq_true] at h
  have := h.1 k (List.mem_range.2 hk)
  unfold okK at this
  rw [Bool.and_eq_true] at this
  exact this.1
theorem vRules_new {l : List ((Int × Int × Int × Int × Int × Int × Int) × (Int × Int) × (Option Addr × Nat × List (Int × Int)) × Int)} (h : vRules l = true) {j k : Nat} (hj : j < k) (hk : k < l.length) : nmK l j ≠ nmK l k := by
  unfold vRules at h
  rw [Bool.and_eq_true, List.all_eq_true] at h
  have := h.1 k (List.mem_range.2 hk)
  unfold okK newK at this
  rw [Bool.and_eq_true, List.all_eq_true] at this
  simpa using this.2 j (List.mem_range.2 hj)
theorem vRules_len {l : List ((Int × Int × Int × Int × Int × Int × Int) × (Int × Int) × (Option Addr × Nat × List (Int × Int)) × Int)} (h : vRules l = true) : l.length ≤ 6 := by
  unfold vRules at h
  rw [Bool.and_eq_true, decide_eq_true_eq] at h
  exact h.2

set_option maxHeartbeats 3200000 in
set_option maxRecDepth 100000 in
theorem validRules_any (l : List ((Int × Int × Int × Int × Int × Int × Int) × (Int × Int) × (Option Addr × Nat × List (Int × Int)) × Int)) (A : Option Addr) (cap : Nat) (w : World) (hL : Sl encR 11 w w.heap.size A l) (hS : SpansIn w w.heap.size l) (hl : l.length ≤ 1000) (hcap : l.length ≤ cap) (hcm : cap ≤ 9223372036854775807) :
    Calls Tryz.prog 39 #[.slice A l.length cap] w fun e w' => e = .returned (.bool (vRules l)) ∧ Below w.heap.size w w' := by
  go_enter Tryz.func39, Tryz.ntmps39
  go_wp2_with fail
  go_loopw [9] (fun i wr => ∃ k : Nat, k ≤ l.length ∧ i = .int .i64 k ∧ (List.range k).all (okK l) = true ∧ Below w.heap.size w wr) (fun i _ => l.length - (intOf i).toNat)
  case atStart => exact ⟨0, Nat.zero_le _, rfl, rfl, Below.refl _ _⟩
  case round =>
    obtain ⟨k, hk, rfl, hall, hb⟩ := hrel
    have HA := hid hall
    have hsz := hb.size
    have HB := hid hb
    clear hall
    by_cases hlt : k < l.length
    · obtain ⟨wo, rfl⟩ : ∃ wo : World, wo = wr := ⟨_, rfl⟩
      obtain ⟨⟨⟨n, lv, rk, gp, kd, vl, cp⟩, ⟨lo, hi⟩, ⟨a, C, S⟩, cn⟩, hx⟩ : ∃ x, atR l k = x := ⟨_, rfl⟩
      have hget := atR_get hlt
      rw [hx] at hget
      obtain ⟨b, off, rfl, hbb, c0, c1, c2, c3, c4, c5, c6, c7, c8, c9, c10⟩ := hL.getR hget
      have hsp := hS _ (atR_mem hlt)
      rw [hx] at hsp
      obtain ⟨hs1, hs2⟩ := hsp
      have HX := hid hx
      have d0 : wo.cell? ⟨b, off + k * 11, none⟩ = some (.int .i64 n) := (hb.cell (by simp; omega)).trans c0
      have d1 : wo.cell? ⟨b, off + k * 11 + 1, none⟩ = some (.int .i64 lv) := (hb.cell (by simp; omega)).trans c1
      have d2 : wo.cell? ⟨b, off + k * 11 + 2, none⟩ = some (.int .i64 rk) := (hb.cell (by simp; omega)).trans c2
      have d3 : wo.cell? ⟨b, off + k * 11 + 3, none⟩ = some (.int .i64 gp) := (hb.cell (by simp; omega)).trans c3
      have d4 : wo.cell? ⟨b, off + k * 11 + 4, none⟩ = some (.int .i64 kd) := (hb.cell (by simp; omega)).trans c4
      have d5 : wo.cell? ⟨b, off + k * 11 + 5, none⟩ = some (.int .i64 vl) := (hb.cell (by simp; omega)).trans c5
      have d6 : wo.cell? ⟨b, off + k * 11 + 6, none⟩ = some (.int .i64 cp) := (hb.cell (by simp; omega)).trans c6
      have d7 : wo.cell? ⟨b, off + k * 11 + 7, none⟩ = some (.int .i64 lo) := (hb.cell (by simp; omega)).trans c7
      have d8 : wo.cell? ⟨b, off + k * 11 + 8, none⟩ = some (.int .i64 hi) := (hb.cell (by simp; omega)).trans c8
      have d9 : wo.cell? ⟨b, off + k * 11 + 9, none⟩ = some (.slice a S.length C) := (hb.cell (by simp; omega)).trans c9
      have d10 : wo.cell? ⟨b, off + k * 11 + 10, none⟩ = some (.int .i64 cn) := (hb.cell (by simp; omega)).trans c10
      have hbw : b < wo.heap.size := by omega
      clear c0 c1 c2 c3 c4 c5 c6 c7 c8 c9 c10 hx hget hb
      have HVR := hid (show vR (atR l k) = vRule n lv rk gp kd vl cp lo hi S cn by rw [HX.out]; rfl)
      have HNK := hid (show nmK l k = n by unfold nmK; rw [HX.out]; rfl)
      by_cases hv : vRule n lv rk gp kd vl cp lo hi S cn = true
      · have HV := hid hv
        clear hv
        go_wp2_with fail
        have hs3 : Sl enc2 2 (wo.alloc (.cells #[.int .i64 n, .int .i64 lv, .int .i64 rk, .int .i64 gp, .int .i64 kd, .int .i64 vl, .int .i64 cp, .int .i64 lo, .int .i64 hi, .slice a S.length C, .int .i64 cn] 54)) (wo.alloc (.cells #[.int .i64 n, .int .i64 lv, .int .i64 rk, .int .i64 gp, .int .i64 kd, .int .i64 vl, .int .i64 cp, .int .i64 lo, .int .i64 hi, .slice a S.length C, .int .i64 cn] 54)).heap.size a S := ((hs1.below HB.out (Nat.le_refl _)).alloc hsz _).more (by simp; omega)
        refine (validRule_any n lv rk gp kd vl cp lo hi cn a C S _ hs3 (Nat.le_trans hs2 (by omega))).mono ?_
        rintro e w1 ⟨rfl, b1⟩
        rw [HV.out]
        have HK1 := hid ((Blk.new wo 54 #[.int .i64 n, .int .i64 lv, .int .i64 rk, .int .i64 gp, .int .i64 kd, .int .i64 vl, .int .i64 cp, .int .i64 lo, .int .i64 hi, .slice a S.length C, .int .i64 cn]).below b1 (by simp))
        have hz1 : wo.heap.size < w1.heap.size := HK1.out.lt
        have HB1 := hid ((HB.out.alloc hsz (.cells #[.int .i64 n, .int .i64 lv, .int .i64 rk, .int .i64 gp, .int .i64 kd, .int .i64 vl, .int .i64 cp, .int .i64 lo, .int .i64 hi, .slice a S.length C, .int .i64 cn] 54)).trans (b1.mono (by simp; omega)))
        have hsz1 := HB1.out.size
        have hkc : k ≤ cap := by omega
        clear b1 hs3 d0 d1 d2 d3 d4 d5 d6 d7 d8 d9 d10
        go_wp2_with fail
        go_loopw [21] (fun i wr => ∃ j : Nat, j ≤ k ∧ i = .int .i64 j ∧ (List.range j).all (fun j => decide (nmK l j ≠ nmK l k)) = true ∧ Below w1.heap.size w1 wr) (fun i _ => k - (intOf i).toNat)
        case atStart => exact ⟨0, Nat.zero_le _, rfl, rfl, Below.refl _ _⟩
        case round =>
          obtain ⟨j, hj, rfl, hall2, hb2⟩ := hrel
          have HA2 := hid hall2
          have hsz2 := hb2.size
          have HB2 := hid hb2
          have k0 : wr.cell? ⟨wo.heap.size, 0, none⟩ = some (.int .i64 n) := (HK1.out.below hb2 hz1).cell 0
          have hzr : wo.heap.size < wr.heap.size := by omega
          clear hall2
          by_cases hlj : j < k
          · skip
            have hlj2 : j < l.length := by omega
            obtain ⟨⟨⟨n', lv', rk', gp', kd', vl', cp'⟩, ⟨lo', hi'⟩, ⟨a', C', S'⟩, cn'⟩, hx'⟩ : ∃ x, atR l j = x := ⟨_, rfl⟩
            have hget' := atR_get hlj2
            rw [hx'] at hget'
            obtain ⟨b', off', he', hbb', c'0, c'1, c'2, c'3, c'4, c'5, c'6, c'7, c'8, c'9, c'10⟩ := hL.getR hget'
            obtain ⟨rfl, rfl⟩ : b = b' ∧ off = off' := by simpa using he'
            have HX' := hid hx'
            have HNJ := hid (show nmK l j = n' by unfold nmK; rw [HX'.out]; rfl)
            have hb3 := hid (HB1.out.trans (hb2.mono (by omega)))
            have d'0 : wr.cell? ⟨b, off + j * 11, none⟩ = some (.int .i64 n') := (hb3.out.cell (by simp; omega)).trans c'0
            have d'1 : wr.cell? ⟨b, off + j * 11 + 1, none⟩ = some (.int .i64 lv') := (hb3.out.cell (by simp; omega)).trans c'1
            have d'2 : wr.cell? ⟨b, off + j * 11 + 2, none⟩ = some (.int .i64 rk') := (hb3.out.cell (by simp; omega)).trans c'2
            have d'3 : wr.cell? ⟨b, off + j * 11 + 3, none⟩ = some (.int .i64 gp') := (hb3.out.cell (by simp; omega)).trans c'3
            have d'4 : wr.cell? ⟨b, off + j * 11 + 4, none⟩ = some (.int .i64 kd') := (hb3.out.cell (by simp; omega)).trans c'4
            have d'5 : wr.cell? ⟨b, off + j * 11 + 5, none⟩ = some (.int .i64 vl') := (hb3.out.cell (by simp; omega)).trans c'5
            have d'6 : wr.cell? ⟨b, off + j * 11 + 6, none⟩ = some (.int .i64 cp') := (hb3.out.cell (by simp; omega)).trans c'6
            have d'7 : wr.cell? ⟨b, off + j * 11 + 7, none⟩ = some (.int .i64 lo') := (hb3.out.cell (by simp; omega)).trans c'7
            have d'8 : wr.cell? ⟨b, off + j * 11 + 8, none⟩ = some (.int .i64 hi') := (hb3.out.cell (by simp; omega)).trans c'8
            have d'9 : wr.cell? ⟨b, off + j * 11 + 9, none⟩ = some (.slice a' S'.length C') := (hb3.out.cell (by simp; omega)).trans c'9
            have d'10 : wr.cell? ⟨b, off + j * 11 + 10, none⟩ = some (.int .i64 cn') := (hb3.out.cell (by simp; omega)).trans c'10
            have hbwr : b < wr.heap.size := by omega
            clear c'0 c'1 c'2 c'3 c'4 c'5 c'6 c'7 c'8 c'9 c'10 hx' hget' he' hb2
            by_cases he : n' = n
            · have e1 : (n' == n) = true := by rw [he]; simp
              have HE := hid he
              have HNO := hid (vRules_bad hlt (show okK l k = false by unfold okK newK; rw [range_all_no hlj (by rw [HNJ.out, HNK.out, HE.out]; simp)]; simp))
              have HB4 := hid ((hb3.out.alloc (by omega) (.cells #[.int .i64 n', .int .i64 lv', .int .i64 rk', .int .i64 gp', .int .i64 kd', .int .i64 vl', .int .i64 cp', .int .i64 lo', .int .i64 hi', .slice a' S'.length C', .int .i64 cn'] 54)))
              clear he
              go_wp2
              go_ret
              exact ⟨ret_bool HNO.out.symm, HB4.out⟩
            · have e1 : (n' == n) = false := beq_eq_false_iff_ne.2 he
              have HE := hid he
              have HB4 := hid (HB2.out.alloc hsz2 (.cells #[.int .i64 n', .int .i64 lv', .int .i64 rk', .int .i64 gp', .int .i64 kd', .int .i64 vl', .int .i64 cp', .int .i64 lo', .int .i64 hi', .slice a' S'.length C', .int .i64 cn'] 54))
              clear he
              go_wp2
              go_roundw
              case rel => exact ⟨j + 1, by omega, by go_num, range_all_succ HA2.out (by rw [HNJ.out, HNK.out]; exact decide_eq_true HE.out), HB4.out⟩
              case measure => simp [intOf]; omega
          · have hjk : j = k := by omega
            subst hjk
            have HOK := hid (show okK l j = true by unfold okK newK; rw [HVR.out, HV.out, HA2.out]; rfl)
            have HB4 := hid (HB1.out.trans (hb2.mono (by omega)))
            clear hb2
            go_wp2
            go_roundw
            case rel => exact ⟨j + 1, by omega, by go_num, range_all_succ HA.out HOK.out, HB4.out⟩
            case measure => simp [intOf]; omega
      · have HV := hid (show vRule n lv rk gp kd vl cp lo hi S cn = false by simpa using hv)
        clear hv
        have HNO := hid (vRules_bad hlt (show okK l k = false by unfold okK; rw [HVR.out, HV.out]; rfl))
        go_wp2_with fail
        have hs3 : Sl enc2 2 (wo.alloc (.cells #[.int .i64 n, .int .i64 lv, .int .i64 rk, .int .i64 gp, .int .i64 kd, .int .i64 vl, .int .i64 cp, .int .i64 lo, .int .i64 hi, .slice a S.length C, .int .i64 cn] 54)) (wo.alloc (.cells #[.int .i64 n, .int .i64 lv, .int .i64 rk, .int .i64 gp, .int .i64 kd, .int .i64 vl, .int .i64 cp, .int .i64 lo, .int .i64 hi, .slice a S.length C, .int .i64 cn] 54)).heap.size a S := ((hs1.below HB.out (Nat.le_refl _)).alloc hsz _).more (by simp; omega)
        refine (validRule_any n lv rk gp kd vl cp lo hi cn a C S _ hs3 (Nat.le_trans hs2 (by omega))).mono ?_
        rintro e w1 ⟨rfl, b1⟩
        rw [HV.out]
        have HB1 := hid ((HB.out.alloc hsz (.cells #[.int .i64 n, .int .i64 lv, .int .i64 rk, .int .i64 gp, .int .i64 kd, .int .i64 vl, .int .i64 cp, .int .i64 lo, .int .i64 hi, .slice a S.length C, .int .i64 cn] 54)).trans (b1.mono (by simp; omega)))
        clear b1 hs3
        go_wp2
        go_ret
        exact ⟨ret_bool HNO.out.symm, HB1.out⟩
    · have hkl : k = l.length := by omega
      subst hkl
      have HR := hid (vRules_rest HA.out)
      clear hb
      go_wp2
      go_ret
      exact ⟨ret_bool (by rw [HR.out, decide_eq_decide]; omega), HB.out⟩

end Go.Proofs.YtkgofklpogdpmaaGreat

/- The walk's law for 'out = append(out, x)' in a region that draws its order, with the block that the new slice lies in. No program in sight. -/
namespace Go.Proofs.YtkgofklpogdpmaaGreat
open Go.RowKit

theorem step_pushB {P : Program} {ops : Array Oper} {o : Oper} {a : Act} {Q : Exit → Act → World → Prop} {α : Type} {enc : α → List Value} {sz : Nat} (henc : ∀ y, (enc y).length = sz) (hone : ∀ y, ∀ u ∈ enc y, u.oneCell' = true) {K : Act → World → Prop} {E : Prop} (hgd : o.guard = none) (s x : Operand) (t : TypeId)
    (ho : o.op = .call { callee := .builtin .append, args := #[s, x], argTypes := #[t, t] })
    {e : TypeId} {z : Value} {bytes : Nat} (ht : P.underlying t = some (.slice e)) (hinfo : (P.info? e).map (fun i => (i.zero, i.size, i.bytes)) = some (some z, sz, bytes)) (hzs : z.cells.size = sz) (hsz : 0 < sz) (hby : bytes ≤ 256)
    {v : Value} {l : List α} {W : World} {base : Nat} (hs : a.eval s = v) (hown : Own enc sz e W base v l) (y : α) {cs : Array Value} {g : Nat} (hg : g = W.heap.size) (hcs : cs.toList = enc y) (hx : a.eval x = .slice (some ⟨g, 0, none⟩) 1 1)
    (hlen : l.length ≤ 1000000000) (hbase : base ≤ W.heap.size)
    (h : ∀ v' w', Own enc sz e w' base v' (l ++ [y]) → (W.alloc (.cells cs e)).grownBy w' v.ownBlock → (v'.ownBlock = v.ownBlock ∨ v'.ownBlock = some (W.heap.size + 1)) → K (a.put o.dst v') w') :
    if Region.wanted o (yielded ops a.tmps) = true then Oper.wp P o a (W.alloc (.cells cs e)).drew K Q else E := by
  subst hg
  obtain ⟨i, hi, hz, hsize, hbytes⟩ := info_parts hinfo
  refine step_append_lies (W.alloc (.cells cs e)).drew hgd s x t ho base e i z sz bytes ht hi hz hsize hbytes hzs hsz v l.length (l.flatMap enc) hs (World.ownsRow.drew (World.ownsRow.alloc hown _)) ⟨W.heap.size, 0, none⟩ 1 1 (enc y) hx (by rw [henc]; omega) ?_ (hone y) (by omega) (by simp only [maxLen]; omega) ?_ (by simp; omega) _ rfl ?_
  · intro j u hj
    rw [Addr.add_lit, Nat.zero_add, World.cell?_drew, World.cell?_alloc_new, ← Array.getElem?_toList, hcs, hj]
  · have : (l.length + 1) * bytes ≤ (l.length + 1) * 256 := Nat.mul_le_mul_left _ hby
    omega
  · intro g' cap w' h1 h2 h3 _
    refine h _ w' ?_ ⟨h2.os, h2.tape, h2.output, h2.size, h2.block⟩ ?_
    · show World.ownsRow _ _ _ _ _ (l ++ [y]).length _
      rw [List.flatMap_append, List.length_append]
      simpa using h1
    · rcases h3 with h3 | h3
      · exact .inl (by rw [h3]; rfl)
      · refine .inr ?_
        have h4 : g' = W.heap.size + 1 := by simpa using h3
        rw [h4]; rfl

end Go.Proofs.YtkgofklpogdpmaaGreat

/- The walk's law for 'out = append(out, list...)', with the block that the new slice lies in; what stays but for one block. No program in sight. -/
namespace Go.Proofs.YtkgofklpogdpmaaGreat
open Go.RowKit

theorem wpList_pushAnyB {P : Program} {ops : Array Oper} {rest : List Oper} {o : Oper} {a : Act} {Q : Exit → Act → World → Prop} {α : Type} {enc : α → List Value} {sz : Nat} (henc : ∀ y, (enc y).length = sz) (hone : ∀ y, ∀ u ∈ enc y, u.oneCell' = true) (hgd : o.guard = none) (s x : Operand) (t : TypeId)
    (ho : o.op = .call { callee := .builtin .append, args := #[s, x], argTypes := #[t, t] })
    {e : TypeId} {z : Value} {bytes : Nat} (ht : P.underlying t = some (.slice e)) (hinfo : (P.info? e).map (fun i => (i.zero, i.size, i.bytes)) = some (some z, sz, bytes)) (hzs : z.cells.size = sz) (hsz : 0 < sz) (hby : bytes ≤ 256)
    {v : Value} {l m : List α} {W : World} {base B : Nat} (hs : a.eval s = v) (hown : Own enc sz e W base v l) {A : Option Addr} {n c : Nat} (hn : n = m.length) (hx : a.eval x = .slice A n c) (hm : Sl enc sz W B A m)
    (hlen : l.length + m.length ≤ 1000000000) (hbase : base ≤ W.heap.size)
    (h : ∀ v' w', Own enc sz e w' base v' (l ++ m) → W.grownBy w' v.ownBlock → (v'.ownBlock = v.ownBlock ∨ v'.ownBlock = some W.heap.size) → wpList P ops Q rest (a.put o.dst v') w') : wpList P ops Q (o :: rest) a W := by
  by_cases hne : m = []
  · subst hne
    subst hn
    obtain ⟨i, hi, hz, hsize, hbytes⟩ := info_parts hinfo
    rcases A with _ | ad
    · refine wpList_plain hgd fun K hK => ?_
      have hrun := run_append_nilsrc (P := P) W base t o.type e i sz ht hi v l.length (l.flatMap enc) hown c
      unfold Oper.wp execOp
      simp only [ho, resolve, invoke, builtin, Sem.run_bind, Sem.run_pure, Result.andThen_ok, List.map_toArray, List.map_cons, List.map_nil, hs, hx, List.length_nil, hrun]
      exact hK _ _ (h v W (by rw [List.append_nil]; exact hown) (World.grownBy.refl W _) (.inl rfl))
    · refine wpList_append_own_at (w := W) hgd s x t ho base e i z sz bytes ht hi hz hsize hbytes hzs hsz v l.length (l.flatMap enc) hs hown ad 0 c [] hx (by simp) (by simp) (by simp) (by simp only [maxLen]; omega) ?_ hbase ?_
      · have : (l.length + 0) * bytes ≤ (l.length + 0) * 256 := Nat.mul_le_mul_left _ hby
        simp only [List.length_nil] at hlen
        omega
      · intro v' w' h1 h2 _ h4
        refine h v' w' ?_ h2 (by simpa using h4)
        rw [List.append_nil]
        have h9 : w'.ownsRow base e sz v' l.length (l.flatMap enc) := by simpa using h1
        exact h9
  · exact wpList_pushAll henc hone hgd s x t ho ht hinfo hzs hsz hby hs hown hn hx hm hne hlen hbase fun v' w' h1 h2 h3 => h v' w' h1 h2 h3


/-- All blocks of a world but one are as they were. -/
def KeepBut (g : Nat) (w w' : World) : Prop := (∀ b, b < w.heap.size → b ≠ g → w'.heap[b]? = w.heap[b]?) ∧ w.heap.size ≤ w'.heap.size
theorem KeepBut.refl (g : Nat) (w : World) : KeepBut g w w := ⟨fun _ _ _ => rfl, Nat.le_refl _⟩
theorem KeepBut.below {g n : Nat} {w w' w'' : World} (h : KeepBut g w w') (hb : Below n w' w'') (hn : w.heap.size ≤ n) : KeepBut g w w'' :=
  ⟨fun b hb' hg => (hb.block b (by omega)).trans (h.1 b hb' hg), Nat.le_trans h.2 hb.size⟩
theorem KeepBut.grown {g : Nat} {w w' w'' : World} {row : Option Nat} (h : KeepBut g w w') (hg : w'.grownBy w'' row) (hr : ∀ k, row = some k → k = g ∨ w.heap.size ≤ k) : KeepBut g w w'' :=
  ⟨fun b hb hne => (hg.block b (Nat.lt_of_lt_of_le hb h.2) (fun e => by rcases hr b e.symm with h9 | h9 <;> omega)).trans (h.1 b hb hne), Nat.le_trans h.2 hg.size⟩
theorem KeepBut.alloc {g : Nat} {w w' : World} (h : KeepBut g w w') (o : Obj) : KeepBut g w (w'.alloc o) :=
  ⟨fun b hb hne => (Below.heap_alloc w' o b (Nat.lt_of_lt_of_le hb h.2)).trans (h.1 b hb hne), Nat.le_trans h.2 (by simp)⟩
theorem KeepBut.cell {g : Nat} {w w' : World} (h : KeepBut g w w') {p : Addr} (hp : p.block < w.heap.size) (hg : p.block ≠ g) : w'.cell? p = w.cell? p := World.cell?_of_block (h.1 p.block hp hg)
theorem KeepBut.frozen {g : Nat} {w w' : World} (h : KeepBut g w w') {p : Addr} (hp : p.block < w.heap.size) (hg : p.block ≠ g) : w'.frozen? p = w.frozen? p := World.frozen?_of_block (h.1 p.block hp hg)
theorem KeepBut.blk {g : Nat} {w w' : World} (h : KeepBut g w w') {b : Nat} {t : TypeId} {cs : Array Value} (k : Blk w b t cs) (hg : b ≠ g) : Blk w' b t cs := (h.1 b k.lt hg).trans k
/-- A list that lies below the block. -/
theorem KeepBut.sl {α : Type} {enc : α → List Value} {sz : Nat} {g B : Nat} {w w' : World} {A : Option Addr} {l : List α} (h : KeepBut g w w') (hl : Sl enc sz w B A l) (hB : B ≤ g) (hg : g ≤ w.heap.size) : Sl enc sz w' w'.heap.size A l :=
  (hl.keep fun p hp => h.cell (by omega) (by omega)).more (Nat.le_trans (Nat.le_trans hB hg) h.2)
/-- A list that lies above it. -/
theorem KeepBut.sl_above {α : Type} {enc : α → List Value} {sz : Nat} {g lo : Nat} {w w' : World} {A : Option Addr} {l : List α} (h : KeepBut g w w') (hl : Sl enc sz w w.heap.size A l) (hA : ∀ b off i, A = some ⟨b, off, i⟩ → lo ≤ b) (hg : g < lo) : Sl enc sz w' w'.heap.size A l := by
  rcases hl with hl | ⟨b, off, h1, h2, h3⟩
  · exact .inl hl
  · have h4 := hA b off none h1
    exact .inr ⟨b, off, h1, Nat.lt_of_lt_of_le h2 h.2, fun i a hi j u hu => (h.cell (p := ⟨b, off + (i * sz + j), none⟩) h2 (by show b ≠ g; omega)).trans (h3 i a hi j u hu)⟩

end Go.Proofs.YtkgofklpogdpmaaGreat

/- Contracts: valid spans, guards and rules, as the paper says it. -/
namespace Go.Proofs.YtkgofklpogdpmaaGreat
open Go.RowKit

set_option maxHeartbeats 800000 in
theorem svalidSpan_any (lo hi : Int) (w : World) :
    Calls Tryz.prog 105 #[.agg #[.int .i64 lo, .int .i64 hi]] w fun e w' => e = .returned (.bool (vSpan lo hi)) ∧ Below w.heap.size w w' := by
  by_cases h1 : withinB lo 0 1000000 = true
  · go_enter Tryz.func105, Tryz.ntmps105
    go_wp2_with (go_at_call 51; refine (inRange_any _ _ _ _).mono ?_; rintro e w' ⟨rfl, rfl⟩)
    go_ret
    refine ⟨ret_bool (by unfold vSpan; rw [h1]; rfl), ?_⟩
    repeat (first | exact Below.refl _ _ | (refine Below.alloc ?_ (by (try simp) <;> omega) _) | (refine Below.setCell ?_ (by (try simp) <;> omega) _) | (refine Below.drew ?_) | (refine below_drewN ?_ _) | (refine Below.trans ?_ (Below.mono (by assumption) (by (try simp) <;> omega))))
  · have h2 : withinB lo 0 1000000 = false := by simpa using h1
    clear h1
    go_enter Tryz.func105, Tryz.ntmps105
    go_wp2_with (go_at_call 51; refine (inRange_any _ _ _ _).mono ?_; rintro e w' ⟨rfl, rfl⟩)
    go_ret
    refine ⟨ret_bool (by unfold vSpan; rw [h2]; rfl), ?_⟩
    repeat (first | exact Below.refl _ _ | (refine Below.alloc ?_ (by (try simp) <;> omega) _) | (refine Below.setCell ?_ (by (try simp) <;> omega) _) | (refine Below.drew ?_) | (refine below_drewN ?_ _) | (refine Below.trans ?_ (Below.mono (by assumption) (by (try simp) <;> omega))))

set_option maxHeartbeats 1600000 in
theorem svalidGuard_any (lo hi cn : Int) (a : Option Addr) (C : Nat) (S : List (Int × Int)) (w : World) (hS : Sl enc2 2 w w.heap.size a S) (hl : S.length ≤ 1000) :
    Calls Tryz.prog 83 #[.agg #[.int .i64 lo, .int .i64 hi, .slice a S.length C, .int .i64 cn]] w fun e w' => e = .returned (.bool (vGuard lo hi S cn)) ∧ Below w.heap.size w w' := by
  have HB := hid ((Below.refl w.heap.size w).alloc (Nat.le_refl _) (.cells #[.int .i64 lo, .int .i64 hi, .slice a S.length C, .int .i64 cn] 52))
  have HK := hid (Blk.new w 52 #[.int .i64 lo, .int .i64 hi, .slice a S.length C, .int .i64 cn])
  by_cases h3 : S.length = 3
  · have e3 : ((S.length : Int) == 3) = true := by rw [h3]; rfl
    have e3' : ((S.length : Int) != 3) = false := by rw [h3]; rfl
    have H3 := hid h3
    clear h3
    by_cases hv : vSpan lo hi = true
    · have HV := hid hv
      clear hv
      by_cases hc : withinB cn 0 9 = true
      · have HC := hid hc
        clear hc
        go_enter Tryz.func83, Tryz.ntmps83
        go_wp2_with fail
        refine (svalidSpan_any lo hi _).mono ?_
        rintro e w1 ⟨rfl, b1⟩
        rw [HV.out]
        have K1 := HK.out.below b1 (by simp)
        have k2 : w1.cell? ⟨w.heap.size, 2, none⟩ = some (.slice a S.length C) := K1.cell 2
        have k3 : w1.cell? ⟨w.heap.size, 3, none⟩ = some (.int .i64 cn) := K1.cell 3
        have HK1 := hid K1
        have hz1 : w.heap.size < w1.heap.size := K1.lt
        have B1 := hid (HB.out.trans (b1.mono (by simp)))
        have hS1 : Sl enc2 2 w1 w.heap.size a S := hS.below B1.out (Nat.le_refl _)
        clear b1 K1 hS
        go_wp2_with (go_at_call 51; refine (inRange_yes HC.out _).mono ?_; rintro e w' ⟨rfl, rfl⟩)
        clear k2 k3
        go_loopw [3] (fun i wr => ∃ k : Nat, k ≤ S.length ∧ i = .int .i64 k ∧ (List.range k).all (spanK S) = true ∧ Below w1.heap.size w1 wr) (fun i _ => S.length - (intOf i).toNat)
        case atStart => exact ⟨0, Nat.zero_le _, rfl, rfl, Below.refl _ _⟩
        case round =>
          obtain ⟨k, hk, rfl, hall, hb⟩ := hrel
          have HA := hid hall
          have hsz := hb.size
          have HB2 := hid hb
          have k2 : wr.cell? ⟨w.heap.size, 2, none⟩ = some (.slice a S.length C) := (HK1.out.below hb hz1).cell 2
          have hzr : w.heap.size < wr.heap.size := by omega
          clear hall
          by_cases hlt : k < S.length
          · obtain ⟨b, off, rfl, hbb, c1, c2⟩ := hS1.get2 hlt
            have hgs : spanK S k = vSpan (g1 S k) (g2 S k) := rfl
            obtain ⟨x, hx⟩ : ∃ x, g1 S k = x := ⟨_, rfl⟩
            obtain ⟨y, hy⟩ : ∃ x, g2 S k = x := ⟨_, rfl⟩
            rw [hx, hy] at hgs
            rw [hx] at c1
            rw [hy] at c2
            have HGS := hid hgs
            have d1 : wr.cell? ⟨b, off + k * 2, none⟩ = some (.int .i64 x) := (hb.cell (by simp; omega)).trans c1
            have d2 : wr.cell? ⟨b, off + k * 2 + 1, none⟩ = some (.int .i64 y) := (hb.cell (by simp; omega)).trans c2
            have hbw : b < wr.heap.size := by omega
            clear c1 c2 hx hy hgs hb
            by_cases hv : vSpan x y = true
            · have HV2 := hid hv
              clear hv
              go_wp2_with fail
              refine (svalidSpan_any x y _).mono ?_
              rintro e w2 ⟨rfl, b2⟩
              rw [HV2.out]
              have B2 := hid (HB2.out.trans (b2.mono hsz))
              clear b2
              go_wp2
              go_roundw
              case rel => exact ⟨k + 1, by omega, by go_num, range_all_succ HA.out (by rw [HGS.out, HV2.out]), B2.out⟩
              case measure => simp [intOf]; omega
            · have HV2 := hid (show vSpan x y = false by simpa using hv)
              clear hv
              go_wp2_with fail
              refine (svalidSpan_any x y _).mono ?_
              rintro e w2 ⟨rfl, b2⟩
              rw [HV2.out]
              have B2 := hid (B1.out.trans ((HB2.out.trans (b2.mono hsz)).mono (by omega)))
              have HNO := hid (vGuard_no1 (lo := lo) (hi := hi) (cn := cn) hlt (by rw [HGS.out, HV2.out]))
              clear b2
              go_wp2
              go_ret
              exact ⟨ret_bool HNO.out.symm, B2.out⟩
          · have hkl : k = S.length := by omega
            subst hkl
            have HR := hid (vGuard_rest (lo := lo) (hi := hi) (cn := cn) HA.out)
            have B0 := hid (B1.out.trans (hb.mono (by omega)))
            clear hb
            go_wp2
            go_ret
            exact ⟨ret_bool (by rw [HR.out, HV.out, H3.out, HC.out]; rfl), B0.out⟩
      · have HC := hid (show withinB cn 0 9 = false by simpa using hc)
        have HNO := hid (show vGuard lo hi S cn = false by unfold vGuard; rw [HC.out]; simp)
        clear hc
        go_enter Tryz.func83, Tryz.ntmps83
        go_wp2_with fail
        refine (svalidSpan_any lo hi _).mono ?_
        rintro e w1 ⟨rfl, b1⟩
        rw [HV.out]
        have K1 := HK.out.below b1 (by simp)
        have k2 : w1.cell? ⟨w.heap.size, 2, none⟩ = some (.slice a S.length C) := K1.cell 2
        have k3 : w1.cell? ⟨w.heap.size, 3, none⟩ = some (.int .i64 cn) := K1.cell 3
        have B1 := hid (HB.out.trans (b1.mono (by simp)))
        clear b1 K1 hS
        go_wp2_with (go_at_call 51; refine (inRange_no HC.out _).mono ?_; rintro e w' ⟨rfl, rfl⟩)
        go_ret
        exact ⟨ret_bool HNO.out.symm, B1.out⟩
    · have HV := hid (show vSpan lo hi = false by simpa using hv)
      have HNO := hid (show vGuard lo hi S cn = false by unfold vGuard; rw [HV.out]; simp)
      clear hv
      go_enter Tryz.func83, Tryz.ntmps83
      go_wp2_with fail
      refine (svalidSpan_any lo hi _).mono ?_
      rintro e w1 ⟨rfl, b1⟩
      rw [HV.out]
      have B1 := hid (HB.out.trans (b1.mono (by simp)))
      clear b1 hS
      go_wp2
      go_ret
      exact ⟨ret_bool HNO.out.symm, B1.out⟩
  · have e3 : ((S.length : Int) == 3) = false := beq_eq_false_iff_ne.2 (by omega)
    have e3' : ((S.length : Int) != 3) = true := by simp; omega
    have HNO := hid (show vGuard lo hi S cn = false by unfold vGuard; rw [decide_eq_false h3]; simp)
    clear h3 hS
    go_enter Tryz.func83, Tryz.ntmps83
    go_wp2
    go_ret
    exact ⟨ret_bool HNO.out.symm, HB.out⟩

set_option maxHeartbeats 3200000 in
set_option maxRecDepth 100000 in
theorem svalidRule_any (n lv rk gp kd vl cp lo hi cn : Int) (a : Option Addr) (C : Nat) (S : List (Int × Int)) (w : World) (hS : Sl enc2 2 w w.heap.size a S) (hl : S.length ≤ 1000) :
    Calls Tryz.prog 54 #[.agg #[.int .i64 n, .int .i64 lv, .int .i64 rk, .int .i64 gp, .int .i64 kd, .int .i64 vl, .int .i64 cp, .int .i64 lo, .int .i64 hi, .slice a S.length C, .int .i64 cn]] w fun e w' => e = .returned (.bool (vRule n lv rk gp kd vl cp lo hi S cn)) ∧ Below w.heap.size w w' := by
  have hS0 : Sl enc2 2 (w.alloc (.cells #[.int .i64 n, .int .i64 lv, .int .i64 rk, .int .i64 gp, .int .i64 kd, .int .i64 vl, .int .i64 cp, .int .i64 lo, .int .i64 hi, .slice a S.length C, .int .i64 cn] 54)) (w.alloc (.cells #[.int .i64 n, .int .i64 lv, .int .i64 rk, .int .i64 gp, .int .i64 kd, .int .i64 vl, .int .i64 cp, .int .i64 lo, .int .i64 hi, .slice a S.length C, .int .i64 cn] 54)).heap.size a S := (hS.alloc (Nat.le_refl _) _).more (by simp)
  have HB := hid ((Below.refl w.heap.size w).alloc (Nat.le_refl _) (.cells #[.int .i64 n, .int .i64 lv, .int .i64 rk, .int .i64 gp, .int .i64 kd, .int .i64 vl, .int .i64 cp, .int .i64 lo, .int .i64 hi, .slice a S.length C, .int .i64 cn] 54))
  have HK := hid (Blk.new w 54 #[.int .i64 n, .int .i64 lv, .int .i64 rk, .int .i64 gp, .int .i64 kd, .int .i64 vl, .int .i64 cp, .int .i64 lo, .int .i64 hi, .slice a S.length C, .int .i64 cn])
  by_cases h0 : withinB n 1 99 = true
  · skip
    by_cases h1 : withinB lv 0 3 = true
    · skip
      by_cases h2 : withinB rk 0 9 = true
      · skip
        by_cases h3 : withinB gp (-1) 2 = true
        · skip
          by_cases h4 : withinB cp 0 1000000 = true
          · skip
            by_cases hg : vGuard lo hi S cn = true
            · have HG := hid hg
              clear hg
              have HV := hid (show vRule n lv rk gp kd vl cp lo hi S cn = vKind kd vl by unfold vRule; rw [h0, h1, h2, h3, h4, HG.out]; rfl)
              by_cases hk1 : kd = 1
              · have HKD := hid (show vKind kd vl = withinB vl 1 1000 by unfold vKind; rw [if_pos hk1])
                have y1 : (kd == 1) = true := by rw [hk1]; rfl
                clear hk1
                go_enter Tryz.func54, Tryz.ntmps54
                go_wp2_with ((go_at_call 51; (first | (refine (inRange_yes (by assumption) _).mono ?_) | (refine (inRange_no (by assumption) _).mono ?_)); rintro e w' ⟨rfl, rfl⟩))
                refine (svalidGuard_any lo hi cn a C S _ hS0 hl).mono ?_; rintro e w1 ⟨rfl, b1⟩
                rw [HG.out]
                have K1 := HK.out.below b1 (by simp)
                have k4 := K1.cell 4
                have k5 := K1.cell 5
                have k4' : w1.cell? ⟨w.heap.size, 4, none⟩ = some (.int .i64 kd) := k4
                have k5' : w1.cell? ⟨w.heap.size, 5, none⟩ = some (.int .i64 vl) := k5
                have B1 := hid (HB.out.trans (b1.mono (by simp)))
                clear k4 k5 K1 b1 hS0
                go_wp2_with (go_at_call 51; refine (inRange_any _ _ _ _).mono ?_; rintro e w' ⟨rfl, rfl⟩)
                go_ret
                exact ⟨ret_bool (by rw [HV.out, HKD.out]), B1.out⟩
              by_cases hk2 : kd = 2
              · have HKD := hid (show vKind kd vl = withinB vl 1 1000000 by unfold vKind; rw [if_neg hk1]; rw [if_pos hk2])
                have n1 : (kd == 1) = false := beq_eq_false_iff_ne.2 hk1
                have y2 : (kd == 2) = true := by rw [hk2]; rfl
                clear hk1 hk2
                go_enter Tryz.func54, Tryz.ntmps54
                go_wp2_with ((go_at_call 51; (first | (refine (inRange_yes (by assumption) _).mono ?_) | (refine (inRange_no (by assumption) _).mono ?_)); rintro e w' ⟨rfl, rfl⟩))
                refine (svalidGuard_any lo hi cn a C S _ hS0 hl).mono ?_; rintro e w1 ⟨rfl, b1⟩
                rw [HG.out]
                have K1 := HK.out.below b1 (by simp)
                have k4 := K1.cell 4
                have k5 := K1.cell 5
                have k4' : w1.cell? ⟨w.heap.size, 4, none⟩ = some (.int .i64 kd) := k4
                have k5' : w1.cell? ⟨w.heap.size, 5, none⟩ = some (.int .i64 vl) := k5
                have B1 := hid (HB.out.trans (b1.mono (by simp)))
                clear k4 k5 K1 b1 hS0
                go_wp2_with (go_at_call 51; refine (inRange_any _ _ _ _).mono ?_; rintro e w' ⟨rfl, rfl⟩)
                go_ret
                exact ⟨ret_bool (by rw [HV.out, HKD.out]), B1.out⟩
              by_cases hk3 : kd = 3
              · have HKD := hid (show vKind kd vl = withinB vl 2 20 by unfold vKind; rw [if_neg hk1]; rw [if_neg hk2]; rw [if_pos hk3])
                have n1 : (kd == 1) = false := beq_eq_false_iff_ne.2 hk1
                have n2 : (kd == 2) = false := beq_eq_false_iff_ne.2 hk2
                have y3 : (kd == 3) = true := by rw [hk3]; rfl
                clear hk1 hk2 hk3
                go_enter Tryz.func54, Tryz.ntmps54
                go_wp2_with ((go_at_call 51; (first | (refine (inRange_yes (by assumption) _).mono ?_) | (refine (inRange_no (by assumption) _).mono ?_)); rintro e w' ⟨rfl, rfl⟩))
                refine (svalidGuard_any lo hi cn a C S _ hS0 hl).mono ?_; rintro e w1 ⟨rfl, b1⟩
                rw [HG.out]
                have K1 := HK.out.below b1 (by simp)
                have k4 := K1.cell 4
                have k5 := K1.cell 5
                have k4' : w1.cell? ⟨w.heap.size, 4, none⟩ = some (.int .i64 kd) := k4
                have k5' : w1.cell? ⟨w.heap.size, 5, none⟩ = some (.int .i64 vl) := k5
                have B1 := hid (HB.out.trans (b1.mono (by simp)))
                clear k4 k5 K1 b1 hS0
                go_wp2_with (go_at_call 51; refine (inRange_any _ _ _ _).mono ?_; rintro e w' ⟨rfl, rfl⟩)
                go_ret
                exact ⟨ret_bool (by rw [HV.out, HKD.out]), B1.out⟩
              have HKD := hid (show vKind kd vl = false by unfold vKind; rw [if_neg hk1, if_neg hk2, if_neg hk3])
              have n1 : (kd == 1) = false := beq_eq_false_iff_ne.2 hk1
              have n2 : (kd == 2) = false := beq_eq_false_iff_ne.2 hk2
              have n3 : (kd == 3) = false := beq_eq_false_iff_ne.2 hk3
              clear hk1 hk2 hk3
              go_enter Tryz.func54, Tryz.ntmps54
              go_wp2_with ((go_at_call 51; (first | (refine (inRange_yes (by assumption) _).mono ?_) | (refine (inRange_no (by assumption) _).mono ?_)); rintro e w' ⟨rfl, rfl⟩))
              refine (svalidGuard_any lo hi cn a C S _ hS0 hl).mono ?_; rintro e w1 ⟨rfl, b1⟩
              rw [HG.out]
              have K1 := HK.out.below b1 (by simp)
              have k4 := K1.cell 4
              have k5 := K1.cell 5
              have k4' : w1.cell? ⟨w.heap.size, 4, none⟩ = some (.int .i64 kd) := k4
              have k5' : w1.cell? ⟨w.heap.size, 5, none⟩ = some (.int .i64 vl) := k5
              have B1 := hid (HB.out.trans (b1.mono (by simp)))
              clear k4 k5 K1 b1 hS0
              go_wp2
              go_ret
              exact ⟨ret_bool (by rw [HV.out, HKD.out]), B1.out⟩
            · have HG := hid (show vGuard lo hi S cn = false by simpa using hg)
              clear hg
              have HV := hid (show vRule n lv rk gp kd vl cp lo hi S cn = false by unfold vRule; rw [HG.out]; simp)
              go_enter Tryz.func54, Tryz.ntmps54
              go_wp2_with ((go_at_call 51; (first | (refine (inRange_yes (by assumption) _).mono ?_) | (refine (inRange_no (by assumption) _).mono ?_)); rintro e w' ⟨rfl, rfl⟩))
              refine (svalidGuard_any lo hi cn a C S _ hS0 hl).mono ?_; rintro e w1 ⟨rfl, b1⟩
              rw [HG.out]
              have B1 := hid (HB.out.trans (b1.mono (by simp)))
              clear b1 hS0
              go_wp2
              go_ret
              exact ⟨ret_bool HV.out.symm, B1.out⟩
          · have h4n : withinB cp 0 1000000 = false := by simpa using h4
            have HV := hid (show vRule n lv rk gp kd vl cp lo hi S cn = false by unfold vRule; rw [h4n]; simp)
            clear h4 hS0
            go_enter Tryz.func54, Tryz.ntmps54
            go_wp2_with ((go_at_call 51; (first | (refine (inRange_yes (by assumption) _).mono ?_) | (refine (inRange_no (by assumption) _).mono ?_)); rintro e w' ⟨rfl, rfl⟩))
            go_ret
            exact ⟨ret_bool HV.out.symm, HB.out⟩
        · have h3n : withinB gp (-1) 2 = false := by simpa using h3
          have HV := hid (show vRule n lv rk gp kd vl cp lo hi S cn = false by unfold vRule; rw [h3n]; simp)
          clear h3 hS0
          go_enter Tryz.func54, Tryz.ntmps54
          go_wp2_with ((go_at_call 51; (first | (refine (inRange_yes (by assumption) _).mono ?_) | (refine (inRange_no (by assumption) _).mono ?_)); rintro e w' ⟨rfl, rfl⟩))
          go_ret
          exact ⟨ret_bool HV.out.symm, HB.out⟩
      · have h2n : withinB rk 0 9 = false := by simpa using h2
        have HV := hid (show vRule n lv rk gp kd vl cp lo hi S cn = false by unfold vRule; rw [h2n]; simp)
        clear h2 hS0
        go_enter Tryz.func54, Tryz.ntmps54
        go_wp2_with ((go_at_call 51; (first | (refine (inRange_yes (by assumption) _).mono ?_) | (refine (inRange_no (by assumption) _).mono ?_)); rintro e w' ⟨rfl, rfl⟩))
        go_ret
        exact ⟨ret_bool HV.out.symm, HB.out⟩
    · have h1n : withinB lv 0 3 = false := by simpa using h1
      have HV := hid (show vRule n lv rk gp kd vl cp lo hi S cn = false by unfold vRule; rw [h1n]; simp)
      clear h1 hS0
      go_enter Tryz.func54, Tryz.ntmps54
      go_wp2_with ((go_at_call 51; (first | (refine (inRange_yes (by assumption) _).mono ?_) | (refine (inRange_no (by assumption) _).mono ?_)); rintro e w' ⟨rfl, rfl⟩))
      go_ret
      exact ⟨ret_bool HV.out.symm, HB.out⟩
  · have h0n : withinB n 1 99 = false := by simpa using h0
    have HV := hid (show vRule n lv rk gp kd vl cp lo hi S cn = false by unfold vRule; rw [h0n]; simp)
    clear h0 hS0
    go_enter Tryz.func54, Tryz.ntmps54
    go_wp2_with ((go_at_call 51; (first | (refine (inRange_yes (by assumption) _).mono ?_) | (refine (inRange_no (by assumption) _).mono ?_)); rintro e w' ⟨rfl, rfl⟩))
    go_ret
    exact ⟨ret_bool HV.out.symm, HB.out⟩

end Go.Proofs.YtkgofklpogdpmaaGreat

/- Contract: valid lists of rules, as the paper says it. -/
namespace Go.Proofs.YtkgofklpogdpmaaGreat
open Go.RowKit

set_option maxHeartbeats 3200000 in
set_option maxRecDepth 100000 in
theorem svalidRules_any (l : List ((Int × Int × Int × Int × Int × Int × Int) × (Int × Int) × (Option Addr × Nat × List (Int × Int)) × Int)) (A : Option Addr) (cap : Nat) (w : World) (hL : Sl encR 11 w w.heap.size A l) (hS : SpansIn w w.heap.size l) (hl : l.length ≤ 1000) :
    Calls Tryz.prog 21 #[.slice A l.length cap] w fun e w' => e = .returned (.bool (vRules l)) ∧ Below w.heap.size w w' := by
  go_enter Tryz.func21, Tryz.ntmps21
  go_wp2_with fail
  go_loopw [3] (fun i wr => ∃ k : Nat, k ≤ l.length ∧ i = .int .i64 k ∧ (List.range k).all (okK l) = true ∧ Below w.heap.size w wr) (fun i _ => l.length - (intOf i).toNat)
  case atStart => exact ⟨0, Nat.zero_le _, rfl, rfl, Below.refl _ _⟩
  case round =>
    obtain ⟨k, hk, rfl, hall, hb⟩ := hrel
    have HA := hid hall
    have hsz := hb.size
    have HB := hid hb
    clear hall
    by_cases hlt : k < l.length
    · obtain ⟨wo, rfl⟩ : ∃ wo : World, wo = wr := ⟨_, rfl⟩
      obtain ⟨⟨⟨n, lv, rk, gp, kd, vl, cp⟩, ⟨lo, hi⟩, ⟨a, C, S⟩, cn⟩, hx⟩ : ∃ x, atR l k = x := ⟨_, rfl⟩
      have hget := atR_get hlt
      rw [hx] at hget
      obtain ⟨b, off, rfl, hbb, c0, c1, c2, c3, c4, c5, c6, c7, c8, c9, c10⟩ := hL.getR hget
      have hsp := hS _ (atR_mem hlt)
      rw [hx] at hsp
      obtain ⟨hs1, hs2⟩ := hsp
      have HX := hid hx
      have d0 : wo.cell? ⟨b, off + k * 11, none⟩ = some (.int .i64 n) := (hb.cell (by simp; omega)).trans c0
      have d1 : wo.cell? ⟨b, off + k * 11 + 1, none⟩ = some (.int .i64 lv) := (hb.cell (by simp; omega)).trans c1
      have d2 : wo.cell? ⟨b, off + k * 11 + 2, none⟩ = some (.int .i64 rk) := (hb.cell (by simp; omega)).trans c2
      have d3 : wo.cell? ⟨b, off + k * 11 + 3, none⟩ = some (.int .i64 gp) := (hb.cell (by simp; omega)).trans c3
      have d4 : wo.cell? ⟨b, off + k * 11 + 4, none⟩ = some (.int .i64 kd) := (hb.cell (by simp; omega)).trans c4
      have d5 : wo.cell? ⟨b, off + k * 11 + 5, none⟩ = some (.int .i64 vl) := (hb.cell (by simp; omega)).trans c5
      have d6 : wo.cell? ⟨b, off + k * 11 + 6, none⟩ = some (.int .i64 cp) := (hb.cell (by simp; omega)).trans c6
      have d7 : wo.cell? ⟨b, off + k * 11 + 7, none⟩ = some (.int .i64 lo) := (hb.cell (by simp; omega)).trans c7
      have d8 : wo.cell? ⟨b, off + k * 11 + 8, none⟩ = some (.int .i64 hi) := (hb.cell (by simp; omega)).trans c8
      have d9 : wo.cell? ⟨b, off + k * 11 + 9, none⟩ = some (.slice a S.length C) := (hb.cell (by simp; omega)).trans c9
      have d10 : wo.cell? ⟨b, off + k * 11 + 10, none⟩ = some (.int .i64 cn) := (hb.cell (by simp; omega)).trans c10
      have hbw : b < wo.heap.size := by omega
      have HC0 := hid c0
      clear c0 c1 c2 c3 c4 c5 c6 c7 c8 c9 c10 hx hget hb
      have HVR := hid (show vR (atR l k) = vRule n lv rk gp kd vl cp lo hi S cn by rw [HX.out]; rfl)
      have HNK := hid (show nmK l k = n by unfold nmK; rw [HX.out]; rfl)
      have hs3 : Sl enc2 2 wo wo.heap.size a S := (hs1.below HB.out (Nat.le_refl _)).more hsz
      by_cases hv : vRule n lv rk gp kd vl cp lo hi S cn = true
      · have HV := hid hv
        clear hv
        go_wp2_with fail
        refine (svalidRule_any n lv rk gp kd vl cp lo hi cn a C S _ hs3 (Nat.le_trans hs2 (by omega))).mono ?_
        rintro e w1 ⟨rfl, b1⟩
        rw [HV.out]
        have HB1 := hid (HB.out.trans (b1.mono hsz))
        have hsz1 := HB1.out.size
        clear b1 hs3 d0 d1 d2 d3 d4 d5 d6 d7 d8 d9 d10
        go_wp2_with fail
        go_loopw [4] (fun i wr => ∃ j : Nat, j ≤ k ∧ i = .int .i64 j ∧ (List.range j).all (fun j => decide (nmK l j ≠ nmK l k)) = true ∧ Below w1.heap.size w1 wr) (fun i _ => k - (intOf i).toNat)
        case atStart => exact ⟨0, Nat.zero_le _, rfl, rfl, Below.refl _ _⟩
        case round =>
          obtain ⟨j, hj, rfl, hall2, hb2⟩ := hrel
          have HA2 := hid hall2
          have hsz2 := hb2.size
          have HB2 := hid hb2
          have hb3 := hid (HB1.out.trans (hb2.mono (by omega)))
          clear hall2
          by_cases hlj : j < k
          · skip
            have hlj2 : j < l.length := by omega
            obtain ⟨⟨⟨n', lv', rk', gp', kd', vl', cp'⟩, ⟨lo', hi'⟩, ⟨a', C', S'⟩, cn'⟩, hx'⟩ : ∃ x, atR l j = x := ⟨_, rfl⟩
            have hget' := atR_get hlj2
            rw [hx'] at hget'
            obtain ⟨b', off', he', hbb', c'0, c'1, c'2, c'3, c'4, c'5, c'6, c'7, c'8, c'9, c'10⟩ := hL.getR hget'
            obtain ⟨rfl, rfl⟩ : b = b' ∧ off = off' := by simpa using he'
            have HX' := hid hx'
            have HNJ := hid (show nmK l j = n' by unfold nmK; rw [HX'.out]; rfl)
            have d0 : wr.cell? ⟨b, off + k * 11, none⟩ = some (.int .i64 n) := (hb3.out.cell (by simp; omega)).trans HC0.out
            have d'0 : wr.cell? ⟨b, off + j * 11, none⟩ = some (.int .i64 n') := (hb3.out.cell (by simp; omega)).trans c'0
            have hbwr : b < wr.heap.size := by omega
            have hkl : (k : Int) < (l.length : Int) := by omega
            have hjl : (j : Int) < (l.length : Int) := by omega
            clear c'0 c'1 c'2 c'3 c'4 c'5 c'6 c'7 c'8 c'9 c'10 hx' hget' he' hb2
            by_cases he : n' = n
            · have e1 : (n' == n) = true := by rw [he]; simp
              have HE := hid he
              have HNO := hid (vRules_bad hlt (show okK l k = false by unfold okK newK; rw [range_all_no hlj (by rw [HNJ.out, HNK.out, HE.out]; simp)]; simp))
              clear he
              go_wp2_with fail
              go_quiet (fail)
              go_wp2
              go_ret
              refine ⟨ret_bool HNO.out.symm, ?_⟩
              first | exact hb3.out | exact below_drewN hb3.out _ | exact hb3.out.drew
            · have e1 : (n' == n) = false := beq_eq_false_iff_ne.2 he
              have HE := hid he
              clear he
              go_wp2_with fail
              go_quiet (fail)
              go_wp2
              go_roundw
              case rel =>
                refine ⟨j + 1, by omega, by go_num, range_all_succ HA2.out (by rw [HNJ.out, HNK.out]; exact decide_eq_true HE.out), ?_⟩
                first | exact HB2.out | exact below_drewN HB2.out _ | exact HB2.out.drew
              case measure => simp [intOf]; omega
          · have hjk : j = k := by omega
            subst hjk
            have HOK := hid (show okK l j = true by unfold okK newK; rw [HVR.out, HV.out, HA2.out]; rfl)
            clear hb2
            go_wp2
            go_roundw
            case rel => exact ⟨j + 1, by omega, by go_num, range_all_succ HA.out HOK.out, hb3.out⟩
            case measure => simp [intOf]; omega
      · have HV := hid (show vRule n lv rk gp kd vl cp lo hi S cn = false by simpa using hv)
        clear hv
        have HNO := hid (vRules_bad hlt (show okK l k = false by unfold okK; rw [HVR.out, HV.out]; rfl))
        go_wp2_with fail
        refine (svalidRule_any n lv rk gp kd vl cp lo hi cn a C S _ hs3 (Nat.le_trans hs2 (by omega))).mono ?_
        rintro e w1 ⟨rfl, b1⟩
        rw [HV.out]
        have HB1 := hid (HB.out.trans (b1.mono hsz))
        clear b1 hs3
        go_wp2
        go_ret
        exact ⟨ret_bool HNO.out.symm, HB1.out⟩
    · have hkl : k = l.length := by omega
      subst hkl
      have HR := hid (vRules_rest HA.out)
      clear hb
      go_wp2
      go_ret
      exact ⟨ret_bool (by rw [HR.out, decide_eq_decide]; omega), HB.out⟩

end Go.Proofs.YtkgofklpogdpmaaGreat
