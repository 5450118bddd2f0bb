/- How the arguments of the laws read: bytes, sold lines, numbers, slices. No program in sight. -/
import Derived.Test.YtkgofklpogdpmaaGreatZB
import Derived.Test.YtkgofklpogdpmaaGreatZA
import Derived.ProofKit
import Derived.Lib.SmallJoins
import Derived.Deep.Slices
import Derived.Deep.Fields
namespace Go.Proofs.YtkgofklpogdpmaaGreat
open Go.RowKit Go.ChangeShapes Go.WideShapes Go.Deep

section
variable {H : Type} {enc : TypeId × Value → H} {P : Program} {w : World} {base : Nat} {spare : Nat → Bool} {held : Bool}

theorem wf_u8_bd {n : Int} (h : (Lit.int .u8 n).wf = true) : 0 ≤ n ∧ n ≤ 255 := by
  simp [Lit.wf, IntKind.min, IntKind.max, IntKind.signed, IntKind.bits] at h
  omega
theorem wf_i64_bd {n : Int} (h : (Lit.int .i64 n).wf = true) : -9223372036854775808 ≤ n ∧ n ≤ 9223372036854775807 := by
  simp [Lit.wf, IntKind.min, IntKind.max, IntKind.signed, IntKind.bits] at h
  omega

theorem open_bytes {t e : TypeId} {a : Option Addr} {len cap : Nat} {d : DataW H} {p : List MemPlace} (ht : P.underlying t = some (.slice e)) (he : P.underlying e = some (.int .u8)) (hC : P.cellsOf e = 1)
    (hj : DataW.Trod enc P w base spare held t (.slice a len cap) d p) : Bytes w w.heap.size a len cap := by
  obtain ⟨fuel, hf⟩ := hj
  rcases open_ints ht he hC hf with ⟨hcs, _⟩ | ⟨x, l, c, zs, hcs, _, hl, hm, hz, _, hcell, hwz⟩
  · simp [Value.cells] at hcs
    obtain ⟨rfl, rfl, rfl⟩ := hcs
    exact ⟨Nat.le_refl _, by simp [maxLen], fun h => absurd h (by omega)⟩
  · simp [Value.cells] at hcs
    obtain ⟨rfl, rfl, rfl⟩ := hcs
    refine ⟨hl, hm, fun h0 => ?_⟩
    have hzl : len ≤ zs.length := by rw [hz]; split <;> omega
    obtain ⟨b, off, spot⟩ := x
    have hc := hcell 0 (by omega)
    have hspot : spot = none := by simpa [Addr.add] using World.cell?_spot hc
    subst hspot
    refine ⟨b, off, fun i => zs.getD i 0, rfl, ?_, fun i hi => ⟨?_, ?_⟩⟩
    · have := World.block_lt_of_cell? _ _ hc
      simpa [Addr.add] using this
    · have := hcell i (by omega)
      rwa [Addr.add_lit] at this
    · refine wf_u8_bd (hwz _ ?_)
      simp [List.getD, show i < zs.length by omega]

theorem open_sl1 {t e : TypeId} {a : Option Addr} {len cap : Nat} {d : DataW H} {p : List MemPlace} (ht : P.underlying t = some (.slice e)) (he : P.underlying e = some (.int .i64)) (hC : P.cellsOf e = 1)
    (hj : DataW.Trod enc P w base spare held t (.slice a len cap) d p) : ∃ l : List Int, len = l.length ∧ l.length ≤ cap ∧ cap ≤ maxLen ∧ Sl enc1 1 w w.heap.size a l := by
  obtain ⟨fuel, hf⟩ := hj
  rcases open_ints ht he hC hf with ⟨hcs, _⟩ | ⟨x, l, c, zs, hcs, _, hl, hm, hz, _, hcell, hwz⟩
  · simp [Value.cells] at hcs
    obtain ⟨rfl, rfl, rfl⟩ := hcs
    exact ⟨[], rfl, Nat.le_refl _, by simp [maxLen], .inl rfl⟩
  · simp [Value.cells] at hcs
    obtain ⟨rfl, rfl, rfl⟩ := hcs
    have hzl : len ≤ zs.length := by rw [hz]; split <;> omega
    have hlen : (zs.take len).length = len := by rw [List.length_take]; omega
    refine ⟨zs.take len, hlen.symm, by rw [hlen]; exact hl, hm, ?_⟩
    rcases Nat.eq_zero_or_pos len with h0 | h0
    · subst h0; exact .inl (by simp)
    obtain ⟨b, off, spot⟩ := x
    have hc := hcell 0 (by omega)
    have hspot : spot = none := by simpa [Addr.add] using World.cell?_spot hc
    subst hspot
    refine .inr ⟨b, off, rfl, ?_, fun i y hi j u hu => ?_⟩
    · have := World.block_lt_of_cell? _ _ hc
      simpa [Addr.add] using this
    · have hil : i < len := by
        have := (List.getElem?_eq_some_iff.1 hi).1
        omega
      have h1 := hcell i (by omega)
      rw [Addr.add_lit] at h1
      have hy : zs[i]? = some y := by rw [← hi, List.getElem?_take, if_pos hil]
      have hj0 : j = 0 := by
        have := (List.getElem?_eq_some_iff.1 hu).1
        simp [enc1] at this; exact this
      subst hj0
      simp [enc1] at hu
      subst hu
      simpa [List.getD, hy] using h1

/-- A slice of structs of k numbers: element i's field j. -/
theorem open_slk {t e : TypeId} {fs : Array Field} {a : Option Addr} {len cap : Nat} {d : DataW H} {p : List MemPlace} (ht : P.underlying t = some (.slice e)) (he : P.underlying e = some (.struct fs)) (hone : oneCellFields P fs = true)
    (hC : P.cellsOf e = fs.size) (hint : ∀ (j : Nat) (f : Field), fs[j]? = some f → P.underlying f.type = some (.int .i64))
    (hj : DataW.Trod enc P w base spare held t (.slice a len cap) d p) :
    len ≤ cap ∧ cap ≤ maxLen ∧ ∃ V : Nat → Nat → Int, ∀ i j, i < len → j < fs.size → ∃ x, a = some x ∧ w.cell? (x.add (i * fs.size + j)) = some (.int .i64 (V i j)) := by
  obtain ⟨fuel, hf⟩ := hj
  rcases open_slice ht hf with ⟨hcs, _⟩ | ⟨x, l, c, m, n, D, Pl, hcs, _, hl, hm, hmm, _, hx⟩
  · simp [Value.cells] at hcs
    obtain ⟨rfl, rfl, rfl⟩ := hcs
    exact ⟨Nat.le_refl _, by simp [maxLen], fun _ _ => 0, fun i j hi _ => absurd hi (by omega)⟩
  · simp [Value.cells] at hcs
    obtain ⟨rfl, rfl, rfl⟩ := hcs
    have hml : len ≤ m := by rw [hmm]; split <;> omega
    refine ⟨hl, hm, ?_⟩
    have key : ∀ i, i < len → ∃ f : Nat → Int, ∀ j, j < fs.size → w.cell? (x.add (i * fs.size + j)) = some (.int .i64 (f j)) := by
      intro i hi
      obtain ⟨cs', hc, ht'⟩ := hx i (by omega)
      rw [hC] at hc
      obtain ⟨ys, n', hn', hy, hlen, hyl, hff⟩ := DataW.trod_struct he ht'
      obtain ⟨_, hcl, hat⟩ := World.cells?_some hc
      refine choose_lt (p := fun j q => w.cell? (x.add (i * fs.size + j)) = some (.int .i64 q)) (fun j hj => ?_)
      have hfj : fs[j]? = some fs[j] := Array.getElem?_eq_getElem hj
      obtain ⟨ho, hk⟩ := hone_of hone j _ hfj
      have h1 := hff j _ hfj
      rw [ho, hk] at h1
      have hv : cs'[j]? = some (cs'[j]'(by omega)) := List.getElem?_eq_getElem (by omega)
      have hone' : (cs'.drop j).take 1 = [cs'[j]'(by omega)] := by
        rw [List.drop_eq_getElem_cons (by omega)]
        rfl
      rw [hone', List.getElem?_eq_getElem (show j < ys.length by omega)] at h1
      obtain ⟨q, hq, _, _⟩ := DataW.trod_int (hint j _ hfj) h1
      refine ⟨q, ?_⟩
      rw [← add_add, hat j hj, hv]
      simp only [List.cons.injEq, and_true] at hq
      rw [hq]
    obtain ⟨F, hF⟩ := choose_lt (α := Nat → Int) (p := fun i f => ∀ j, j < fs.size → w.cell? (x.add (i * fs.size + j)) = some (.int .i64 (f j))) key
    exact ⟨F, fun i j hi hj => ⟨x, rfl, hF i hi j hj⟩⟩

theorem sl_of_table {α : Type} {en : α → List Value} {k : Nat} (hen : ∀ y, (en y).length = k) (hk : 0 < k) {a : Option Addr} {len : Nat} {V : Nat → Nat → Int} (g : Nat → α) (hg : ∀ i j, j < k → (en (g i))[j]? = some (.int .i64 (V i j)))
    (h : ∀ i j, i < len → j < k → ∃ x, a = some x ∧ w.cell? (x.add (i * k + j)) = some (.int .i64 (V i j))) : Sl en k w w.heap.size a ((List.range len).map g) := by
  rcases Nat.eq_zero_or_pos len with h0 | h0
  · subst h0; exact .inl (by simp)
  obtain ⟨⟨b, off, spot⟩, rfl, hc⟩ := h 0 0 h0 hk
  have hspot : spot = none := by simpa [Addr.add] using World.cell?_spot hc
  subst hspot
  refine .inr ⟨b, off, rfl, ?_, fun i y hi j u hu => ?_⟩
  · have := World.block_lt_of_cell? _ _ hc
    simpa [Addr.add] using this
  · have hil : i < len := by
      have := (List.getElem?_eq_some_iff.1 hi).1
      simpa using this
    have hy : y = g i := by simpa [hil] using hi.symm
    subst hy
    have hjk : j < k := by
      have := (List.getElem?_eq_some_iff.1 hu).1
      rwa [hen] at this
    obtain ⟨x, hx, hxc⟩ := h i j hil hjk
    obtain rfl := Option.some.inj hx
    rw [hg i j hjk] at hu
    rw [← hu]
    rwa [Addr.add_lit] at hxc

theorem open_sl2 {t e : TypeId} {fs : Array Field} {a : Option Addr} {len cap : Nat} {d : DataW H} {p : List MemPlace} (ht : P.underlying t = some (.slice e)) (he : P.underlying e = some (.struct fs)) (hone : oneCellFields P fs = true)
    (hs : fs.size = 2) (hC : P.cellsOf e = fs.size) (hint : ∀ (j : Nat) (f : Field), fs[j]? = some f → P.underlying f.type = some (.int .i64))
    (hj : DataW.Trod enc P w base spare held t (.slice a len cap) d p) : ∃ l : List (Int × Int), len = l.length ∧ l.length ≤ cap ∧ cap ≤ maxLen ∧ Sl enc2 2 w w.heap.size a l := by
  obtain ⟨h1, h2, V, hV⟩ := open_slk ht he hone hC hint hj
  rw [hs] at hV
  exact ⟨(List.range len).map fun i => (V i 0, V i 1), by simp, by simpa using h1, h2,
    sl_of_table len2 (by omega) (fun i => (V i 0, V i 1)) (fun i j hj => by match j, hj with | 0, _ => rfl | 1, _ => rfl) hV⟩
theorem open_sl4 {t e : TypeId} {fs : Array Field} {a : Option Addr} {len cap : Nat} {d : DataW H} {p : List MemPlace} (ht : P.underlying t = some (.slice e)) (he : P.underlying e = some (.struct fs)) (hone : oneCellFields P fs = true)
    (hs : fs.size = 4) (hC : P.cellsOf e = fs.size) (hint : ∀ (j : Nat) (f : Field), fs[j]? = some f → P.underlying f.type = some (.int .i64))
    (hj : DataW.Trod enc P w base spare held t (.slice a len cap) d p) : ∃ l : List (Int × Int × Int × Int), len = l.length ∧ l.length ≤ cap ∧ cap ≤ maxLen ∧ Sl enc4 4 w w.heap.size a l := by
  obtain ⟨h1, h2, V, hV⟩ := open_slk ht he hone hC hint hj
  rw [hs] at hV
  exact ⟨(List.range len).map fun i => (V i 0, V i 1, V i 2, V i 3), by simp, by simpa using h1, h2,
    sl_of_table len4 (by omega) (fun i => (V i 0, V i 1, V i 2, V i 3)) (fun i j hj => by match j, hj with | 0, _ => rfl | 1, _ => rfl | 2, _ => rfl | 3, _ => rfl) hV⟩

/-- A struct of three numbers by value. -/
theorem open_num3 {r : Reach} {b0 : Nat} {t : TypeId} {f0 f1 f2 : Field} {v : Value} {d : DataW H} {p : List MemPlace} (hs : P.underlying t = some (.struct #[f0, f1, f2])) (hone : oneCellFields P #[f0, f1, f2] = true) (hC : P.cellsOf t = 3)
    (i0 : P.underlying f0.type = some (.int .i64)) (i1 : P.underlying f1.type = some (.int .i64)) (i2 : P.underlying f2.type = some (.int .i64))
    (hv : Value.okWide P w r b0 t v) (h : DataW.Trod enc P w base spare held t v d p) : ∃ x y z : Int, v = .agg #[.int .i64 x, .int .i64 y, .int .i64 z] := by
  obtain ⟨v0, v1, v2, y0, y1, y2, n, rfl, _, _, h0, h1, h2⟩ := Joins.open_agg3 hs hone hC hv h
  obtain ⟨x, hx, _, _⟩ := DataW.trod_int i0 h0
  obtain ⟨y, hy, _, _⟩ := DataW.trod_int i1 h1
  obtain ⟨z, hz, _, _⟩ := DataW.trod_int i2 h2
  simp only [List.cons.injEq, and_true] at hx hy hz
  exact ⟨x, y, z, by rw [hx, hy, hz]⟩
end

end Go.Proofs.YtkgofklpogdpmaaGreat
