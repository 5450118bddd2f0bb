/- Contract: pairs of numbers sorted by the library: the call comes to its end and turns nothing but the row. -/
import Derived.Test.YtkgofklpogdpmaaGreatZOrdI
namespace Go.Proofs.YtkgofklpogdpmaaGreat
open Go.RowKit Go.Sort Go.Shelf

def cfP (x y x' y' : Int) : Int := first0 [Lib.compareInt x x', Lib.compareInt y y']
theorem cfP_neg (x y x' y' : Int) : cfP x y x' y' < 0 ↔ (x < x' ∨ (x = x' ∧ y < y')) := by
  unfold cfP
  rcases cmpI_cases x x' with ⟨h1, e1⟩ | ⟨h1, e1⟩ | ⟨h1, e1⟩ <;> rcases cmpI_cases y y' with ⟨h2, e2⟩ | ⟨h2, e2⟩ | ⟨h2, e2⟩ <;> rw [e1, e2] <;> simp [first0] <;> omega

set_option maxHeartbeats 3200000 in
set_option maxRecDepth 100000 in
theorem pairCmp_any (b b' : Nat) (x y x' y' : Int) (W : World) (h0 : W.cell? ⟨b, 0, none⟩ = some (.int .i64 x)) (h1 : W.cell? ⟨b, 1, none⟩ = some (.int .i64 y)) (h2 : W.cell? ⟨b', 0, none⟩ = some (.int .i64 x')) (h3 : W.cell? ⟨b', 1, none⟩ = some (.int .i64 y')) (hb : b < W.heap.size) (hb' : b' < W.heap.size) :
    Calls Tryz.prog 77 #[.slice (some ⟨b, 0, none⟩) 2 2, .slice (some ⟨b', 0, none⟩) 2 2] W fun e w' => e = .returned (.int .i64 (cfP x y x' y')) ∧ ∃ q os', w' = grow (W.drewN q) os' := by
  have HS := hid (show Sl enc1 1 (W.alloc (.cells #[.int .i64 (Lib.compareInt x x'), .int .i64 (Lib.compareInt y y')] 3)).drew (W.alloc (.cells #[.int .i64 (Lib.compareInt x x'), .int .i64 (Lib.compareInt y y')] 3)).drew.heap.size (some ⟨W.heap.size, 0, none⟩) [Lib.compareInt x x', Lib.compareInt y y'] from
    (Own.lit (e := 3) (l := [Lib.compareInt x x', Lib.compareInt y y']) len1 (w := W) (base := 0) (g := W.heap.size) (n := 2) (cs := #[.int .i64 (Lib.compareInt x x'), .int .i64 (Lib.compareInt y y')]) (by simp) (Nat.zero_le _) rfl (by simp) rfl).sl len1)
  go_enter Tryz.func77, Tryz.ntmps77
  go_wp2_with fail
  go_region_held3 (fun z => z.cell? ⟨b, 0, none⟩ = some (.int .i64 x) ∧ z.cell? ⟨b, 1, none⟩ = some (.int .i64 y) ∧ z.cell? ⟨b', 0, none⟩ = some (.int .i64 x') ∧ z.cell? ⟨b', 1, none⟩ = some (.int .i64 y')) (((repeat' apply And.intro) <;> first | assumption | (simp [go_sem, *]; done))) (first
    | (go_at_call 44; refine (compare_any _ _ _).mono ?_; rintro e w' ⟨rfl, rfl⟩)
    | (go_at_call 43; refine (or_any [Lib.compareInt x x', Lib.compareInt y y'] (some ⟨W.heap.size, 0, none⟩) 2 _ HS.out (by simp)).mono ?_; rintro e w' ⟨rfl, rfl⟩))
  clear h0 h1 h2 h3
  go_wp2
  go_ret
  exact ⟨rfl, 1, _, by show W.drew.alloc (.cells #[.int .i64 (Lib.compareInt x x'), .int .i64 (Lib.compareInt y y')] 3) = _; rw [alloc_eq_grow]; rfl⟩

/-! ### Pairs of a row: each in a block of its own -/
def encP (p : Nat × Int × Int) : List Value := [.slice (some ⟨p.1, 0, none⟩) 2 2]
theorem lenP (p : Nat × Int × Int) : (encP p).length = 1 := rfl
theorem oneP (p : Nat × Int × Int) : ∀ u ∈ encP p, u.oneCell' = true := by intro u hu; simp [encP] at hu; subst hu; rfl
def PairIn (w : World) (v : Value) (p : Nat × Int × Int) : Prop := w.cell? ⟨p.1, 0, none⟩ = some (.int .i64 p.2.1) ∧ w.cell? ⟨p.1, 1, none⟩ = some (.int .i64 p.2.2) ∧ p.1 < w.heap.size ∧ v.ownBlock ≠ some p.1
theorem PairIn.below {w w' : World} {v : Value} {p : Nat × Int × Int} {n : Nat} (h : PairIn w v p) (hb : Below n w w') (hn : w.heap.size ≤ n) : PairIn w' v p :=
  ⟨(hb.cell (p := ⟨p.1, 0, none⟩) (Nat.lt_of_lt_of_le h.2.2.1 hn)).trans h.1, (hb.cell (p := ⟨p.1, 1, none⟩) (Nat.lt_of_lt_of_le h.2.2.1 hn)).trans h.2.1, Nat.lt_of_lt_of_le h.2.2.1 hb.size, h.2.2.2⟩
theorem PairIn.alloc {w : World} {v : Value} {p : Nat × Int × Int} (h : PairIn w v p) (o : Obj) : PairIn (w.alloc o) v p :=
  ⟨(World.cell?_alloc_lt w o ⟨p.1, 0, none⟩ h.2.2.1).trans h.1, (World.cell?_alloc_lt w o ⟨p.1, 1, none⟩ h.2.2.1).trans h.2.1, by have := h.2.2.1; simp; omega, h.2.2.2⟩
theorem PairIn.grown {w w' : World} {v v' : Value} {p : Nat × Int × Int} (h : PairIn w v p) (hg : w.grownBy w' v.ownBlock) (hv : v'.ownBlock = v.ownBlock ∨ ∃ k, v'.ownBlock = some k ∧ w.heap.size ≤ k) : PairIn w' v' p := by
  have hb := hg.block p.1 h.2.2.1 (fun e => h.2.2.2 e.symm)
  refine ⟨(World.cell?_of_block (a := ⟨p.1, 0, none⟩) hb).trans h.1, (World.cell?_of_block (a := ⟨p.1, 1, none⟩) hb).trans h.2.1, Nat.lt_of_lt_of_le h.2.2.1 hg.size, ?_⟩
  rcases hv with hv | ⟨k, hv, hk⟩
  · rw [hv]; exact h.2.2.2
  · rw [hv]; intro he; injection he with he; have := h.2.2.1; omega

instance : Inhabited (Nat × Int × Int) := ⟨(0, 0, 0)⟩
theorem infoPairs : (Tryz.prog.info? 25).map (fun i => (i.zero, i.size, i.bytes)) = some (some (.slice none 0 0), 1, 24) := by kernel_rfl

theorem grownBy_sort1 {α : Type} [Inhabited α] (enc : α → Value) (w : World) (g n : Nat) (d : Array α) (os : Array Obj) : w.grownBy (sortWorld enc w g 0 n d os) (some g) := by
  refine ⟨rfl, rfl, rfl, by simp [sortWorld, putRow, mapBlock, Sort.ahead], fun b hb hne => ?_⟩
  unfold sortWorld
  rw [heap_grow_old _ _ (by simpa [putRow, mapBlock, Sort.ahead] using hb)]
  have : g ≠ b := fun e => hne (by rw [e])
  simp [putRow, mapBlock, Sort.ahead, Array.getElem?_modify, this]

theorem sortPairs_any (ps : List (Nat × Int × Int)) (g cap base : Nat) (w : World) (h : Own encP 1 25 w base (.slice (some ⟨g, 0, none⟩) ps.length cap) ps) (hp : ∀ p ∈ ps, PairIn w (.slice (some ⟨g, 0, none⟩) ps.length cap) p) (hl : ps.length ≤ 1000) (hne : ps ≠ []) :
    Calls Tryz.prog 76 #[.slice (some ⟨g, 0, none⟩) ps.length cap, .func (.func 77) #[] #[]] w fun e w' => e = .returned (.tuple #[]) ∧ w.grownBy w' (some g) := by
  have hg : g < w.heap.size := (h.lt g rfl).2
  let α := {p : Nat × Int × Int // PairIn w (.slice (some ⟨g, 0, none⟩) ps.length cap) p}
  obtain ⟨p0, hp0⟩ := List.exists_mem_of_ne_nil ps hne
  letI : Inhabited α := ⟨⟨p0, hp p0 hp0⟩⟩
  let enc : α → Value := fun p => .slice (some ⟨p.1.1, 0, none⟩) 2 2
  let cf : α → α → Int := fun p q => cfP p.1.2.1 p.1.2.2 q.1.2.1 q.1.2.2
  let d : Array α := (ps.attach.map fun p => (⟨p.1, hp p.1 p.2⟩ : α)).toArray
  have hd : d.size = ps.length := by simp [d]
  have hsw : SWO (ltOf cf) := {
    irrefl := fun x => by
      show decide (cfP _ _ _ _ < 0) = false
      rw [decide_eq_false_iff_not, cfP_neg]; omega
    trans := fun x y z h1 h2 => by
      have h1 : decide (cfP _ _ _ _ < 0) = true := h1
      have h2 : decide (cfP _ _ _ _ < 0) = true := h2
      show decide (cfP _ _ _ _ < 0) = true
      rw [decide_eq_true_eq, cfP_neg] at *; omega
    ntrans := fun x y z h1 h2 => by
      have h1 : decide (cfP _ _ _ _ < 0) = false := h1
      have h2 : decide (cfP _ _ _ _ < 0) = false := h2
      show decide (cfP _ _ _ _ < 0) = false
      rw [decide_eq_false_iff_not, cfP_neg] at *; omega }
  have hH : Holds enc w g 0 d := by
    intro j hj
    rw [hd] at hj
    refine ⟨?_, h.frozen rfl _⟩
    have hc := h.cell lenP rfl (List.getElem?_eq_getElem hj) (j := 0) rfl
    rw [Nat.zero_add]
    have e1 : (d[j]!).1 = ps[j] := by
      rw [getElem!_pos d j (by rw [hd]; exact hj)]
      simp [d]
    show _ = some (Value.slice (some ⟨(d[j]!).1.1, 0, none⟩) 2 2)
    rw [e1]
    simpa using hc
  have eg : ∀ args w, (callFunc 77 args).run Tryz.prog w = .ok (.enter 77 args) w := enters_of Tryz.func77 (by kernel_rfl) rfl
  have hcmp : CmpLays1 Tryz.prog 77 #[] enc cf g 0 d.size w := fun m os dk _ x y => by
    have hgr := grownBy_sort1 enc w g m dk os
    have hx := hgr.block x.1.1 x.2.2.2.1 (fun e => x.2.2.2.2 e.symm)
    have hy := hgr.block y.1.1 y.2.2.2.1 (fun e => y.2.2.2.2 e.symm)
    exact pairCmp_any x.1.1 y.1.1 x.1.2.1 x.1.2.2 y.1.2.1 y.1.2.2 _ ((World.cell?_of_block (a := ⟨x.1.1, 0, none⟩) hx).trans x.2.1) ((World.cell?_of_block (a := ⟨x.1.1, 1, none⟩) hx).trans x.2.2.1) ((World.cell?_of_block (a := ⟨y.1.1, 0, none⟩) hy).trans y.2.1) ((World.cell?_of_block (a := ⟨y.1.1, 1, none⟩) hy).trans y.2.2.1) (Nat.lt_of_lt_of_le x.2.2.2.1 hgr.size) (Nat.lt_of_lt_of_le y.2.2.2.1 hgr.size)
  have hcon := Any.slices_SortFunc Tryz.sortPairs enc (fun _ => rfl) cf hsw 77 #[] g 0 cap d w eg hcmp hH hg (by rw [hd]; omega)
  change Calls Tryz.prog 76 _ _ _ at hcon
  rw [hd] at hcon
  refine hcon.mono ?_
  rintro e w' ⟨rfl, d', n, os, _, _, rfl⟩
  exact ⟨rfl, grownBy_sort1 enc w g n d' os⟩

theorem sortPairs_none (A : Option Addr) (cap : Nat) (w : World) :
    Calls Tryz.prog 76 #[.slice A 0 cap, .func (.func 77) #[] #[]] w fun e w' => e = .returned (.tuple #[]) ∧ w = w' := by
  have hcon := AnyF.slices_SortFunc_none { Tryz.sortPairs with } A cap (.func (.func 77) #[] #[]) w
  change Calls Tryz.prog 76 _ _ _ at hcon
  exact hcon.mono fun e w' ⟨h1, h2⟩ => ⟨h1, h2.symm⟩

end Go.Proofs.YtkgofklpogdpmaaGreat
