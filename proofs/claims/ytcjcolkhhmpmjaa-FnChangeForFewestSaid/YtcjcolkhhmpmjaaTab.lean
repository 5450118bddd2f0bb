/- Tables of numbers: a slice of rows, each in a block of its own. -/
import Derived.Test.YtcjcolkhhmpmjaaNum
import Derived.Test.YtcjcolkhhmpmjaaOwn
namespace Go.Proofs.Ytcjcolkhhmpmjaa
open Go.RowKit

theorem intInfo : (Try.prog.info? 3).map (fun i => (i.zero, i.size, i.bytes)) = some (some (.int .i64 0), 1, 8) := by kernel_rfl
theorem rowInfo : (Try.prog.info? 35).map (fun i => (i.zero, i.size, i.bytes)) = some (some (.slice none 0 0), 1, 24) := by kernel_rfl

/-- A row of numbers in a block of its own. -/
def Row (w : World) (g : Nat) (L : List Int) : Prop := g < w.heap.size ∧ ∀ i, i < L.length → w.cell? ⟨g, i, none⟩ = some (.int .i64 (g0 L i))
def encR (m : Nat) (p : Nat × Nat) : List Value := [.slice (some ⟨p.1, 0, none⟩) m p.2]
theorem lenR (m : Nat) : ∀ p, (encR m p).length = 1 := fun _ => rfl
theorem oneR (m : Nat) : ∀ y, ∀ u ∈ encR m y, u.oneCell' = true := by intro y u hu; simp [encR] at hu; subst hu; rfl
def rowG (rows : List (Nat × Nat)) (k : Nat) : Nat := (rows.getD k (0, 0)).1
def rowC (rows : List (Nat × Nat)) (k : Nat) : Nat := (rows.getD k (0, 0)).2
theorem row_get {rows : List (Nat × Nat)} {k : Nat} (h : k < rows.length) : rows[k]? = some (rowG rows k, rowC rows k) := by
  rw [List.getElem?_eq_getElem h]; simp [rowG, rowC, List.getD, h]
theorem rowG_app {rows : List (Nat × Nat)} {p : Nat × Nat} {k : Nat} (h : k < rows.length) : rowG (rows ++ [p]) k = rowG rows k := by
  simp only [rowG, List.getD_eq_getElem?_getD, List.getElem?_append_left h]
theorem rowG_last {rows : List (Nat × Nat)} {p : Nat × Nat} : rowG (rows ++ [p]) rows.length = p.1 := by
  simp [rowG, List.getD_eq_getElem?_getD]

theorem Row.grown {w w' : World} {g : Nat} {L : List Int} {row : Option Nat} (h : Row w g L) (hg : w.grownBy w' row) (hne : row ≠ some g) : Row w' g L :=
  ⟨Nat.lt_of_lt_of_le h.1 hg.size, fun i hi => (World.cell?_of_block (hg.block g h.1 (fun e => hne e.symm))).trans (h.2 i hi)⟩
theorem Row.below {w w' : World} {g n : Nat} {L : List Int} (h : Row w g L) (hb : Below n w w') (hn : g < n) : Row w' g L :=
  ⟨Nat.lt_of_lt_of_le h.1 hb.size, fun i hi => (hb.cell (p := ⟨g, i, none⟩) hn).trans (h.2 i hi)⟩
theorem Row.alloc {w : World} {g : Nat} {L : List Int} (h : Row w g L) (o : Obj) : Row (w.alloc o) g L :=
  h.below (n := w.heap.size) ((Below.refl _ _).alloc (Nat.le_refl _) o) h.1
theorem Row.of_own {w : World} {base n cap g : Nat} {e : TypeId} {L : List Int} (h : Own enc1 1 e w base (.slice (some ⟨g, 0, none⟩) n cap) L) (hn : n = L.length) : Row w g L := by
  refine ⟨(h.lt g rfl).2, fun i hi => ?_⟩
  have := h.cell len1 hn (g0_get hi) (j := 0) rfl
  simpa using this

/-- The outer slice v and its rows; row j holds T j. -/
def Tab (w : World) (base m : Nat) (v : Value) (rows : List (Nat × Nat)) (T : Nat → List Int) : Prop :=
  Own (encR m) 1 35 w base v rows ∧ ∀ j, j < rows.length → Row w (rowG rows j) (T j) ∧ (T j).length = m ∧ v.ownBlock ≠ some (rowG rows j)
theorem Tab.below {w w' : World} {base m n : Nat} {v : Value} {rows : List (Nat × Nat)} {T : Nat → List Int} (h : Tab w base m v rows T) (hb : Below n w w') (hn : w.heap.size ≤ n) : Tab w' base m v rows T :=
  ⟨h.1.below hb hn, fun j hj => ⟨(h.2 j hj).1.below hb (Nat.lt_of_lt_of_le (h.2 j hj).1.1 hn), (h.2 j hj).2⟩⟩
theorem Tab.alloc {w : World} {base m : Nat} {v : Value} {rows : List (Nat × Nat)} {T : Nat → List Int} (h : Tab w base m v rows T) (o : Obj) : Tab (w.alloc o) base m v rows T :=
  ⟨h.1.alloc o, fun j hj => ⟨(h.2 j hj).1.alloc o, (h.2 j hj).2⟩⟩
theorem Tab.drewN {w : World} {base m : Nat} {v : Value} {rows : List (Nat × Nat)} {T : Nat → List Int} (h : Tab w base m v rows T) (n : Nat) : Tab (w.drewN n) base m v rows T := h
/-- One row more. -/
theorem Tab.push {W w' : World} {base m gr cr : Nat} {v v' : Value} {rows : List (Nat × Nat)} {T : Nat → List Int} {o : Obj} (h : Tab W base m v rows T) (ho' : Own (encR m) 1 35 w' base v' (rows ++ [(gr, cr)]))
    (hg : (W.alloc o).grownBy w' v.ownBlock) (hat : v'.ownBlock = v.ownBlock ∨ v'.ownBlock = some (W.heap.size + 1)) (hr : Row W gr (T rows.length)) (hl : (T rows.length).length = m) (hne : v.ownBlock ≠ some gr) : Tab w' base m v' (rows ++ [(gr, cr)]) T := by
  refine ⟨ho', fun j hj => ?_⟩
  have key : ∀ g L, Row W g L → v.ownBlock ≠ some g → Row w' g L ∧ v'.ownBlock ≠ some g := fun g L h1 h2 => by
    refine ⟨(h1.alloc o).grown hg h2, ?_⟩
    rcases hat with e | e
    · rw [e]; exact h2
    · rw [e]; intro he; cases he; have := h1.1; omega
  rw [List.length_append, List.length_singleton] at hj
  rcases Nat.lt_succ_iff_lt_or_eq.1 hj with h1 | h1
  · rw [rowG_app h1]
    obtain ⟨a, b, c⟩ := h.2 j h1
    exact ⟨(key _ _ a c).1, b, (key _ _ a c).2⟩
  · subst h1
    rw [rowG_last]
    exact ⟨(key _ _ hr hne).1, hl, (key _ _ hr hne).2⟩
/-- Its value, once it has rows. -/
theorem Tab.form {w : World} {base m : Nat} {v : Value} {rows : List (Nat × Nat)} {T : Nat → List Int} (h : Tab w base m v rows T) (h0 : 0 < rows.length) : ∃ g cap, v = .slice (some ⟨g, 0, none⟩) rows.length cap ∧ base ≤ g ∧ g < w.heap.size := by
  rcases h.1.form with ⟨_, h1⟩ | ⟨g, cap, h1, h2, h3, _⟩
  · subst h1; simp at h0
  · exact ⟨g, cap, h1, h2, h3⟩
/-- How it reads. -/
theorem Tab.read {w : World} {base m g cap n : Nat} {rows : List (Nat × Nat)} {T : Nat → List Int} (h : Tab w base m (.slice (some ⟨g, 0, none⟩) n cap) rows T) (hn : n = rows.length) {j : Nat} (hj : j < rows.length) :
    w.cell? ⟨g, j, none⟩ = some (.slice (some ⟨rowG rows j, 0, none⟩) m (rowC rows j)) ∧ (∀ i, i < m → w.cell? ⟨rowG rows j, i, none⟩ = some (.int .i64 (g0 (T j) i))) ∧ rowG rows j < w.heap.size ∧ g < w.heap.size := by
  have h1 := h.1.cell (lenR m) hn (row_get hj) (j := 0) rfl
  obtain ⟨h2, h3, _⟩ := h.2 j hj
  refine ⟨by simpa using h1, fun i hi => h2.2 i (by omega), h2.1, (h.1.lt g rfl).2⟩

/-- A list that is made from the front, with the head decided. -/
theorem fill_get {l : List Int} {m k : Nat} (hm : l.length = m) (h : k < m) : (l.take k ++ List.replicate (m - k) 0)[k]? = some 0 := by
  subst hm; exact get_fill h
theorem fill_set {l : List Int} {m k : Nat} {x : Int} (hm : l.length = m) (h : k < m) : (l.take k ++ List.replicate (m - k) 0).set k x = l.take k ++ x :: List.replicate (m - (k + 1)) 0 := by
  subst hm; exact set_fill h
theorem mid_get {l : List Int} {k n : Nat} {x : Int} (h : k ≤ l.length) : (l.take k ++ x :: List.replicate n 0)[k]? = some x := by
  rw [List.getElem?_append_right (by rw [List.length_take]; omega), List.length_take, show k - min k l.length = 0 by omega]; rfl
theorem mid_set {l : List Int} {k n : Nat} {x y : Int} (h : k ≤ l.length) : (l.take k ++ x :: List.replicate n 0).set k y = l.take k ++ y :: List.replicate n 0 := by
  rw [List.set_append_right _ _ (by rw [List.length_take]; omega), List.length_take, show k - min k l.length = 0 by omega]; rfl
theorem mid_done {l : List Int} {k n : Nat} {x : Int} (h : k < l.length) (hx : g0 l k = x) : l.take k ++ x :: List.replicate n 0 = l.take (k + 1) ++ List.replicate n 0 := by
  rw [List.take_succ_eq_append_getElem h, g0_eq h, hx, List.append_assoc]; rfl

theorem rep_get {j : Nat} {S : List Int} : (List.replicate (j + 1) 0 ++ S)[j]? = some 0 := by
  rw [List.getElem?_append_left (by simp), List.getElem?_replicate, if_pos (by omega)]
theorem rep_set {j : Nat} {S : List Int} {x : Int} : (List.replicate (j + 1) 0 ++ S).set j x = List.replicate j 0 ++ x :: S := by
  rw [List.replicate_succ', List.append_assoc, List.set_append_right _ _ (by simp)]
  simp

end Go.Proofs.Ytcjcolkhhmpmjaa
