/- Slices of numbers and of structs of numbers, read as lists. No program in sight. -/
import Derived.Test.YtkgofklpogdpmaaGreatZA
import Derived.Laws.OwnMore
import Derived.OneCell
namespace Go.Proofs.YtkgofklpogdpmaaGreat
open Go.RowKit

def enc1 (a : Int) : List Value := [.int .i64 a]
def enc2 (a : Int × Int) : List Value := [.int .i64 a.1, .int .i64 a.2]
def enc3 (a : Int × Int × Int) : List Value := [.int .i64 a.1, .int .i64 a.2.1, .int .i64 a.2.2]
def enc4 (a : Int × Int × Int × Int) : List Value := [.int .i64 a.1, .int .i64 a.2.1, .int .i64 a.2.2.1, .int .i64 a.2.2.2]

/-- Field f of element k. (Behind names, so that the walk leaves them alone.) -/
def g0 (l : List Int) (k : Nat) : Int := l.getD k 0
def g1 (l : List (Int × Int)) (k : Nat) : Int := (l.getD k (0, 0)).1
def g2 (l : List (Int × Int)) (k : Nat) : Int := (l.getD k (0, 0)).2

theorem g12_get {l : List (Int × Int)} {k : Nat} (h : k < l.length) : l[k]? = some (g1 l k, g2 l k) := by
  rw [List.getElem?_eq_getElem h]; simp [g1, g2, List.getD, h]
theorem g0_get {l : List Int} {k : Nat} (h : k < l.length) : l[k]? = some (g0 l k) := by
  rw [List.getElem?_eq_getElem h]; simp [g0, List.getD, h]
theorem g12_eq {l : List (Int × Int)} {k : Nat} (h : k < l.length) : l[k] = (g1 l k, g2 l k) := by
  have := g12_get h; rw [List.getElem?_eq_getElem h] at this; exact Option.some.inj this
theorem g0_eq {l : List Int} {k : Nat} (h : k < l.length) : l[k] = g0 l k := by
  have := g0_get h; rw [List.getElem?_eq_getElem h] at this; exact Option.some.inj this

/-- The address A leads to the list l, in a block below B. -/
def Sl {α : Type} (enc : α → List Value) (sz : Nat) (w : World) (B : Nat) (A : Option Addr) (l : List α) : Prop :=
  l = [] ∨ ∃ b off, A = some ⟨b, off, none⟩ ∧ b < B ∧ ∀ i a, l[i]? = some a → ∀ j u, (enc a)[j]? = some u → w.cell? ⟨b, off + (i * sz + j), none⟩ = some u

section
variable {α : Type} {enc : α → List Value} {sz : Nat} {w w' : World} {B : Nat} {A : Option Addr} {l : List α}

theorem Sl.nil (enc : α → List Value) (sz : Nat) (w : World) (B : Nat) (A : Option Addr) : Sl enc sz w B A [] := .inl rfl
theorem Sl.keep (h : Sl enc sz w B A l) (hk : ∀ p : Addr, p.block < B → w'.cell? p = w.cell? p) : Sl enc sz w' B A l := by
  rcases h with h | ⟨b, off, h1, h2, h3⟩
  · exact .inl h
  · exact .inr ⟨b, off, h1, h2, fun i a hi j u hu => (hk _ h2).trans (h3 i a hi j u hu)⟩
theorem Sl.more {B' : Nat} (h : Sl enc sz w B A l) (hB : B ≤ B') : Sl enc sz w B' A l := by
  rcases h with h | ⟨b, off, h1, h2, h3⟩
  · exact .inl h
  · exact .inr ⟨b, off, h1, by omega, h3⟩
theorem Sl.below {n : Nat} (h : Sl enc sz w B A l) (hb : Below n w w') (hn : B ≤ n) : Sl enc sz w' B A l := h.keep fun p hp => hb.cell (by omega)
theorem Sl.drewN (h : Sl enc sz w B A l) (n : Nat) : Sl enc sz (w.drewN n) B A l := h
theorem Sl.alloc (h : Sl enc sz w B A l) (hB : B ≤ w.heap.size) (o : Obj) : Sl enc sz (w.alloc o) B A l := h.keep fun p hp => World.cell?_alloc_lt w o p (by omega)
theorem Sl.setCell (h : Sl enc sz w B A l) {p : Addr} (hp : B ≤ p.block) (u : Value) : Sl enc sz (w.setCell p u) B A l :=
  h.keep fun q hq => World.cell?_setCell_other w p q u (fun e => by subst e; omega)
theorem Sl.grown (h : Sl enc sz w B A l) {row : Option Nat} (hg : w.grownBy w' row) (hB : B ≤ w.heap.size) (hr : ∀ g, row = some g → B ≤ g) : Sl enc sz w' B A l :=
  h.keep fun p hp => World.cell?_of_block (hg.block p.block (by omega) (fun e => by have := hr _ e.symm; omega))
theorem Sl.take (h : Sl enc sz w B A l) (n : Nat) : Sl enc sz w B A (l.take n) := by
  rcases h with rfl | ⟨b, off, h1, h2, h3⟩
  · exact .inl (by simp)
  · refine .inr ⟨b, off, h1, h2, fun i a hi j u hu => h3 i a ?_ j u hu⟩
    rw [List.getElem?_take] at hi
    split at hi
    · exact hi
    · cases hi
/-- A cut 's[k:]' (the model's own 'if' at the capacity). -/
theorem Sl.drop (h : Sl enc sz w B A l) {k cap : Nat} (hc : l.length ≤ cap) (hk : k ≤ l.length) :
    Sl enc sz w B (if cap = k then A else A.map (·.add (k * sz))) (l.drop k) := by
  by_cases hl : k = l.length
  · exact .inl (List.drop_of_length_le (by omega))
  rcases h with rfl | ⟨b, off, h1, h2, h3⟩
  · exact absurd (by simpa using hk : k = 0) (by simpa using hl)
  · rw [if_neg (by omega)]
    refine .inr ⟨b, off + k * sz, ?_, h2, fun i a hi j u hu => ?_⟩
    · subst h1
      by_cases hz : k * sz = 0 <;> simp [Addr.add, hz]
    · rw [show off + k * sz + (i * sz + j) = off + ((k + i) * sz + j) by rw [Nat.add_mul]; omega]
      exact h3 (k + i) a (by rw [← hi, List.getElem?_drop]) j u hu
theorem Sl.at_ (h : Sl enc sz w B A l) {k : Nat} {a : α} (hk : l[k]? = some a) : ∃ b off, A = some ⟨b, off, none⟩ ∧ b < B ∧ ∀ j u, (enc a)[j]? = some u → w.cell? ⟨b, off + (k * sz + j), none⟩ = some u := by
  rcases h with rfl | ⟨b, off, h1, h2, h3⟩
  · simp at hk
  · exact ⟨b, off, h1, h2, h3 k a hk⟩

/-! ### A row of the call's own, as a list -/
theorem flatMap_at (henc : ∀ a, (enc a).length = sz) : ∀ (l : List α) (i : Nat) (a : α), l[i]? = some a → ∀ j, j < sz → (l.flatMap enc)[i * sz + j]? = (enc a)[j]?
  | [], _, _, h, _, _ => by simp at h
  | x :: r, 0, a, h, j, hj => by
    simp only [List.getElem?_cons_zero, Option.some.injEq] at h; subst h
    rw [List.flatMap_cons, Nat.zero_mul, Nat.zero_add, List.getElem?_append_left (by rw [henc]; exact hj)]
  | x :: r, i + 1, a, h, j, hj => by
    have h' : r[i]? = some a := by simpa using h
    rw [List.flatMap_cons, List.getElem?_append_right (by rw [henc, Nat.add_mul]; omega), henc, show (i + 1) * sz + j - sz = i * sz + j by rw [Nat.add_mul]; omega]
    exact flatMap_at henc r i a h' j hj
theorem flatMap_length (henc : ∀ a, (enc a).length = sz) : ∀ (l : List α), (l.flatMap enc).length = l.length * sz
  | [] => by simp
  | x :: r => by rw [List.flatMap_cons, List.length_append, flatMap_length henc r, henc, List.length_cons, Nat.add_mul]; omega
theorem flatMap_set (henc : ∀ a, (enc a).length = sz) : ∀ (l : List α) (i : Nat) (a a' : α) (j : Nat) (u : Value), l[i]? = some a → j < sz → enc a' = (enc a).set j u → (l.flatMap enc).set (i * sz + j) u = (l.set i a').flatMap enc
  | [], _, _, _, _, _, h, _, _ => by simp at h
  | x :: r, 0, a, a', j, u, h, hj, he => by
    simp only [List.getElem?_cons_zero, Option.some.injEq] at h; subst h
    rw [List.set_cons_zero, List.flatMap_cons, List.flatMap_cons, he, Nat.zero_mul, Nat.zero_add, List.set_append_left _ _ (by rw [henc]; exact hj)]
  | x :: r, i + 1, a, a', j, u, h, hj, he => by
    have h' : r[i]? = some a := by simpa using h
    rw [List.set_cons_succ, List.flatMap_cons, List.flatMap_cons, List.set_append_right _ _ (by rw [henc, Nat.add_mul]; omega), henc, show (i + 1) * sz + j - sz = i * sz + j by rw [Nat.add_mul]; omega,
      flatMap_set henc r i a a' j u h' hj he]

/-- The slice value v is the call's own row (blocks from 'base' on) and holds the list l. -/
def Own (enc : α → List Value) (sz : Nat) (e : TypeId) (w : World) (base : Nat) (v : Value) (l : List α) : Prop := w.ownsRow base e sz v l.length (l.flatMap enc)

variable {e : TypeId} {base : Nat} {v : Value}
theorem Own.form (h : Own enc sz e w base v l) : (v = .slice none 0 0 ∧ l = []) ∨ ∃ g cap, v = .slice (some ⟨g, 0, none⟩) l.length cap ∧ base ≤ g ∧ g < w.heap.size ∧ l.length ≤ cap ∧ cap ≤ maxLen := by
  rcases h.2 with ⟨h1, h2⟩ | ⟨g, cap, cur, h1, h2, h3, h4, h5, h6, h7⟩
  · exact .inl ⟨h1, List.length_eq_zero_iff.1 h2⟩
  · exact .inr ⟨g, cap, h1, h2, lt_of_block h3, h4, h5⟩
/-- Its value, and how it reads. -/
theorem Own.reads (henc : ∀ a, (enc a).length = sz) (h : Own enc sz e w base v l) : ∃ A cap, v = .slice A l.length cap ∧ l.length ≤ cap ∧ Sl enc sz w w.heap.size A l := by
  rcases h.form with ⟨rfl, rfl⟩ | ⟨g, cap, rfl, h1, h2, h3, h4⟩
  · exact ⟨none, 0, rfl, Nat.le_refl _, .inl rfl⟩
  · refine ⟨_, cap, rfl, h3, .inr ⟨g, 0, rfl, h2, fun i a hi j u hu => ?_⟩⟩
    have hj : j < sz := by
      have := (List.getElem?_eq_some_iff.1 hu).1
      rwa [henc] at this
    have hx := flatMap_at henc l i a hi j hj
    have hc := h.cells (g := g) rfl (i * sz + j) u (by rw [hx]; exact hu)
    rwa [Addr.add_lit] at hc
theorem Own.nil_ (enc : α → List Value) (sz : Nat) (e : TypeId) (w : World) (base : Nat) : Own enc sz e w base (.slice none 0 0) [] := World.ownsRow_nil w base e sz
/-- The empty literal. -/
theorem Own.lit0 (enc : α → List Value) (sz : Nat) (e : TypeId) (w : World) (base : Nat) {g : Nat} (hg : g = w.heap.size) (hb : base ≤ g) : Own enc sz e (w.alloc (.cells #[] e)) base (.slice (some ⟨g, 0, none⟩) 0 0) [] := by
  subst hg; exact World.ownsRow_lit w #[] 0 hb (by simp [maxLen]) (by simp)
/-- A literal of the call's own. -/
theorem Own.lit (henc : ∀ a, (enc a).length = sz) {w : World} {base g n : Nat} {cs : Array Value} (hg : g = w.heap.size) (hb : base ≤ g) (hn : n = l.length) (hl : l.length ≤ 1000000) (hcs : cs.toList = l.flatMap enc) : Own enc sz e (w.alloc (.cells cs e)) base (.slice (some ⟨g, 0, none⟩) n n) l := by
  subst hg hn
  have h := World.ownsRow_lit (size := sz) (e := e) (base := base) w cs l.length hb (by simp only [maxLen]; omega) (by rw [← Array.length_toList, hcs, flatMap_length henc])
  rw [hcs] at h; exact h
theorem Own.alloc (h : Own enc sz e w base v l) (o : Obj) : Own enc sz e (w.alloc o) base v l := World.ownsRow.alloc h o
theorem Own.drewN (h : Own enc sz e w base v l) (n : Nat) : Own enc sz e (w.drewN n) base v l := h
theorem Own.grown {row : Option Nat} (h : Own enc sz e w base v l) (hg : w.grownBy w' row) (hne : v.ownBlock = none ∨ v.ownBlock ≠ row) : Own enc sz e w' base v l := World.ownsRow.kept h hg hne
theorem Own.far (h : Own enc sz e w base v l) {p : Addr} (hp : v.ownBlock ≠ some p.block) (u : Value) : Own enc sz e (w.setCell p u) base v l := ownsRow_setCell_other h hp u
theorem Own.less {base' : Nat} (h : Own enc sz e w base v l) (hb : base' ≤ base) : Own enc sz e w base' v l := by
  refine ⟨h.1, ?_⟩
  rcases h.2 with h2 | ⟨g, cap, cur, h3, h4, h5⟩
  · exact .inl h2
  · exact .inr ⟨g, cap, cur, h3, by omega, h5⟩
/-- What lies above a call's beginning stays through what writes only old memory or nothing. -/
theorem Own.below {n : Nat} (h : Own enc sz e w base v l) (hb : Below n w w') (hn : w.heap.size ≤ n) : Own enc sz e w' base v l :=
  h.grown (row := none) ⟨hb.os, hb.tape, hb.output, hb.size, fun k hk _ => hb.block k (by omega)⟩ (by cases v.ownBlock <;> simp)
theorem Own.lt (h : Own enc sz e w base v l) : ∀ k, v.ownBlock = some k → base ≤ k ∧ k < w.heap.size := World.ownsRow.lt h
/-- The walk's facts on a row: its cells, none of them frozen. -/
theorem Own.cell (henc : ∀ a, (enc a).length = sz) {g cap n : Nat} (h : Own enc sz e w base (.slice (some ⟨g, 0, none⟩) n cap) l) (hn : n = l.length) {i : Nat} {a : α} (hi : l[i]? = some a) {j : Nat} {u : Value} (hu : (enc a)[j]? = some u) : w.cell? ⟨g, i * sz + j, none⟩ = some u := by
  subst hn
  have hil := (List.getElem?_eq_some_iff.1 hi).1
  have hj : j < sz := by
    have := (List.getElem?_eq_some_iff.1 hu).1
    rwa [henc] at this
  have hx := flatMap_at henc l i a hi j hj
  have hlt : i * sz + j < l.length * sz := by
    have : (i + 1) * sz ≤ l.length * sz := Nat.mul_le_mul_right sz hil
    rw [Nat.add_mul] at this
    omega
  rw [World.ownsRow.cellAt h _ hlt, hx, hu]
theorem Own.frozen {g cap n : Nat} (h : Own enc sz e w base (.slice (some ⟨g, 0, none⟩) n cap) l) (hn : n = l.length) (j : Nat) : w.frozen? ⟨g, j, none⟩ = false := by
  subst hn; exact World.ownsRow.frozenAt h j
/-- A store into one field. -/
theorem Own.store (henc : ∀ a, (enc a).length = sz) {g cap n : Nat} (h : Own enc sz e w base (.slice (some ⟨g, 0, none⟩) n cap) l) (hn : n = l.length) {i j : Nat} {a a' : α} {u : Value} (hi : l[i]? = some a) (hj : j < sz) (ha : enc a' = (enc a).set j u) :
    Own enc sz e (w.setCell ⟨g, i * sz + j, none⟩ u) base (.slice (some ⟨g, 0, none⟩) n cap) (l.set i a') := by
  subst hn
  have h1 := (World.ownsRow.stored h (i * sz + j) u).1
  rw [flatMap_set henc l i a a' j u hi hj ha] at h1
  show World.ownsRow _ _ _ _ _ (l.set i a').length _
  rw [List.length_set]
  exact h1
end

/-- A list that is filled from the front. -/
theorem get_fill {α : Type} {l : List α} {d : α} {k : Nat} (h : k < l.length) : (l.take k ++ List.replicate (l.length - k) d)[k]? = some d := by
  rw [List.getElem?_append_right (by rw [List.length_take]; omega), List.length_take, show k - min k l.length = 0 by omega, List.getElem?_replicate, if_pos (by omega)]
theorem set_fill {α : Type} {l : List α} {d : α} {k : Nat} (h : k < l.length) {x : α} : (l.take k ++ List.replicate (l.length - k) d).set k x = l.take k ++ x :: List.replicate (l.length - (k + 1)) d := by
  rw [List.set_append_right _ _ (by rw [List.length_take]; omega), List.length_take, show k - min k l.length = 0 by omega, show l.length - k = l.length - (k + 1) + 1 by omega, List.replicate_succ]
  rfl
theorem len1 (a : Int) : (enc1 a).length = 1 := rfl
theorem len2 (a : Int × Int) : (enc2 a).length = 2 := rfl
theorem len3 (a : Int × Int × Int) : (enc3 a).length = 3 := rfl
theorem len4 (a : Int × Int × Int × Int) : (enc4 a).length = 4 := rfl

/-- Element k of a slice of numbers; of structs of two numbers: the cells in the walk's spelling. -/
theorem Sl.get1 {w : World} {B : Nat} {A : Option Addr} {l : List Int} (h : Sl enc1 1 w B A l) {k : Nat} (hk : k < l.length) :
    ∃ b off, A = some ⟨b, off, none⟩ ∧ b < B ∧ w.cell? ⟨b, off + k, none⟩ = some (.int .i64 (g0 l k)) := by
  obtain ⟨b, off, h1, h2, h3⟩ := h.at_ (g0_get hk)
  exact ⟨b, off, h1, h2, by simpa using h3 0 _ rfl⟩
theorem Sl.get2 {w : World} {B : Nat} {A : Option Addr} {l : List (Int × Int)} (h : Sl enc2 2 w B A l) {k : Nat} (hk : k < l.length) :
    ∃ b off, A = some ⟨b, off, none⟩ ∧ b < B ∧ w.cell? ⟨b, off + k * 2, none⟩ = some (.int .i64 (g1 l k)) ∧ w.cell? ⟨b, off + k * 2 + 1, none⟩ = some (.int .i64 (g2 l k)) := by
  obtain ⟨b, off, h1, h2, h3⟩ := h.at_ (g12_get hk)
  exact ⟨b, off, h1, h2, by simpa using h3 0 _ rfl, by simpa [Nat.add_assoc] using h3 1 _ rfl⟩

end Go.Proofs.YtkgofklpogdpmaaGreat

/- Words on lists of pairs, element by element. No program in sight. -/
namespace Go.Proofs.YtkgofklpogdpmaaGreat

/-- Whatever ascends from each element to the next ascends. -/
theorem asc_of_next {f : Nat → Int} {n : Nat} (h : ∀ k, k < n → k = 0 ∨ f (k - 1) < f k) : ∀ j i, i < j → j < n → f i < f j := by
  intro j
  induction j with
  | zero => intro i hi; omega
  | succ j ih =>
    intro i hi hj
    have h1 : f j < f (j + 1) := by
      rcases h (j + 1) hj with h | h
      · omega
      · simpa using h
    rcases Nat.lt_succ_iff_lt_or_eq.1 hi with h2 | h2
    · have := ih i h2 (by omega); omega
    · subst h2; exact h1
/-- How the loop goes on. -/
theorem range_all_succ {p : Nat → Bool} {k : Nat} (h : (List.range k).all p = true) (hp : p k = true) : (List.range (k + 1)).all p = true := by
  rw [List.range_succ, List.all_append, h]; simp [hp]
theorem range_all_no {p : Nat → Bool} {n k : Nat} (hk : k < n) (hp : p k = false) : (List.range n).all p = false := by
  rw [List.all_eq_false]
  exact ⟨k, List.mem_range.2 hk, by simp [hp]⟩
theorem take_succ2 {l : List (Int × Int)} {k : Nat} (hk : k < l.length) : l.take (k + 1) = l.take k ++ [(g1 l k, g2 l k)] := by
  rw [List.take_succ_eq_append_getElem hk, g12_eq hk]
theorem ext12 {l m : List (Int × Int)} (h : l.length = m.length) (hi : ∀ i, i < l.length → g1 l i = g1 m i ∧ g2 l i = g2 m i) : l = m := by
  refine List.ext_getElem h fun i h1 h2 => ?_
  rw [g12_eq h1, g12_eq h2, (hi i h1).1, (hi i h1).2]
theorem g1_set {l : List (Int × Int)} {i j : Nat} {x : Int × Int} (hi : i < l.length) : g1 (l.set i x) j = if i = j then x.1 else g1 l j := by
  simp only [g1, List.getD_eq_getElem?_getD, List.getElem?_set]
  split
  · first | rfl | (rw [if_pos hi]; rfl)
  · rfl
theorem g2_set {l : List (Int × Int)} {i j : Nat} {x : Int × Int} (hi : i < l.length) : g2 (l.set i x) j = if i = j then x.2 else g2 l j := by
  simp only [g2, List.getD_eq_getElem?_getD, List.getElem?_set]
  split
  · first | rfl | (rw [if_pos hi]; rfl)
  · rfl
theorem g1_take {l : List (Int × Int)} {n k : Nat} (h : k < n) : g1 (l.take n) k = g1 l k := by
  simp only [g1, List.getD_eq_getElem?_getD, List.getElem?_take]; rw [if_pos h]
theorem g2_take {l : List (Int × Int)} {n k : Nat} (h : k < n) : g2 (l.take n) k = g2 l k := by
  simp only [g2, List.getD_eq_getElem?_getD, List.getElem?_take]; rw [if_pos h]
theorem mem12 {l : List (Int × Int)} {i : Nat} (hi : i < l.length) : (g1 l i, g2 l i) ∈ l := by rw [← g12_eq hi]; exact List.getElem_mem hi

end Go.Proofs.YtkgofklpogdpmaaGreat

/- The plain law of carts: lines with ascending articles. No program in sight. -/
namespace Go.Proofs.YtkgofklpogdpmaaGreat

def lineOk (n : Int) (l : List (Int × Int)) (k : Nat) : Bool := withinB (g1 l k) 0 (n - 1) && (withinB (g2 l k) 1 20 && (decide (k = 0) || decide (g1 l (k - 1) < g1 l k)))
def vCart (n : Int) (l : List (Int × Int)) : Bool := (List.range l.length).all (lineOk n l) && decide (l.length ≤ 8)

/-- Carts of n articles, as lists. -/
def SC (n : Int) (l : List (Int × Int)) : Prop := l.Pairwise (fun a b => a.1 < b.1) ∧ (∀ x ∈ l, (0 ≤ x.1 ∧ x.1 < n) ∧ 1 ≤ x.2 ∧ x.2 ≤ 20) ∧ l.length ≤ 8

theorem lineOk_true {n : Int} {l : List (Int × Int)} {k : Nat} : lineOk n l k = true ↔ (0 ≤ g1 l k ∧ g1 l k ≤ n - 1) ∧ (1 ≤ g2 l k ∧ g2 l k ≤ 20) ∧ (k = 0 ∨ g1 l (k - 1) < g1 l k) := by
  simp [lineOk, withinB]
theorem vCart_iff {n : Int} {l : List (Int × Int)} : vCart n l = true ↔ SC n l := by
  unfold vCart
  rw [Bool.and_eq_true, List.all_eq_true, decide_eq_true_eq]
  constructor
  · rintro ⟨h, hl⟩
    have h' : ∀ k, k < l.length → _ := fun k hk => lineOk_true.1 (h k (List.mem_range.2 hk))
    refine ⟨?_, ?_, hl⟩
    · rw [List.pairwise_iff_getElem]
      intro i j hi hj hij
      have := asc_of_next (f := g1 l) (fun k hk => (h' k hk).2.2) j i hij hj
      rw [g12_eq hi, g12_eq hj]
      exact this
    · intro x hx
      obtain ⟨k, hk, rfl⟩ := List.mem_iff_getElem.1 hx
      rw [g12_eq hk]
      have := (h' k hk).1
      exact ⟨⟨this.1, by dsimp only; omega⟩, (h' k hk).2.1⟩
  · rintro ⟨h1, h2, h3⟩
    refine ⟨fun k hk => ?_, h3⟩
    have hk' := List.mem_range.1 hk
    have hx := h2 l[k] (List.getElem_mem hk')
    rw [g12_eq hk'] at hx
    refine lineOk_true.2 ⟨⟨hx.1.1, by have := hx.1.2; dsimp only at this; omega⟩, hx.2, ?_⟩
    by_cases h0 : k = 0
    · exact .inl h0
    · refine .inr ?_
      have := List.pairwise_iff_getElem.1 h1 (k - 1) k (by omega) hk' (by omega)
      rwa [g12_eq (by omega : k - 1 < l.length), g12_eq hk'] at this
theorem SC.at_ {n : Int} {l : List (Int × Int)} (h : SC n l) {k : Nat} (hk : k < l.length) : (0 ≤ g1 l k ∧ g1 l k < n) ∧ 1 ≤ g2 l k ∧ g2 l k ≤ 20 := h.2.1 _ (mem12 hk)
theorem vCart_nil (n : Int) : vCart n [] = true := rfl

/-- The pieces of an article. -/
def cnt (i : Int) : List (Int × Int) → Int
  | [] => 0
  | x :: r => (if x.1 = i then x.2 else 0) + cnt i r
theorem cnt_append {i : Int} : ∀ (a b : List (Int × Int)), cnt i (a ++ b) = cnt i a + cnt i b
  | [], b => by simp [cnt]
  | x :: r, b => by simp only [List.cons_append, cnt, cnt_append r b]; omega
theorem cnt_step {i : Int} {l : List (Int × Int)} {k : Nat} (hk : k < l.length) : cnt i (l.take (k + 1)) = cnt i (l.take k) + if g1 l k = i then g2 l k else 0 := by
  rw [take_succ2 hk, cnt_append]; simp [cnt]
theorem cnt_bd {i : Int} : ∀ (l : List (Int × Int)), (∀ x ∈ l, 1 ≤ x.2 ∧ x.2 ≤ 20) → 0 ≤ cnt i l ∧ cnt i l ≤ 20 * l.length
  | [], _ => by simp [cnt]
  | x :: r, h => by
    have h1 := h x (by simp)
    have h2 := cnt_bd (i := i) r (fun y hy => h y (by simp [hy]))
    simp only [cnt, List.length_cons]
    split <;> omega
theorem cnt_none {i : Int} : ∀ (l : List (Int × Int)), (∀ x ∈ l, x.1 ≠ i) → cnt i l = 0
  | [], _ => rfl
  | x :: r, h => by simp only [cnt]; rw [if_neg (h x (by simp)), cnt_none r (fun y hy => h y (by simp [hy]))]; rfl
theorem cnt_mem : ∀ {l : List (Int × Int)} {x : Int × Int}, (∀ x ∈ l, 1 ≤ x.2 ∧ x.2 ≤ 20) → x ∈ l → x.2 ≤ cnt x.1 l
  | y :: r, x, h, hx => by
    have hr := fun z hz => h z (List.mem_cons_of_mem y hz)
    simp only [cnt]
    rcases List.mem_cons.1 hx with rfl | hx
    · rw [if_pos rfl]; have := (cnt_bd (i := x.1) r hr).1; omega
    · have := cnt_mem hr hx
      have := h y (by simp)
      split <;> omega
  | [], _, _, hx => absurd hx (by simp)
/-- An article has one line. -/
theorem cnt_one : ∀ {l : List (Int × Int)} {x : Int × Int}, l.Pairwise (fun a b => a.1 < b.1) → x ∈ l → cnt x.1 l = x.2
  | y :: r, x, h, hx => by
    rw [List.pairwise_cons] at h
    simp only [cnt]
    rcases List.mem_cons.1 hx with rfl | hx
    · rw [if_pos rfl, cnt_none r (fun z hz => by have := h.1 z hz; omega)]; omega
    · have := h.1 x hx
      rw [if_neg (by omega), cnt_one h.2 hx]; omega
  | [], _, _, hx => absurd hx (by simp)
def csum : List (Int × Int) → Int
  | [] => 0
  | x :: r => x.2 + csum r
theorem csum_append : ∀ (a b : List (Int × Int)), csum (a ++ b) = csum a + csum b
  | [], b => by simp [csum]
  | x :: r, b => by simp only [List.cons_append, csum, csum_append r b]; omega
theorem csum_step {l : List (Int × Int)} {k : Nat} (hk : k < l.length) : csum (l.take (k + 1)) = csum (l.take k) + g2 l k := by
  rw [take_succ2 hk, csum_append]; simp [csum]
theorem csum_bd : ∀ (l : List (Int × Int)), (∀ x ∈ l, 1 ≤ x.2 ∧ x.2 ≤ 20) → 0 ≤ csum l ∧ csum l ≤ 20 * l.length
  | [], _ => by simp [csum]
  | x :: r, h => by
    have h1 := h x (by simp)
    have h2 := csum_bd r (fun y hy => h y (by simp [hy]))
    simp only [csum, List.length_cons]
    omega
theorem SC.bd {n : Int} {l : List (Int × Int)} (h : SC n l) : ∀ x ∈ l, 1 ≤ x.2 ∧ x.2 ≤ 20 := fun x hx => (h.2.1 x hx).2

end Go.Proofs.YtkgofklpogdpmaaGreat

/- Slices of structs of three and of four numbers, read as lists. No program in sight. -/
namespace Go.Proofs.YtkgofklpogdpmaaGreat
open Go.RowKit

def t1 (l : List (Int × Int × Int)) (k : Nat) : Int := (l.getD k (0, 0, 0)).1
def t2 (l : List (Int × Int × Int)) (k : Nat) : Int := (l.getD k (0, 0, 0)).2.1
def t3 (l : List (Int × Int × Int)) (k : Nat) : Int := (l.getD k (0, 0, 0)).2.2
def q1 (l : List (Int × Int × Int × Int)) (k : Nat) : Int := (l.getD k (0, 0, 0, 0)).1
def q2 (l : List (Int × Int × Int × Int)) (k : Nat) : Int := (l.getD k (0, 0, 0, 0)).2.1
def q3 (l : List (Int × Int × Int × Int)) (k : Nat) : Int := (l.getD k (0, 0, 0, 0)).2.2.1
def q4 (l : List (Int × Int × Int × Int)) (k : Nat) : Int := (l.getD k (0, 0, 0, 0)).2.2.2

theorem t_get {l : List (Int × Int × Int)} {k : Nat} (h : k < l.length) : l[k]? = some (t1 l k, t2 l k, t3 l k) := by
  rw [List.getElem?_eq_getElem h]; simp [t1, t2, t3, List.getD, h]
theorem t_eq {l : List (Int × Int × Int)} {k : Nat} (h : k < l.length) : l[k] = (t1 l k, t2 l k, t3 l k) := by
  have := t_get h; rw [List.getElem?_eq_getElem h] at this; exact Option.some.inj this
theorem q_get {l : List (Int × Int × Int × Int)} {k : Nat} (h : k < l.length) : l[k]? = some (q1 l k, q2 l k, q3 l k, q4 l k) := by
  rw [List.getElem?_eq_getElem h]; simp [q1, q2, q3, q4, List.getD, h]
theorem q_eq {l : List (Int × Int × Int × Int)} {k : Nat} (h : k < l.length) : l[k] = (q1 l k, q2 l k, q3 l k, q4 l k) := by
  have := q_get h; rw [List.getElem?_eq_getElem h] at this; exact Option.some.inj this

theorem Sl.get3 {w : World} {B : Nat} {A : Option Addr} {l : List (Int × Int × Int)} (h : Sl enc3 3 w B A l) {k : Nat} (hk : k < l.length) :
    ∃ b off, A = some ⟨b, off, none⟩ ∧ b < B ∧ w.cell? ⟨b, off + k * 3, none⟩ = some (.int .i64 (t1 l k)) ∧ w.cell? ⟨b, off + k * 3 + 1, none⟩ = some (.int .i64 (t2 l k)) ∧ w.cell? ⟨b, off + k * 3 + 2, none⟩ = some (.int .i64 (t3 l k)) := by
  obtain ⟨b, off, h1, h2, h3⟩ := h.at_ (t_get hk)
  exact ⟨b, off, h1, h2, by simpa using h3 0 _ rfl, by simpa [Nat.add_assoc] using h3 1 _ rfl, by simpa [Nat.add_assoc] using h3 2 _ rfl⟩
theorem Sl.get4 {w : World} {B : Nat} {A : Option Addr} {l : List (Int × Int × Int × Int)} (h : Sl enc4 4 w B A l) {k : Nat} (hk : k < l.length) :
    ∃ b off, A = some ⟨b, off, none⟩ ∧ b < B ∧ w.cell? ⟨b, off + k * 4, none⟩ = some (.int .i64 (q1 l k)) ∧ w.cell? ⟨b, off + k * 4 + 1, none⟩ = some (.int .i64 (q2 l k)) ∧ w.cell? ⟨b, off + k * 4 + 2, none⟩ = some (.int .i64 (q3 l k)) ∧ w.cell? ⟨b, off + k * 4 + 3, none⟩ = some (.int .i64 (q4 l k)) := by
  obtain ⟨b, off, h1, h2, h3⟩ := h.at_ (q_get hk)
  exact ⟨b, off, h1, h2, by simpa using h3 0 _ rfl, by simpa [Nat.add_assoc] using h3 1 _ rfl, by simpa [Nat.add_assoc] using h3 2 _ rfl, by simpa [Nat.add_assoc] using h3 3 _ rfl⟩

end Go.Proofs.YtkgofklpogdpmaaGreat

/- The plain law of the taxes of a cart. No program in sight. -/
namespace Go.Proofs.YtkgofklpogdpmaaGreat

def artOk (s : List (Int × Int × Int × Int)) (k : Nat) : Bool := withinB (q1 s k) 1 5000 && (withinB (q2 s k) 0 2 && (withinB (q3 s k) 0 300 && withinB (q4 s k) 0 5000))
def vShop (s : List (Int × Int × Int × Int)) : Bool := (List.range s.length).all (artOk s) && withinB s.length 1 10
/-- The price of a line. -/
def amt (s : List (Int × Int × Int × Int)) (c : List (Int × Int)) (k : Nat) : Int := q1 s (g1 c k).toNat * g2 c k
def rtK (s : List (Int × Int × Int × Int)) (c : List (Int × Int)) (k : Nat) : Int := q3 s (g1 c k).toNat
def amts (s : List (Int × Int × Int × Int)) (c : List (Int × Int)) : List Int := (List.range c.length).map (amt s c)
def lftOk (s : List (Int × Int × Int × Int)) (c : List (Int × Int)) (l : List Int) (k : Nat) : Bool := withinB (g0 l k) 0 (amt s c k)
def vLeft (s : List (Int × Int × Int × Int)) (c : List (Int × Int)) (l : List Int) : Bool := (List.range c.length).all (lftOk s c l) && decide (l.length = c.length)
def fitTax (s : List (Int × Int × Int × Int)) (c : List (Int × Int)) (l : List Int) : Bool := (vShop s && vCart s.length c) && vLeft s c l

/-- What is left of the lines with a rate, of so many lines. -/
def gr (rt lf : Nat → Int) (r : Int) : Nat → Int
  | 0 => 0
  | k + 1 => gr rt lf r k + (if rt k = r then lf k else 0)
/-- Whether a line has a rate. -/
def has (rt : Nat → Int) (r : Int) : Nat → Bool
  | 0 => false
  | k + 1 => has rt r k || (rt k == r)
def rts (rt : Nat → Int) (n : Nat) : Nat → List Int
  | 0 => []
  | R + 1 => rts rt n R ++ (if has rt R n = true then [(R : Int)] else [])
def tx (rt lf : Nat → Int) (n : Nat) (r : Int) : Int × Int × Int := (r, gr rt lf r n, taxI (gr rt lf r n) r)
def txs (rt lf : Nat → Int) (n : Nat) : Nat → List (Int × Int × Int)
  | 0 => []
  | R + 1 => txs rt lf n R ++ (if has rt R n = true then [tx rt lf n R] else [])
theorem txs_map (rt lf : Nat → Int) (n : Nat) : ∀ R, txs rt lf n R = (rts rt n R).map (tx rt lf n)
  | 0 => rfl
  | R + 1 => by simp only [txs, rts, txs_map rt lf n R, List.map_append]; split <;> rfl
theorem rts_len (rt : Nat → Int) (n : Nat) : ∀ R, (rts rt n R).length ≤ R
  | 0 => Nat.le_refl _
  | R + 1 => by
    have := rts_len rt n R
    simp only [rts, List.length_append]
    split <;> simp <;> omega
theorem txs_len (rt lf : Nat → Int) (n R : Nat) : (txs rt lf n R).length = (rts rt n R).length := by rw [txs_map, List.length_map]
theorem rts_mem (rt : Nat → Int) (n : Nat) : ∀ R, ∀ x ∈ rts rt n R, 0 ≤ x ∧ x < R
  | 0, x, h => by simp [rts] at h
  | R + 1, x, h => by
    simp only [rts, List.mem_append] at h
    rcases h with h | h
    · have := rts_mem rt n R x h; omega
    · split at h
      · simp at h; subst h; omega
      · simp at h
theorem gr_bd {rt lf : Nat → Int} {r b : Int} : ∀ n, (∀ k, k < n → 0 ≤ lf k ∧ lf k ≤ b) → 0 ≤ gr rt lf r n ∧ gr rt lf r n ≤ b * n
  | 0, _ => by simp [gr]
  | n + 1, h => by
    have h1 := gr_bd (rt := rt) (r := r) n (fun k hk => h k (by omega))
    have h2 := h n (by omega)
    have e : b * ((n + 1 : Nat) : Int) = b * n + b := by rw [Int.natCast_succ, Int.mul_add, Int.mul_one]
    simp only [gr]
    rw [e]
    split <;> omega
theorem gr_none {rt lf : Nat → Int} {r : Int} : ∀ n, has rt r n = false → gr rt lf r n = 0
  | 0, _ => rfl
  | n + 1, h => by
    simp only [has, Bool.or_eq_false_iff] at h
    simp only [gr, gr_none n h.1]
    rw [if_neg (by have := h.2; simpa using this)]
    rfl

/-- The sums of the amounts and of the taxes of a list. -/
def sgr : List (Int × Int × Int) → Int
  | [] => 0
  | x :: r => x.2.1 + sgr r
def sta : List (Int × Int × Int) → Int
  | [] => 0
  | x :: r => x.2.2 + sta r
theorem sgr_append : ∀ (a b : List (Int × Int × Int)), sgr (a ++ b) = sgr a + sgr b
  | [], b => by simp [sgr]
  | x :: r, b => by simp only [List.cons_append, sgr, sgr_append r b]; omega
theorem sta_append : ∀ (a b : List (Int × Int × Int)), sta (a ++ b) = sta a + sta b
  | [], b => by simp [sta]
  | x :: r, b => by simp only [List.cons_append, sta, sta_append r b]; omega
/-- What is left of the lines with rates under a bound. -/
def low (rt lf : Nat → Int) (R : Int) : Nat → Int
  | 0 => 0
  | k + 1 => low rt lf R k + (if rt k < R then lf k else 0)
theorem low_zero {rt lf : Nat → Int} : ∀ n, (∀ k, k < n → 0 ≤ rt k) → low rt lf 0 n = 0
  | 0, _ => rfl
  | n + 1, h => by
    simp only [low, low_zero n (fun k hk => h k (by omega))]
    rw [if_neg (by have := h n (by omega); omega)]; rfl
theorem low_step {rt lf : Nat → Int} {R : Int} : ∀ n, low rt lf (R + 1) n = low rt lf R n + gr rt lf R n
  | 0 => rfl
  | n + 1 => by
    simp only [low, gr, low_step n]
    split <;> split <;> split <;> omega
theorem sgr_txs {rt lf : Nat → Int} {n : Nat} (h : ∀ k, k < n → 0 ≤ rt k) : ∀ R : Nat, sgr (txs rt lf n R) = low rt lf R n
  | 0 => (low_zero n h).symm
  | R + 1 => by
    rw [show ((R + 1 : Nat) : Int) = (R : Int) + 1 from rfl, low_step, txs, sgr_append, sgr_txs h R]
    split
    · simp [sgr, tx]
    · rename_i hh
      rw [gr_none n (by simpa using hh)]
      rfl
/-- All that is left. -/
def tot (lf : Nat → Int) : Nat → Int
  | 0 => 0
  | k + 1 => tot lf k + lf k
theorem low_all {rt lf : Nat → Int} {R : Int} : ∀ n, (∀ k, k < n → rt k < R) → low rt lf R n = tot lf n
  | 0, _ => rfl
  | n + 1, h => by
    simp only [low, tot, low_all n (fun k hk => h k (by omega))]
    rw [if_pos (h n (by omega))]
theorem tot_bd {lf : Nat → Int} {b : Int} : ∀ n, (∀ k, k < n → 0 ≤ lf k ∧ lf k ≤ b) → 0 ≤ tot lf n ∧ tot lf n ≤ b * n
  | 0, _ => by simp [tot]
  | n + 1, h => by
    have h1 := tot_bd n (fun k hk => h k (by omega))
    have h2 := h n (by omega)
    have e : b * ((n + 1 : Nat) : Int) = b * n + b := by rw [Int.natCast_succ, Int.mul_add, Int.mul_one]
    simp only [tot]
    rw [e]
    omega

theorem artOk_true {s : List (Int × Int × Int × Int)} {k : Nat} : artOk s k = true ↔ (1 ≤ q1 s k ∧ q1 s k ≤ 5000) ∧ (0 ≤ q2 s k ∧ q2 s k ≤ 2) ∧ (0 ≤ q3 s k ∧ q3 s k ≤ 300) ∧ (0 ≤ q4 s k ∧ q4 s k ≤ 5000) := by
  simp [artOk, withinB]
theorem vShop_at {s : List (Int × Int × Int × Int)} (h : vShop s = true) {k : Nat} (hk : k < s.length) : (1 ≤ q1 s k ∧ q1 s k ≤ 5000) ∧ (0 ≤ q2 s k ∧ q2 s k ≤ 2) ∧ (0 ≤ q3 s k ∧ q3 s k ≤ 300) ∧ (0 ≤ q4 s k ∧ q4 s k ≤ 5000) := by
  unfold vShop at h
  rw [Bool.and_eq_true, List.all_eq_true] at h
  exact artOk_true.1 (h.1 k (List.mem_range.2 hk))
theorem vShop_len {s : List (Int × Int × Int × Int)} (h : vShop s = true) : 1 ≤ s.length ∧ s.length ≤ 10 := by
  unfold vShop at h
  rw [Bool.and_eq_true] at h
  have := withinB_true.1 h.2
  omega

/-- All that a walk through a cart that fits asks. -/
theorem fit_at {s : List (Int × Int × Int × Int)} {c : List (Int × Int)} (hs : vShop s = true) (hc : vCart s.length c = true) {k : Nat} (hk : k < c.length) :
    (g1 c k).toNat < s.length ∧ ((g1 c k).toNat : Int) = g1 c k ∧ (1 ≤ g2 c k ∧ g2 c k ≤ 20) ∧ (1 ≤ amt s c k ∧ amt s c k ≤ 100000) ∧ 0 ≤ rtK s c k ∧ rtK s c k ≤ 300 := by
  have h1 := (vCart_iff.1 hc).at_ hk
  have hlt : (g1 c k).toNat < s.length := by omega
  have h2 := vShop_at hs hlt
  refine ⟨hlt, by omega, h1.2, ?_, h2.2.2.1⟩
  have p1 : (1 : Int) * 1 ≤ q1 s (g1 c k).toNat * g2 c k := Int.mul_le_mul h2.1.1 h1.2.1 (by omega) (by omega)
  have p2 : q1 s (g1 c k).toNat * g2 c k ≤ 5000 * 20 := Int.mul_le_mul h2.1.2 h1.2.2 (by omega) (by omega)
  unfold amt
  omega
theorem left_at {s : List (Int × Int × Int × Int)} {c : List (Int × Int)} {l : List Int} (hs : vShop s = true) (hc : vCart s.length c = true) (hl : vLeft s c l = true) {k : Nat} (hk : k < c.length) : 0 ≤ g0 l k ∧ g0 l k ≤ 100000 := by
  unfold vLeft at hl
  rw [Bool.and_eq_true, List.all_eq_true] at hl
  have h := withinB_true.1 (hl.1 k (List.mem_range.2 hk))
  have := (fit_at hs hc hk).2.2.2.1
  omega
theorem vLeft_len {s : List (Int × Int × Int × Int)} {c : List (Int × Int)} {l : List Int} (hl : vLeft s c l = true) : l.length = c.length := by
  unfold vLeft at hl
  rw [Bool.and_eq_true, decide_eq_true_eq] at hl
  exact hl.2

def taxesI (s : List (Int × Int × Int × Int)) (c : List (Int × Int)) (l : List Int) : List (Int × Int × Int) :=
  if fitTax s c l = true then txs (rtK s c) (g0 l) c.length 301 else []
def netI (s : List (Int × Int × Int × Int)) (c : List (Int × Int)) (l : List Int) : Int :=
  if fitTax s c l = true then sgr (taxesI s c l) - sta (taxesI s c l) else -1
theorem taxesI_len (s : List (Int × Int × Int × Int)) (c : List (Int × Int)) (l : List Int) : (taxesI s c l).length ≤ 301 := by
  unfold taxesI
  split
  · rw [txs_len]; exact rts_len _ _ _
  · simp

end Go.Proofs.YtkgofklpogdpmaaGreat

/- Contracts: valid shops. -/
namespace Go.Proofs.YtkgofklpogdpmaaGreat
open Go.RowKit

set_option maxHeartbeats 3200000 in
theorem validShop_any (l : List (Int × Int × Int × Int)) (A : Option Addr) (cap : Nat) (w : World) (h : Sl enc4 4 w w.heap.size A l) (hl : l.length ≤ 1000000000000) :
    Calls Tryz.prog 73 #[.slice A l.length cap] w fun e w' => e = .returned (.bool (vShop l)) ∧ Below w.heap.size w w' := by
  go_enter Tryz.func73, Tryz.ntmps73
  go_wp2_with fail
  go_loopw [7] (fun i wr => ∃ k : Nat, k ≤ l.length ∧ i = .int .i64 k ∧ (List.range k).all (artOk l) = true ∧ Below w.heap.size w wr) (fun i _ => l.length - (intOf i).toNat)
  case atStart => exact ⟨0, Nat.zero_le _, rfl, rfl, Below.refl _ _⟩
  case round =>
    obtain ⟨k, hk, rfl, hall, hb⟩ := hrel
    have HA := hid hall
    clear hall
    by_cases hlt : k < l.length
    · obtain ⟨b, off, rfl, hbb, c1, c2, c3, c4⟩ := h.get4 hlt
      have d1 : wr.cell? ⟨b, off + k * 4, none⟩ = some (.int .i64 (q1 l k)) := (hb.cell hbb).trans c1
      have d2 : wr.cell? ⟨b, off + k * 4 + 1, none⟩ = some (.int .i64 (q2 l k)) := (hb.cell hbb).trans c2
      have d3 : wr.cell? ⟨b, off + k * 4 + 2, none⟩ = some (.int .i64 (q3 l k)) := (hb.cell hbb).trans c3
      have d4 : wr.cell? ⟨b, off + k * 4 + 3, none⟩ = some (.int .i64 (q4 l k)) := (hb.cell hbb).trans c4
      have hbw : b < wr.heap.size := by have := hb.size; omega
      have hsz := hb.size
      clear c1 c2 c3 c4
      by_cases ha0 : withinB (q1 l k) 1 5000 = true
      · skip
        by_cases ha1 : withinB (q2 l k) 0 2 = true
        · skip
          by_cases ha2 : withinB (q3 l k) 0 300 = true
          · skip
            by_cases ha3 : withinB (q4 l k) 0 5000 = true
            · skip
              go_wp2_with ((go_at_call 64; (first | (refine (within_yes (by assumption) _).mono ?_) | (refine (within_no (by assumption) _).mono ?_)); rintro e w' ⟨rfl, rfl⟩))
              go_roundw
              case rel =>
                refine ⟨k + 1, by omega, by go_num, range_all_succ HA.out (by simp [artOk, ha0, ha1, ha2, ha3]), ?_⟩
                repeat (first | exact Below.refl _ _ | (refine Below.alloc ?_ (by (try simp) <;> omega) _) | (refine Below.setCell ?_ (by (try simp) <;> omega) _) | (refine Below.drew ?_) | (refine below_drewN ?_ _) | (refine Below.trans ?_ (Below.mono (by assumption) (by (try simp) <;> omega))))
              case measure => simp [intOf]; omega
            · have hn : withinB (q4 l k) 0 5000 = false := by simpa using ha3
              clear ha3
              go_wp2_with ((go_at_call 64; (first | (refine (within_yes (by assumption) _).mono ?_) | (refine (within_no (by assumption) _).mono ?_)); rintro e w' ⟨rfl, rfl⟩))
              go_ret
              refine ⟨ret_bool ?_, ?_⟩
              · unfold vShop
                rw [range_all_no hlt (by simp [artOk, hn])]; rfl
              · repeat (first | exact Below.refl _ _ | (refine Below.alloc ?_ (by (try simp) <;> omega) _) | (refine Below.setCell ?_ (by (try simp) <;> omega) _) | (refine Below.drew ?_) | (refine below_drewN ?_ _) | (refine Below.trans ?_ (Below.mono (by assumption) (by (try simp) <;> omega))))
          · have hn : withinB (q3 l k) 0 300 = false := by simpa using ha2
            clear ha2
            go_wp2_with ((go_at_call 64; (first | (refine (within_yes (by assumption) _).mono ?_) | (refine (within_no (by assumption) _).mono ?_)); rintro e w' ⟨rfl, rfl⟩))
            go_ret
            refine ⟨ret_bool ?_, ?_⟩
            · unfold vShop
              rw [range_all_no hlt (by simp [artOk, hn])]; rfl
            · repeat (first | exact Below.refl _ _ | (refine Below.alloc ?_ (by (try simp) <;> omega) _) | (refine Below.setCell ?_ (by (try simp) <;> omega) _) | (refine Below.drew ?_) | (refine below_drewN ?_ _) | (refine Below.trans ?_ (Below.mono (by assumption) (by (try simp) <;> omega))))
        · have hn : withinB (q2 l k) 0 2 = false := by simpa using ha1
          clear ha1
          go_wp2_with ((go_at_call 64; (first | (refine (within_yes (by assumption) _).mono ?_) | (refine (within_no (by assumption) _).mono ?_)); rintro e w' ⟨rfl, rfl⟩))
          go_ret
          refine ⟨ret_bool ?_, ?_⟩
          · unfold vShop
            rw [range_all_no hlt (by simp [artOk, hn])]; rfl
          · repeat (first | exact Below.refl _ _ | (refine Below.alloc ?_ (by (try simp) <;> omega) _) | (refine Below.setCell ?_ (by (try simp) <;> omega) _) | (refine Below.drew ?_) | (refine below_drewN ?_ _) | (refine Below.trans ?_ (Below.mono (by assumption) (by (try simp) <;> omega))))
      · have hn : withinB (q1 l k) 1 5000 = false := by simpa using ha0
        clear ha0
        go_wp2_with ((go_at_call 64; (first | (refine (within_yes (by assumption) _).mono ?_) | (refine (within_no (by assumption) _).mono ?_)); rintro e w' ⟨rfl, rfl⟩))
        go_ret
        refine ⟨ret_bool ?_, ?_⟩
        · unfold vShop
          rw [range_all_no hlt (by simp [artOk, hn])]; rfl
        · repeat (first | exact Below.refl _ _ | (refine Below.alloc ?_ (by (try simp) <;> omega) _) | (refine Below.setCell ?_ (by (try simp) <;> omega) _) | (refine Below.drew ?_) | (refine below_drewN ?_ _) | (refine Below.trans ?_ (Below.mono (by assumption) (by (try simp) <;> omega))))
    · have hkl : k = l.length := by omega
      subst hkl
      by_cases hz : withinB (l.length : Int) 1 10 = true
      · go_wp2_with ((go_at_call 64; (first | (refine (within_yes (by assumption) _).mono ?_) | (refine (within_no (by assumption) _).mono ?_)); rintro e w' ⟨rfl, rfl⟩))
        go_ret
        refine ⟨ret_bool ?_, hb⟩
        unfold vShop
        rw [HA.out, hz]; rfl
      · have hn : withinB (l.length : Int) 1 10 = false := by simpa using hz
        clear hz
        go_wp2_with ((go_at_call 64; (first | (refine (within_yes (by assumption) _).mono ?_) | (refine (within_no (by assumption) _).mono ?_)); rintro e w' ⟨rfl, rfl⟩))
        go_ret
        refine ⟨ret_bool ?_, hb⟩
        unfold vShop
        rw [HA.out, hn]; rfl

end Go.Proofs.YtkgofklpogdpmaaGreat

/- Contracts: lines of carts. -/
namespace Go.Proofs.YtkgofklpogdpmaaGreat
open Go.RowKit

set_option maxHeartbeats 3200000 in
theorem linesOk_any (l : List (Int × Int)) (A : Option Addr) (cap : Nat) (n : Nat) (w : World) (h : Sl enc2 2 w w.heap.size A l) (hl : l.length ≤ 9223372036854775807) (hn : n ≤ 1000000000000) :
    Calls Tryz.prog 74 #[.int .i64 (n : Int), .slice A l.length cap] w fun e w' => e = .returned (.bool (vCart n l)) ∧ Below w.heap.size w w' := by
  have hw : IntKind.i64.wrap ((n : Int) - 1) = (n : Int) - 1 := IntWalk.i64_in _ (by omega)
  go_enter Tryz.func74, Tryz.ntmps74
  go_wp2_with fail
  go_loopw [9] (fun i wr => ∃ k : Nat, k ≤ l.length ∧ i = .int .i64 k ∧ (List.range k).all (lineOk n l) = true ∧ Below w.heap.size w wr) (fun i _ => l.length - (intOf i).toNat)
  case atStart => exact ⟨0, Nat.zero_le _, rfl, rfl, Below.refl _ _⟩
  case round =>
    obtain ⟨k, hk, rfl, hall, hb⟩ := hrel
    have HA := hid hall
    clear hall
    by_cases hlt : k < l.length
    · obtain ⟨b, off, rfl, hbb, c1, c2⟩ := h.get2 hlt
      have d1 : wr.cell? ⟨b, off + k * 2, none⟩ = some (.int .i64 (g1 l k)) := (hb.cell hbb).trans c1
      have d2 : wr.cell? ⟨b, off + k * 2 + 1, none⟩ = some (.int .i64 (g2 l k)) := (hb.cell hbb).trans c2
      have hbw : b < wr.heap.size := by have := hb.size; omega
      have hsz := hb.size
      clear c1 c2
      by_cases ha : withinB (g1 l k) 0 ((n : Int) - 1) = true
      · by_cases hq : withinB (g2 l k) 1 20 = true
        · by_cases h0 : k = 0
          · have e0 : decide (0 < k) = false := by simp; omega
            have HZ := hid h0
            clear h0
            go_wp2_with fail
            go_quiet ((go_at_call 64; first | exact quiet_same (within_yes (by assumption) _) | exact quiet_same (within_no (by assumption) _)))
            go_wp2
            go_roundw
            case rel =>
              refine ⟨k + 1, by omega, by go_num, range_all_succ HA.out (by simp [lineOk, ha, hq]; exact Or.inl HZ.out), ?_⟩
              repeat (first | exact Below.refl _ _ | (refine Below.alloc ?_ (by (try simp) <;> omega) _) | (refine Below.setCell ?_ (by (try simp) <;> omega) _) | (refine Below.drew ?_) | (refine below_drewN ?_ _) | (refine Below.trans ?_ (Below.mono (by assumption) (by (try simp) <;> omega))))
            case measure => simp [intOf]; omega
          · have e0 : decide (0 < k) = true := by simp; omega
            have e2 : 0 < k := by omega
            have hk1 : k - 1 < l.length := by omega
            obtain ⟨b', off', he, _, c3, _⟩ := h.get2 hk1
            obtain ⟨rfl, rfl⟩ : b = b' ∧ off = off' := by simpa using he
            have d3 : wr.cell? ⟨b, off + (k - 1) * 2, none⟩ = some (.int .i64 (g1 l (k - 1))) := (hb.cell hbb).trans c3
            clear c3 he
            by_cases hd : g1 l (k - 1) < g1 l k
            · have HD := hid hd
              have e1 : decide (g1 l k ≤ g1 l (k - 1)) = false := by simp; omega
              clear hd
              go_wp2_with fail
              go_quiet ((go_at_call 64; first | exact quiet_same (within_yes (by assumption) _) | exact quiet_same (within_no (by assumption) _)))
              go_wp2
              go_roundw
              case rel =>
                refine ⟨k + 1, by omega, by go_num, range_all_succ HA.out (by simp [lineOk, ha, hq, HD.out]), ?_⟩
                repeat (first | exact Below.refl _ _ | (refine Below.alloc ?_ (by (try simp) <;> omega) _) | (refine Below.setCell ?_ (by (try simp) <;> omega) _) | (refine Below.drew ?_) | (refine below_drewN ?_ _) | (refine Below.trans ?_ (Below.mono (by assumption) (by (try simp) <;> omega))))
              case measure => simp [intOf]; omega
            · have HD := hid (show decide (g1 l (k - 1) < g1 l k) = false by simpa using hd)
              have HZ := hid h0
              have e1 : decide (g1 l k ≤ g1 l (k - 1)) = true := by simp; omega
              clear hd h0
              go_wp2_with fail
              go_quiet ((go_at_call 64; first | exact quiet_same (within_yes (by assumption) _) | exact quiet_same (within_no (by assumption) _)))
              go_wp2
              go_ret
              refine ⟨ret_bool ?_, ?_⟩
              · unfold vCart
                rw [range_all_no hlt (by simp [lineOk, HD.out, HZ.out])]; rfl
              · repeat (first | exact Below.refl _ _ | (refine Below.alloc ?_ (by (try simp) <;> omega) _) | (refine Below.setCell ?_ (by (try simp) <;> omega) _) | (refine Below.drew ?_) | (refine below_drewN ?_ _) | (refine Below.trans ?_ (Below.mono (by assumption) (by (try simp) <;> omega))))
        · have hq' : withinB (g2 l k) 1 20 = false := by simpa using hq
          clear hq
          go_wp2_with fail
          go_quiet ((go_at_call 64; first | exact quiet_same (within_yes (by assumption) _) | exact quiet_same (within_no (by assumption) _)))
          go_wp2
          go_ret
          refine ⟨ret_bool ?_, ?_⟩
          · unfold vCart
            rw [range_all_no hlt (by simp [lineOk, hq'])]; rfl
          · repeat (first | exact Below.refl _ _ | (refine Below.alloc ?_ (by (try simp) <;> omega) _) | (refine Below.setCell ?_ (by (try simp) <;> omega) _) | (refine Below.drew ?_) | (refine below_drewN ?_ _) | (refine Below.trans ?_ (Below.mono (by assumption) (by (try simp) <;> omega))))
      · have ha' : withinB (g1 l k) 0 ((n : Int) - 1) = false := by simpa using ha
        clear ha
        go_wp2_with fail
        go_quiet ((go_at_call 64; first | exact quiet_same (within_yes (by assumption) _) | exact quiet_same (within_no (by assumption) _)))
        go_wp2
        go_ret
        refine ⟨ret_bool ?_, ?_⟩
        · unfold vCart
          rw [range_all_no hlt (by simp [lineOk, ha'])]; rfl
        · repeat (first | exact Below.refl _ _ | (refine Below.alloc ?_ (by (try simp) <;> omega) _) | (refine Below.setCell ?_ (by (try simp) <;> omega) _) | (refine Below.drew ?_) | (refine below_drewN ?_ _) | (refine Below.trans ?_ (Below.mono (by assumption) (by (try simp) <;> omega))))
    · have hkl : k = l.length := by omega
      subst hkl
      go_wp2
      go_ret
      refine ⟨ret_bool ?_, hb⟩
      unfold vCart
      rw [HA.out, Bool.true_and, decide_eq_decide]
      omega

end Go.Proofs.YtkgofklpogdpmaaGreat

/- Contract: valid carts of a shop. -/
namespace Go.Proofs.YtkgofklpogdpmaaGreat
open Go.RowKit

set_option maxHeartbeats 1600000 in
theorem validCartI_any (s : List (Int × Int × Int × Int)) (c : List (Int × Int)) (A Ac : Option Addr) (cap capc : Nat) (w : World) (hA : Sl enc4 4 w w.heap.size A s) (hC : Sl enc2 2 w w.heap.size Ac c) (hl : s.length ≤ 1048576) (hc : c.length ≤ 1048576) :
    Calls Tryz.prog 35 #[.slice A s.length cap, .slice Ac c.length capc] w fun e w' => e = .returned (.bool (vShop s && vCart s.length c)) ∧ Below w.heap.size w w' := by
  by_cases hs : vShop s = true
  · have HS := hid hs
    clear hs
    go_enter Tryz.func35, Tryz.ntmps35
    go_wp2_with fail
    refine (validShop_any s A cap _ hA (by omega)).mono ?_
    rintro e w1 ⟨rfl, b1⟩
    rw [HS.out]
    have z1 := b1.size
    go_wp2_with fail
    refine (linesOk_any c Ac capc s.length _ ((hC.below b1 (Nat.le_refl _)).more b1.size) (by omega) (by omega)).mono ?_
    rintro e w2 ⟨rfl, b2⟩
    have D2 := hid (b1.trans (b2.mono z1))
    clear b1 b2
    go_wp2
    go_ret
    exact ⟨ret_bool (by rw [HS.out]; rfl), D2.out⟩
  · have hs' : vShop s = false := by simpa using hs
    have HS := hid hs'
    clear hs hs'
    go_enter Tryz.func35, Tryz.ntmps35
    go_wp2_with fail
    refine (validShop_any s A cap _ hA (by omega)).mono ?_
    rintro e w1 ⟨rfl, b1⟩
    rw [HS.out]
    go_wp2
    go_ret
    exact ⟨ret_bool (by rw [HS.out]; rfl), b1⟩

end Go.Proofs.YtkgofklpogdpmaaGreat

/- Contracts: sums, of the program and of the paper. -/
namespace Go.Proofs.YtkgofklpogdpmaaGreat
open Go.RowKit

set_option maxHeartbeats 800000 in
theorem total_any (l : List Int) (A : Option Addr) (cap : Nat) (w : World) (h : Sl enc1 1 w w.heap.size A l) (hl : l.length ≤ 1000) (hx : ∀ k, k < l.length → 0 ≤ g0 l k ∧ g0 l k ≤ 1000000000) :
    Calls Tryz.prog 28 #[.slice A l.length cap] w fun e w' => e = .returned (.int .i64 (tot (g0 l) l.length)) ∧ w = w' := by
  have HX := hid hx
  clear hx
  go_enter Tryz.func28, Tryz.ntmps28
  go_wp2_with fail
  go_loop [3, 8] (fun n i => ∃ k : Nat, k ≤ l.length ∧ i = .int .i64 k ∧ n = .int .i64 (tot (g0 l) k)) (fun _ i => l.length - (intOf i).toNat)
  case atStart => exact ⟨0, Nat.zero_le _, rfl, rfl⟩
  case round =>
    obtain ⟨k, hk, rfl, rfl⟩ := hrel
    by_cases hlt : k < l.length
    · obtain ⟨b, off, rfl, hbb, c1⟩ := h.get1 hlt
      have hst : tot (g0 l) (k + 1) = tot (g0 l) k + g0 l k := rfl
      have hb1 := tot_bd (lf := g0 l) (b := 1000000000) k (fun i hi => HX.out i (by omega))
      have hb2 := HX.out k hlt
      obtain ⟨x, hx⟩ : ∃ x, g0 l k = x := ⟨_, rfl⟩
      obtain ⟨S, hS⟩ : ∃ x, tot (g0 l) k = x := ⟨_, rfl⟩
      rw [hx] at c1 hst hb2
      rw [hS] at hst hb1 ⊢
      have HST := hid hst
      obtain ⟨y1, y2⟩ := hb1
      obtain ⟨y3, y4⟩ := hb2
      have hw1 : IntKind.i64.wrap (S + x) = S + x := IntWalk.i64_in _ (by omega)
      have hkl : (k : Int) < (l.length : Int) := by omega
      clear hst hx hS y1 y2 y3 y4
      go_wp2
      go_round
      case rel => exact ⟨k + 1, by omega, by go_num, by rw [HST.out]⟩
      case measure => simp [intOf]; omega
    · have hkl : k = l.length := by omega
      subst hkl
      go_wp2
      go_ret
      exact ⟨rfl, rfl⟩

set_option maxHeartbeats 800000 in
theorem ssum_any (l : List Int) (A : Option Addr) (cap : Nat) (w : World) (h : Sl enc1 1 w w.heap.size A l) (hl : l.length ≤ 1000) (hx : ∀ k, k < l.length → 0 ≤ g0 l k ∧ g0 l k ≤ 1000000000) :
    Calls Tryz.prog 57 #[.slice A l.length cap] w fun e w' => e = .returned (.int .i64 (tot (g0 l) l.length)) ∧ w = w' := by
  have HX := hid hx
  clear hx
  go_enter Tryz.func57, Tryz.ntmps57
  go_wp2_with fail
  go_loop [3, 4] (fun n i => ∃ k : Nat, k ≤ l.length ∧ i = .int .i64 k ∧ n = .int .i64 (tot (g0 l) k)) (fun _ i => l.length - (intOf i).toNat)
  case atStart => exact ⟨0, Nat.zero_le _, rfl, rfl⟩
  case round =>
    obtain ⟨k, hk, rfl, rfl⟩ := hrel
    by_cases hlt : k < l.length
    · obtain ⟨b, off, rfl, hbb, c1⟩ := h.get1 hlt
      have hst : tot (g0 l) (k + 1) = tot (g0 l) k + g0 l k := rfl
      have hb1 := tot_bd (lf := g0 l) (b := 1000000000) k (fun i hi => HX.out i (by omega))
      have hb2 := HX.out k hlt
      obtain ⟨x, hx⟩ : ∃ x, g0 l k = x := ⟨_, rfl⟩
      obtain ⟨S, hS⟩ : ∃ x, tot (g0 l) k = x := ⟨_, rfl⟩
      rw [hx] at c1 hst hb2
      rw [hS] at hst hb1 ⊢
      have HST := hid hst
      obtain ⟨y1, y2⟩ := hb1
      obtain ⟨y3, y4⟩ := hb2
      have hw1 : IntKind.i64.wrap (S + x) = S + x := IntWalk.i64_in _ (by omega)
      have hkl : (k : Int) < (l.length : Int) := by omega
      clear hst hx hS y1 y2 y3 y4
      go_wp2
      go_round
      case rel => exact ⟨k + 1, by omega, by go_num, by rw [HST.out]⟩
      case measure => simp [intOf]; omega
    · have hkl : k = l.length := by omega
      subst hkl
      go_wp2
      go_ret
      exact ⟨rfl, rfl⟩

end Go.Proofs.YtkgofklpogdpmaaGreat

/- The plain law of apportioning: an amount split by weights. No program in sight. -/
namespace Go.Proofs.YtkgofklpogdpmaaGreat

theorem g0_set {l : List Int} {i j : Nat} {x : Int} (hi : i < l.length) : g0 (l.set i x) j = if i = j then x else g0 l j := by
  simp only [g0, List.getD_eq_getElem?_getD, List.getElem?_set]
  split
  · first | rfl | (rw [if_pos hi]; rfl)
  · rfl
theorem tot_set {l : List Int} {i : Nat} {x : Int} (hi : i < l.length) : ∀ n, tot (g0 (l.set i x)) n = tot (g0 l) n + if i < n then x - g0 l i else 0
  | 0 => by simp [tot]
  | n + 1 => by
    simp only [tot, tot_set hi n, g0_set hi]
    by_cases h1 : i = n
    · subst h1; rw [if_pos rfl, if_neg (by omega), if_pos (by omega)]; omega
    · rw [if_neg h1]
      by_cases h2 : i < n
      · rw [if_pos h2, if_pos (by omega)]; omega
      · rw [if_neg h2, if_neg (by omega)]; omega
theorem tot_congr {f g : Nat → Int} : ∀ n, (∀ k, k < n → f k = g k) → tot f n = tot g n
  | 0, _ => rfl
  | n + 1, h => by simp only [tot, tot_congr n (fun k hk => h k (by omega)), h n (by omega)]
theorem tot_le {f g : Nat → Int} : ∀ n, (∀ k, k < n → f k ≤ g k) → tot f n ≤ tot g n
  | 0, _ => Int.le_refl _
  | n + 1, h => by
    have h1 := tot_le n (fun k hk => h k (by omega))
    have h2 := h n (by omega)
    simp only [tot]; omega

/-- The first greatest of the first ones. -/
def bestP (r : Nat → Int) : Nat → Nat
  | 0 => 0
  | k + 1 => if r (bestP r k) < r k then k else bestP r k
theorem bestP_lt {r : Nat → Int} : ∀ n, 0 < n → bestP r n < n
  | n + 1, _ => by
    by_cases h : n = 0
    · subst h; simp [bestP]
    · have := bestP_lt (r := r) n (by omega)
      simp only [bestP]; split <;> omega
theorem bestP_max {r : Nat → Int} : ∀ n k, k < n → r k ≤ r (bestP r n)
  | n + 1, k, h => by
    simp only [bestP]
    by_cases hk : k = n
    · subst hk; split <;> omega
    · have := bestP_max (r := r) n k (by omega)
      split <;> omega
/-- How many are positive. -/
def posN (r : Nat → Int) : Nat → Nat
  | 0 => 0
  | k + 1 => posN r k + if 0 < r k then 1 else 0
theorem posN_none {r : Nat → Int} : ∀ n, (∀ k, k < n → r k ≤ 0) → posN r n = 0
  | 0, _ => rfl
  | n + 1, h => by
    simp only [posN, posN_none n (fun k hk => h k (by omega))]
    rw [if_neg (by have := h n (by omega); omega)]
theorem posN_congr {f g : Nat → Int} : ∀ n, (∀ k, k < n → f k = g k) → posN f n = posN g n
  | 0, _ => rfl
  | n + 1, h => by simp only [posN, posN_congr n (fun k hk => h k (by omega)), h n (by omega)]
theorem posN_set {l : List Int} {i : Nat} (hi : i < l.length) (hp : 0 < g0 l i) : ∀ n, posN (g0 (l.set i (-1))) n + (if i < n then 1 else 0) = posN (g0 l) n
  | 0 => by simp [posN]
  | n + 1 => by
    have ih := posN_set hi hp n
    simp only [posN, g0_set hi]
    by_cases h1 : i = n
    · subst h1
      rw [if_neg (Nat.lt_irrefl i)] at ih
      rw [if_pos rfl, if_neg (by omega), if_pos hp, if_pos (by omega)]; omega
    · rw [if_neg h1]
      by_cases h2 : i < n
      · rw [if_pos h2] at ih; rw [if_pos (show i < n + 1 by omega)]; omega
      · rw [if_neg h2] at ih; rw [if_neg (show ¬ i < n + 1 by omega)]; omega

def apLoop : Nat → List Int → List Int → List Int
  | 0, out, _ => out
  | n + 1, out, rs => apLoop n (out.set (bestP (g0 rs) rs.length) (g0 out (bestP (g0 rs) rs.length) + 1)) (rs.set (bestP (g0 rs) rs.length) (-1))
def apFl (a : Int) (ws : List Int) : List Int := ws.map fun x => a * x / tot (g0 ws) ws.length
def apRs (a : Int) (ws : List Int) : List Int := ws.map fun x => a * x % tot (g0 ws) ws.length
def apN (a : Int) (ws : List Int) : Nat := (a - tot (g0 (apFl a ws)) ws.length).toNat
def apP (a : Int) (ws : List Int) : List Int := if tot (g0 ws) ws.length = 0 then List.replicate ws.length 0 else apLoop (apN a ws) (apFl a ws) (apRs a ws)

/-- What holds while the rest is handed out. -/
def ApInv (ws out rs : List Int) (n : Nat) : Prop :=
  out.length = ws.length ∧ rs.length = ws.length ∧ (∀ k, k < ws.length → 0 ≤ g0 out k ∧ g0 out k + (if 0 < g0 rs k then 1 else 0) ≤ g0 ws k) ∧ n ≤ posN (g0 rs) ws.length ∧ ∀ k, k < ws.length → -1 ≤ g0 rs k ∧ g0 rs k ≤ 1000000000
theorem ApInv.best {ws out rs : List Int} {n : Nat} (h : ApInv ws out rs (n + 1)) : bestP (g0 rs) rs.length < ws.length ∧ 0 < g0 rs (bestP (g0 rs) rs.length) := by
  obtain ⟨h1, h2, h3, h4, _⟩ := h
  have hl : 0 < ws.length := by
    cases hw : ws.length with
    | zero => rw [hw] at h4; simp [posN] at h4
    | succ _ => omega
  rw [h2]
  refine ⟨bestP_lt _ hl, ?_⟩
  by_cases hp : 0 < g0 rs (bestP (g0 rs) ws.length)
  · exact hp
  · have := posN_none (r := g0 rs) ws.length (fun k hk => by have := bestP_max (r := g0 rs) ws.length k hk; omega)
    omega
theorem ApInv.step {ws out rs : List Int} {n : Nat} (h : ApInv ws out rs (n + 1)) :
    ApInv ws (out.set (bestP (g0 rs) rs.length) (g0 out (bestP (g0 rs) rs.length) + 1)) (rs.set (bestP (g0 rs) rs.length) (-1)) n := by
  obtain ⟨hb, hp⟩ := h.best
  obtain ⟨h1, h2, h3, h4, h5⟩ := h
  obtain ⟨b, hbe⟩ : ∃ b, bestP (g0 rs) rs.length = b := ⟨_, rfl⟩
  rw [hbe] at hb hp ⊢
  have ho : b < out.length := by omega
  have hr : b < rs.length := by omega
  refine ⟨by rw [List.length_set]; exact h1, by rw [List.length_set]; exact h2, fun k hk => ?_, ?_, fun k hk => ?_⟩
  · rw [g0_set ho, g0_set hr]
    by_cases hbk : b = k
    · subst hbk
      have := h3 b hk
      rw [if_pos hp] at this
      rw [if_pos rfl, if_pos rfl, if_neg (by omega)]
      omega
    · rw [if_neg hbk, if_neg hbk]; exact h3 k hk
  · have := posN_set hr hp ws.length
    rw [if_pos hb] at this
    omega
  · rw [g0_set hr]
    by_cases hbk : b = k
    · rw [if_pos hbk]; omega
    · rw [if_neg hbk]; exact h5 k hk
theorem ApInv.tot_ {ws out rs : List Int} {n : Nat} (h : ApInv ws out rs (n + 1)) :
    tot (g0 (out.set (bestP (g0 rs) rs.length) (g0 out (bestP (g0 rs) rs.length) + 1))) ws.length = tot (g0 out) ws.length + 1 := by
  have hb := h.best.1
  rw [tot_set (by rw [h.1]; exact hb), if_pos hb]
  omega
theorem ApInv.done {ws : List Int} : ∀ (n : Nat) (out rs : List Int), ApInv ws out rs n → (apLoop n out rs).length = ws.length ∧ ∀ k, k < ws.length → 0 ≤ g0 (apLoop n out rs) k ∧ g0 (apLoop n out rs) k ≤ g0 ws k
  | 0, out, rs, h => ⟨h.1, fun k hk => by
      have := h.2.2.1 k hk
      simp only [apLoop]
      refine ⟨this.1, ?_⟩
      split at this <;> omega⟩
  | n + 1, out, rs, h => ApInv.done n _ _ h.step

theorem apFl_at {a : Int} {ws : List Int} {k : Nat} (hk : k < ws.length) : g0 (apFl a ws) k = a * g0 ws k / tot (g0 ws) ws.length := by
  simp [g0, apFl, List.getD, hk]
theorem apRs_at {a : Int} {ws : List Int} {k : Nat} (hk : k < ws.length) : g0 (apRs a ws) k = a * g0 ws k % tot (g0 ws) ws.length := by
  simp [g0, apRs, List.getD, hk]
theorem ap_sum {a A : Int} {ws : List Int} (hA : A = tot (g0 ws) ws.length) : ∀ n, n ≤ ws.length → tot (g0 (apFl a ws)) n * A + tot (g0 (apRs a ws)) n = a * tot (g0 ws) n
  | 0, _ => by simp [tot]
  | n + 1, h => by
    have ih := ap_sum (a := a) hA n (by omega)
    simp only [tot]
    rw [apFl_at (by omega), apRs_at (by omega), ← hA, Int.add_mul, Int.mul_add, ← ih]
    have := Int.mul_ediv_add_emod (a * g0 ws n) A
    rw [Int.mul_comm (a * g0 ws n / A) A]
    omega
theorem ap_pos {A : Int} {r : Nat → Int} (hA : 0 < A) : ∀ n, (∀ k, k < n → 0 ≤ r k ∧ r k < A) → tot r n ≤ A * posN r n
  | 0, _ => by simp [tot, posN]
  | n + 1, h => by
    have ih := ap_pos hA n (fun k hk => h k (by omega))
    have h2 := h n (by omega)
    simp only [tot, posN]
    split
    · rw [Int.natCast_add, Int.mul_add]
      simp only [Int.natCast_one, Int.mul_one]
      omega
    · rw [Nat.add_zero]; omega
theorem ap_start {a : Int} {ws : List Int} (ha : 0 ≤ a) (hw : ∀ k, k < ws.length → 0 ≤ g0 ws k ∧ g0 ws k ≤ 1000000) (hl : ws.length ≤ 8) (hat : a ≤ tot (g0 ws) ws.length) (h0 : tot (g0 ws) ws.length ≠ 0) :
    ApInv ws (apFl a ws) (apRs a ws) (apN a ws) ∧ tot (g0 (apFl a ws)) ws.length + apN a ws = a := by
  have hbd := tot_bd (lf := g0 ws) (b := 1000000) ws.length hw
  obtain ⟨A, hA⟩ : ∃ A, A = tot (g0 ws) ws.length := ⟨_, rfl⟩
  have hA0 : 0 < A := by omega
  have hr : ∀ k, k < ws.length → 0 ≤ g0 (apRs a ws) k ∧ g0 (apRs a ws) k < A := fun k hk => by
    rw [apRs_at hk, ← hA]
    exact ⟨Int.emod_nonneg _ (by omega), Int.emod_lt_of_pos _ hA0⟩
  have hs := ap_sum (a := a) hA ws.length (Nat.le_refl _)
  have hp := ap_pos hA0 ws.length hr
  have hr0 := tot_bd (lf := g0 (apRs a ws)) (b := 8000000) ws.length (fun k hk => by have := hr k hk; omega)
  rw [← hA] at hs
  obtain ⟨F, hF⟩ : ∃ F, tot (g0 (apFl a ws)) ws.length = F := ⟨_, rfl⟩
  rw [hF] at hs
  have hd : (a - F) * A = tot (g0 (apRs a ws)) ws.length := by rw [Int.sub_mul]; omega
  have h1 : 0 ≤ a - F := by
    apply Int.le_of_mul_le_mul_right (a := A) _ hA0
    rw [hd, Int.zero_mul]; exact hr0.1
  have hn : (apN a ws : Int) = a - F := by unfold apN; rw [hF]; omega
  refine ⟨⟨by simp [apFl], by simp [apRs], fun k hk => ?_, ?_, fun k hk => ?_⟩, by rw [hF]; omega⟩
  · have hr1 := hr k hk
    rw [apRs_at hk, ← hA] at hr1
    rw [apFl_at hk, apRs_at hk, ← hA]
    have hwk := (hw k hk).1
    have e := Int.mul_ediv_add_emod (a * g0 ws k) A
    have hle : a * g0 ws k ≤ A * g0 ws k := Int.mul_le_mul_of_nonneg_right (by omega) hwk
    have hnn : 0 ≤ a * g0 ws k := Int.mul_nonneg ha hwk
    refine ⟨Int.ediv_nonneg hnn (by omega), ?_⟩
    split
    · rename_i hpos
      have : A * (a * g0 ws k / A) < A * g0 ws k := by omega
      have := Int.lt_of_mul_lt_mul_left this (by omega)
      omega
    · have : A * (a * g0 ws k / A) ≤ A * g0 ws k := by omega
      have := Int.le_of_mul_le_mul_left this hA0
      omega
  · have : A * (a - F) ≤ A * posN (g0 (apRs a ws)) ws.length := by rw [Int.mul_comm, hd]; exact hp
    have := Int.le_of_mul_le_mul_left this hA0
    omega
  · have := hr k hk
    omega
theorem apP_len {a : Int} {ws : List Int} (ha : 0 ≤ a) (hw : ∀ k, k < ws.length → 0 ≤ g0 ws k ∧ g0 ws k ≤ 1000000) (hl : ws.length ≤ 8) (hat : a ≤ tot (g0 ws) ws.length) :
    (apP a ws).length = ws.length ∧ ∀ k, k < ws.length → 0 ≤ g0 (apP a ws) k ∧ g0 (apP a ws) k ≤ g0 ws k := by
  unfold apP
  split
  · refine ⟨List.length_replicate, fun k hk => ?_⟩
    have : g0 (List.replicate ws.length (0 : Int)) k = 0 := by
      simp only [g0, List.getD_eq_getElem?_getD, List.getElem?_replicate]; split <;> rfl
    rw [this]
    exact ⟨Int.le_refl _, (hw k hk).1⟩
  · rename_i h0
    exact ApInv.done _ _ _ (ap_start ha hw hl hat h0).1

end Go.Proofs.YtkgofklpogdpmaaGreat

/- Contracts: valid shops, as the paper says it. -/
namespace Go.Proofs.YtkgofklpogdpmaaGreat
open Go.RowKit

set_option maxHeartbeats 3200000 in
theorem svalidShop_any (l : List (Int × Int × Int × Int)) (A : Option Addr) (cap : Nat) (w : World) (h : Sl enc4 4 w w.heap.size A l) (hl : l.length ≤ 1000000000000) :
    Calls Tryz.prog 18 #[.slice A l.length cap] w fun e w' => e = .returned (.bool (vShop l)) ∧ Below w.heap.size w w' := by
  go_enter Tryz.func18, Tryz.ntmps18
  go_wp2_with fail
  go_loopw [3] (fun i wr => ∃ k : Nat, k ≤ l.length ∧ i = .int .i64 k ∧ (List.range k).all (artOk l) = true ∧ Below w.heap.size w wr) (fun i _ => l.length - (intOf i).toNat)
  case atStart => exact ⟨0, Nat.zero_le _, rfl, rfl, Below.refl _ _⟩
  case round =>
    obtain ⟨k, hk, rfl, hall, hb⟩ := hrel
    have HA := hid hall
    clear hall
    by_cases hlt : k < l.length
    · obtain ⟨b, off, rfl, hbb, c1, c2, c3, c4⟩ := h.get4 hlt
      have d1 : wr.cell? ⟨b, off + k * 4, none⟩ = some (.int .i64 (q1 l k)) := (hb.cell hbb).trans c1
      have d2 : wr.cell? ⟨b, off + k * 4 + 1, none⟩ = some (.int .i64 (q2 l k)) := (hb.cell hbb).trans c2
      have d3 : wr.cell? ⟨b, off + k * 4 + 2, none⟩ = some (.int .i64 (q3 l k)) := (hb.cell hbb).trans c3
      have d4 : wr.cell? ⟨b, off + k * 4 + 3, none⟩ = some (.int .i64 (q4 l k)) := (hb.cell hbb).trans c4
      have hbw : b < wr.heap.size := by have := hb.size; omega
      have hsz := hb.size
      clear c1 c2 c3 c4
      by_cases ha0 : withinB (q1 l k) 1 5000 = true
      · skip
        by_cases ha1 : withinB (q2 l k) 0 2 = true
        · skip
          by_cases ha2 : withinB (q3 l k) 0 300 = true
          · skip
            by_cases ha3 : withinB (q4 l k) 0 5000 = true
            · skip
              go_wp2_with ((go_at_call 51; (first | (refine (inRange_yes (by assumption) _).mono ?_) | (refine (inRange_no (by assumption) _).mono ?_)); rintro e w' ⟨rfl, rfl⟩))
              go_roundw
              case rel =>
                refine ⟨k + 1, by omega, by go_num, range_all_succ HA.out (by simp [artOk, ha0, ha1, ha2, ha3]), ?_⟩
                repeat (first | exact Below.refl _ _ | (refine Below.alloc ?_ (by (try simp) <;> omega) _) | (refine Below.setCell ?_ (by (try simp) <;> omega) _) | (refine Below.drew ?_) | (refine below_drewN ?_ _) | (refine Below.trans ?_ (Below.mono (by assumption) (by (try simp) <;> omega))))
              case measure => simp [intOf]; omega
            · have hn : withinB (q4 l k) 0 5000 = false := by simpa using ha3
              clear ha3
              go_wp2_with ((go_at_call 51; (first | (refine (inRange_yes (by assumption) _).mono ?_) | (refine (inRange_no (by assumption) _).mono ?_)); rintro e w' ⟨rfl, rfl⟩))
              go_ret
              refine ⟨ret_bool ?_, ?_⟩
              · unfold vShop
                rw [range_all_no hlt (by simp [artOk, hn])]; rfl
              · repeat (first | exact Below.refl _ _ | (refine Below.alloc ?_ (by (try simp) <;> omega) _) | (refine Below.setCell ?_ (by (try simp) <;> omega) _) | (refine Below.drew ?_) | (refine below_drewN ?_ _) | (refine Below.trans ?_ (Below.mono (by assumption) (by (try simp) <;> omega))))
          · have hn : withinB (q3 l k) 0 300 = false := by simpa using ha2
            clear ha2
            go_wp2_with ((go_at_call 51; (first | (refine (inRange_yes (by assumption) _).mono ?_) | (refine (inRange_no (by assumption) _).mono ?_)); rintro e w' ⟨rfl, rfl⟩))
            go_ret
            refine ⟨ret_bool ?_, ?_⟩
            · unfold vShop
              rw [range_all_no hlt (by simp [artOk, hn])]; rfl
            · repeat (first | exact Below.refl _ _ | (refine Below.alloc ?_ (by (try simp) <;> omega) _) | (refine Below.setCell ?_ (by (try simp) <;> omega) _) | (refine Below.drew ?_) | (refine below_drewN ?_ _) | (refine Below.trans ?_ (Below.mono (by assumption) (by (try simp) <;> omega))))
        · have hn : withinB (q2 l k) 0 2 = false := by simpa using ha1
          clear ha1
          go_wp2_with ((go_at_call 51; (first | (refine (inRange_yes (by assumption) _).mono ?_) | (refine (inRange_no (by assumption) _).mono ?_)); rintro e w' ⟨rfl, rfl⟩))
          go_ret
          refine ⟨ret_bool ?_, ?_⟩
          · unfold vShop
            rw [range_all_no hlt (by simp [artOk, hn])]; rfl
          · repeat (first | exact Below.refl _ _ | (refine Below.alloc ?_ (by (try simp) <;> omega) _) | (refine Below.setCell ?_ (by (try simp) <;> omega) _) | (refine Below.drew ?_) | (refine below_drewN ?_ _) | (refine Below.trans ?_ (Below.mono (by assumption) (by (try simp) <;> omega))))
      · have hn : withinB (q1 l k) 1 5000 = false := by simpa using ha0
        clear ha0
        go_wp2_with ((go_at_call 51; (first | (refine (inRange_yes (by assumption) _).mono ?_) | (refine (inRange_no (by assumption) _).mono ?_)); rintro e w' ⟨rfl, rfl⟩))
        go_ret
        refine ⟨ret_bool ?_, ?_⟩
        · unfold vShop
          rw [range_all_no hlt (by simp [artOk, hn])]; rfl
        · repeat (first | exact Below.refl _ _ | (refine Below.alloc ?_ (by (try simp) <;> omega) _) | (refine Below.setCell ?_ (by (try simp) <;> omega) _) | (refine Below.drew ?_) | (refine below_drewN ?_ _) | (refine Below.trans ?_ (Below.mono (by assumption) (by (try simp) <;> omega))))
    · have hkl : k = l.length := by omega
      subst hkl
      by_cases hz : withinB (l.length : Int) 1 10 = true
      · go_wp2_with ((go_at_call 51; (first | (refine (inRange_yes (by assumption) _).mono ?_) | (refine (inRange_no (by assumption) _).mono ?_)); rintro e w' ⟨rfl, rfl⟩))
        go_ret
        refine ⟨ret_bool ?_, hb⟩
        unfold vShop
        rw [HA.out, hz]; rfl
      · have hn : withinB (l.length : Int) 1 10 = false := by simpa using hz
        clear hz
        go_wp2_with ((go_at_call 51; (first | (refine (inRange_yes (by assumption) _).mono ?_) | (refine (inRange_no (by assumption) _).mono ?_)); rintro e w' ⟨rfl, rfl⟩))
        go_ret
        refine ⟨ret_bool ?_, hb⟩
        unfold vShop
        rw [HA.out, hn]; rfl

end Go.Proofs.YtkgofklpogdpmaaGreat

/- Contracts: lines of carts of a shop. -/
namespace Go.Proofs.YtkgofklpogdpmaaGreat
open Go.RowKit

set_option maxHeartbeats 3200000 in
theorem svalidCart_any (l : List (Int × Int)) (A : Option Addr) (cap : Nat) (n cs : Nat) (As : Option Addr) (w : World) (h : Sl enc2 2 w w.heap.size A l) (hl : l.length ≤ 9223372036854775807) (hn : n ≤ 1000000000000) :
    Calls Tryz.prog 19 #[.slice As n cs, .slice A l.length cap] w fun e w' => e = .returned (.bool (vCart n l)) ∧ Below w.heap.size w w' := by
  have hw : IntKind.i64.wrap ((n : Int) - 1) = (n : Int) - 1 := IntWalk.i64_in _ (by omega)
  go_enter Tryz.func19, Tryz.ntmps19
  go_wp2_with fail
  go_loopw [5] (fun i wr => ∃ k : Nat, k ≤ l.length ∧ i = .int .i64 k ∧ (List.range k).all (lineOk n l) = true ∧ Below w.heap.size w wr) (fun i _ => l.length - (intOf i).toNat)
  case atStart => exact ⟨0, Nat.zero_le _, rfl, rfl, Below.refl _ _⟩
  case round =>
    obtain ⟨k, hk, rfl, hall, hb⟩ := hrel
    have HA := hid hall
    clear hall
    by_cases hlt : k < l.length
    · obtain ⟨b, off, rfl, hbb, c1, c2⟩ := h.get2 hlt
      have d1 : wr.cell? ⟨b, off + k * 2, none⟩ = some (.int .i64 (g1 l k)) := (hb.cell hbb).trans c1
      have d2 : wr.cell? ⟨b, off + k * 2 + 1, none⟩ = some (.int .i64 (g2 l k)) := (hb.cell hbb).trans c2
      have hbw : b < wr.heap.size := by have := hb.size; omega
      have hsz := hb.size
      clear c1 c2
      by_cases ha : withinB (g1 l k) 0 ((n : Int) - 1) = true
      · by_cases hq : withinB (g2 l k) 1 20 = true
        · by_cases h0 : k = 0
          · have e0 : decide (0 < k) = false := by simp; omega
            have HZ := hid h0
            clear h0
            go_wp2_with fail
            go_quiet ((go_at_call 51; first | exact quiet_same (inRange_yes (by assumption) _) | exact quiet_same (inRange_no (by assumption) _)))
            go_wp2
            go_roundw
            case rel =>
              refine ⟨k + 1, by omega, by go_num, range_all_succ HA.out (by simp [lineOk, ha, hq]; exact Or.inl HZ.out), ?_⟩
              repeat (first | exact Below.refl _ _ | (refine Below.alloc ?_ (by (try simp) <;> omega) _) | (refine Below.setCell ?_ (by (try simp) <;> omega) _) | (refine Below.drew ?_) | (refine below_drewN ?_ _) | (refine Below.trans ?_ (Below.mono (by assumption) (by (try simp) <;> omega))))
            case measure => simp [intOf]; omega
          · have e0 : decide (0 < k) = true := by simp; omega
            have e2 : 0 < k := by omega
            have hk1 : k - 1 < l.length := by omega
            obtain ⟨b', off', he, _, c3, _⟩ := h.get2 hk1
            obtain ⟨rfl, rfl⟩ : b = b' ∧ off = off' := by simpa using he
            have d3 : wr.cell? ⟨b, off + (k - 1) * 2, none⟩ = some (.int .i64 (g1 l (k - 1))) := (hb.cell hbb).trans c3
            clear c3 he
            by_cases hd : g1 l (k - 1) < g1 l k
            · have HD := hid hd
              have e1 : decide (g1 l k ≤ g1 l (k - 1)) = false := by simp; omega
              clear hd
              go_wp2_with fail
              go_quiet ((go_at_call 51; first | exact quiet_same (inRange_yes (by assumption) _) | exact quiet_same (inRange_no (by assumption) _)))
              go_wp2
              go_roundw
              case rel =>
                refine ⟨k + 1, by omega, by go_num, range_all_succ HA.out (by simp [lineOk, ha, hq, HD.out]), ?_⟩
                repeat (first | exact Below.refl _ _ | (refine Below.alloc ?_ (by (try simp) <;> omega) _) | (refine Below.setCell ?_ (by (try simp) <;> omega) _) | (refine Below.drew ?_) | (refine below_drewN ?_ _) | (refine Below.trans ?_ (Below.mono (by assumption) (by (try simp) <;> omega))))
              case measure => simp [intOf]; omega
            · have HD := hid (show decide (g1 l (k - 1) < g1 l k) = false by simpa using hd)
              have HZ := hid h0
              have e1 : decide (g1 l k ≤ g1 l (k - 1)) = true := by simp; omega
              clear hd h0
              go_wp2_with fail
              go_quiet ((go_at_call 51; first | exact quiet_same (inRange_yes (by assumption) _) | exact quiet_same (inRange_no (by assumption) _)))
              go_wp2
              go_ret
              refine ⟨ret_bool ?_, ?_⟩
              · unfold vCart
                rw [range_all_no hlt (by simp [lineOk, HD.out, HZ.out])]; rfl
              · repeat (first | exact Below.refl _ _ | (refine Below.alloc ?_ (by (try simp) <;> omega) _) | (refine Below.setCell ?_ (by (try simp) <;> omega) _) | (refine Below.drew ?_) | (refine below_drewN ?_ _) | (refine Below.trans ?_ (Below.mono (by assumption) (by (try simp) <;> omega))))
        · have hq' : withinB (g2 l k) 1 20 = false := by simpa using hq
          clear hq
          go_wp2_with fail
          go_quiet ((go_at_call 51; first | exact quiet_same (inRange_yes (by assumption) _) | exact quiet_same (inRange_no (by assumption) _)))
          go_wp2
          go_ret
          refine ⟨ret_bool ?_, ?_⟩
          · unfold vCart
            rw [range_all_no hlt (by simp [lineOk, hq'])]; rfl
          · repeat (first | exact Below.refl _ _ | (refine Below.alloc ?_ (by (try simp) <;> omega) _) | (refine Below.setCell ?_ (by (try simp) <;> omega) _) | (refine Below.drew ?_) | (refine below_drewN ?_ _) | (refine Below.trans ?_ (Below.mono (by assumption) (by (try simp) <;> omega))))
      · have ha' : withinB (g1 l k) 0 ((n : Int) - 1) = false := by simpa using ha
        clear ha
        go_wp2_with fail
        go_quiet ((go_at_call 51; first | exact quiet_same (inRange_yes (by assumption) _) | exact quiet_same (inRange_no (by assumption) _)))
        go_wp2
        go_ret
        refine ⟨ret_bool ?_, ?_⟩
        · unfold vCart
          rw [range_all_no hlt (by simp [lineOk, ha'])]; rfl
        · repeat (first | exact Below.refl _ _ | (refine Below.alloc ?_ (by (try simp) <;> omega) _) | (refine Below.setCell ?_ (by (try simp) <;> omega) _) | (refine Below.drew ?_) | (refine below_drewN ?_ _) | (refine Below.trans ?_ (Below.mono (by assumption) (by (try simp) <;> omega))))
    · have hkl : k = l.length := by omega
      subst hkl
      go_wp2
      go_ret
      refine ⟨ret_bool ?_, hb⟩
      unfold vCart
      rw [HA.out, Bool.true_and, decide_eq_decide]
      omega

end Go.Proofs.YtkgofklpogdpmaaGreat

/- The plain law of net amounts. No program in sight. -/
namespace Go.Proofs.YtkgofklpogdpmaaGreat

theorem fit_parts {s : List (Int × Int × Int × Int)} {c : List (Int × Int)} {l : List Int} (h : fitTax s c l = true) : vShop s = true ∧ vCart s.length c = true ∧ vLeft s c l = true := by
  unfold fitTax at h; simp only [Bool.and_eq_true] at h; exact ⟨h.1.1, h.1.2, h.2⟩
theorem gr_lim {s : List (Int × Int × Int × Int)} {c : List (Int × Int)} {l : List Int} (hs : vShop s = true) (hc : vCart s.length c = true) (hl : vLeft s c l = true) (r : Int) {k : Nat} (hk : k ≤ c.length) :
    0 ≤ gr (rtK s c) (g0 l) r k ∧ gr (rtK s c) (g0 l) r k ≤ 800000 := by
  have h1 := gr_bd (rt := rtK s c) (lf := g0 l) (r := r) (b := 100000) k (fun i hi => left_at hs hc hl (by omega))
  have h2 := (vCart_iff.1 hc).2.2
  omega

/-- What is left of the gross amounts without the taxes. -/
def snt (L : List (Int × Int × Int)) : Int := sgr L - sta L
theorem take_succ3 {l : List (Int × Int × Int)} {k : Nat} (hk : k < l.length) : l.take (k + 1) = l.take k ++ [(t1 l k, t2 l k, t3 l k)] := by
  rw [List.take_succ_eq_append_getElem hk, t_eq hk]
theorem snt_succ {L : List (Int × Int × Int)} {k : Nat} (h : k < L.length) : snt (L.take (k + 1)) = snt (L.take k) + (t2 L k - t3 L k) := by
  unfold snt
  rw [take_succ3 h, sgr_append, sta_append]
  simp only [sgr, sta]
  omega
theorem snt_bd {L : List (Int × Int × Int)} (h : ∀ i, i < L.length → 0 ≤ t3 L i ∧ t3 L i ≤ t2 L i ∧ t2 L i ≤ 800000) : ∀ k, k ≤ L.length → 0 ≤ snt (L.take k) ∧ snt (L.take k) ≤ 800000 * (k : Int)
  | 0, _ => by simp [snt, sgr, sta]
  | k + 1, hk => by
    have h1 := snt_bd h k (by omega)
    have h2 := h k (by omega)
    rw [snt_succ (by omega)]
    omega
theorem txs_at {rt lf : Nat → Int} {n R i : Nat} (h : i < (txs rt lf n R).length) : ∃ r : Int, 0 ≤ r ∧ r < R ∧ (t1 (txs rt lf n R) i, t2 (txs rt lf n R) i, t3 (txs rt lf n R) i) = tx rt lf n r := by
  rw [← t_eq h]
  have hm : (txs rt lf n R)[i] ∈ txs rt lf n R := List.getElem_mem h
  have hm2 : (txs rt lf n R)[i] ∈ (rts rt n R).map (tx rt lf n) := by
    rw [← txs_map]; exact hm
  obtain ⟨r, h1, h2⟩ := List.mem_map.1 hm2
  have := rts_mem rt n R r h1
  exact ⟨r, this.1, this.2, h2.symm⟩
/-- A tax of a cart that fits: its rate, what is left of its lines, the tax in it. -/
theorem taxes_at {s : List (Int × Int × Int × Int)} {c : List (Int × Int)} {l : List Int} (h : fitTax s c l = true) {i : Nat} (hi : i < (taxesI s c l).length) :
    0 ≤ t1 (taxesI s c l) i ∧ t1 (taxesI s c l) i ≤ 300 ∧ 0 ≤ t2 (taxesI s c l) i ∧ t2 (taxesI s c l) i ≤ 800000 ∧ t3 (taxesI s c l) i = taxI (t2 (taxesI s c l) i) (t1 (taxesI s c l) i) ∧ t2 (taxesI s c l) i = gr (rtK s c) (g0 l) (t1 (taxesI s c l) i) c.length := by
  obtain ⟨h1, h2, h3⟩ := fit_parts h
  have e : taxesI s c l = txs (rtK s c) (g0 l) c.length 301 := by unfold taxesI; rw [if_pos h]
  rw [e] at hi ⊢
  obtain ⟨r, r1, r2, hr⟩ := txs_at hi
  have e1 := congrArg (fun x : Int × Int × Int => x.1) hr
  have e2 := congrArg (fun x : Int × Int × Int => x.2.1) hr
  have e3 := congrArg (fun x : Int × Int × Int => x.2.2) hr
  simp only [tx] at e1 e2 e3
  have hb := gr_lim h1 h2 h3 r (Nat.le_refl _)
  rw [e3, e2, e1]
  refine ⟨r1, by omega, hb.1, hb.2, rfl, rfl⟩
theorem taxes_lim {s : List (Int × Int × Int × Int)} {c : List (Int × Int)} {l : List Int} (h : fitTax s c l = true) {i : Nat} (hi : i < (taxesI s c l).length) :
    0 ≤ t3 (taxesI s c l) i ∧ t3 (taxesI s c l) i ≤ t2 (taxesI s c l) i ∧ t2 (taxesI s c l) i ≤ 800000 := by
  obtain ⟨h1, h2, h3, h4, h5, _⟩ := taxes_at h hi
  have := tax_bd h3 ⟨h1, h2⟩
  rw [h5]
  exact ⟨this.1, this.2, h4⟩
theorem netI_fit {s : List (Int × Int × Int × Int)} {c : List (Int × Int)} {l : List Int} (h : fitTax s c l = true) : netI s c l = snt (taxesI s c l) := by
  unfold netI snt; rw [if_pos h]
theorem netI_no {s : List (Int × Int × Int × Int)} {c : List (Int × Int)} {l : List Int} (h : fitTax s c l = false) : netI s c l = -1 := by
  unfold netI; rw [if_neg (by simp [h])]

/-! ### The laws -/
/-- The gross amounts add up to what is left. -/
theorem sgr_taxes {s : List (Int × Int × Int × Int)} {c : List (Int × Int)} {l : List Int} (h : fitTax s c l = true) : sgr (taxesI s c l) = tot (g0 l) l.length := by
  obtain ⟨h1, h2, h3⟩ := fit_parts h
  have e : taxesI s c l = txs (rtK s c) (g0 l) c.length 301 := by unfold taxesI; rw [if_pos h]
  rw [e, sgr_txs (fun k hk => (fit_at h1 h2 hk).2.2.2.2.1), low_all _ (fun k hk => by have := (fit_at h1 h2 hk).2.2.2.2.2; omega), vLeft_len h3]
theorem sta_bd {L : List (Int × Int × Int)} (h : ∀ i, i < L.length → 0 ≤ t3 L i ∧ t3 L i ≤ t2 L i ∧ t2 L i ≤ 800000) : ∀ k, k ≤ L.length → 0 ≤ sta (L.take k) ∧ sta (L.take k) ≤ 800000 * (k : Int)
  | 0, _ => by simp [sta]
  | k + 1, hk => by
    have h1 := sta_bd h k (by omega)
    have h2 := h k (by omega)
    rw [take_succ3 (by omega), sta_append]
    simp only [sta]
    omega
theorem sgr_bd {L : List (Int × Int × Int)} (h : ∀ i, i < L.length → 0 ≤ t3 L i ∧ t3 L i ≤ t2 L i ∧ t2 L i ≤ 800000) : ∀ k, k ≤ L.length → 0 ≤ sgr (L.take k) ∧ sgr (L.take k) ≤ 800000 * (k : Int)
  | 0, _ => by simp [sgr]
  | k + 1, hk => by
    have h1 := sgr_bd h k (by omega)
    have h2 := h k (by omega)
    rw [take_succ3 (by omega), sgr_append]
    simp only [sgr]
    omega
theorem sta_succ {L : List (Int × Int × Int)} {k : Nat} (h : k < L.length) : sta (L.take (k + 1)) = sta (L.take k) + t3 L k := by
  rw [take_succ3 h, sta_append]; simp only [sta]; omega
theorem sgr_succ {L : List (Int × Int × Int)} {k : Nat} (h : k < L.length) : sgr (L.take (k + 1)) = sgr (L.take k) + t2 L k := by
  rw [take_succ3 h, sgr_append]; simp only [sgr]; omega
/-- The rates ascend. -/
theorem txs_asc {rt lf : Nat → Int} {n : Nat} : ∀ R i, i + 1 < (txs rt lf n R).length → t1 (txs rt lf n R) i < t1 (txs rt lf n R) (i + 1)
  | 0, i, h => by simp [txs] at h
  | R + 1, i, h => by
    by_cases hh : has rt R n = true
    · have e : txs rt lf n (R + 1) = txs rt lf n R ++ [tx rt lf n R] := by rw [show txs rt lf n (R + 1) = txs rt lf n R ++ (if has rt R n = true then [tx rt lf n R] else []) from rfl, if_pos hh]
      rw [e] at h ⊢
      rw [List.length_append] at h
      simp only [List.length_cons, List.length_nil] at h
      have g : ∀ j, j < (txs rt lf n R).length → t1 (txs rt lf n R ++ [tx rt lf n R]) j = t1 (txs rt lf n R) j := fun j hj => by
        simp [t1, List.getD, List.getElem?_append_left hj]
      by_cases hl : i + 1 < (txs rt lf n R).length
      · rw [g _ hl, g _ (by omega)]
        exact txs_asc R i hl
      · have hi : i + 1 = (txs rt lf n R).length := by omega
        rw [g _ (by omega)]
        have e1 : t1 (txs rt lf n R ++ [tx rt lf n R]) (i + 1) = (R : Int) := by
          rw [hi]; simp [t1, List.getD, tx]
        rw [e1]
        obtain ⟨r, _, r2, hr⟩ := txs_at (rt := rt) (lf := lf) (n := n) (R := R) (i := i) (by omega)
        have e2 := congrArg (fun x : Int × Int × Int => x.1) hr
        simp only [tx] at e2
        omega
    · have e : txs rt lf n (R + 1) = txs rt lf n R := by rw [show txs rt lf n (R + 1) = txs rt lf n R ++ (if has rt R n = true then [tx rt lf n R] else []) from rfl, if_neg hh, List.append_nil]
      rw [e] at h ⊢
      exact txs_asc R i h
theorem taxes_asc {s : List (Int × Int × Int × Int)} {c : List (Int × Int)} {l : List Int} (h : fitTax s c l = true) {i : Nat} (hi : i + 1 < (taxesI s c l).length) : t1 (taxesI s c l) i < t1 (taxesI s c l) (i + 1) := by
  have e : taxesI s c l = txs (rtK s c) (g0 l) c.length 301 := by unfold taxesI; rw [if_pos h]
  rw [e] at hi ⊢
  exact txs_asc 301 i hi
/-- Nothing that is left of a cart that fits. -/
theorem zeros_at {n k : Nat} : g0 (List.replicate n 0) k = 0 := by
  simp only [g0, List.getD_eq_getElem?_getD, List.getElem?_replicate]; split <;> rfl
theorem fit_zero {s : List (Int × Int × Int × Int)} {c : List (Int × Int)} {l : List Int} (h : fitTax s c l = true) : fitTax s c (List.replicate l.length 0) = true := by
  obtain ⟨h1, h2, h3⟩ := fit_parts h
  unfold fitTax
  rw [h1, h2]
  simp only [Bool.true_and]
  unfold vLeft
  rw [Bool.and_eq_true]
  refine ⟨List.all_eq_true.2 fun k hk => withinB_true.2 ?_, by simp [vLeft_len h3]⟩
  have := (fit_at h1 h2 (List.mem_range.1 hk)).2.2.2.1
  rw [zeros_at]
  omega
theorem gr_zero {rt lf : Nat → Int} {r : Int} (h : ∀ k, lf k = 0) : ∀ n, gr rt lf r n = 0
  | 0 => rfl
  | n + 1 => by simp only [gr, gr_zero h n, h]; split <;> rfl
theorem zero_txs {rt lf : Nat → Int} (h : ∀ k, lf k = 0) (n R : Nat) : txs rt lf n R = (rts rt n R).map fun r => (r, 0, taxI 0 r) := by
  rw [txs_map]
  refine List.map_congr_left fun r _ => ?_
  unfold tx
  rw [gr_zero h]
theorem zero_tax {r : Int} (h : 0 ≤ r ∧ r ≤ 300) : taxI 0 r = 0 := by
  have := tax_bd (a := 0) (Int.le_refl 0) h
  omega
/-- Nothing that is left is taxed with the same rates, and all amounts are 0. -/
theorem zero_taxes {s : List (Int × Int × Int × Int)} {c : List (Int × Int)} {l : List Int} (h : fitTax s c l = true) :
    (taxesI s c (List.replicate l.length 0)).length = (taxesI s c l).length ∧ ∀ i, i < (taxesI s c l).length → t1 (taxesI s c (List.replicate l.length 0)) i = t1 (taxesI s c l) i ∧ t2 (taxesI s c (List.replicate l.length 0)) i = 0 ∧ t3 (taxesI s c (List.replicate l.length 0)) i = 0 := by
  have e : taxesI s c l = txs (rtK s c) (g0 l) c.length 301 := by unfold taxesI; rw [if_pos h]
  have hz := fit_zero h
  have e0 : taxesI s c (List.replicate l.length 0) = txs (rtK s c) (g0 (List.replicate l.length 0)) c.length 301 := by unfold taxesI; rw [if_pos hz]
  have hlen : (taxesI s c (List.replicate l.length 0)).length = (taxesI s c l).length := by rw [e, e0, txs_len, txs_len]
  refine ⟨hlen, fun i hi => ?_⟩
  obtain ⟨a1, a2, a3, a4, a5, a6⟩ := taxes_at hz (i := i) (by omega)
  have z2 : t2 (taxesI s c (List.replicate l.length 0)) i = 0 := by rw [a6, gr_zero (fun k => zeros_at)]
  refine ⟨?_, z2, by rw [a5, z2]; exact zero_tax ⟨a1, a2⟩⟩
  have k1 : (taxesI s c (List.replicate l.length 0)).map (fun x => x.1) = (taxesI s c l).map (fun x => x.1) := by
    rw [e, e0, txs_map, txs_map, List.map_map, List.map_map]
    rfl
  have k2 := congrArg (fun x : List Int => x.getD i 0) k1
  simp only [t1, List.getD_eq_getElem?_getD, List.getElem?_map] at k2 ⊢
  rw [List.getElem?_eq_getElem hi, List.getElem?_eq_getElem (show i < (taxesI s c (List.replicate l.length 0)).length by omega)] at k2 ⊢
  simpa using k2

end Go.Proofs.YtkgofklpogdpmaaGreat
