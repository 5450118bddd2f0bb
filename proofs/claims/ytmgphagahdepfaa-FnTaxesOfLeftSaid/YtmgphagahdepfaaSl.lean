/- Slices of numbers and of structs of numbers, read as lists. No program in sight. -/
import Derived.Test.YtmgphagahdepfaaBase
import Derived.Laws.OwnMore
import Derived.OneCell
namespace Go.Proofs.Ytmgphagahdepfaa
open Go.RowKit

def enc1 (a : Int) : List Value := [.int .i64 a]
def enc2 (a : Int × Int) : List Value := [.int .i64 a.1, .int .i64 a.2]
def enc3 (a : Int × Int × Int) : List Value := [.int .i64 a.1, .int .i64 a.2.1, .int .i64 a.2.2]
def enc4 (a : Int × Int × Int × Int) : List Value := [.int .i64 a.1, .int .i64 a.2.1, .int .i64 a.2.2.1, .int .i64 a.2.2.2]

/-- Field f of element k. (Behind names, so that the walk leaves them alone.) -/
def g0 (l : List Int) (k : Nat) : Int := l.getD k 0
def g1 (l : List (Int × Int)) (k : Nat) : Int := (l.getD k (0, 0)).1
def g2 (l : List (Int × Int)) (k : Nat) : Int := (l.getD k (0, 0)).2

theorem g12_get {l : List (Int × Int)} {k : Nat} (h : k < l.length) : l[k]? = some (g1 l k, g2 l k) := by
  rw [List.getElem?_eq_getElem h]; simp [g1, g2, List.getD, h]
theorem g0_get {l : List Int} {k : Nat} (h : k < l.length) : l[k]? = some (g0 l k) := by
  rw [List.getElem?_eq_getElem h]; simp [g0, List.getD, h]
theorem g12_eq {l : List (Int × Int)} {k : Nat} (h : k < l.length) : l[k] = (g1 l k, g2 l k) := by
  have := g12_get h; rw [List.getElem?_eq_getElem h] at this; exact Option.some.inj this
theorem g0_eq {l : List Int} {k : Nat} (h : k < l.length) : l[k] = g0 l k := by
  have := g0_get h; rw [List.getElem?_eq_getElem h] at this; exact Option.some.inj this

/-- The address A leads to the list l, in a block below B. -/
def Sl {α : Type} (enc : α → List Value) (sz : Nat) (w : World) (B : Nat) (A : Option Addr) (l : List α) : Prop :=
  l = [] ∨ ∃ b off, A = some ⟨b, off, none⟩ ∧ b < B ∧ ∀ i a, l[i]? = some a → ∀ j u, (enc a)[j]? = some u → w.cell? ⟨b, off + (i * sz + j), none⟩ = some u

section
variable {α : Type} {enc : α → List Value} {sz : Nat} {w w' : World} {B : Nat} {A : Option Addr} {l : List α}

theorem Sl.nil (enc : α → List Value) (sz : Nat) (w : World) (B : Nat) (A : Option Addr) : Sl enc sz w B A [] := .inl rfl
theorem Sl.keep (h : Sl enc sz w B A l) (hk : ∀ p : Addr, p.block < B → w'.cell? p = w.cell? p) : Sl enc sz w' B A l := by
  rcases h with h | ⟨b, off, h1, h2, h3⟩
  · exact .inl h
  · exact .inr ⟨b, off, h1, h2, fun i a hi j u hu => (hk _ h2).trans (h3 i a hi j u hu)⟩
theorem Sl.more {B' : Nat} (h : Sl enc sz w B A l) (hB : B ≤ B') : Sl enc sz w B' A l := by
  rcases h with h | ⟨b, off, h1, h2, h3⟩
  · exact .inl h
  · exact .inr ⟨b, off, h1, by omega, h3⟩
theorem Sl.below {n : Nat} (h : Sl enc sz w B A l) (hb : Below n w w') (hn : B ≤ n) : Sl enc sz w' B A l := h.keep fun p hp => hb.cell (by omega)
theorem Sl.drewN (h : Sl enc sz w B A l) (n : Nat) : Sl enc sz (w.drewN n) B A l := h
theorem Sl.alloc (h : Sl enc sz w B A l) (hB : B ≤ w.heap.size) (o : Obj) : Sl enc sz (w.alloc o) B A l := h.keep fun p hp => World.cell?_alloc_lt w o p (by omega)
theorem Sl.setCell (h : Sl enc sz w B A l) {p : Addr} (hp : B ≤ p.block) (u : Value) : Sl enc sz (w.setCell p u) B A l :=
  h.keep fun q hq => World.cell?_setCell_other w p q u (fun e => by subst e; omega)
theorem Sl.grown (h : Sl enc sz w B A l) {row : Option Nat} (hg : w.grownBy w' row) (hB : B ≤ w.heap.size) (hr : ∀ g, row = some g → B ≤ g) : Sl enc sz w' B A l :=
  h.keep fun p hp => World.cell?_of_block (hg.block p.block (by omega) (fun e => by have := hr _ e.symm; omega))
theorem Sl.take (h : Sl enc sz w B A l) (n : Nat) : Sl enc sz w B A (l.take n) := by
  rcases h with rfl | ⟨b, off, h1, h2, h3⟩
  · exact .inl (by simp)
  · refine .inr ⟨b, off, h1, h2, fun i a hi j u hu => h3 i a ?_ j u hu⟩
    rw [List.getElem?_take] at hi
    split at hi
    · exact hi
    · cases hi
/-- A cut 's[k:]' (the model's own 'if' at the capacity). -/
theorem Sl.drop (h : Sl enc sz w B A l) {k cap : Nat} (hc : l.length ≤ cap) (hk : k ≤ l.length) :
    Sl enc sz w B (if cap = k then A else A.map (·.add (k * sz))) (l.drop k) := by
  by_cases hl : k = l.length
  · exact .inl (List.drop_of_length_le (by omega))
  rcases h with rfl | ⟨b, off, h1, h2, h3⟩
  · exact absurd (by simpa using hk : k = 0) (by simpa using hl)
  · rw [if_neg (by omega)]
    refine .inr ⟨b, off + k * sz, ?_, h2, fun i a hi j u hu => ?_⟩
    · subst h1
      by_cases hz : k * sz = 0 <;> simp [Addr.add, hz]
    · rw [show off + k * sz + (i * sz + j) = off + ((k + i) * sz + j) by rw [Nat.add_mul]; omega]
      exact h3 (k + i) a (by rw [← hi, List.getElem?_drop]) j u hu
theorem Sl.at_ (h : Sl enc sz w B A l) {k : Nat} {a : α} (hk : l[k]? = some a) : ∃ b off, A = some ⟨b, off, none⟩ ∧ b < B ∧ ∀ j u, (enc a)[j]? = some u → w.cell? ⟨b, off + (k * sz + j), none⟩ = some u := by
  rcases h with rfl | ⟨b, off, h1, h2, h3⟩
  · simp at hk
  · exact ⟨b, off, h1, h2, h3 k a hk⟩

/-! ### A row of the call's own, as a list -/
theorem flatMap_at (henc : ∀ a, (enc a).length = sz) : ∀ (l : List α) (i : Nat) (a : α), l[i]? = some a → ∀ j, j < sz → (l.flatMap enc)[i * sz + j]? = (enc a)[j]?
  | [], _, _, h, _, _ => by simp at h
  | x :: r, 0, a, h, j, hj => by
    simp only [List.getElem?_cons_zero, Option.some.injEq] at h; subst h
    rw [List.flatMap_cons, Nat.zero_mul, Nat.zero_add, List.getElem?_append_left (by rw [henc]; exact hj)]
  | x :: r, i + 1, a, h, j, hj => by
    have h' : r[i]? = some a := by simpa using h
    rw [List.flatMap_cons, List.getElem?_append_right (by rw [henc, Nat.add_mul]; omega), henc, show (i + 1) * sz + j - sz = i * sz + j by rw [Nat.add_mul]; omega]
    exact flatMap_at henc r i a h' j hj
theorem flatMap_length (henc : ∀ a, (enc a).length = sz) : ∀ (l : List α), (l.flatMap enc).length = l.length * sz
  | [] => by simp
  | x :: r => by rw [List.flatMap_cons, List.length_append, flatMap_length henc r, henc, List.length_cons, Nat.add_mul]; omega
theorem flatMap_set (henc : ∀ a, (enc a).length = sz) : ∀ (l : List α) (i : Nat) (a a' : α) (j : Nat) (u : Value), l[i]? = some a → j < sz → enc a' = (enc a).set j u → (l.flatMap enc).set (i * sz + j) u = (l.set i a').flatMap enc
  | [], _, _, _, _, _, h, _, _ => by simp at h
  | x :: r, 0, a, a', j, u, h, hj, he => by
    simp only [List.getElem?_cons_zero, Option.some.injEq] at h; subst h
    rw [List.set_cons_zero, List.flatMap_cons, List.flatMap_cons, he, Nat.zero_mul, Nat.zero_add, List.set_append_left _ _ (by rw [henc]; exact hj)]
  | x :: r, i + 1, a, a', j, u, h, hj, he => by
    have h' : r[i]? = some a := by simpa using h
    rw [List.set_cons_succ, List.flatMap_cons, List.flatMap_cons, List.set_append_right _ _ (by rw [henc, Nat.add_mul]; omega), henc, show (i + 1) * sz + j - sz = i * sz + j by rw [Nat.add_mul]; omega,
      flatMap_set henc r i a a' j u h' hj he]

/-- The slice value v is the call's own row (blocks from 'base' on) and holds the list l. -/
def Own (enc : α → List Value) (sz : Nat) (e : TypeId) (w : World) (base : Nat) (v : Value) (l : List α) : Prop := w.ownsRow base e sz v l.length (l.flatMap enc)

variable {e : TypeId} {base : Nat} {v : Value}
theorem Own.form (h : Own enc sz e w base v l) : (v = .slice none 0 0 ∧ l = []) ∨ ∃ g cap, v = .slice (some ⟨g, 0, none⟩) l.length cap ∧ base ≤ g ∧ g < w.heap.size ∧ l.length ≤ cap ∧ cap ≤ maxLen := by
  rcases h.2 with ⟨h1, h2⟩ | ⟨g, cap, cur, h1, h2, h3, h4, h5, h6, h7⟩
  · exact .inl ⟨h1, List.length_eq_zero_iff.1 h2⟩
  · exact .inr ⟨g, cap, h1, h2, lt_of_block h3, h4, h5⟩
/-- Its value, and how it reads. -/
theorem Own.reads (henc : ∀ a, (enc a).length = sz) (h : Own enc sz e w base v l) : ∃ A cap, v = .slice A l.length cap ∧ l.length ≤ cap ∧ Sl enc sz w w.heap.size A l := by
  rcases h.form with ⟨rfl, rfl⟩ | ⟨g, cap, rfl, h1, h2, h3, h4⟩
  · exact ⟨none, 0, rfl, Nat.le_refl _, .inl rfl⟩
  · refine ⟨_, cap, rfl, h3, .inr ⟨g, 0, rfl, h2, fun i a hi j u hu => ?_⟩⟩
    have hj : j < sz := by
      have := (List.getElem?_eq_some_iff.1 hu).1
      rwa [henc] at this
    have hx := flatMap_at henc l i a hi j hj
    have hc := h.cells (g := g) rfl (i * sz + j) u (by rw [hx]; exact hu)
    rwa [Addr.add_lit] at hc
theorem Own.nil_ (enc : α → List Value) (sz : Nat) (e : TypeId) (w : World) (base : Nat) : Own enc sz e w base (.slice none 0 0) [] := World.ownsRow_nil w base e sz
/-- The empty literal. -/
theorem Own.lit0 (enc : α → List Value) (sz : Nat) (e : TypeId) (w : World) (base : Nat) {g : Nat} (hg : g = w.heap.size) (hb : base ≤ g) : Own enc sz e (w.alloc (.cells #[] e)) base (.slice (some ⟨g, 0, none⟩) 0 0) [] := by
  subst hg; exact World.ownsRow_lit w #[] 0 hb (by simp [maxLen]) (by simp)
/-- A literal of the call's own. -/
theorem Own.lit (henc : ∀ a, (enc a).length = sz) {w : World} {base g n : Nat} {cs : Array Value} (hg : g = w.heap.size) (hb : base ≤ g) (hn : n = l.length) (hl : l.length ≤ 1000000) (hcs : cs.toList = l.flatMap enc) : Own enc sz e (w.alloc (.cells cs e)) base (.slice (some ⟨g, 0, none⟩) n n) l := by
  subst hg hn
  have h := World.ownsRow_lit (size := sz) (e := e) (base := base) w cs l.length hb (by simp only [maxLen]; omega) (by rw [← Array.length_toList, hcs, flatMap_length henc])
  rw [hcs] at h; exact h
theorem Own.alloc (h : Own enc sz e w base v l) (o : Obj) : Own enc sz e (w.alloc o) base v l := World.ownsRow.alloc h o
theorem Own.drewN (h : Own enc sz e w base v l) (n : Nat) : Own enc sz e (w.drewN n) base v l := h
theorem Own.grown {row : Option Nat} (h : Own enc sz e w base v l) (hg : w.grownBy w' row) (hne : v.ownBlock = none ∨ v.ownBlock ≠ row) : Own enc sz e w' base v l := World.ownsRow.kept h hg hne
theorem Own.far (h : Own enc sz e w base v l) {p : Addr} (hp : v.ownBlock ≠ some p.block) (u : Value) : Own enc sz e (w.setCell p u) base v l := ownsRow_setCell_other h hp u
theorem Own.less {base' : Nat} (h : Own enc sz e w base v l) (hb : base' ≤ base) : Own enc sz e w base' v l := by
  refine ⟨h.1, ?_⟩
  rcases h.2 with h2 | ⟨g, cap, cur, h3, h4, h5⟩
  · exact .inl h2
  · exact .inr ⟨g, cap, cur, h3, by omega, h5⟩
/-- What lies above a call's beginning stays through what writes only old memory or nothing. -/
theorem Own.below {n : Nat} (h : Own enc sz e w base v l) (hb : Below n w w') (hn : w.heap.size ≤ n) : Own enc sz e w' base v l :=
  h.grown (row := none) ⟨hb.os, hb.tape, hb.output, hb.size, fun k hk _ => hb.block k (by omega)⟩ (by cases v.ownBlock <;> simp)
theorem Own.lt (h : Own enc sz e w base v l) : ∀ k, v.ownBlock = some k → base ≤ k ∧ k < w.heap.size := World.ownsRow.lt h
/-- The walk's facts on a row: its cells, none of them frozen. -/
theorem Own.cell (henc : ∀ a, (enc a).length = sz) {g cap n : Nat} (h : Own enc sz e w base (.slice (some ⟨g, 0, none⟩) n cap) l) (hn : n = l.length) {i : Nat} {a : α} (hi : l[i]? = some a) {j : Nat} {u : Value} (hu : (enc a)[j]? = some u) : w.cell? ⟨g, i * sz + j, none⟩ = some u := by
  subst hn
  have hil := (List.getElem?_eq_some_iff.1 hi).1
  have hj : j < sz := by
    have := (List.getElem?_eq_some_iff.1 hu).1
    rwa [henc] at this
  have hx := flatMap_at henc l i a hi j hj
  have hlt : i * sz + j < l.length * sz := by
    have : (i + 1) * sz ≤ l.length * sz := Nat.mul_le_mul_right sz hil
    rw [Nat.add_mul] at this
    omega
  rw [World.ownsRow.cellAt h _ hlt, hx, hu]
theorem Own.frozen {g cap n : Nat} (h : Own enc sz e w base (.slice (some ⟨g, 0, none⟩) n cap) l) (hn : n = l.length) (j : Nat) : w.frozen? ⟨g, j, none⟩ = false := by
  subst hn; exact World.ownsRow.frozenAt h j
/-- A store into one field. -/
theorem Own.store (henc : ∀ a, (enc a).length = sz) {g cap n : Nat} (h : Own enc sz e w base (.slice (some ⟨g, 0, none⟩) n cap) l) (hn : n = l.length) {i j : Nat} {a a' : α} {u : Value} (hi : l[i]? = some a) (hj : j < sz) (ha : enc a' = (enc a).set j u) :
    Own enc sz e (w.setCell ⟨g, i * sz + j, none⟩ u) base (.slice (some ⟨g, 0, none⟩) n cap) (l.set i a') := by
  subst hn
  have h1 := (World.ownsRow.stored h (i * sz + j) u).1
  rw [flatMap_set henc l i a a' j u hi hj ha] at h1
  show World.ownsRow _ _ _ _ _ (l.set i a').length _
  rw [List.length_set]
  exact h1
end

/-- A list that is filled from the front. -/
theorem get_fill {α : Type} {l : List α} {d : α} {k : Nat} (h : k < l.length) : (l.take k ++ List.replicate (l.length - k) d)[k]? = some d := by
  rw [List.getElem?_append_right (by rw [List.length_take]; omega), List.length_take, show k - min k l.length = 0 by omega, List.getElem?_replicate, if_pos (by omega)]
theorem set_fill {α : Type} {l : List α} {d : α} {k : Nat} (h : k < l.length) {x : α} : (l.take k ++ List.replicate (l.length - k) d).set k x = l.take k ++ x :: List.replicate (l.length - (k + 1)) d := by
  rw [List.set_append_right _ _ (by rw [List.length_take]; omega), List.length_take, show k - min k l.length = 0 by omega, show l.length - k = l.length - (k + 1) + 1 by omega, List.replicate_succ]
  rfl
theorem len1 (a : Int) : (enc1 a).length = 1 := rfl
theorem len2 (a : Int × Int) : (enc2 a).length = 2 := rfl
theorem len3 (a : Int × Int × Int) : (enc3 a).length = 3 := rfl
theorem len4 (a : Int × Int × Int × Int) : (enc4 a).length = 4 := rfl

/-- Element k of a slice of numbers; of structs of two numbers: the cells in the walk's spelling. -/
theorem Sl.get1 {w : World} {B : Nat} {A : Option Addr} {l : List Int} (h : Sl enc1 1 w B A l) {k : Nat} (hk : k < l.length) :
    ∃ b off, A = some ⟨b, off, none⟩ ∧ b < B ∧ w.cell? ⟨b, off + k, none⟩ = some (.int .i64 (g0 l k)) := by
  obtain ⟨b, off, h1, h2, h3⟩ := h.at_ (g0_get hk)
  exact ⟨b, off, h1, h2, by simpa using h3 0 _ rfl⟩
theorem Sl.get2 {w : World} {B : Nat} {A : Option Addr} {l : List (Int × Int)} (h : Sl enc2 2 w B A l) {k : Nat} (hk : k < l.length) :
    ∃ b off, A = some ⟨b, off, none⟩ ∧ b < B ∧ w.cell? ⟨b, off + k * 2, none⟩ = some (.int .i64 (g1 l k)) ∧ w.cell? ⟨b, off + k * 2 + 1, none⟩ = some (.int .i64 (g2 l k)) := by
  obtain ⟨b, off, h1, h2, h3⟩ := h.at_ (g12_get hk)
  exact ⟨b, off, h1, h2, by simpa using h3 0 _ rfl, by simpa [Nat.add_assoc] using h3 1 _ rfl⟩

end Go.Proofs.Ytmgphagahdepfaa
