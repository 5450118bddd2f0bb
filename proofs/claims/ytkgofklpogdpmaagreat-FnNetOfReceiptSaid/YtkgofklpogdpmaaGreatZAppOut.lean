/- What stays but for a range of blocks; a list made smaller place by place. No program in sight. -/
import Derived.Test.YtkgofklpogdpmaaGreatZC
import Derived.Test.YtkgofklpogdpmaaGreatZRcpP
namespace Go.Proofs.YtkgofklpogdpmaaGreat
open Go.RowKit

/-- All blocks of a world outside of a range are as they were. -/
def KeepOut (lo hi : Nat) (w w' : World) : Prop := (∀ b, b < w.heap.size → (b < lo ∨ hi ≤ b) → w'.heap[b]? = w.heap[b]?) ∧ w.heap.size ≤ w'.heap.size
theorem KeepOut.refl (lo hi : Nat) (w : World) : KeepOut lo hi w w := ⟨fun _ _ _ => rfl, Nat.le_refl _⟩
theorem KeepOut.below {lo hi n : Nat} {w w' w'' : World} (h : KeepOut lo hi w w') (hb : Below n w' w'') (hn : w.heap.size ≤ n) : KeepOut lo hi w w'' :=
  ⟨fun b hb' hg => (hb.block b (by omega)).trans (h.1 b hb' hg), Nat.le_trans h.2 hb.size⟩
theorem KeepOut.grown {lo hi : Nat} {w w' w'' : World} {row : Option Nat} (h : KeepOut lo hi w w') (hg : w'.grownBy w'' row) (hr : ∀ k, row = some k → (lo ≤ k ∧ k < hi) ∨ w.heap.size ≤ k) : KeepOut lo hi w w'' :=
  ⟨fun b hb hne => (hg.block b (Nat.lt_of_lt_of_le hb h.2) (fun e => by rcases hr b e.symm with h9 | h9 <;> omega)).trans (h.1 b hb hne), Nat.le_trans h.2 hg.size⟩
theorem KeepOut.alloc {lo hi : Nat} {w w' : World} (h : KeepOut lo hi w w') (o : Obj) : KeepOut lo hi w (w'.alloc o) :=
  ⟨fun b hb hne => (Below.heap_alloc w' o b (Nat.lt_of_lt_of_le hb h.2)).trans (h.1 b hb hne), Nat.le_trans h.2 (by simp)⟩
theorem KeepOut.set {lo hi : Nat} {w w' : World} (h : KeepOut lo hi w w') {p : Addr} (hp : (lo ≤ p.block ∧ p.block < hi) ∨ w.heap.size ≤ p.block) (u : Value) : KeepOut lo hi w (w'.setCell p u) :=
  ⟨fun b hb hne => (Below.heap_setCell w' p u b (by omega)).trans (h.1 b hb hne), by have := h.2; simpa [World.setCell] using this⟩
theorem KeepOut.drewN {lo hi : Nat} {w w' : World} (h : KeepOut lo hi w w') (n : Nat) : KeepOut lo hi w (w'.drewN n) := h
theorem KeepOut.cell {lo hi : Nat} {w w' : World} (h : KeepOut lo hi w w') {p : Addr} (hp : p.block < w.heap.size) (hg : p.block < lo ∨ hi ≤ p.block) : w'.cell? p = w.cell? p := World.cell?_of_block (h.1 p.block hp hg)
theorem KeepOut.blk {lo hi : Nat} {w w' : World} (h : KeepOut lo hi w w') {b : Nat} {t : TypeId} {cs : Array Value} (k : Blk w b t cs) (hg : b < lo ∨ hi ≤ b) : Blk w' b t cs := (h.1 b k.lt hg).trans k
/-- A list that lies below the range; one that lies above it. -/
theorem KeepOut.sl {α : Type} {enc : α → List Value} {sz : Nat} {lo hi B : Nat} {w w' : World} {A : Option Addr} {l : List α} (h : KeepOut lo hi w w') (hl : Sl enc sz w B A l) (hB : B ≤ lo) (hw : B ≤ w.heap.size) : Sl enc sz w' w'.heap.size A l :=
  (hl.keep fun p hp => h.cell (by omega) (by omega)).more (Nat.le_trans hw h.2)
theorem KeepOut.sl_above {α : Type} {enc : α → List Value} {sz : Nat} {lo hi b0 : Nat} {w w' : World} {A : Option Addr} {l : List α} (h : KeepOut lo hi w w') (hl : Sl enc sz w w.heap.size A l) (hA : ∀ b off i, A = some ⟨b, off, i⟩ → b0 ≤ b) (hg : hi ≤ b0) : Sl enc sz w' w'.heap.size A l := by
  rcases hl with hl | ⟨b, off, h1, h2, h3⟩
  · exact .inl hl
  · have h4 := hA b off none h1
    exact .inr ⟨b, off, h1, Nat.lt_of_lt_of_le h2 h.2, fun i a hi' j u hu => (h.cell (p := ⟨b, off + (i * sz + j), none⟩) h2 (.inr (by show hi ≤ b; omega))).trans (h3 i a hi' j u hu)⟩

/-! ### Amounts made smaller from the front -/
def lessTo (l m : List Int) (j : Nat) : List Int := (lessL l m).take j ++ l.drop j
theorem lessTo_zero (l m : List Int) : lessTo l m 0 = l := by simp [lessTo]
theorem lessTo_all {l m : List Int} : lessTo l m l.length = lessL l m := by
  unfold lessTo
  rw [List.drop_length, List.append_nil]
  exact List.take_of_length_le (by rw [lessL_len]; exact Nat.le_refl _)
theorem lessTo_len {l m : List Int} {j : Nat} (h : j ≤ l.length) : (lessTo l m j).length = l.length := by
  unfold lessTo
  rw [List.length_append, List.length_take, List.length_drop, lessL_len]
  omega
theorem lessTo_get {l m : List Int} {j : Nat} (h : j < l.length) : (lessTo l m j)[j]? = some (g0 l j) := by
  unfold lessTo
  rw [List.getElem?_append_right (by rw [List.length_take, lessL_len]; omega), List.length_take, lessL_len, List.getElem?_drop, show j + (j - min j l.length) = j by omega, g0_get h]
theorem lessTo_set {l m : List Int} {j : Nat} (h : j < l.length) : (lessTo l m j).set j (g0 l j - g0 m j) = lessTo l m (j + 1) := by
  unfold lessTo
  have hj : ((lessL l m).take j).length = j := by rw [List.length_take, lessL_len]; omega
  rw [List.set_append_right _ _ (by rw [hj]; exact Nat.le_refl _), hj, Nat.sub_self, List.drop_eq_getElem_cons h, List.set_cons_zero, List.take_succ_eq_append_getElem (by rw [lessL_len]; exact h), g0_eq (by rw [lessL_len]; exact h), lessL_at h]
  simp
theorem lessTo_skip {l m : List Int} {j : Nat} (h : j < l.length) (hz : g0 m j = 0) : lessTo l m (j + 1) = lessTo l m j := by
  rw [← lessTo_set h, hz, Int.sub_zero]
  have h1 := lessTo_get (m := m) h
  have hl : j < (lessTo l m j).length := by rw [lessTo_len (by omega)]; exact h
  rw [List.getElem?_eq_getElem hl] at h1
  have h2 := Option.some.inj h1
  have h3 := List.set_getElem_self hl
  rw [h2] at h3
  exact h3

/-- The point of a cart is valid. -/
theorem ptOk_of {s : List (Int × Int × Int × Int)} {c : List (Int × Int)} {cu : List Int} (hs : vShop s = true) (hc : vCart s.length c = true) (hu : vCpn cu = true) : PtOk (tot (g0 (amts s c)) c.length) (cnts s c c.length) cu := by
  have hc8 := (vCart_iff.1 hc).2.2
  have h1 := tot_bd (lf := g0 (amts s c)) (b := 100000) c.length (fun k hk => by have := amt_bd hs hc (k := k) (by rw [amts_len]; exact hk); omega)
  have h2 := fun k => cnts_bd (s := s) (c := c) (n := c.length) (fun j hj => (fit_at hs hc hj).2.2.1) k
  refine ⟨withinB_true.2 ⟨h1.1, by omega⟩, rfl, fun k _ => withinB_true.2 ⟨(h2 k).1, by have := (h2 k).2; omega⟩, hu, ?_⟩
  unfold vCpn at hu
  rw [Bool.and_eq_true, decide_eq_true_eq] at hu
  exact hu.2

end Go.Proofs.YtkgofklpogdpmaaGreat
