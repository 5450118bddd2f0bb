/- Slices of structs of three and of four numbers, read as lists. No program in sight. -/
import Derived.Test.YtmgphagahdepfaaSl
namespace Go.Proofs.Ytmgphagahdepfaa
open Go.RowKit

def t1 (l : List (Int × Int × Int)) (k : Nat) : Int := (l.getD k (0, 0, 0)).1
def t2 (l : List (Int × Int × Int)) (k : Nat) : Int := (l.getD k (0, 0, 0)).2.1
def t3 (l : List (Int × Int × Int)) (k : Nat) : Int := (l.getD k (0, 0, 0)).2.2
def q1 (l : List (Int × Int × Int × Int)) (k : Nat) : Int := (l.getD k (0, 0, 0, 0)).1
def q2 (l : List (Int × Int × Int × Int)) (k : Nat) : Int := (l.getD k (0, 0, 0, 0)).2.1
def q3 (l : List (Int × Int × Int × Int)) (k : Nat) : Int := (l.getD k (0, 0, 0, 0)).2.2.1
def q4 (l : List (Int × Int × Int × Int)) (k : Nat) : Int := (l.getD k (0, 0, 0, 0)).2.2.2

theorem t_get {l : List (Int × Int × Int)} {k : Nat} (h : k < l.length) : l[k]? = some (t1 l k, t2 l k, t3 l k) := by
  rw [List.getElem?_eq_getElem h]; simp [t1, t2, t3, List.getD, h]
theorem t_eq {l : List (Int × Int × Int)} {k : Nat} (h : k < l.length) : l[k] = (t1 l k, t2 l k, t3 l k) := by
  have := t_get h; rw [List.getElem?_eq_getElem h] at this; exact Option.some.inj this
theorem q_get {l : List (Int × Int × Int × Int)} {k : Nat} (h : k < l.length) : l[k]? = some (q1 l k, q2 l k, q3 l k, q4 l k) := by
  rw [List.getElem?_eq_getElem h]; simp [q1, q2, q3, q4, List.getD, h]
theorem q_eq {l : List (Int × Int × Int × Int)} {k : Nat} (h : k < l.length) : l[k] = (q1 l k, q2 l k, q3 l k, q4 l k) := by
  have := q_get h; rw [List.getElem?_eq_getElem h] at this; exact Option.some.inj this

theorem Sl.get3 {w : World} {B : Nat} {A : Option Addr} {l : List (Int × Int × Int)} (h : Sl enc3 3 w B A l) {k : Nat} (hk : k < l.length) :
    ∃ b off, A = some ⟨b, off, none⟩ ∧ b < B ∧ w.cell? ⟨b, off + k * 3, none⟩ = some (.int .i64 (t1 l k)) ∧ w.cell? ⟨b, off + k * 3 + 1, none⟩ = some (.int .i64 (t2 l k)) ∧ w.cell? ⟨b, off + k * 3 + 2, none⟩ = some (.int .i64 (t3 l k)) := by
  obtain ⟨b, off, h1, h2, h3⟩ := h.at_ (t_get hk)
  exact ⟨b, off, h1, h2, by simpa using h3 0 _ rfl, by simpa [Nat.add_assoc] using h3 1 _ rfl, by simpa [Nat.add_assoc] using h3 2 _ rfl⟩
theorem Sl.get4 {w : World} {B : Nat} {A : Option Addr} {l : List (Int × Int × Int × Int)} (h : Sl enc4 4 w B A l) {k : Nat} (hk : k < l.length) :
    ∃ b off, A = some ⟨b, off, none⟩ ∧ b < B ∧ w.cell? ⟨b, off + k * 4, none⟩ = some (.int .i64 (q1 l k)) ∧ w.cell? ⟨b, off + k * 4 + 1, none⟩ = some (.int .i64 (q2 l k)) ∧ w.cell? ⟨b, off + k * 4 + 2, none⟩ = some (.int .i64 (q3 l k)) ∧ w.cell? ⟨b, off + k * 4 + 3, none⟩ = some (.int .i64 (q4 l k)) := by
  obtain ⟨b, off, h1, h2, h3⟩ := h.at_ (q_get hk)
  exact ⟨b, off, h1, h2, by simpa using h3 0 _ rfl, by simpa [Nat.add_assoc] using h3 1 _ rfl, by simpa [Nat.add_assoc] using h3 2 _ rfl, by simpa [Nat.add_assoc] using h3 3 _ rfl⟩

end Go.Proofs.Ytmgphagahdepfaa
