/- Marks: ascending numbers in slices of structs of numbers. No program in sight. -/
import Derived.Test.YtmgphagahdepfaaSl34
namespace Go.Proofs.Ytmgphagahdepfaa
open Go.RowKit

def marks1 (c : Int) (n : Nat) : List (Int) := (List.range n).map fun (k : Nat) => c + 1 * (k : Int)
theorem marks1_len {c : Int} {n : Nat} : (marks1 c n).length = n := by simp [marks1]
theorem marks1_get {c : Int} {l : List (Int)} {k : Nat} (h : k < l.length) : (marks1 c k ++ l.drop k)[k]? = some (g0 l k) := by
  rw [List.getElem?_append_right (by rw [marks1_len]; omega), marks1_len, Nat.sub_self, List.getElem?_drop, Nat.add_zero, g0_get h]
theorem marks1_set {c : Int} {l : List (Int)} {k : Nat} (h : k < l.length) : (marks1 c k ++ l.drop k).set k (c + 1 * (k : Int)) = marks1 c (k + 1) ++ l.drop (k + 1) := by
  rw [List.set_append_right _ _ (by rw [marks1_len]; omega), marks1_len, Nat.sub_self, List.drop_eq_getElem_cons h, List.set_cons_zero]
  simp [marks1, List.range_succ]

theorem marks1_1 {c : Int} {n k : Nat} (h : k < n) : g0 (marks1 c n) k = c + 1 * (k : Int) := by simp [g0, marks1, List.getD, h]

def marks2 (c : Int) (n : Nat) : List (Int × Int) := (List.range n).map fun (k : Nat) => (c + 2 * (k : Int), c + 2 * (k : Int) + 1)
theorem marks2_len {c : Int} {n : Nat} : (marks2 c n).length = n := by simp [marks2]
theorem marks2_get {c : Int} {l : List (Int × Int)} {k : Nat} (h : k < l.length) : (marks2 c k ++ l.drop k)[k]? = some (g1 l k, g2 l k) := by
  rw [List.getElem?_append_right (by rw [marks2_len]; omega), marks2_len, Nat.sub_self, List.getElem?_drop, Nat.add_zero, g12_get h]
theorem marks2_set {c : Int} {l : List (Int × Int)} {k : Nat} (h : k < l.length) : (marks2 c k ++ l.drop k).set k ((c + 2 * (k : Int), c + 2 * (k : Int) + 1)) = marks2 c (k + 1) ++ l.drop (k + 1) := by
  rw [List.set_append_right _ _ (by rw [marks2_len]; omega), marks2_len, Nat.sub_self, List.drop_eq_getElem_cons h, List.set_cons_zero]
  simp [marks2, List.range_succ]

theorem marks2_1 {c : Int} {n k : Nat} (h : k < n) : g1 (marks2 c n) k = c + 2 * (k : Int) := by simp [g1, marks2, List.getD, h]
theorem marks2_2 {c : Int} {n k : Nat} (h : k < n) : g2 (marks2 c n) k = c + 2 * (k : Int) + 1 := by simp [g2, marks2, List.getD, h]

def marks3 (c : Int) (n : Nat) : List (Int × Int × Int) := (List.range n).map fun (k : Nat) => (c + 3 * (k : Int), c + 3 * (k : Int) + 1, c + 3 * (k : Int) + 2)
theorem marks3_len {c : Int} {n : Nat} : (marks3 c n).length = n := by simp [marks3]
theorem marks3_get {c : Int} {l : List (Int × Int × Int)} {k : Nat} (h : k < l.length) : (marks3 c k ++ l.drop k)[k]? = some (t1 l k, t2 l k, t3 l k) := by
  rw [List.getElem?_append_right (by rw [marks3_len]; omega), marks3_len, Nat.sub_self, List.getElem?_drop, Nat.add_zero, t_get h]
theorem marks3_set {c : Int} {l : List (Int × Int × Int)} {k : Nat} (h : k < l.length) : (marks3 c k ++ l.drop k).set k ((c + 3 * (k : Int), c + 3 * (k : Int) + 1, c + 3 * (k : Int) + 2)) = marks3 c (k + 1) ++ l.drop (k + 1) := by
  rw [List.set_append_right _ _ (by rw [marks3_len]; omega), marks3_len, Nat.sub_self, List.drop_eq_getElem_cons h, List.set_cons_zero]
  simp [marks3, List.range_succ]

theorem marks3_1 {c : Int} {n k : Nat} (h : k < n) : t1 (marks3 c n) k = c + 3 * (k : Int) := by simp [t1, marks3, List.getD, h]
theorem marks3_2 {c : Int} {n k : Nat} (h : k < n) : t2 (marks3 c n) k = c + 3 * (k : Int) + 1 := by simp [t2, marks3, List.getD, h]
theorem marks3_3 {c : Int} {n k : Nat} (h : k < n) : t3 (marks3 c n) k = c + 3 * (k : Int) + 2 := by simp [t3, marks3, List.getD, h]

def marks4 (c : Int) (n : Nat) : List (Int × Int × Int × Int) := (List.range n).map fun (k : Nat) => (c + 4 * (k : Int), c + 4 * (k : Int) + 1, c + 4 * (k : Int) + 2, c + 4 * (k : Int) + 3)
theorem marks4_len {c : Int} {n : Nat} : (marks4 c n).length = n := by simp [marks4]
theorem marks4_get {c : Int} {l : List (Int × Int × Int × Int)} {k : Nat} (h : k < l.length) : (marks4 c k ++ l.drop k)[k]? = some (q1 l k, q2 l k, q3 l k, q4 l k) := by
  rw [List.getElem?_append_right (by rw [marks4_len]; omega), marks4_len, Nat.sub_self, List.getElem?_drop, Nat.add_zero, q_get h]
theorem marks4_set {c : Int} {l : List (Int × Int × Int × Int)} {k : Nat} (h : k < l.length) : (marks4 c k ++ l.drop k).set k ((c + 4 * (k : Int), c + 4 * (k : Int) + 1, c + 4 * (k : Int) + 2, c + 4 * (k : Int) + 3)) = marks4 c (k + 1) ++ l.drop (k + 1) := by
  rw [List.set_append_right _ _ (by rw [marks4_len]; omega), marks4_len, Nat.sub_self, List.drop_eq_getElem_cons h, List.set_cons_zero]
  simp [marks4, List.range_succ]

theorem marks4_1 {c : Int} {n k : Nat} (h : k < n) : q1 (marks4 c n) k = c + 4 * (k : Int) := by simp [q1, marks4, List.getD, h]
theorem marks4_2 {c : Int} {n k : Nat} (h : k < n) : q2 (marks4 c n) k = c + 4 * (k : Int) + 1 := by simp [q2, marks4, List.getD, h]
theorem marks4_3 {c : Int} {n k : Nat} (h : k < n) : q3 (marks4 c n) k = c + 4 * (k : Int) + 2 := by simp [q3, marks4, List.getD, h]
theorem marks4_4 {c : Int} {n k : Nat} (h : k < n) : q4 (marks4 c n) k = c + 4 * (k : Int) + 3 := by simp [q4, marks4, List.getD, h]

end Go.Proofs.Ytmgphagahdepfaa
