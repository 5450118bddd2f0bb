/- Contract: rules in order, as the paper says it: insertion. -/
import Derived.Test.YtkgofklpogdpmaaGreatZBefS
namespace Go.Proofs.YtkgofklpogdpmaaGreat
open Go.RowKit

/-- One rule of a row made anew, field by field. -/
theorem Own.storeR {e : TypeId} {w : World} {base g cap N : Nat} {l : List ((Int × Int × Int × Int × Int × Int × Int) × (Int × Int) × (Option Addr × Nat × List (Int × Int)) × Int)} (h : Own encR 11 e w base (.slice (some ⟨g, 0, none⟩) N cap) l) (hN : N = l.length) {i : Nat} (hi : i < l.length) (n lv rk gp kd vl cp lo hi' cn : Int) (a : Option Addr) (C : Nat) (S : List (Int × Int)) :
    Own encR 11 e (((((((((((w.setCell ⟨g, i * 11, none⟩ (.int .i64 n)).setCell ⟨g, i * 11 + 1, none⟩ (.int .i64 lv)).setCell ⟨g, i * 11 + 2, none⟩ (.int .i64 rk)).setCell ⟨g, i * 11 + 3, none⟩ (.int .i64 gp)).setCell ⟨g, i * 11 + 4, none⟩ (.int .i64 kd)).setCell ⟨g, i * 11 + 5, none⟩ (.int .i64 vl)).setCell ⟨g, i * 11 + 6, none⟩ (.int .i64 cp)).setCell ⟨g, i * 11 + 7, none⟩ (.int .i64 lo)).setCell ⟨g, i * 11 + 8, none⟩ (.int .i64 hi')).setCell ⟨g, i * 11 + 9, none⟩ (.slice a S.length C)).setCell ⟨g, i * 11 + 10, none⟩ (.int .i64 cn)) base (.slice (some ⟨g, 0, none⟩) N cap) (l.set i ((n, lv, rk, gp, kd, vl, cp), (lo, hi'), (a, C, S), cn)) := by
  obtain ⟨⟨⟨n', lv', rk', gp', kd', vl', cp'⟩, ⟨lo', hh⟩, ⟨a', C', S'⟩, cn'⟩, hx⟩ : ∃ x, atR l i = x := ⟨_, rfl⟩
  have h0 := atR_get hi
  rw [hx] at h0
  have s1 := h.store lenR (hN) (i := i) (a := ((n', lv', rk', gp', kd', vl', cp'), (lo', hh), (a', C', S'), cn')) (h0) (j := 0) (a' := ((n, lv', rk', gp', kd', vl', cp'), (lo', hh), (a', C', S'), cn')) (by omega) (u := .int .i64 n) rfl
  have s2 := s1.store lenR (by rw [List.length_set]; exact hN) (i := i) (a := ((n, lv', rk', gp', kd', vl', cp'), (lo', hh), (a', C', S'), cn')) (List.getElem?_set_self hi) (j := 1) (a' := ((n, lv, rk', gp', kd', vl', cp'), (lo', hh), (a', C', S'), cn')) (by omega) (u := .int .i64 lv) rfl
  rw [List.set_set] at s2
  have s3 := s2.store lenR (by rw [List.length_set]; exact hN) (i := i) (a := ((n, lv, rk', gp', kd', vl', cp'), (lo', hh), (a', C', S'), cn')) (List.getElem?_set_self hi) (j := 2) (a' := ((n, lv, rk, gp', kd', vl', cp'), (lo', hh), (a', C', S'), cn')) (by omega) (u := .int .i64 rk) rfl
  rw [List.set_set] at s3
  have s4 := s3.store lenR (by rw [List.length_set]; exact hN) (i := i) (a := ((n, lv, rk, gp', kd', vl', cp'), (lo', hh), (a', C', S'), cn')) (List.getElem?_set_self hi) (j := 3) (a' := ((n, lv, rk, gp, kd', vl', cp'), (lo', hh), (a', C', S'), cn')) (by omega) (u := .int .i64 gp) rfl
  rw [List.set_set] at s4
  have s5 := s4.store lenR (by rw [List.length_set]; exact hN) (i := i) (a := ((n, lv, rk, gp, kd', vl', cp'), (lo', hh), (a', C', S'), cn')) (List.getElem?_set_self hi) (j := 4) (a' := ((n, lv, rk, gp, kd, vl', cp'), (lo', hh), (a', C', S'), cn')) (by omega) (u := .int .i64 kd) rfl
  rw [List.set_set] at s5
  have s6 := s5.store lenR (by rw [List.length_set]; exact hN) (i := i) (a := ((n, lv, rk, gp, kd, vl', cp'), (lo', hh), (a', C', S'), cn')) (List.getElem?_set_self hi) (j := 5) (a' := ((n, lv, rk, gp, kd, vl, cp'), (lo', hh), (a', C', S'), cn')) (by omega) (u := .int .i64 vl) rfl
  rw [List.set_set] at s6
  have s7 := s6.store lenR (by rw [List.length_set]; exact hN) (i := i) (a := ((n, lv, rk, gp, kd, vl, cp'), (lo', hh), (a', C', S'), cn')) (List.getElem?_set_self hi) (j := 6) (a' := ((n, lv, rk, gp, kd, vl, cp), (lo', hh), (a', C', S'), cn')) (by omega) (u := .int .i64 cp) rfl
  rw [List.set_set] at s7
  have s8 := s7.store lenR (by rw [List.length_set]; exact hN) (i := i) (a := ((n, lv, rk, gp, kd, vl, cp), (lo', hh), (a', C', S'), cn')) (List.getElem?_set_self hi) (j := 7) (a' := ((n, lv, rk, gp, kd, vl, cp), (lo, hh), (a', C', S'), cn')) (by omega) (u := .int .i64 lo) rfl
  rw [List.set_set] at s8
  have s9 := s8.store lenR (by rw [List.length_set]; exact hN) (i := i) (a := ((n, lv, rk, gp, kd, vl, cp), (lo, hh), (a', C', S'), cn')) (List.getElem?_set_self hi) (j := 8) (a' := ((n, lv, rk, gp, kd, vl, cp), (lo, hi'), (a', C', S'), cn')) (by omega) (u := .int .i64 hi') rfl
  rw [List.set_set] at s9
  have s10 := s9.store lenR (by rw [List.length_set]; exact hN) (i := i) (a := ((n, lv, rk, gp, kd, vl, cp), (lo, hi'), (a', C', S'), cn')) (List.getElem?_set_self hi) (j := 9) (a' := ((n, lv, rk, gp, kd, vl, cp), (lo, hi'), (a, C, S), cn')) (by omega) (u := .slice a S.length C) rfl
  rw [List.set_set] at s10
  have s11 := s10.store lenR (by rw [List.length_set]; exact hN) (i := i) (a := ((n, lv, rk, gp, kd, vl, cp), (lo, hi'), (a, C, S), cn')) (List.getElem?_set_self hi) (j := 10) (a' := ((n, lv, rk, gp, kd, vl, cp), (lo, hi'), (a, C, S), cn)) (by omega) (u := .int .i64 cn) rfl
  rw [List.set_set] at s11
  exact s11

theorem below_storeR {B : Nat} {w0 w : World} {g : Nat} (h : Below B w0 w) (hg : B ≤ g) (i : Nat) (n lv rk gp kd vl cp lo hi' cn : Int) (a : Option Addr) (C : Nat) (S : List (Int × Int)) :
    Below B w0 (((((((((((w.setCell ⟨g, i * 11, none⟩ (.int .i64 n)).setCell ⟨g, i * 11 + 1, none⟩ (.int .i64 lv)).setCell ⟨g, i * 11 + 2, none⟩ (.int .i64 rk)).setCell ⟨g, i * 11 + 3, none⟩ (.int .i64 gp)).setCell ⟨g, i * 11 + 4, none⟩ (.int .i64 kd)).setCell ⟨g, i * 11 + 5, none⟩ (.int .i64 vl)).setCell ⟨g, i * 11 + 6, none⟩ (.int .i64 cp)).setCell ⟨g, i * 11 + 7, none⟩ (.int .i64 lo)).setCell ⟨g, i * 11 + 8, none⟩ (.int .i64 hi')).setCell ⟨g, i * 11 + 9, none⟩ (.slice a S.length C)).setCell ⟨g, i * 11 + 10, none⟩ (.int .i64 cn)) :=
  (((((((((((h.setCell hg _).setCell hg _).setCell hg _).setCell hg _).setCell hg _).setCell hg _).setCell hg _).setCell hg _).setCell hg _).setCell hg _).setCell hg _)
end Go.Proofs.YtkgofklpogdpmaaGreat
