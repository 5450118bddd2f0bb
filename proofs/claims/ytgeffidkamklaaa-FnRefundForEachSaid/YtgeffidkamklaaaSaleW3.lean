/- Contracts: giving back in the reference; sold lines copied and compared. -/
import Derived.Test.YtgeffidkamklaaaSaleW2
namespace Go.Proofs.Ytgeffidkamklaaa
open Go.RowKit

set_option maxHeartbeats 800000 in
theorem specGiveBack_any (c p b n : Int) (w : World) :
    Calls Try.prog 22 #[.agg #[.int .i64 c, .int .i64 p, .int .i64 b], .int .i64 n] w fun e w' => e = .returned (giveV c p b n) ∧ Below w.heap.size w w' := by
  by_cases hv : vSale c p b = true
  · obtain ⟨a1, a2, a3, a4, a5, a6⟩ := vSale_true hv
    by_cases hn : withinB n 1 (c - b) = true
    · obtain ⟨n1, n2⟩ := withinB_true.1 hn
      have hg : giveV c p b n = .tuple #[.agg #[.int .i64 c, .int .i64 p, .int .i64 (b + n)], .bool true] := by simp [giveV, okBack, hv, hn]
      have HG := hid hg
      clear hg
      go_enter Try.func22, Try.ntmps22
      go_wp2_with (first | (go_at_call 29; refine (svalidSale_any _ _ _ _).mono ?_; rintro e w1 ⟨rfl, hb1⟩; obtain ⟨hc1, hf1⟩ := bcell hb1; have hz1 : w.heap.size + 1 < w1.heap.size := (by have := hb1.size; (try simp at this); (try simp) <;> omega); have hz1' : w.heap.size < w1.heap.size := (by omega); have k0 := hc1 (w.heap.size) 0 (by (try simp) <;> omega); have k1 := hc1 (w.heap.size) 1 (by (try simp) <;> omega); have k2 := hc1 (w.heap.size) 2 (by (try simp) <;> omega); have kf := hf1 (w.heap.size) 2 (by (try simp) <;> omega); simp at k0 k1 k2 kf) | (go_at_call 33; refine (inRange_any _ _ _ _).mono ?_; rintro e w' ⟨rfl, rfl⟩))
      rw [HG.out]
      refine bodyPost_ret (v := .tuple #[.agg #[.int .i64 c, .int .i64 p, .int .i64 (b + n)], .bool true]) (by simp [results, Try.results22, go_sem, *]) rfl ⟨rfl, ?_⟩
      repeat (first | exact Below.refl _ _ | (refine Below.alloc ?_ (by (try simp) <;> omega) _) | (refine Below.setCell ?_ (by (try simp) <;> omega) _) | (refine Below.drew ?_) | (refine below_drewN ?_ _) | (refine Below.trans ?_ (Below.mono (by assumption) (by (try simp) <;> omega))))
    · have hn' : withinB n 1 (c - b) = false := by simpa using hn
      have hg : giveV c p b n = .tuple #[.agg #[.int .i64 0, .int .i64 0, .int .i64 0], .bool false] := by simp [giveV, okBack, hn']
      have HG := hid hg
      clear hg
      go_enter Try.func22, Try.ntmps22
      go_wp2_with (first | (go_at_call 29; refine (svalidSale_any _ _ _ _).mono ?_; rintro e w1 ⟨rfl, hb1⟩; obtain ⟨hc1, hf1⟩ := bcell hb1; have hz1 : w.heap.size + 1 < w1.heap.size := (by have := hb1.size; (try simp at this); (try simp) <;> omega); have hz1' : w.heap.size < w1.heap.size := (by omega); have k0 := hc1 (w.heap.size) 0 (by (try simp) <;> omega); have k1 := hc1 (w.heap.size) 1 (by (try simp) <;> omega); have k2 := hc1 (w.heap.size) 2 (by (try simp) <;> omega); have kf := hf1 (w.heap.size) 2 (by (try simp) <;> omega); simp at k0 k1 k2 kf) | (go_at_call 33; refine (inRange_any _ _ _ _).mono ?_; rintro e w' ⟨rfl, rfl⟩))
      rw [HG.out]
      refine bodyPost_ret (v := .tuple #[.agg #[.int .i64 0, .int .i64 0, .int .i64 0], .bool false]) (by simp [results, Try.results22, go_sem, *]) rfl ⟨rfl, ?_⟩
      repeat (first | exact Below.refl _ _ | (refine Below.alloc ?_ (by (try simp) <;> omega) _) | (refine Below.setCell ?_ (by (try simp) <;> omega) _) | (refine Below.drew ?_) | (refine below_drewN ?_ _) | (refine Below.trans ?_ (Below.mono (by assumption) (by (try simp) <;> omega))))
  · have hv' : vSale c p b = false := by simpa using hv
    have hg : giveV c p b n = .tuple #[.agg #[.int .i64 0, .int .i64 0, .int .i64 0], .bool false] := by simp [giveV, okBack, hv']
    have HG := hid hg
    clear hg
    go_enter Try.func22, Try.ntmps22
    go_wp2_with (first | (go_at_call 29; refine (svalidSale_any _ _ _ _).mono ?_; rintro e w1 ⟨rfl, hb1⟩; obtain ⟨hc1, hf1⟩ := bcell hb1; have hz1 : w.heap.size + 1 < w1.heap.size := (by have := hb1.size; (try simp at this); (try simp) <;> omega); have hz1' : w.heap.size < w1.heap.size := (by omega); have k0 := hc1 (w.heap.size) 0 (by (try simp) <;> omega); have k1 := hc1 (w.heap.size) 1 (by (try simp) <;> omega); have k2 := hc1 (w.heap.size) 2 (by (try simp) <;> omega); have kf := hf1 (w.heap.size) 2 (by (try simp) <;> omega); simp at k0 k1 k2 kf) | (go_at_call 33; refine (inRange_any _ _ _ _).mono ?_; rintro e w' ⟨rfl, rfl⟩))
    rw [HG.out]
    refine bodyPost_ret (v := .tuple #[.agg #[.int .i64 0, .int .i64 0, .int .i64 0], .bool false]) (by simp [results, Try.results22, go_sem, *]) rfl ⟨rfl, ?_⟩
    repeat (first | exact Below.refl _ _ | (refine Below.alloc ?_ (by (try simp) <;> omega) _) | (refine Below.setCell ?_ (by (try simp) <;> omega) _) | (refine Below.drew ?_) | (refine below_drewN ?_ _) | (refine Below.trans ?_ (Below.mono (by assumption) (by (try simp) <;> omega))))

set_option maxHeartbeats 400000 in
theorem toSale_any (c p b : Int) (w : World) :
    Calls Try.prog 16 #[.agg #[.int .i64 c, .int .i64 p, .int .i64 b]] w fun e w' => e = .returned (.agg #[.int .i64 c, .int .i64 p, .int .i64 b]) ∧ Below w.heap.size w w' := by
  go_enter Try.func16, Try.ntmps16
  go_wp2
  refine bodyPost_ret (v := .agg #[.int .i64 c, .int .i64 p, .int .i64 b]) (by simp [results, Try.results16, go_sem]) rfl ⟨rfl, ?_⟩
  repeat (first | exact Below.refl _ _ | (refine Below.alloc ?_ (by (try simp) <;> omega) _) | (refine Below.setCell ?_ (by (try simp) <;> omega) _) | (refine Below.drew ?_) | (refine below_drewN ?_ _) | (refine Below.trans ?_ (Below.mono (by assumption) (by (try simp) <;> omega))))

set_option maxHeartbeats 400000 in
/-- A sold line is equal to itself. -/
theorem eqSale_same (c p b : Int) (w : World) :
    Calls Try.prog 24 #[.agg #[.int .i64 c, .int .i64 p, .int .i64 b], .agg #[.int .i64 c, .int .i64 p, .int .i64 b]] w fun e w' => e = .returned (.bool true) ∧ Below w.heap.size w w' := by
  go_enter Try.func24, Try.ntmps24
  go_wp2
  go_ret
  refine ⟨rfl, ?_⟩
  repeat (first | exact Below.refl _ _ | (refine Below.alloc ?_ (by (try simp) <;> omega) _) | (refine Below.setCell ?_ (by (try simp) <;> omega) _) | (refine Below.drew ?_) | (refine below_drewN ?_ _) | (refine Below.trans ?_ (Below.mono (by assumption) (by (try simp) <;> omega))))

end Go.Proofs.Ytgeffidkamklaaa
