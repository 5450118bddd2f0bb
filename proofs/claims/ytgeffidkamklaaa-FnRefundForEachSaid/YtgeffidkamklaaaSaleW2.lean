/- Contracts of the functions that refund and give back pieces of sold lines. -/
import Derived.Test.YtgeffidkamklaaaSaleW
import Derived.Deep.RegionHeld3
namespace Go.Proofs.Ytgeffidkamklaaa
open Go.RowKit

set_option maxHeartbeats 400000 in
theorem specKeptOf_any (c p b : Int) (w : World) :
    Calls Try.prog 18 #[.agg #[.int .i64 c, .int .i64 p, .int .i64 b]] w fun e w' => e = .returned (.int .i64 (keptI c p b)) ∧ Below w.heap.size w w' := by
  by_cases hv : vSale c p b = true
  · obtain ⟨a1, a2, a3, a4, a5, a6⟩ := vSale_true hv
    obtain ⟨m1, m2⟩ := mul_bd a3 a4 a5 (by omega : b ≤ 20)
    obtain ⟨q1, q2⟩ := part_bd (c := c) a1 a3 a5 a6
    go_enter Try.func18, Try.ntmps18
    go_wp2_with (go_at_call 29; refine (svalidSale_any _ _ _ _).mono ?_; rintro e w1 ⟨rfl, hb1⟩; obtain ⟨hc1, hf1⟩ := bcell hb1; have hz1 : w.heap.size < w1.heap.size := (by have := hb1.size; (try simp at this); (try simp) <;> omega))
    have k0 := hc1 (w.heap.size) 0 (by (try simp) <;> omega); have k1 := hc1 (w.heap.size) 1 (by (try simp) <;> omega); have k2 := hc1 (w.heap.size) 2 (by (try simp) <;> omega); have kf := hf1 (w.heap.size) 2 (by (try simp) <;> omega); simp at k0 k1 k2 kf
    go_region_held3 (fun x => x.cell? ⟨w.heap.size, 0, none⟩ = some (.int .i64 c) ∧ x.cell? ⟨w.heap.size, 1, none⟩ = some (.int .i64 p) ∧ x.cell? ⟨w.heap.size, 2, none⟩ = some (.int .i64 b)) (refine ⟨?_, ?_, ?_⟩ <;> assumption) ((go_at_call 32; refine (partOf_any _ _ _ _ _ (by omega) (by omega) (by omega)).mono ?_; rintro e w2 ⟨rfl, hb2⟩; have j0 : w2.cell? ⟨w.heap.size, 0, none⟩ = some (.int .i64 c) := (hb2.cell (p := ⟨w.heap.size, 0, none⟩) (by (try simp) <;> omega)).trans (by assumption); have j1 : w2.cell? ⟨w.heap.size, 1, none⟩ = some (.int .i64 p) := (hb2.cell (p := ⟨w.heap.size, 1, none⟩) (by (try simp) <;> omega)).trans (by assumption); have j2 : w2.cell? ⟨w.heap.size, 2, none⟩ = some (.int .i64 b) := (hb2.cell (p := ⟨w.heap.size, 2, none⟩) (by (try simp) <;> omega)).trans (by assumption); have hz2 : w.heap.size < w2.heap.size := (by have := hb2.size; (try simp at this); (try simp) <;> omega)))
    go_wp2
    go_ret
    refine ⟨ret_int (by rw [IntWalk.i64_in _ (by omega)]; simp [keptI, hv]), ?_⟩
    repeat (first | exact Below.refl _ _ | (refine Below.alloc ?_ (by (try simp) <;> omega) _) | (refine Below.setCell ?_ (by (try simp) <;> omega) _) | (refine Below.drew ?_) | (refine below_drewN ?_ _) | (refine Below.trans ?_ (Below.mono (by assumption) (by (try simp) <;> omega))))
  · have hv' : vSale c p b = false := by simpa using hv
    go_enter Try.func18, Try.ntmps18
    go_wp2_with (go_at_call 29; refine (svalidSale_any _ _ _ _).mono ?_; rintro e w1 ⟨rfl, hb1⟩; obtain ⟨hc1, hf1⟩ := bcell hb1; have hz1 : w.heap.size < w1.heap.size := (by have := hb1.size; (try simp at this); (try simp) <;> omega))
    go_ret
    refine ⟨ret_int (by simp [keptI, hv']), ?_⟩
    repeat (first | exact Below.refl _ _ | (refine Below.alloc ?_ (by (try simp) <;> omega) _) | (refine Below.setCell ?_ (by (try simp) <;> omega) _) | (refine Below.drew ?_) | (refine below_drewN ?_ _) | (refine Below.trans ?_ (Below.mono (by assumption) (by (try simp) <;> omega))))

set_option maxHeartbeats 800000 in
theorem refundFor_any (c p b n : Int) (w : World) :
    Calls Try.prog 21 #[.agg #[.int .i64 c, .int .i64 p, .int .i64 b], .int .i64 n] w fun e w' => e = .returned (.int .i64 (refundI c p b n)) ∧ Below w.heap.size w w' := by
  by_cases hv : vSale c p b = true
  · obtain ⟨a1, a2, a3, a4, a5, a6⟩ := vSale_true hv
    by_cases hn : withinB n 1 (c - b) = true
    · have hok : okBack c p b n = true := by simp [okBack, hv, hn]
      obtain ⟨n1, n2⟩ := withinB_true.1 hn
      obtain ⟨m1, m2⟩ := mul_bd a3 a4 a5 (by omega : b ≤ 20)
      obtain ⟨m3, m4⟩ := mul_bd a3 a4 (by omega : 0 ≤ b + n) (by omega : b + n ≤ 20)
      obtain ⟨q1, q2⟩ := part_bd (c := c) a1 a3 a5 a6
      obtain ⟨q3, q4⟩ := part_bd (c := c) (n := b + n) a1 a3 (by omega) (by omega)
      unfold partI at q1 q2 q3 q4
      have hc : (c == 0) = false := by simp; omega
      clear hok
      go_enter Try.func21, Try.ntmps21
      go_wp2_with (first | (go_at_call 17; refine (validSale_any _ _ _ _).mono ?_; rintro e w1 ⟨rfl, hb1⟩; obtain ⟨hc1, hf1⟩ := bcell hb1; have hz1 : w.heap.size < w1.heap.size := (by have := hb1.size; (try simp at this); (try simp) <;> omega)) | (go_at_call 30; refine (within_any _ _ _ _).mono ?_; rintro e w' ⟨rfl, rfl⟩))
      go_quiet (fail)
      go_wp2
      go_ret
      refine ⟨ret_int (by simp [refundI, okBack, hv, hn, partI]), ?_⟩
      repeat (first | exact Below.refl _ _ | (refine Below.alloc ?_ (by (try simp) <;> omega) _) | (refine Below.setCell ?_ (by (try simp) <;> omega) _) | (refine Below.drew ?_) | (refine below_drewN ?_ _) | (refine Below.trans ?_ (Below.mono (by assumption) (by (try simp) <;> omega))))
    · have hn' : withinB n 1 (c - b) = false := by simpa using hn
      go_enter Try.func21, Try.ntmps21
      go_wp2_with (first | (go_at_call 17; refine (validSale_any _ _ _ _).mono ?_; rintro e w1 ⟨rfl, hb1⟩; obtain ⟨hc1, hf1⟩ := bcell hb1; have hz1 : w.heap.size < w1.heap.size := (by have := hb1.size; (try simp at this); (try simp) <;> omega)) | (go_at_call 30; refine (within_any _ _ _ _).mono ?_; rintro e w' ⟨rfl, rfl⟩))
      go_ret
      refine ⟨ret_int (by simp [refundI, okBack, hn']), ?_⟩
      repeat (first | exact Below.refl _ _ | (refine Below.alloc ?_ (by (try simp) <;> omega) _) | (refine Below.setCell ?_ (by (try simp) <;> omega) _) | (refine Below.drew ?_) | (refine below_drewN ?_ _) | (refine Below.trans ?_ (Below.mono (by assumption) (by (try simp) <;> omega))))
  · have hv' : vSale c p b = false := by simpa using hv
    go_enter Try.func21, Try.ntmps21
    go_wp2_with (first | (go_at_call 17; refine (validSale_any _ _ _ _).mono ?_; rintro e w1 ⟨rfl, hb1⟩; obtain ⟨hc1, hf1⟩ := bcell hb1; have hz1 : w.heap.size < w1.heap.size := (by have := hb1.size; (try simp at this); (try simp) <;> omega)) | (go_at_call 30; refine (within_any _ _ _ _).mono ?_; rintro e w' ⟨rfl, rfl⟩))
    go_ret
    refine ⟨ret_int (by simp [refundI, okBack, hv']), ?_⟩
    repeat (first | exact Below.refl _ _ | (refine Below.alloc ?_ (by (try simp) <;> omega) _) | (refine Below.setCell ?_ (by (try simp) <;> omega) _) | (refine Below.drew ?_) | (refine below_drewN ?_ _) | (refine Below.trans ?_ (Below.mono (by assumption) (by (try simp) <;> omega))))

set_option maxHeartbeats 800000 in
theorem specRefundFor_any (c p b n : Int) (w : World) :
    Calls Try.prog 20 #[.agg #[.int .i64 c, .int .i64 p, .int .i64 b], .int .i64 n] w fun e w' => e = .returned (.int .i64 (refundI c p b n)) ∧ Below w.heap.size w w' := by
  by_cases hv : vSale c p b = true
  · obtain ⟨a1, a2, a3, a4, a5, a6⟩ := vSale_true hv
    by_cases hn : withinB n 1 (c - b) = true
    · obtain ⟨n1, n2⟩ := withinB_true.1 hn
      obtain ⟨m1, m2⟩ := mul_bd a3 a4 a5 (by omega : b ≤ 20)
      obtain ⟨m3, m4⟩ := mul_bd a3 a4 (by omega : 0 ≤ b + n) (by omega : b + n ≤ 20)
      obtain ⟨q1, q2⟩ := part_bd (c := c) a1 a3 a5 a6
      obtain ⟨q3, q4⟩ := part_bd (c := c) (n := b + n) a1 a3 (by omega) (by omega)
      have hs : IntKind.i64.wrap (b + n) = b + n := IntWalk.i64_in _ (by omega)
      go_enter Try.func20, Try.ntmps20
      go_wp2_with (first | (go_at_call 29; refine (svalidSale_any _ _ _ _).mono ?_; rintro e w1 ⟨rfl, hb1⟩; obtain ⟨hc1, hf1⟩ := bcell hb1; have hz1 : w.heap.size < w1.heap.size := (by have := hb1.size; (try simp at this); (try simp) <;> omega)) | (go_at_call 33; refine (inRange_any _ _ _ _).mono ?_; rintro e w' ⟨rfl, rfl⟩))
      have k0 := hc1 (w.heap.size) 0 (by (try simp) <;> omega); have k1 := hc1 (w.heap.size) 1 (by (try simp) <;> omega); have k2 := hc1 (w.heap.size) 2 (by (try simp) <;> omega); have kf := hf1 (w.heap.size) 2 (by (try simp) <;> omega); simp at k0 k1 k2 kf
      go_region_held3 (fun x => x.cell? ⟨w.heap.size, 0, none⟩ = some (.int .i64 c) ∧ x.cell? ⟨w.heap.size, 1, none⟩ = some (.int .i64 p) ∧ x.cell? ⟨w.heap.size, 2, none⟩ = some (.int .i64 b)) (refine ⟨?_, ?_, ?_⟩ <;> assumption) ((go_at_call 32; refine (partOf_any _ _ _ _ _ (by omega) (by omega) (by omega)).mono ?_; rintro e w2 ⟨rfl, hb2⟩; have j0 : w2.cell? ⟨w.heap.size, 0, none⟩ = some (.int .i64 c) := (hb2.cell (p := ⟨w.heap.size, 0, none⟩) (by (try simp) <;> omega)).trans (by assumption); have j1 : w2.cell? ⟨w.heap.size, 1, none⟩ = some (.int .i64 p) := (hb2.cell (p := ⟨w.heap.size, 1, none⟩) (by (try simp) <;> omega)).trans (by assumption); have j2 : w2.cell? ⟨w.heap.size, 2, none⟩ = some (.int .i64 b) := (hb2.cell (p := ⟨w.heap.size, 2, none⟩) (by (try simp) <;> omega)).trans (by assumption); have hz2 : w.heap.size < w2.heap.size := (by have := hb2.size; (try simp at this); (try simp) <;> omega)))
      go_wp2
      go_ret
      refine ⟨ret_int (by rw [IntWalk.i64_in _ (by omega)]; simp [refundI, okBack, hv, hn]), ?_⟩
      repeat (first | exact Below.refl _ _ | (refine Below.alloc ?_ (by (try simp) <;> omega) _) | (refine Below.setCell ?_ (by (try simp) <;> omega) _) | (refine Below.drew ?_) | (refine below_drewN ?_ _) | (refine Below.trans ?_ (Below.mono (by assumption) (by (try simp) <;> omega))))
    · have hn' : withinB n 1 (c - b) = false := by simpa using hn
      go_enter Try.func20, Try.ntmps20
      go_wp2_with (first | (go_at_call 29; refine (svalidSale_any _ _ _ _).mono ?_; rintro e w1 ⟨rfl, hb1⟩; obtain ⟨hc1, hf1⟩ := bcell hb1; have hz1 : w.heap.size < w1.heap.size := (by have := hb1.size; (try simp at this); (try simp) <;> omega)) | (go_at_call 33; refine (inRange_any _ _ _ _).mono ?_; rintro e w' ⟨rfl, rfl⟩))
      go_ret
      refine ⟨ret_int (by simp [refundI, okBack, hn']), ?_⟩
      repeat (first | exact Below.refl _ _ | (refine Below.alloc ?_ (by (try simp) <;> omega) _) | (refine Below.setCell ?_ (by (try simp) <;> omega) _) | (refine Below.drew ?_) | (refine below_drewN ?_ _) | (refine Below.trans ?_ (Below.mono (by assumption) (by (try simp) <;> omega))))
  · have hv' : vSale c p b = false := by simpa using hv
    go_enter Try.func20, Try.ntmps20
    go_wp2_with (first | (go_at_call 29; refine (svalidSale_any _ _ _ _).mono ?_; rintro e w1 ⟨rfl, hb1⟩; obtain ⟨hc1, hf1⟩ := bcell hb1; have hz1 : w.heap.size < w1.heap.size := (by have := hb1.size; (try simp at this); (try simp) <;> omega)) | (go_at_call 33; refine (inRange_any _ _ _ _).mono ?_; rintro e w' ⟨rfl, rfl⟩))
    go_ret
    refine ⟨ret_int (by simp [refundI, okBack, hv']), ?_⟩
    repeat (first | exact Below.refl _ _ | (refine Below.alloc ?_ (by (try simp) <;> omega) _) | (refine Below.setCell ?_ (by (try simp) <;> omega) _) | (refine Below.drew ?_) | (refine below_drewN ?_ _) | (refine Below.trans ?_ (Below.mono (by assumption) (by (try simp) <;> omega))))

/-- What giving back comes to. -/
def giveV (c p b n : Int) : Value := if okBack c p b n then .tuple #[.agg #[.int .i64 c, .int .i64 p, .int .i64 (b + n)], .bool true] else .tuple #[.agg #[.int .i64 0, .int .i64 0, .int .i64 0], .bool false]

set_option maxHeartbeats 800000 in
theorem giveBack_any (c p b n : Int) (w : World) :
    Calls Try.prog 23 #[.agg #[.int .i64 c, .int .i64 p, .int .i64 b], .int .i64 n] w fun e w' => e = .returned (giveV c p b n) ∧ Below w.heap.size w w' := by
  by_cases hv : vSale c p b = true
  · obtain ⟨a1, a2, a3, a4, a5, a6⟩ := vSale_true hv
    by_cases hn : withinB n 1 (c - b) = true
    · obtain ⟨n1, n2⟩ := withinB_true.1 hn
      have hg : giveV c p b n = .tuple #[.agg #[.int .i64 c, .int .i64 p, .int .i64 (b + n)], .bool true] := by simp [giveV, okBack, hv, hn]
      have HG := hid hg
      clear hg
      go_enter Try.func23, Try.ntmps23
      go_wp2_with (first | (go_at_call 17; refine (validSale_any _ _ _ _).mono ?_; rintro e w1 ⟨rfl, hb1⟩; obtain ⟨hc1, hf1⟩ := bcell hb1; have hz1 : w.heap.size + 1 < w1.heap.size := (by have := hb1.size; (try simp at this); (try simp) <;> omega); have hz1' : w.heap.size < w1.heap.size := (by omega); have k0 := hc1 (w.heap.size) 0 (by (try simp) <;> omega); have k1 := hc1 (w.heap.size) 1 (by (try simp) <;> omega); have k2 := hc1 (w.heap.size) 2 (by (try simp) <;> omega); have kf := hf1 (w.heap.size) 2 (by (try simp) <;> omega); simp at k0 k1 k2 kf) | (go_at_call 30; refine (within_any _ _ _ _).mono ?_; rintro e w' ⟨rfl, rfl⟩))
      rw [HG.out]
      refine bodyPost_ret (v := .tuple #[.agg #[.int .i64 c, .int .i64 p, .int .i64 (b + n)], .bool true]) (by simp [results, Try.results23, go_sem, *]) rfl ⟨rfl, ?_⟩
      repeat (first | exact Below.refl _ _ | (refine Below.alloc ?_ (by (try simp) <;> omega) _) | (refine Below.setCell ?_ (by (try simp) <;> omega) _) | (refine Below.drew ?_) | (refine below_drewN ?_ _) | (refine Below.trans ?_ (Below.mono (by assumption) (by (try simp) <;> omega))))
    · have hn' : withinB n 1 (c - b) = false := by simpa using hn
      have hg : giveV c p b n = .tuple #[.agg #[.int .i64 0, .int .i64 0, .int .i64 0], .bool false] := by simp [giveV, okBack, hn']
      have HG := hid hg
      clear hg
      go_enter Try.func23, Try.ntmps23
      go_wp2_with (first | (go_at_call 17; refine (validSale_any _ _ _ _).mono ?_; rintro e w1 ⟨rfl, hb1⟩; obtain ⟨hc1, hf1⟩ := bcell hb1; have hz1 : w.heap.size + 1 < w1.heap.size := (by have := hb1.size; (try simp at this); (try simp) <;> omega); have hz1' : w.heap.size < w1.heap.size := (by omega); have k0 := hc1 (w.heap.size) 0 (by (try simp) <;> omega); have k1 := hc1 (w.heap.size) 1 (by (try simp) <;> omega); have k2 := hc1 (w.heap.size) 2 (by (try simp) <;> omega); have kf := hf1 (w.heap.size) 2 (by (try simp) <;> omega); simp at k0 k1 k2 kf) | (go_at_call 30; refine (within_any _ _ _ _).mono ?_; rintro e w' ⟨rfl, rfl⟩))
      rw [HG.out]
      refine bodyPost_ret (v := .tuple #[.agg #[.int .i64 0, .int .i64 0, .int .i64 0], .bool false]) (by simp [results, Try.results23, go_sem, *]) rfl ⟨rfl, ?_⟩
      repeat (first | exact Below.refl _ _ | (refine Below.alloc ?_ (by (try simp) <;> omega) _) | (refine Below.setCell ?_ (by (try simp) <;> omega) _) | (refine Below.drew ?_) | (refine below_drewN ?_ _) | (refine Below.trans ?_ (Below.mono (by assumption) (by (try simp) <;> omega))))
  · have hv' : vSale c p b = false := by simpa using hv
    have hg : giveV c p b n = .tuple #[.agg #[.int .i64 0, .int .i64 0, .int .i64 0], .bool false] := by simp [giveV, okBack, hv']
    have HG := hid hg
    clear hg
    go_enter Try.func23, Try.ntmps23
    go_wp2_with (first | (go_at_call 17; refine (validSale_any _ _ _ _).mono ?_; rintro e w1 ⟨rfl, hb1⟩; obtain ⟨hc1, hf1⟩ := bcell hb1; have hz1 : w.heap.size + 1 < w1.heap.size := (by have := hb1.size; (try simp at this); (try simp) <;> omega); have hz1' : w.heap.size < w1.heap.size := (by omega); have k0 := hc1 (w.heap.size) 0 (by (try simp) <;> omega); have k1 := hc1 (w.heap.size) 1 (by (try simp) <;> omega); have k2 := hc1 (w.heap.size) 2 (by (try simp) <;> omega); have kf := hf1 (w.heap.size) 2 (by (try simp) <;> omega); simp at k0 k1 k2 kf) | (go_at_call 30; refine (within_any _ _ _ _).mono ?_; rintro e w' ⟨rfl, rfl⟩))
    rw [HG.out]
    refine bodyPost_ret (v := .tuple #[.agg #[.int .i64 0, .int .i64 0, .int .i64 0], .bool false]) (by simp [results, Try.results23, go_sem, *]) rfl ⟨rfl, ?_⟩
    repeat (first | exact Below.refl _ _ | (refine Below.alloc ?_ (by (try simp) <;> omega) _) | (refine Below.setCell ?_ (by (try simp) <;> omega) _) | (refine Below.drew ?_) | (refine below_drewN ?_ _) | (refine Below.trans ?_ (Below.mono (by assumption) (by (try simp) <;> omega))))

end Go.Proofs.Ytgeffidkamklaaa
