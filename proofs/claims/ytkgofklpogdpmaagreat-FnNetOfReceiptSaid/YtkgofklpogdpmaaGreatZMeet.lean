/- Contracts: spans that meet. -/
import Derived.Test.YtkgofklpogdpmaaGreatZC
import Derived.WalkLawsBesides
import Derived.RegionTactic
import Derived.BigRegion
import Derived.ChangeAlike
namespace Go.Proofs.YtkgofklpogdpmaaGreat
open Go.RowKit

/-- Whether two spans have a number in common. -/
def mtB (l1 h1 l2 h2 : Int) : Bool := decide (l1 ≤ h1) && (decide (l1 ≤ h2) && (decide (l2 ≤ h1) && decide (l2 ≤ h2)))
def MeetPost (w : World) (b : Bool) (e : Ending) (w' : World) : Prop :=
  ∃ x y : Int, e = .returned (.tuple #[.agg #[.int .i64 x, .int .i64 y], .bool b]) ∧ Below w.heap.size w w'

set_option maxHeartbeats 1600000 in
theorem meetSpans_any (l1 h1 l2 h2 : Int) (w : World) (hv1 : vSpan l1 h1 = true) (hv2 : vSpan l2 h2 = true) :
    Calls Tryz.prog 111 #[.agg #[.int .i64 l1, .int .i64 h1], .agg #[.int .i64 l2, .int .i64 h2]] w (MeetPost w (mtB l1 h1 l2 h2)) := by
  have HV1 := hid hv1
  have HV2 := hid hv2
  clear hv1 hv2
  go_enter Tryz.func111, Tryz.ntmps111
  go_wp2_with fail
  all_goals
    refine (validSpan_any l1 h1 _).mono ?_
    rintro e w1 ⟨rfl, hb1⟩
    rw [HV1.out]
    obtain ⟨hc1, hf1⟩ := bcell hb1
    have hz1 : w.heap.size + 1 + 1 + 1 < w1.heap.size := (by have := hb1.size; (try simp at this); (try simp) <;> omega)
    have r0 := hc1 (w.heap.size + 1 + 1) 0 (by (try simp) <;> omega)
    have r1 := hc1 (w.heap.size + 1 + 1) 1 (by (try simp) <;> omega)
    have rf0 := hf1 (w.heap.size + 1 + 1) 0 (by (try simp) <;> omega)
    have rf1 := hf1 (w.heap.size + 1 + 1) 1 (by (try simp) <;> omega)
    have s0 := hc1 (w.heap.size + 1 + 1 + 1) 0 (by (try simp) <;> omega)
    have s1 := hc1 (w.heap.size + 1 + 1 + 1) 1 (by (try simp) <;> omega)
    have a0 := hc1 (w.heap.size + 1) 0 (by (try simp) <;> omega)
    have a1 := hc1 (w.heap.size + 1) 1 (by (try simp) <;> omega)
    simp [go_sem] at r0 r1 rf0 rf1 s0 s1 a0 a1
    have D1 := hid (((((((Below.refl w.heap.size w).alloc (Nat.le_refl _) _).alloc (by simp) _).alloc (by simp; omega) _).alloc (by simp; omega) _)).trans (hb1.mono (by simp; omega)))
    clear hb1 hc1 hf1
    go_wp2_with fail
    refine (validSpan_any l2 h2 _).mono ?_
    rintro e w2 ⟨rfl, hb2⟩
    rw [HV2.out]
    have hz2 : w.heap.size + 1 + 1 + 1 < w2.heap.size := (by have := hb2.size; omega)
    have r0' := (hb2.cell (p := ⟨w.heap.size + 1 + 1, 0, none⟩) (by (try simp) <;> omega)).trans r0
    have r1' := (hb2.cell (p := ⟨w.heap.size + 1 + 1, 1, none⟩) (by (try simp) <;> omega)).trans r1
    have rf0' := (hb2.frozen (p := ⟨w.heap.size + 1 + 1, 0, none⟩) (by (try simp) <;> omega)).trans rf0
    have rf1' := (hb2.frozen (p := ⟨w.heap.size + 1 + 1, 1, none⟩) (by (try simp) <;> omega)).trans rf1
    have s0' := (hb2.cell (p := ⟨w.heap.size + 1 + 1 + 1, 0, none⟩) (by (try simp) <;> omega)).trans s0
    have s1' := (hb2.cell (p := ⟨w.heap.size + 1 + 1 + 1, 1, none⟩) (by (try simp) <;> omega)).trans s1
    have D2 := hid (D1.out.trans (hb2.mono (by omega)))
    clear hb2 r0 r1 rf0 rf1 s0 s1 a0 a1
    go_wp2
  all_goals first
    | (refine bodyPost_ret (v := .tuple #[.agg #[.int .i64 0, .int .i64 0], .bool false]) ?_ rfl ⟨0, 0, ?_, ?_⟩; (focus (simp [results, Tryz.results111, go_sem, *]; done)); (focus (rw [show mtB l1 h1 l2 h2 = false by (unfold mtB; simp; omega)])); (repeat (first | exact D2.out | (refine Below.setCell ?_ (by (try simp) <;> omega) _))))
    | (refine bodyPost_ret (v := .tuple #[.agg #[.int .i64 l1, .int .i64 h1], .bool true]) ?_ rfl ⟨l1, h1, ?_, ?_⟩; (focus (simp [results, Tryz.results111, go_sem, *]; done)); (focus (rw [show mtB l1 h1 l2 h2 = true by (unfold mtB; simp; omega)])); (repeat (first | exact D2.out | (refine Below.setCell ?_ (by (try simp) <;> omega) _))))
    | (refine bodyPost_ret (v := .tuple #[.agg #[.int .i64 l1, .int .i64 h2], .bool true]) ?_ rfl ⟨l1, h2, ?_, ?_⟩; (focus (simp [results, Tryz.results111, go_sem, *]; done)); (focus (rw [show mtB l1 h1 l2 h2 = true by (unfold mtB; simp; omega)])); (repeat (first | exact D2.out | (refine Below.setCell ?_ (by (try simp) <;> omega) _))))
    | (refine bodyPost_ret (v := .tuple #[.agg #[.int .i64 l2, .int .i64 h1], .bool true]) ?_ rfl ⟨l2, h1, ?_, ?_⟩; (focus (simp [results, Tryz.results111, go_sem, *]; done)); (focus (rw [show mtB l1 h1 l2 h2 = true by (unfold mtB; simp; omega)])); (repeat (first | exact D2.out | (refine Below.setCell ?_ (by (try simp) <;> omega) _))))
    | (refine bodyPost_ret (v := .tuple #[.agg #[.int .i64 l2, .int .i64 h2], .bool true]) ?_ rfl ⟨l2, h2, ?_, ?_⟩; (focus (simp [results, Tryz.results111, go_sem, *]; done)); (focus (rw [show mtB l1 h1 l2 h2 = true by (unfold mtB; simp; omega)])); (repeat (first | exact D2.out | (refine Below.setCell ?_ (by (try simp) <;> omega) _))))

set_option maxHeartbeats 1600000 in
theorem meet_any (l1 h1 l2 h2 : Int) (w : World) (hv1 : vSpan l1 h1 = true) (hv2 : vSpan l2 h2 = true) :
    Calls Tryz.prog 106 #[.agg #[.int .i64 l1, .int .i64 h1], .agg #[.int .i64 l2, .int .i64 h2]] w (MeetPost w (mtB l1 h1 l2 h2)) := by
  have HV1 := hid hv1
  have HV2 := hid hv2
  clear hv1 hv2
  go_enter Tryz.func106, Tryz.ntmps106
  go_wp2_with fail
  all_goals go_region
  all_goals go_wp2
  all_goals first
    | (refine bodyPost_ret (v := .tuple #[.agg #[.int .i64 l1, .int .i64 h1], .bool (decide (l1 ≤ h1))]) ?_ rfl ⟨l1, h1, ?_, ?_⟩; (focus (simp [results, Tryz.results106, go_sem]; done)); (focus (rw [show mtB l1 h1 l2 h2 = decide (l1 ≤ h1) by (unfold mtB; rw [Bool.eq_iff_iff]; simp; omega)])); (repeat (first | exact Below.refl _ _ | (refine Below.alloc ?_ (by (try simp) <;> omega) _) | (refine Below.setCell ?_ (by (try simp) <;> omega) _) | (refine Below.drew ?_) | (refine below_drewN ?_ _) | (refine Below.trans ?_ (Below.mono (by assumption) (by (try simp) <;> omega))))))
    | (refine bodyPost_ret (v := .tuple #[.agg #[.int .i64 l1, .int .i64 h2], .bool (decide (l1 ≤ h2))]) ?_ rfl ⟨l1, h2, ?_, ?_⟩; (focus (simp [results, Tryz.results106, go_sem]; done)); (focus (rw [show mtB l1 h1 l2 h2 = decide (l1 ≤ h2) by (unfold mtB; rw [Bool.eq_iff_iff]; simp; omega)])); (repeat (first | exact Below.refl _ _ | (refine Below.alloc ?_ (by (try simp) <;> omega) _) | (refine Below.setCell ?_ (by (try simp) <;> omega) _) | (refine Below.drew ?_) | (refine below_drewN ?_ _) | (refine Below.trans ?_ (Below.mono (by assumption) (by (try simp) <;> omega))))))
    | (refine bodyPost_ret (v := .tuple #[.agg #[.int .i64 l2, .int .i64 h1], .bool (decide (l2 ≤ h1))]) ?_ rfl ⟨l2, h1, ?_, ?_⟩; (focus (simp [results, Tryz.results106, go_sem]; done)); (focus (rw [show mtB l1 h1 l2 h2 = decide (l2 ≤ h1) by (unfold mtB; rw [Bool.eq_iff_iff]; simp; omega)])); (repeat (first | exact Below.refl _ _ | (refine Below.alloc ?_ (by (try simp) <;> omega) _) | (refine Below.setCell ?_ (by (try simp) <;> omega) _) | (refine Below.drew ?_) | (refine below_drewN ?_ _) | (refine Below.trans ?_ (Below.mono (by assumption) (by (try simp) <;> omega))))))
    | (refine bodyPost_ret (v := .tuple #[.agg #[.int .i64 l2, .int .i64 h2], .bool (decide (l2 ≤ h2))]) ?_ rfl ⟨l2, h2, ?_, ?_⟩; (focus (simp [results, Tryz.results106, go_sem]; done)); (focus (rw [show mtB l1 h1 l2 h2 = decide (l2 ≤ h2) by (unfold mtB; rw [Bool.eq_iff_iff]; simp; omega)])); (repeat (first | exact Below.refl _ _ | (refine Below.alloc ?_ (by (try simp) <;> omega) _) | (refine Below.setCell ?_ (by (try simp) <;> omega) _) | (refine Below.drew ?_) | (refine below_drewN ?_ _) | (refine Below.trans ?_ (Below.mono (by assumption) (by (try simp) <;> omega))))))

end Go.Proofs.YtkgofklpogdpmaaGreat
