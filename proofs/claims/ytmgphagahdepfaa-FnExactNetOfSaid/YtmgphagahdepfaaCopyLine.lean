/- Contracts: slices of Line copied, compared, marked. -/
import Derived.Test.YtmgphagahdepfaaNum
import Derived.Test.YtmgphagahdepfaaApp
import Derived.Deep.RegionHeld3
namespace Go.Proofs.Ytmgphagahdepfaa
open Go.RowKit

theorem infoLine : (Try.prog.info? 58).map (fun i => (i.zero, i.size, i.bytes)) = some (some (.agg #[.int .i64 0, .int .i64 0]), 2, 16) := by kernel_rfl

set_option maxHeartbeats 400000 in
theorem toLine_any (x y : Int) (w : World) :
    Calls Try.prog 44 #[.agg #[.int .i64 x, .int .i64 y]] w fun e w' => e = .returned (.agg #[.int .i64 x, .int .i64 y]) ∧ Below w.heap.size w w' := by
  go_enter Try.func44, Try.ntmps44
  go_wp2
  refine bodyPost_ret (v := .agg #[.int .i64 x, .int .i64 y]) (by simp [results, Try.results44, go_sem]) rfl ⟨rfl, ?_⟩
  repeat (first | exact Below.refl _ _ | (refine Below.alloc ?_ (by (try simp) <;> omega) _) | (refine Below.setCell ?_ (by (try simp) <;> omega) _) | (refine Below.drew ?_) | (refine below_drewN ?_ _) | (refine Below.trans ?_ (Below.mono (by assumption) (by (try simp) <;> omega))))

set_option maxHeartbeats 400000 in
theorem eqLine_same (x y : Int) (w : World) :
    Calls Try.prog 47 #[.agg #[.int .i64 x, .int .i64 y], .agg #[.int .i64 x, .int .i64 y]] w fun e w' => e = .returned (.bool true) ∧ Below w.heap.size w w' := by
  go_enter Try.func47, Try.ntmps47
  go_wp2
  go_ret
  refine ⟨rfl, ?_⟩
  repeat (first | exact Below.refl _ _ | (refine Below.alloc ?_ (by (try simp) <;> omega) _) | (refine Below.setCell ?_ (by (try simp) <;> omega) _) | (refine Below.drew ?_) | (refine below_drewN ?_ _) | (refine Below.trans ?_ (Below.mono (by assumption) (by (try simp) <;> omega))))

def ToLinePost (w : World) (l : List (Int × Int)) (e : Ending) (w' : World) : Prop :=
  ∃ v, e = .returned v ∧ Own enc2 2 58 w' w.heap.size v l ∧ Below w.heap.size w w'

def ToLineRel (w : World) (g : Nat) (l : List (Int × Int)) (i : Value) (wr : World) : Prop :=
  ∃ (k : Nat) (o : List (Int × Int)), k ≤ l.length ∧ i = .int .i64 k ∧ o = l.take k ++ List.replicate (l.length - k) (0, 0) ∧ Own enc2 2 58 wr w.heap.size (.slice (some ⟨g, 0, none⟩) l.length l.length) o ∧ Below w.heap.size w wr

set_option maxHeartbeats 1600000 in
theorem toLineS_any (l : List (Int × Int)) (A : Option Addr) (cap : Nat) (w : World) (h : Sl enc2 2 w w.heap.size A l) (hl : l.length ≤ 1048576) :
    Calls Try.prog 19 #[.slice A l.length cap] w (ToLinePost w l) := by
  go_enter Try.func19, Try.ntmps19
  go_wp2_with (at_make; refine wpList_makeL len2 (by omega) rfl (.tmp 6) (.tmp 6) _ rfl Try.underlying24 infoLine (by omega) (y := (0, 0)) rfl (base := w.heap.size) rfl rfl (by omega) (Nat.le_refl _) ?_)
  intro w1 ho1 hg1
  have D1 := hid (only_below hg1)
  clear hg1
  go_wp2_with fail
  go_loopw [4] (fun i wr => ToLineRel w w.heap.size l i wr) (fun i _ => l.length - (intOf i).toNat)
  case atStart => exact ⟨0, _, Nat.zero_le _, rfl, by simp, ho1, D1.out⟩
  case round =>
    clear ho1 D1
    obtain ⟨k, o, hk, rfl, hoe, ho, hb⟩ := hrel
    have hol : l.length = o.length := by rw [hoe]; simp; omega
    have HO := hid hoe
    have HOL := hid hol
    have hsz := hb.size
    have HB := hid hb
    clear hoe hol
    by_cases hlt : k < l.length
    · obtain ⟨b, off, rfl, hbb, c1, c2⟩ := h.get2 hlt
      have d1 : wr.cell? ⟨b, off + k * 2, none⟩ = some (.int .i64 (g1 l k)) := (hb.cell hbb).trans c1
      have d2 : wr.cell? ⟨b, off + k * 2 + 1, none⟩ = some (.int .i64 (g2 l k)) := (hb.cell hbb).trans c2
      have HT := hid (show o.set k (g1 l k, g2 l k) = l.take (k + 1) ++ List.replicate (l.length - (k + 1)) (0, 0) by
        rw [HO.out, set_fill hlt, List.take_succ_eq_append_getElem hlt, g12_eq hlt, List.append_assoc]; rfl)
      have hok : o[k]? = some (0, 0) := by rw [HO.out]; exact get_fill hlt
      have HK := hid hok
      clear c1 c2 hok
      go_wp2_with fail; refine (toLine_any _ _ _).mono ?_; rintro e w5 ⟨rfl, b5⟩
      have ho5 := ho.below b5 (Nat.le_refl _)
      have e1 := ho5.cell len2 HOL.out HK.out (j := 0) rfl
      have e2 := ho5.cell len2 HOL.out HK.out (j := 1) rfl
      have ef := ho5.frozen HOL.out
      rw [Nat.add_zero] at e1
      have ho6 := ho5.store len2 HOL.out HK.out (j := 0) (a' := (g1 l k, 0)) (by omega) (u := .int .i64 (g1 l k)) rfl
      have ho7 := ho6.store len2 (by rw [List.length_set]; exact HOL.out) (i := k) (j := 1) (a := (g1 l k, 0)) (a' := (g1 l k, g2 l k)) (u := .int .i64 (g2 l k)) (by rw [List.getElem?_set_self (by have := HOL.out; omega)]) (by omega) rfl
      rw [List.set_set, HT.out, Nat.add_zero] at ho7
      have HO7 := hid ho7
      have z5 := b5.size
      have D7 := hid (((HB.out.trans (b5.mono hsz)).setCell (p := ⟨w.heap.size, k * 2, none⟩) (Nat.le_refl _) (.int .i64 (g1 l k))).setCell (p := ⟨w.heap.size, k * 2 + 1, none⟩) (Nat.le_refl _) (.int .i64 (g2 l k)))
      clear ho5 ho6 ho7 b5 hb ho
      go_wp2
      go_roundw
      case rel => exact ⟨k + 1, _, by omega, by go_num, rfl, HO7.out, D7.out⟩
      case measure => simp [intOf]; omega
    · have hkl : k = l.length := by omega
      subst hkl
      have HL := hid (show o = l by rw [HO.out]; simp)
      go_wp2
      go_ret
      refine ⟨_, rfl, ?_, hb⟩
      rw [HL.out] at ho
      exact ho

set_option maxHeartbeats 1600000 in
theorem eqLineS_same (l : List (Int × Int)) (A A' : Option Addr) (cap cap' : Nat) (w : World) (h : Sl enc2 2 w w.heap.size A l) (h' : Sl enc2 2 w w.heap.size A' l) (hl : l.length ≤ 1048576) :
    Calls Try.prog 23 #[.slice A l.length cap, .slice A' l.length cap'] w fun e w' => e = .returned (.bool true) ∧ Below w.heap.size w w' := by
  go_enter Try.func23, Try.ntmps23
  go_wp2_with fail
  go_loopw [5] (fun i wr => ∃ k : Nat, k ≤ l.length ∧ i = .int .i64 k ∧ Below w.heap.size w wr) (fun i _ => l.length - (intOf i).toNat)
  case atStart => exact ⟨0, Nat.zero_le _, rfl, Below.refl _ _⟩
  case round =>
    obtain ⟨k, hk, rfl, hb⟩ := hrel
    have hsz := hb.size
    by_cases hlt : k < l.length
    · obtain ⟨b, off, rfl, hbb, c1, c2⟩ := h.get2 hlt
      obtain ⟨b', off', rfl, hbb', c3, c4⟩ := h'.get2 hlt
      have d1 : wr.cell? ⟨b, off + k * 2, none⟩ = some (.int .i64 (g1 l k)) := (hb.cell hbb).trans c1
      have d2 : wr.cell? ⟨b, off + k * 2 + 1, none⟩ = some (.int .i64 (g2 l k)) := (hb.cell hbb).trans c2
      have d3 : wr.cell? ⟨b', off' + k * 2, none⟩ = some (.int .i64 (g1 l k)) := (hb.cell hbb').trans c3
      have d4 : wr.cell? ⟨b', off' + k * 2 + 1, none⟩ = some (.int .i64 (g2 l k)) := (hb.cell hbb').trans c4
      have hkl : (k : Int) < (l.length : Int) := by omega
      have y1 : b < wr.heap.size := by omega
      have y2 : b' < wr.heap.size := by omega
      clear c1 c2 c3 c4
      go_wp2_with fail
      go_region_held3 (fun x => x.cell? ⟨b, off + k * 2, none⟩ = some (.int .i64 (g1 l k)) ∧ x.cell? ⟨b, off + k * 2 + 1, none⟩ = some (.int .i64 (g2 l k)) ∧ x.cell? ⟨b', off' + k * 2, none⟩ = some (.int .i64 (g1 l k)) ∧ x.cell? ⟨b', off' + k * 2 + 1, none⟩ = some (.int .i64 (g2 l k))) (((repeat' apply And.intro) <;> first | assumption | (simp [go_sem, *]; done))) ((go_at_call 47; refine (eqLine_same _ _ _).mono ?_; rintro e w5 ⟨rfl, b5⟩; have e1 : w5.cell? ⟨b, off + k * 2, none⟩ = some (.int .i64 (g1 l k)) := (b5.cell (p := ⟨b, off + k * 2, none⟩) (by (try simp) <;> omega)).trans (by assumption); have e2 : w5.cell? ⟨b, off + k * 2 + 1, none⟩ = some (.int .i64 (g2 l k)) := (b5.cell (p := ⟨b, off + k * 2 + 1, none⟩) (by (try simp) <;> omega)).trans (by assumption); have e3 : w5.cell? ⟨b', off' + k * 2, none⟩ = some (.int .i64 (g1 l k)) := (b5.cell (p := ⟨b', off' + k * 2, none⟩) (by (try simp) <;> omega)).trans (by assumption); have e4 : w5.cell? ⟨b', off' + k * 2 + 1, none⟩ = some (.int .i64 (g2 l k)) := (b5.cell (p := ⟨b', off' + k * 2 + 1, none⟩) (by (try simp) <;> omega)).trans (by assumption)))
      go_wp2
      go_roundw
      case rel =>
        refine ⟨k + 1, by omega, by go_num, ?_⟩
        repeat (first | exact Below.refl _ _ | (refine Below.alloc ?_ (by (try simp) <;> omega) _) | (refine Below.setCell ?_ (by (try simp) <;> omega) _) | (refine Below.drew ?_) | (refine below_drewN ?_ _) | (refine Below.trans ?_ (Below.mono (by assumption) (by (try simp) <;> omega))))
      case measure => simp [intOf]; omega
    · have hkl : k = l.length := by omega
      subst hkl
      go_wp2
      go_ret
      exact ⟨rfl, hb⟩

set_option maxHeartbeats 400000 in
theorem szLineS_any (n cap : Nat) (A : Option Addr) (r : Int) (w : World) (hn : n ≤ 9223372036854775807) (h0 : 0 ≤ r) (h1 : r ≤ 1048576) :
    Calls Try.prog 16 #[.slice A n cap, .int .i64 r] w fun e w' => e = .returned (.int .i64 (if r - n < 0 then -1 else r - n)) ∧ w = w' := by
  by_cases hr : r - (n : Int) < 0
  · have HR := hid hr
    go_enter Try.func16, Try.ntmps16
    go_wp2
    go_ret
    exact ⟨ret_int (by first | rfl | rw [if_pos HR.out]), rfl⟩
  · have HR := hid hr
    go_enter Try.func16, Try.ntmps16
    go_wp2
    go_ret
    exact ⟨ret_int (by first | rfl | rw [if_neg (by have := HR.out; omega)]), rfl⟩

end Go.Proofs.Ytmgphagahdepfaa
