/- Contracts: slices of numbers copied. -/
import Derived.Test.YtmgphagahdepfaaNum
import Derived.Test.YtmgphagahdepfaaApp
import Derived.Test.YtmgphagahdepfaaEqInt
namespace Go.Proofs.Ytmgphagahdepfaa
open Go.RowKit

theorem infoInt : (Try.prog.info? 3).map (fun i => (i.zero, i.size, i.bytes)) = some (some (.int .i64 0), 1, 8) := by kernel_rfl

def ToIntPost (w : World) (l : List Int) (e : Ending) (w' : World) : Prop :=
  ∃ v, e = .returned v ∧ Own enc1 1 3 w' w.heap.size v l ∧ Below w.heap.size w w'

def ToIntRel (w : World) (g : Nat) (l : List Int) (i : Value) (wr : World) : Prop :=
  ∃ (k : Nat) (o : List Int), k ≤ l.length ∧ i = .int .i64 k ∧ o = l.take k ++ List.replicate (l.length - k) 0 ∧ Own enc1 1 3 wr w.heap.size (.slice (some ⟨g, 0, none⟩) l.length l.length) o ∧ Below w.heap.size w wr

set_option maxHeartbeats 1600000 in
theorem toIntS_any (l : List Int) (A : Option Addr) (cap : Nat) (w : World) (h : Sl enc1 1 w w.heap.size A l) (hl : l.length ≤ 1048576) :
    Calls Try.prog 20 #[.slice A l.length cap] w (ToIntPost w l) := by
  go_enter Try.func20, Try.ntmps20
  go_wp2_with (at_make; refine wpList_makeL len1 (by omega) rfl (.tmp 6) (.tmp 6) _ rfl Try.underlying25 infoInt (by omega) (y := 0) rfl (base := w.heap.size) rfl rfl (by omega) (Nat.le_refl _) ?_)
  intro w1 ho1 hg1
  have D1 := hid (only_below hg1)
  clear hg1
  go_wp2_with fail
  go_loopw [4] (fun i wr => ToIntRel w w.heap.size l i wr) (fun i _ => l.length - (intOf i).toNat)
  case atStart => exact ⟨0, _, Nat.zero_le _, rfl, by simp, ho1, D1.out⟩
  case round =>
    clear ho1 D1
    obtain ⟨k, o, hk, rfl, hoe, ho, hb⟩ := hrel
    have hol : l.length = o.length := by rw [hoe]; simp; omega
    have HO := hid hoe
    have HOL := hid hol
    have HB := hid hb
    clear hoe hol
    by_cases hlt : k < l.length
    · obtain ⟨b, off, rfl, hbb, c1⟩ := h.get1 hlt
      have d1 : wr.cell? ⟨b, off + k, none⟩ = some (.int .i64 (g0 l k)) := (hb.cell hbb).trans c1
      have HT := hid (show o.set k (g0 l k) = l.take (k + 1) ++ List.replicate (l.length - (k + 1)) 0 by
        rw [HO.out, set_fill hlt, List.take_succ_eq_append_getElem hlt, g0_eq hlt, List.append_assoc]; rfl)
      have hok : o[k]? = some 0 := by rw [HO.out]; exact get_fill hlt
      have HK := hid hok
      clear c1 hok
      have e1 := ho.cell len1 HOL.out HK.out (j := 0) rfl
      have ef := ho.frozen HOL.out
      rw [Nat.mul_one, Nat.add_zero] at e1
      have ho6 := ho.store len1 HOL.out HK.out (j := 0) (a' := g0 l k) (by omega) (u := .int .i64 (g0 l k)) rfl
      rw [HT.out, Nat.mul_one, Nat.add_zero] at ho6
      have HO7 := hid ho6
      have D7 := hid (HB.out.setCell (p := ⟨w.heap.size, k, none⟩) (Nat.le_refl _) (.int .i64 (g0 l k)))
      clear ho6 hb ho
      go_wp2
      go_roundw
      case rel => exact ⟨k + 1, _, by omega, by go_num, rfl, HO7.out, D7.out⟩
      case measure => simp [intOf]; omega
    · have hkl : k = l.length := by omega
      subst hkl
      have HL := hid (show o = l by rw [HO.out]; simp)
      go_wp2
      go_ret
      refine ⟨_, rfl, ?_, hb⟩
      rw [HL.out] at ho
      exact ho

end Go.Proofs.Ytmgphagahdepfaa
