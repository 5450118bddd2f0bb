/- Contracts: slices of Tax marked, and the marks read again. -/
import Derived.Test.YtmgphagahdepfaaNum
import Derived.Test.YtmgphagahdepfaaApp
import Derived.Test.YtmgphagahdepfaaMarks
import Derived.Deep.RegionHeld3
namespace Go.Proofs.Ytmgphagahdepfaa
open Go.RowKit

def MarkTaxRel (w : World) (base : Nat) (v : Value) (l : List (Int × Int × Int)) (c0 : Int) (i kv : Value) (wr : World) : Prop :=
  ∃ (k : Nat) (o : List (Int × Int × Int)), k ≤ l.length ∧ i = .int .i64 k ∧ kv = .int .i64 (c0 + 3 * (k : Int)) ∧ o = marks3 c0 k ++ l.drop k ∧ Own enc3 3 32 wr base v o ∧ w.grownBy wr v.ownBlock
def MarkTaxPost (w : World) (base : Nat) (v : Value) (l : List (Int × Int × Int)) (c0 : Int) (e : Ending) (w' : World) : Prop :=
  e = .returned (.int .i64 (c0 + 3 * (l.length : Int))) ∧ Own enc3 3 32 w' base v (marks3 c0 l.length) ∧ w.grownBy w' v.ownBlock

set_option maxHeartbeats 1600000 in
theorem markTaxS_any (l : List (Int × Int × Int)) (n : Nat) (A : Option Addr) (cap : Nat) (w : World) (base : Nat) (c0 : Int) (hn : n = l.length) (h : Own enc3 3 32 w base (.slice A n cap) l) (hl : l.length ≤ 1048576) (h0 : 0 ≤ c0) (h1 : c0 ≤ 100000000) :
    Calls Try.prog 28 #[.slice A n cap, .int .i64 c0] w (MarkTaxPost w base (.slice A n cap) l c0) := by
  subst hn
  rcases h.form with ⟨hv, hl0⟩ | ⟨g, cap', hv, hg1, hg2, hlc, hcm⟩
  · obtain ⟨rfl, _, rfl⟩ : A = none ∧ l.length = 0 ∧ cap = 0 := by simpa using hv
    subst hl0
    have H := hid h
    clear h hv hl
    go_enter Try.func28, Try.ntmps28
    go_wp2_with fail
    go_loopw [5, 1] (fun i kv wr => i = .int .i64 0 ∧ kv = .int .i64 c0 ∧ wr = w) (fun _ _ _ => 0)
    case atStart => exact ⟨rfl, rfl, rfl⟩
    case round =>
      obtain ⟨rfl, rfl, rfl⟩ := hrel
      go_wp2
      go_ret
      exact ⟨ret_int (by simp), H.out, only_refl⟩
  · obtain ⟨rfl, _, rfl⟩ : A = some ⟨g, 0, none⟩ ∧ l.length = l.length ∧ cap = cap' := by simpa using hv
    have hcap := hcm
    clear hv hcm
    go_enter Try.func28, Try.ntmps28
    go_wp2_with fail
    go_loopw [5, 1] (fun i kv wr => MarkTaxRel w base (.slice (some ⟨g, 0, none⟩) l.length cap) l c0 i kv wr) (fun i _ _ => l.length - (intOf i).toNat)
    case atStart => exact ⟨0, l, Nat.zero_le _, rfl, by simp, by simp [marks3], h, only_refl⟩
    case round =>
      obtain ⟨k, o, hk, rfl, rfl, hoe, ho, hg⟩ := hrel
      have HG := hid hg
      have hol : l.length = o.length := by rw [hoe]; simp [marks3_len]; omega
      have HOE := hid hoe
      have HOL := hid hol
      clear hg hoe hol
      by_cases hlt : k < l.length
      · have HK := hid (show o[k]? = some (t1 l k, t2 l k, t3 l k) by rw [HOE.out]; exact marks3_get hlt)
        have HT := hid (show o.set k ((c0 + 3 * (k : Int), c0 + 3 * (k : Int) + 1, c0 + 3 * (k : Int) + 2)) = marks3 c0 (k + 1) ++ l.drop (k + 1) by rw [HOE.out, marks3_set hlt])
        have e0 := ho.cell len3 HOL.out HK.out (j := 0) rfl
        have e1 := ho.cell len3 HOL.out HK.out (j := 1) rfl
        have e2 := ho.cell len3 HOL.out HK.out (j := 2) rfl
        rw [Nat.add_zero] at e0
        have ef := ho.frozen HOL.out
        have hC := HT
        clear hC
        generalize hcc : c0 + 3 * (k : Int) = c at *
        have HC := hid hcc
        have cb1 : 0 ≤ c := by omega
        have cb2 : c ≤ 200000000 := by omega
        clear hcc
        have HT2 := hid (show o.set k (c, c + 1, c + 1 + 1) = marks3 c0 (k + 1) ++ l.drop (k + 1) by rw [show c + 1 + 1 = c + 2 by omega]; exact HT.out)
        have ho6 := ho.store len3 HOL.out HK.out (j := 0) (a' := (c, t2 l k, t3 l k)) (by omega) (u := .int .i64 (c)) rfl
        have ho7 := ho6.store len3 (by (try simp only [List.length_set]); exact HOL.out) (i := k) (j := 1) (a := (c, t2 l k, t3 l k)) (a' := (c, c + 1, t3 l k)) (u := .int .i64 (c + 1)) (by rw [List.getElem?_set_self (by (try simp only [List.length_set]); have := HOL.out; omega)]) (by omega) rfl
        have ho8 := ho7.store len3 (by (try simp only [List.length_set]); exact HOL.out) (i := k) (j := 2) (a := (c, c + 1, t3 l k)) (a' := (c, c + 1, c + 1 + 1)) (u := .int .i64 (c + 1 + 1)) (by rw [List.getElem?_set_self (by (try simp only [List.length_set]); have := HOL.out; omega)]) (by omega) rfl
        simp only [List.set_set] at ho8
        rw [HT2.out] at ho8
        rw [Nat.add_zero] at ho8
        have HO7 := hid ho8
        have D7 := hid (only_setCell (only_setCell (only_setCell HG.out (p := ⟨g, k * 3, none⟩) (.inl rfl) (.int .i64 (c))) (p := ⟨g, k * 3 + 1, none⟩) (.inl rfl) (.int .i64 (c + 1))) (p := ⟨g, k * 3 + 2, none⟩) (.inl rfl) (.int .i64 (c + 1 + 1)))
        clear ho ho6 ho7 ho8
        go_wp2
        go_roundw
        case rel => exact ⟨k + 1, _, by omega, by go_num, by (have := HC.out; first | rfl | (congr 1; omega)), rfl, HO7.out, D7.out⟩
        case measure => simp [intOf]; omega
      · have hkl : k = l.length := by omega
        subst hkl
        have HL := hid (show o = marks3 c0 l.length by rw [HOE.out]; simp)
        go_wp2
        go_ret
        exact ⟨rfl, by rw [← HL.out]; exact ho, HG.out⟩

set_option maxHeartbeats 1600000 in
theorem heldTaxS_any (n : Nat) (A : Option Addr) (cap : Nat) (w : World) (c0 : Int) (h : Sl enc3 3 w w.heap.size A (marks3 c0 n)) (hl : n ≤ 1048576) (h0 : 0 ≤ c0) (h1 : c0 ≤ 100000000) :
    Calls Try.prog 29 #[.slice A n cap, .int .i64 c0] w fun e w' => e = .returned (.int .i64 (c0 + 3 * (n : Int))) ∧ Below w.heap.size w w' := by
  go_enter Try.func29, Try.ntmps29
  go_wp2_with fail
  go_loopw [5, 1] (fun i kv wr => ∃ k : Nat, k ≤ n ∧ i = .int .i64 k ∧ kv = .int .i64 (c0 + 3 * (k : Int)) ∧ Below w.heap.size w wr) (fun i _ _ => n - (intOf i).toNat)
  case atStart => exact ⟨0, Nat.zero_le _, rfl, by simp, Below.refl _ _⟩
  case round =>
    obtain ⟨k, hk, rfl, rfl, hb⟩ := hrel
    have HB := hid hb
    by_cases hlt : k < n
    · obtain ⟨b, off, rfl, hbb, c1, c2, c3⟩ := h.get3 (k := k) (by rw [marks3_len]; exact hlt)
      have d1 : wr.cell? ⟨b, off + k * 3, none⟩ = some (.int .i64 (c0 + 3 * (k : Int))) := (hb.cell hbb).trans (by rw [c1, marks3_1 hlt])
      have d2 : wr.cell? ⟨b, off + k * 3 + 1, none⟩ = some (.int .i64 (c0 + 3 * (k : Int) + 1)) := (hb.cell hbb).trans (by rw [c2, marks3_2 hlt])
      have d3 : wr.cell? ⟨b, off + k * 3 + 2, none⟩ = some (.int .i64 (c0 + 3 * (k : Int) + 2)) := (hb.cell hbb).trans (by rw [c3, marks3_3 hlt])
      clear c1 c2 c3
      generalize hcc : c0 + 3 * (k : Int) = c at *
      have HC := hid hcc
      have cb1 : 0 ≤ c := by omega
      have cb2 : c ≤ 200000000 := by omega
      clear hcc hb
      go_wp2
      go_roundw
      case rel => exact ⟨k + 1, by omega, by go_num, by (have := HC.out; first | rfl | (congr 1; omega)), HB.out⟩
      case measure => simp [intOf]; omega
    · have hkl : k = n := by omega
      subst hkl
      go_wp2
      go_ret
      exact ⟨rfl, HB.out⟩

end Go.Proofs.Ytmgphagahdepfaa
