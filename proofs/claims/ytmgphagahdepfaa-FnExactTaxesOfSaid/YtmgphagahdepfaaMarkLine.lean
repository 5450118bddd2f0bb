/- Contracts: slices of Line marked, and the marks read again. -/
import Derived.Test.YtmgphagahdepfaaNum
import Derived.Test.YtmgphagahdepfaaApp
import Derived.Test.YtmgphagahdepfaaMarks
import Derived.Deep.RegionHeld3
namespace Go.Proofs.Ytmgphagahdepfaa
open Go.RowKit

def MarkLineRel (w : World) (base : Nat) (v : Value) (l : List (Int × Int)) (c0 : Int) (i kv : Value) (wr : World) : Prop :=
  ∃ (k : Nat) (o : List (Int × Int)), k ≤ l.length ∧ i = .int .i64 k ∧ kv = .int .i64 (c0 + 2 * (k : Int)) ∧ o = marks2 c0 k ++ l.drop k ∧ Own enc2 2 58 wr base v o ∧ w.grownBy wr v.ownBlock
def MarkLinePost (w : World) (base : Nat) (v : Value) (l : List (Int × Int)) (c0 : Int) (e : Ending) (w' : World) : Prop :=
  e = .returned (.int .i64 (c0 + 2 * (l.length : Int))) ∧ Own enc2 2 58 w' base v (marks2 c0 l.length) ∧ w.grownBy w' v.ownBlock

set_option maxHeartbeats 1600000 in
theorem markLineS_any (l : List (Int × Int)) (n : Nat) (A : Option Addr) (cap : Nat) (w : World) (base : Nat) (c0 : Int) (hn : n = l.length) (h : Own enc2 2 58 w base (.slice A n cap) l) (hl : l.length ≤ 1048576) (h0 : 0 ≤ c0) (h1 : c0 ≤ 100000000) :
    Calls Try.prog 26 #[.slice A n cap, .int .i64 c0] w (MarkLinePost w base (.slice A n cap) l c0) := by
  subst hn
  rcases h.form with ⟨hv, hl0⟩ | ⟨g, cap', hv, hg1, hg2, hlc, hcm⟩
  · obtain ⟨rfl, _, rfl⟩ : A = none ∧ l.length = 0 ∧ cap = 0 := by simpa using hv
    subst hl0
    have H := hid h
    clear h hv hl
    go_enter Try.func26, Try.ntmps26
    go_wp2_with fail
    go_loopw [5, 1] (fun i kv wr => i = .int .i64 0 ∧ kv = .int .i64 c0 ∧ wr = w) (fun _ _ _ => 0)
    case atStart => exact ⟨rfl, rfl, rfl⟩
    case round =>
      obtain ⟨rfl, rfl, rfl⟩ := hrel
      go_wp2
      go_ret
      exact ⟨ret_int (by simp), H.out, only_refl⟩
  · obtain ⟨rfl, _, rfl⟩ : A = some ⟨g, 0, none⟩ ∧ l.length = l.length ∧ cap = cap' := by simpa using hv
    have hcap := hcm
    clear hv hcm
    go_enter Try.func26, Try.ntmps26
    go_wp2_with fail
    go_loopw [5, 1] (fun i kv wr => MarkLineRel w base (.slice (some ⟨g, 0, none⟩) l.length cap) l c0 i kv wr) (fun i _ _ => l.length - (intOf i).toNat)
    case atStart => exact ⟨0, l, Nat.zero_le _, rfl, by simp, by simp [marks2], h, only_refl⟩
    case round =>
      obtain ⟨k, o, hk, rfl, rfl, hoe, ho, hg⟩ := hrel
      have HG := hid hg
      have hol : l.length = o.length := by rw [hoe]; simp [marks2_len]; omega
      have HOE := hid hoe
      have HOL := hid hol
      clear hg hoe hol
      by_cases hlt : k < l.length
      · have HK := hid (show o[k]? = some (g1 l k, g2 l k) by rw [HOE.out]; exact marks2_get hlt)
        have HT := hid (show o.set k ((c0 + 2 * (k : Int), c0 + 2 * (k : Int) + 1)) = marks2 c0 (k + 1) ++ l.drop (k + 1) by rw [HOE.out, marks2_set hlt])
        have e0 := ho.cell len2 HOL.out HK.out (j := 0) rfl
        have e1 := ho.cell len2 HOL.out HK.out (j := 1) rfl
        rw [Nat.add_zero] at e0
        have ef := ho.frozen HOL.out
        have hC := HT
        clear hC
        generalize hcc : c0 + 2 * (k : Int) = c at *
        have HC := hid hcc
        have cb1 : 0 ≤ c := by omega
        have cb2 : c ≤ 200000000 := by omega
        clear hcc
        have ho6 := ho.store len2 HOL.out HK.out (j := 0) (a' := (c, g2 l k)) (by omega) (u := .int .i64 (c)) rfl
        have ho7 := ho6.store len2 (by (try simp only [List.length_set]); exact HOL.out) (i := k) (j := 1) (a := (c, g2 l k)) (a' := (c, c + 1)) (u := .int .i64 (c + 1)) (by rw [List.getElem?_set_self (by (try simp only [List.length_set]); have := HOL.out; omega)]) (by omega) rfl
        simp only [List.set_set] at ho7
        rw [HT.out] at ho7
        rw [Nat.add_zero] at ho7
        have HO7 := hid ho7
        have D7 := hid (only_setCell (only_setCell HG.out (p := ⟨g, k * 2, none⟩) (.inl rfl) (.int .i64 (c))) (p := ⟨g, k * 2 + 1, none⟩) (.inl rfl) (.int .i64 (c + 1)))
        clear ho ho6 ho7
        go_wp2
        go_roundw
        case rel => exact ⟨k + 1, _, by omega, by go_num, by (have := HC.out; first | rfl | (congr 1; omega)), rfl, HO7.out, D7.out⟩
        case measure => simp [intOf]; omega
      · have hkl : k = l.length := by omega
        subst hkl
        have HL := hid (show o = marks2 c0 l.length by rw [HOE.out]; simp)
        go_wp2
        go_ret
        exact ⟨rfl, by rw [← HL.out]; exact ho, HG.out⟩

end Go.Proofs.Ytmgphagahdepfaa
