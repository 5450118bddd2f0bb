/- Contract: the sum of what is left. -/
import Derived.Test.YtmgphagahdepfaaTaxN
namespace Go.Proofs.Ytmgphagahdepfaa
open Go.RowKit

set_option maxHeartbeats 800000 in
theorem sumT_any (l : List Int) (A : Option Addr) (cap : Nat) (w : World) (h : Sl enc1 1 w w.heap.size A l) (hl : l.length ≤ 1000) (hx : ∀ k, k < l.length → 0 ≤ g0 l k ∧ g0 l k ≤ 100000) :
    Calls Try.prog 14 #[.slice A l.length cap] w fun e w' => e = .returned (.int .i64 (tot (g0 l) l.length)) ∧ w = w' := by
  have HX := hid hx
  clear hx
  go_enter Try.func14, Try.ntmps14
  go_wp2_with fail
  go_loop [3, 4] (fun n i => ∃ k : Nat, k ≤ l.length ∧ i = .int .i64 k ∧ n = .int .i64 (tot (g0 l) k)) (fun _ i => l.length - (intOf i).toNat)
  case atStart => exact ⟨0, Nat.zero_le _, rfl, rfl⟩
  case round =>
    obtain ⟨k, hk, rfl, rfl⟩ := hrel
    have hb := tot_bd (lf := g0 l) (b := 100000) k (fun i hi => HX.out i (by omega))
    obtain ⟨T, hT⟩ : ∃ x, tot (g0 l) k = x := ⟨_, rfl⟩
    rw [hT] at hb ⊢
    have HT := hid hT
    clear hT
    by_cases hlt : k < l.length
    · obtain ⟨b, off, rfl, hbb, c1⟩ := h.get1 hlt
      have hb2 := HX.out _ hlt
      obtain ⟨x, hx⟩ : ∃ x, g0 l k = x := ⟨_, rfl⟩
      rw [hx] at c1 hb2
      have HST := hid (show tot (g0 l) (k + 1) = T + x by unfold tot; rw [HT.out, hx])
      obtain ⟨y1, y2⟩ := hb
      obtain ⟨y3, y4⟩ := hb2
      clear hx
      go_wp2
      go_round
      case rel => exact ⟨k + 1, by omega, by go_num, by rw [HST.out]⟩
      case measure => simp [intOf]; omega
    · have hkl : k = l.length := by omega
      subst hkl
      have HE := hid (show T = tot (g0 l) l.length from HT.out.symm)
      go_wp2
      go_ret
      exact ⟨ret_int HE.out, rfl⟩

end Go.Proofs.Ytmgphagahdepfaa
