/- Contract: the sum of a slice of numbers. -/
import Derived.Test.YtcjcolkhhmpmjaaNum
import Derived.Test.YtcjcolkhhmpmjaaTillC
namespace Go.Proofs.Ytcjcolkhhmpmjaa
open Go.RowKit

theorem isum_take {l : List Int} (h : ∀ x ∈ l, 0 ≤ x ∧ x ≤ 1000) : ∀ k : Nat, 0 ≤ isum (l.take k) ∧ isum (l.take k) ≤ 1000 * l.length := by
  have key : ∀ m : List Int, (∀ x ∈ m, 0 ≤ x ∧ x ≤ 1000) → 0 ≤ isum m ∧ isum m ≤ 1000 * m.length := by
    intro m
    induction m with
    | nil => simp [isum]
    | cons x r ih =>
      intro hm
      have h1 := hm x (by simp)
      have h2 := ih (fun y hy => hm y (by simp [hy]))
      simp only [isum, List.length_cons]
      omega
  intro k
  have h1 := key (l.take k) (fun x hx => h x (List.mem_of_mem_take hx))
  have h2 : (l.take k).length ≤ l.length := by rw [List.length_take]; omega
  omega

set_option maxHeartbeats 800000 in
theorem sum_any (l : List Int) (A : Option Addr) (cap : Nat) (w : World) (h : Sl enc1 1 w w.heap.size A l) (hl : l.length ≤ 1000) (hx : ∀ x ∈ l, 0 ≤ x ∧ x ≤ 1000) :
    Calls Try.prog 27 #[.slice A l.length cap] w fun e w' => e = .returned (.int .i64 (isum l)) ∧ w = w' := by
  have HX := hid hx
  clear hx
  go_enter Try.func27, Try.ntmps27
  go_wp2_with fail
  go_loop [3, 4] (fun n i => ∃ k : Nat, k ≤ l.length ∧ i = .int .i64 k ∧ n = .int .i64 (isum (l.take k))) (fun _ i => l.length - (intOf i).toNat)
  case atStart => exact ⟨0, Nat.zero_le _, rfl, rfl⟩
  case round =>
    obtain ⟨k, hk, rfl, rfl⟩ := hrel
    by_cases hlt : k < l.length
    · obtain ⟨b, off, rfl, hbb, c1⟩ := h.get1 hlt
      have hst := isum_step hlt
      have hb1 := isum_take HX.out k
      have hb2 := HX.out _ (List.getElem_mem hlt)
      rw [g0_eq hlt] at hb2
      obtain ⟨x, hx⟩ : ∃ x, g0 l k = x := ⟨_, rfl⟩
      obtain ⟨S, hS⟩ : ∃ x, isum (l.take k) = x := ⟨_, rfl⟩
      rw [hx] at c1 hst hb2
      rw [hS] at hst hb1 ⊢
      have HST := hid hst
      obtain ⟨y1, y2⟩ := hb1
      obtain ⟨y3, y4⟩ := hb2
      clear hst hx hS
      go_wp2
      go_round
      case rel => exact ⟨k + 1, by omega, by go_num, by rw [HST.out]⟩
      case measure => simp [intOf]; omega
    · have hkl : k = l.length := by omega
      subst hkl
      rw [List.take_length]
      go_wp2
      go_ret
      exact ⟨rfl, rfl⟩

end Go.Proofs.Ytcjcolkhhmpmjaa
