/- Contracts of the generator of lots of points. -/
import Derived.Test.YtdnfhpgiphobgaaDrw
import Derived.Deep.RegionHeld3
namespace Go.Proofs.Ytdnfhpgiphobgaa
open Go.RowKit

theorem infoLotD : (Try.prog.info? 33).map (fun i => (i.zero, i.size, i.bytes)) = some (some (.agg #[.int .i64 0, .int .i64 0]), 2, 16) := by kernel_rfl

/-- Some lots. -/
def LotsPost (w : World) (B R M c : Nat) (e : Ending) (w' : World) : Prop :=
  ∃ (l : List (Int × Int)) (v : Value), e = .returned v ∧ l.length ≤ c ∧ (∀ x ∈ l, 0 ≤ x.2 ∧ x.2 ≤ 50001) ∧ Own enc2 2 33 w' w.heap.size v l ∧ Rdr w' B R M ∧ w.grownBy w' (some R)
def SomeLotsRel (w : World) (B R N : Nat) (v d n : Value) (wr : World) : Prop :=
  ∃ (o : List (Int × Int)) (dd k : Int), 0 ≤ k ∧ n = .int .i64 k ∧ d = .int .i64 dd ∧ 0 ≤ dd ∧ dd ≤ 20 + 41 * o.length ∧ o.length + k ≤ 8 ∧ (∀ x ∈ o, 0 ≤ x.2 ∧ x.2 ≤ 50001) ∧
    Own enc2 2 33 wr w.heap.size v o ∧ Rdr wr B R (N + 2 + 2 * o.length) ∧ w.grownBy wr (some R)

set_option maxHeartbeats 1600000 in
theorem someLots_any (w : World) (B R N : Nat) (h : Rdr w B R N) (hN : N ≤ 900000) :
    Calls Try.prog 36 #[.pointer (some ⟨R, 0, none⟩)] w (LotsPost w B R (N + 20) 8) := by
  have hR := h.lt
  have hRB := hR.1
  have hRw := hR.2
  clear hR
  have h0 := h.alloc (.cells #[] 33)
  have O0 := Own.lit0 enc2 2 33 w w.heap.size rfl (Nat.le_refl _)
  go_enter Try.func36, Try.ntmps36
  go_wp2_with fail
  refine (pick_any _ _ _ _ _ h0 (by omega)).mono ?_
  rintro e w1 ⟨d, rfl, d1, d2, _, h1, g1⟩
  have d3 := d2 (by omega)
  clear d2
  have O1 := O0.grown g1 (O0.off hRw)
  have G1 := only_trans (only_alloc (only_refl (w := w) (row := some R)) _) g1
  clear g1 O0 h0 h
  go_wp2_with fail
  refine (one_any [2, 3, 4, 1, 0, 8] _ _ _ _ _ _ _ h1 (by omega) rfl rfl (by simp) rfl (by simp)).mono ?_
  rintro e w2 ⟨n, rfl, hm, h2, g2⟩
  simp at hm
  have n1 : 0 ≤ n := by omega
  have n2 : n ≤ 8 := by omega
  clear hm
  have O2 := O1.grown g2 (O1.off hRw)
  have G2 := hid (only_trans G1 g2)
  clear g2 O1 h1 G1
  go_wp2_with fail
  go_loopw [3, 4, 5] (fun v d n wr => SomeLotsRel w B R N v d n wr) (fun _ _ n _ => (intOf n).toNat)
  case atStart => exact ⟨[], d, n, n1, rfl, rfl, d1, by simp; omega, by simp; omega, by simp, O2, h2, G2.out⟩
  case round =>
    clear O2 h2 G2
    obtain ⟨o, dd, k, k0, rfl, rfl, e1, e2, e3, hx, ho, hr, hg⟩ := hrel
    have HG := hid hg
    have HX := hid hx
    clear hg hx
    by_cases hk : 0 < k
    · have hr0 := hr.lt
      go_wp2_with fail
      refine (one_any [10, 100, 1, 50000, 25] _ _ _ _ _ _ _ hr (by omega) rfl rfl (by simp) rfl (by simp)).mono ?_
      rintro e w3 ⟨m, rfl, hm, h3, g3⟩
      have HM := hid hm
      clear hm
      have O3 := ho.grown g3 (ho.off hRw)
      have G3 := hid (only_trans HG.out g3)
      have z3 := G3.out.size
      clear g3 ho hr
      go_wp2_with (at_builtin; refine wpList_push len2 one2 rfl (.tmp 16) (.tmp 22) _ rfl Try.underlying23 infoLotD rfl (by omega) (by omega) rfl (O3) ⟨dd, m⟩ (by simp) rfl rfl (by (try simp) <;> omega) (by (try simp) <;> omega) ?_)
      intro v4 w4 ho4 hg4 _
      have h4 := (h3.alloc (.cells #[.int .i64 dd, .int .i64 m] 33)).row O3 hRw (by omega) hg4
      have G4 := hid (only_row (only_alloc G3.out (.cells #[.int .i64 dd, .int .i64 m] 33)) O3 (Nat.le_refl _) hg4)
      clear hg4 O3 h3
      go_wp2_with fail
      refine (pick_any _ _ _ _ _ h4 (by omega)).mono ?_
      rintro e w5 ⟨q, rfl, q1, q2, _, h5, g5⟩
      have q3 := q2 (by omega)
      clear q2
      have O5 := ho4.grown g5 (ho4.off hRw)
      have G5 := hid (only_trans G4.out g5)
      clear g5 ho4 h4
      go_wp2
      go_roundw
      case rel =>
        refine ⟨o ++ [(dd, m)], _, k - 1, by omega, rfl, rfl, by omega, by simp; omega, by simp; omega, ?_, O5, h5.more (by simp; omega), G5.out⟩
        have hm := HM.out
        simp at hm
        intro x hx
        rcases List.mem_append.1 hx with hx | hx
        · exact HX.out x hx
        · simp at hx; subst hx; dsimp only; omega
      case measure => simp [intOf]; omega
    · have hk0 : k = 0 := by omega
      subst hk0
      go_wp2
      go_ret
      exact ⟨o, u3, rfl, by omega, HX.out, ho, hr.more (by omega), HG.out⟩

set_option maxHeartbeats 1600000 in
theorem anyLots_any (w : World) (B R N : Nat) (h : Rdr w B R N) (hN : N ≤ 900000) :
    Calls Try.prog 26 #[.pointer (some ⟨R, 0, none⟩)] w (LotsPost w B R (N + 24) 9) := by
  have hR := h.lt
  have hRB := hR.1
  have hRw := hR.2
  clear hR
  go_enter Try.func26, Try.ntmps26
  go_wp2_with fail
  refine (someLots_any _ _ _ _ h hN).mono ?_
  rintro e w1 ⟨l, v, rfl, hl, hx, O1, h1, g1⟩
  have HX := hid hx
  clear hx
  go_wp2_with fail
  refine (pick_any _ _ _ _ _ h1 (by omega)).mono ?_
  rintro e w2 ⟨m, rfl, m1, _, _, h2, g2⟩
  have O2 := O1.grown g2 (O1.off hRw)
  have G2 := hid (only_trans g1 g2)
  clear g1 g2 O1 h1
  by_cases hz : m = 0
  · subst hz
    clear m1
    go_wp2_with fail
    refine (one_any [0, 999, 1000] _ _ _ _ _ _ _ h2 (by omega) rfl rfl (by simp) rfl (by simp)).mono ?_
    rintro e w3 ⟨d, rfl, _, h3, g3⟩
    go_wp2_with fail
    refine (one_any [0, 1, 50001] _ _ _ _ _ _ _ h3 (by omega) rfl rfl (by simp) rfl (by simp)).mono ?_
    rintro e w4 ⟨p, rfl, hp, h4, g4⟩
    have HP := hid hp
    have O4 := (O2.grown g3 (O2.off hRw)).grown g4 ((O2.grown g3 (O2.off hRw)).off hRw)
    have G4 := hid (only_trans (only_trans G2.out g3) g4)
    have z4 := G4.out.size
    clear hp g3 g4 O2 h2 h3
    go_wp2_with (at_builtin; refine wpList_push len2 one2 rfl (.tmp 9) (.tmp 17) _ rfl Try.underlying23 infoLotD rfl (by omega) (by omega) rfl (O4) ⟨d, p⟩ (by simp) rfl rfl (by (try simp) <;> omega) (by (try simp) <;> omega) ?_)
    intro v5 w5 ho5 hg5 _
    have h5 := hid ((h4.alloc (.cells #[.int .i64 d, .int .i64 p] 33)).row O4 hRw (by omega) hg5)
    have G5 := hid (only_row (only_alloc G4.out (.cells #[.int .i64 d, .int .i64 p] 33)) O4 (Nat.le_refl _) hg5)
    clear hg5 O4 h4
    go_wp2
    go_ret
    refine ⟨l ++ [(d, p)], v5, rfl, by simp; omega, ?_, ho5, h5.out.more (by omega), G5.out⟩
    have hp := HP.out
    simp at hp
    intro x hx
    rcases List.mem_append.1 hx with hx | hx
    · exact HX.out x hx
    · simp at hx; subst hx; dsimp only; omega
  · go_wp2
    go_ret
    exact ⟨l, v, rfl, by omega, HX.out, O2, h2.more (by omega), G2.out⟩

end Go.Proofs.Ytdnfhpgiphobgaa
