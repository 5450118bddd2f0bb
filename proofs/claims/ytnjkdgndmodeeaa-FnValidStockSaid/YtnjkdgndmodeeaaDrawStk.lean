/- Contracts of the generator of stocks. -/
import Derived.Test.YtnjkdgndmodeeaaDrw
import Derived.Deep.RegionHeld3
namespace Go.Proofs.Ytnjkdgndmodeeaa
open Go.RowKit

theorem infoStockD : (Try.prog.info? 34).map (fun i => (i.zero, i.size, i.bytes)) = some (some (.agg #[.int .i64 0, .int .i64 0]), 2, 16) := by kernel_rfl
/-- Some stock. -/
def StockPost (w : World) (B R M : Nat) (e : Ending) (w' : World) : Prop :=
  ∃ (l : List (Int × Int)) (v : Value), e = .returned v ∧ 1 ≤ l.length ∧ l.length ≤ 10 ∧ Own enc2 2 34 w' w.heap.size v l ∧ Rdr w' B R M ∧ w.grownBy w' (some R)
def AnyStockRel (w : World) (B R N : Nat) (v n : Value) (wr : World) : Prop :=
  ∃ (o : List (Int × Int)) (k : Int), 0 ≤ k ∧ n = .int .i64 k ∧ o.length + k ≤ 10 ∧ 1 ≤ o.length + k ∧ Own enc2 2 34 wr w.heap.size v o ∧ Rdr wr B R (N + 1 + 2 * o.length) ∧ w.grownBy wr (some R)

set_option maxHeartbeats 1600000 in
theorem anyStock_any (w : World) (B R N : Nat) (h : Rdr w B R N) (hN : N ≤ 900000) :
    Calls Try.prog 11 #[.pointer (some ⟨R, 0, none⟩)] w (StockPost w B R (N + 30)) := by
  have hR := h.lt
  have hRB := hR.1
  have hRw := hR.2
  clear hR
  have h0 := h.alloc (.cells #[] 34)
  have O0 := Own.lit0 enc2 2 34 w w.heap.size rfl (Nat.le_refl _)
  go_enter Try.func11, Try.ntmps11
  go_wp2_with fail
  refine (one_any [4, 6, 3, 1, 10] _ _ _ _ _ _ _ h0 (by omega) (by simp) rfl (by simp) rfl (by simp)).mono ?_
  rintro e w2 ⟨n, rfl, hm, h2, g2⟩
  simp at hm
  have n1 : 1 ≤ n := by omega
  have n2 : n ≤ 10 := by omega
  clear hm
  have O2 := O0.grown g2 (O0.off hRw)
  have G2 := hid (only_trans (only_alloc (only_refl (w := w) (row := some R)) _) g2)
  clear g2 O0 h0 h
  go_wp2_with fail
  go_loopw [3, 4] (fun v n wr => AnyStockRel w B R N v n wr) (fun _ n _ => (intOf n).toNat)
  case atStart => exact ⟨[], n, by omega, rfl, by simp; omega, by simp; omega, O2, h2, G2.out⟩
  case round =>
    clear O2 h2 G2
    obtain ⟨o, k, k0, rfl, e3, e4, ho, hr, hg⟩ := hrel
    have HG := hid hg
    clear hg
    by_cases hk : 0 < k
    · have hr0 := hr.lt
      go_wp2_with fail
      refine (one_any [5, 0, 20, 100, 3] _ _ _ _ _ _ _ hr (by omega) rfl rfl (by simp) rfl (by simp)).mono ?_
      rintro e w3 ⟨m, rfl, _, h3, g3⟩
      have O3 := ho.grown g3 (ho.off hRw)
      have G3 := only_trans HG.out g3
      clear g3 ho hr
      go_wp2_with fail
      refine (one_any [0, 5, 20, 3, 100] _ _ _ _ _ _ _ h3 (by omega) rfl rfl (by simp) rfl (by simp)).mono ?_
      rintro e w4 ⟨m', rfl, _, h4, g4⟩
      have O4 := O3.grown g4 (O3.off hRw)
      have G4 := hid (only_trans G3 g4)
      have z4 := G4.out.size
      clear g4 O3 h3 G3
      go_wp2_with (at_builtin; refine wpList_push len2 one2 rfl (.tmp 13) (.tmp 21) _ rfl Try.underlying23 infoStockD rfl (by omega) (by omega) rfl (O4) ⟨m, m'⟩ (by simp) rfl rfl (by (try simp) <;> omega) (by (try simp) <;> omega) ?_)
      intro v5 w5 ho5 hg5 _
      have h5 := (h4.alloc (.cells #[.int .i64 m, .int .i64 m'] 34)).row O4 hRw (by omega) hg5
      have G5 := hid (only_row (only_alloc G4.out (.cells #[.int .i64 m, .int .i64 m'] 34)) O4 (Nat.le_refl _) hg5)
      clear hg5 O4 h4
      go_wp2
      go_roundw
      case rel => exact ⟨o ++ [(m, m')], k - 1, by omega, rfl, by simp; omega, by simp; omega, ho5, h5.more (by simp; omega), G5.out⟩
      case measure => simp [intOf]; omega
    · have hk0 : k = 0 := by omega
      subst hk0
      clear k0 hk
      go_wp2_with fail
      refine (pick_any _ _ _ _ _ hr (by omega)).mono ?_
      rintro e w6 ⟨m, rfl, m1, _, _, h6, g6⟩
      have O6 := ho.grown g6 (ho.off hRw)
      have G6 := hid (only_trans HG.out g6)
      clear g6 ho hr
      by_cases hz : m = 0
      · subst hz
        clear m1
        go_wp2_with fail
        refine (one_any [-1, 101] _ _ _ _ _ _ _ h6 (by omega) rfl rfl (by simp) rfl (by simp)).mono ?_
        rintro e w7 ⟨m', rfl, _, h7, g7⟩
        have O7 := O6.grown g7 (O6.off hRw)
        have G7 := hid (only_trans G6.out g7)
        clear g7 O6 h6
        obtain ⟨g, cap', rfl, hg1, hg2⟩ : ∃ g cap', u3 = .slice (some ⟨g, 0, none⟩) o.length cap' ∧ w.heap.size ≤ g ∧ g < w7.heap.size := by
          rcases O7.form with ⟨_, h0⟩ | ⟨g, cap', h1, h2, h3, _, _⟩
          · subst h0; simp at e4
          · exact ⟨g, cap', h1, h2, h3⟩
        have ol : 0 < o.length := by omega
        have HK := hid (show o[0]? = some (g1 o 0, g2 o 0) from g12_get ol)
        have e0 := O7.cell len2 rfl HK.out (j := 0) rfl
        have e1 := O7.cell len2 rfl HK.out (j := 1) rfl
        simp only [Nat.zero_mul, Nat.zero_add] at e0 e1
        have ef := O7.frozen rfl
        have o8 := O7.store len2 rfl HK.out (j := 0) (a' := (m', g2 o 0)) (by omega) (u := .int .i64 m') rfl
        have o9 := o8.store len2 (by rw [List.length_set]) (i := 0) (j := 1) (a := (m', g2 o 0)) (a' := (m', 0)) (u := .int .i64 0) (by rw [List.getElem?_set_self ol]) (by omega) rfl
        simp only [Nat.zero_mul, Nat.zero_add, List.set_set] at o9
        have O9 := hid o9
        have H9 := hid (((h7.setCell (p := ⟨g, 0, none⟩) (by simp; omega) (by simp; omega) (.int .i64 m')).setCell (p := ⟨g, 1, none⟩) (by simp; omega) (by simp; omega) (.int .i64 0)))
        have G9 := hid (only_setCell (only_setCell G7.out (p := ⟨g, 0, none⟩) (.inr hg1) (.int .i64 m')) (p := ⟨g, 1, none⟩) (.inr hg1) (.int .i64 0))
        clear O7 o8 o9 h7
        go_wp2
        go_ret
        refine ⟨o.set 0 (m', 0), _, rfl, by rw [List.length_set]; omega, by rw [List.length_set]; omega, ?_, H9.out.more (by omega), G9.out⟩
        have := O9.out
        exact this
      · go_wp2
        go_ret
        exact ⟨o, _, rfl, by omega, by omega, O6, h6.more (by omega), G6.out⟩

end Go.Proofs.Ytnjkdgndmodeeaa
