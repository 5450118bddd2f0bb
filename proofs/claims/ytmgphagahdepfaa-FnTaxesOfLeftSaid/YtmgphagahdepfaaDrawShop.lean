/- Contracts of the generator of shops. -/
import Derived.Test.YtmgphagahdepfaaDrw
import Derived.Test.YtmgphagahdepfaaSl34
import Derived.Deep.RegionHeld3
namespace Go.Proofs.Ytmgphagahdepfaa
open Go.RowKit

theorem infoArticleD : (Try.prog.info? 60).map (fun i => (i.zero, i.size, i.bytes)) = some (some (.agg #[.int .i64 0, .int .i64 0, .int .i64 0, .int .i64 0]), 4, 32) := by kernel_rfl
/-- Prices that a generator gives. -/
def shopB (l : List (Int × Int × Int × Int)) : Prop := ∀ x ∈ l, 0 ≤ x.1 ∧ x.1 ≤ 5001
theorem shopB_nil : shopB [] := fun x hx => by simp at hx
theorem shopB_push {l : List (Int × Int × Int × Int)} (h : shopB l) {p a b c : Int} (hp : 0 ≤ p ∧ p ≤ 5001) : shopB (l ++ [(p, a, b, c)]) := fun x hx => by
  rcases List.mem_append.1 hx with h1 | h1
  · exact h x h1
  · simp at h1; subst h1; exact hp
theorem shopB_set {l : List (Int × Int × Int × Int)} (h : shopB l) {i : Nat} {p a b c : Int} (hp : 0 ≤ p ∧ p ≤ 5001) : shopB (l.set i (p, a, b, c)) := fun x hx => by
  rcases List.mem_or_eq_of_mem_set hx with h1 | h1
  · exact h x h1
  · subst h1; exact hp
theorem shopB_at {l : List (Int × Int × Int × Int)} (h : shopB l) {k : Nat} (hk : k < l.length) : 0 ≤ q1 l k ∧ q1 l k ≤ 5001 := by
  have := h l[k] (List.getElem_mem hk)
  rwa [q_eq hk] at this
/-- Some shop. -/
def ShopPost (w : World) (B R M lo : Nat) (e : Ending) (w' : World) : Prop :=
  ∃ (l : List (Int × Int × Int × Int)) (v : Value), e = .returned v ∧ lo ≤ l.length ∧ l.length ≤ 10 ∧ shopB l ∧ Own enc4 4 60 w' w.heap.size v l ∧ Rdr w' B R M ∧ w.grownBy w' (some R)
def SomeShopRel (w : World) (B R N : Nat) (v n : Value) (wr : World) : Prop :=
  ∃ (o : List (Int × Int × Int × Int)) (k : Int), 0 ≤ k ∧ n = .int .i64 k ∧ o.length + k ≤ 10 ∧ 1 ≤ o.length + k ∧ shopB o ∧ Own enc4 4 60 wr w.heap.size v o ∧ Rdr wr B R (N + 1 + 4 * o.length) ∧ w.grownBy wr (some R)

set_option maxHeartbeats 1600000 in
theorem someShop_any (w : World) (B R N : Nat) (h : Rdr w B R N) (hN : N ≤ 900000) :
    Calls Try.prog 66 #[.pointer (some ⟨R, 0, none⟩)] w (ShopPost w B R (N + 41) 1) := by
  have hR := h.lt
  have hRB := hR.1
  have hRw := hR.2
  clear hR
  have h0 := h.alloc (.cells #[] 60)
  have O0 := Own.lit0 enc4 4 60 w w.heap.size rfl (Nat.le_refl _)
  go_enter Try.func66, Try.ntmps66
  go_wp2_with fail
  refine (one_any [4, 6, 3, 8, 1, 10] _ _ _ _ _ _ _ h0 (by omega) (by simp) rfl (by simp) rfl (by simp)).mono ?_
  rintro e w2 ⟨n, rfl, hm, h2, g2⟩
  simp at hm
  have n1 : 1 ≤ n := by omega
  have n2 : n ≤ 10 := by omega
  clear hm
  have O2 := O0.grown g2 (O0.off hRw)
  have G2 := hid (only_trans (only_alloc (only_refl (w := w) (row := some R)) _) g2)
  clear g2 O0 h0 h
  go_wp2_with fail
  go_loopw [3, 4] (fun v n wr => SomeShopRel w B R N v n wr) (fun _ n _ => (intOf n).toNat)
  case atStart => exact ⟨[], n, by omega, rfl, by simp; omega, by simp; omega, shopB_nil, O2, h2, G2.out⟩
  case round =>
    clear O2 h2 G2
    obtain ⟨o, k, k0, rfl, e3, e4, hsb, ho, hr, hg⟩ := hrel
    have HG := hid hg
    have HSB := hid hsb
    clear hg hsb
    by_cases hk : 0 < k
    · have hr0 := hr.lt
      go_wp2_with fail
      refine (one_any [100, 250, 333, 1000, 1, 5000, 799] _ _ _ _ _ _ _ hr (by omega) rfl rfl (by simp) rfl (by simp)).mono ?_
      rintro e w3 ⟨m1, rfl, hm1, h3, g3⟩
      simp at hm1
      have HM := hid (show 0 ≤ m1 ∧ m1 ≤ 5001 by omega)
      have O3 := ho.grown g3 (ho.off hRw)
      have G3 := only_trans HG.out g3
      clear g3 ho hr hm1
      go_wp2_with fail
      refine (pick_any _ _ _ _ _ h3 (by omega)).mono ?_
      rintro e w4 ⟨m2, rfl, _, _, _, h4, g4⟩
      have O4 := O3.grown g4 (O3.off hRw)
      have G4 := only_trans G3 g4
      clear g4 O3 h3 G3
      go_wp2_with fail
      refine (one_any [190, 70, 0, 300, 190] _ _ _ _ _ _ _ h4 (by omega) rfl rfl (by simp) rfl (by simp)).mono ?_
      rintro e w5 ⟨m3, rfl, _, h5, g5⟩
      have O5 := O4.grown g5 (O4.off hRw)
      have G5 := only_trans G4 g5
      clear g5 O4 h4 G4
      go_wp2_with fail
      refine (one_any [100, 500, 0, 2000, 5000] _ _ _ _ _ _ _ h5 (by omega) rfl rfl (by simp) rfl (by simp)).mono ?_
      rintro e w6 ⟨m4, rfl, _, h6, g6⟩
      have O6 := O5.grown g6 (O5.off hRw)
      have G6 := hid (only_trans G5 g6)
      have z6 := G6.out.size
      clear g6 O5 h5 G5
      go_wp2_with (at_builtin; refine wpList_push len4 one4 rfl (.tmp 13) (.tmp 26) _ rfl Try.underlying23 infoArticleD rfl (by omega) (by omega) rfl O6 (m1, m2, m3, m4) (by simp) rfl rfl (by (try simp) <;> omega) (by (try simp) <;> omega) ?_)
      intro v7 w7 ho7 hg7 _
      have h7 := (h6.alloc (.cells #[.int .i64 m1, .int .i64 m2, .int .i64 m3, .int .i64 m4] 60)).row O6 hRw (by omega) hg7
      have G7 := hid (only_row (only_alloc G6.out (.cells #[.int .i64 m1, .int .i64 m2, .int .i64 m3, .int .i64 m4] 60)) O6 (Nat.le_refl _) hg7)
      clear hg7 O6 h6
      go_wp2
      go_roundw
      case rel => exact ⟨o ++ [(m1, m2, m3, m4)], k - 1, by omega, rfl, by simp; omega, by simp; omega, shopB_push HSB.out HM.out, ho7, h7.more (by simp; omega), G7.out⟩
      case measure => simp [intOf]; omega
    · have hk0 : k = 0 := by omega
      subst hk0
      clear k0 hk
      go_wp2
      go_ret
      exact ⟨o, _, rfl, by omega, by omega, HSB.out, ho, hr.more (by omega), HG.out⟩

set_option maxHeartbeats 1600000 in
theorem anyShop_any (w : World) (B R N : Nat) (h : Rdr w B R N) (hN : N ≤ 800000) :
    Calls Try.prog 61 #[.pointer (some ⟨R, 0, none⟩)] w (ShopPost w B R (N + 46) 0) := by
  have hR := h.lt
  have hRB := hR.1
  have hRw := hR.2
  clear hR
  go_enter Try.func61, Try.ntmps61
  go_wp2_with fail
  refine (someShop_any _ _ _ _ h (by omega)).mono ?_
  rintro e w1 ⟨o, v, rfl, l1, l10, hsb, O1, h1, g1⟩
  have HSB := hid hsb
  have G1 := hid g1
  have z1 := g1.size
  clear g1 hsb h
  go_wp2_with fail
  refine (pick_any _ _ _ _ _ h1 (by omega)).mono ?_
  rintro e w2 ⟨m, rfl, m1, _, _, h2, g2⟩
  have O2 := O1.grown g2 (O1.off hRw)
  have G2 := hid (only_trans G1.out g2)
  clear g2 O1 h1 G1
  by_cases hz : m = 0
  · subst hz
    clear m1
    go_wp2_with fail
    refine (one_any [0, 5001, 1] _ _ _ _ _ _ _ h2 (by omega) rfl rfl (by simp) rfl (by simp)).mono ?_
    rintro e w3 ⟨a1, rfl, ha1, h3, g3⟩
    simp at ha1
    have HM := hid (show 0 ≤ a1 ∧ a1 ≤ 5001 by omega)
    have O3 := O2.grown g3 (O2.off hRw)
    have G3 := only_trans G2.out g3
    clear g3 O2 h2 ha1
    go_wp2_with fail
    refine (one_any [0, 3, -1] _ _ _ _ _ _ _ h3 (by omega) rfl rfl (by simp) rfl (by simp)).mono ?_
    rintro e w4 ⟨a2, rfl, _, h4, g4⟩
    have O4 := O3.grown g4 (O3.off hRw)
    have G4 := only_trans G3 g4
    clear g4 O3 h3 G3
    go_wp2_with fail
    refine (one_any [0, 301] _ _ _ _ _ _ _ h4 (by omega) rfl rfl (by simp) rfl (by simp)).mono ?_
    rintro e w5 ⟨a3, rfl, _, h5, g5⟩
    have O5 := O4.grown g5 (O4.off hRw)
    have G5 := only_trans G4 g5
    clear g5 O4 h4 G4
    go_wp2_with fail
    refine (one_any [0, 5001] _ _ _ _ _ _ _ h5 (by omega) rfl rfl (by simp) rfl (by simp)).mono ?_
    rintro e w6 ⟨a4, rfl, _, h6, g6⟩
    have O6 := O5.grown g6 (O5.off hRw)
    have G6 := hid (only_trans G5 g6)
    clear g6 O5 h5 G5
    obtain ⟨g, cap', rfl, hg1, hg2⟩ : ∃ g cap', v = .slice (some ⟨g, 0, none⟩) o.length cap' ∧ w.heap.size ≤ g ∧ g < w6.heap.size := by
      rcases O6.form with ⟨_, h0⟩ | ⟨g, cap', h1, h2, h3, _, _⟩
      · subst h0; simp at l1
      · exact ⟨g, cap', h1, h2, h3⟩
    have ol : 0 < o.length := by omega
    have HK := hid (show o[0]? = some (q1 o 0, q2 o 0, q3 o 0, q4 o 0) from q_get ol)
    have e0 := O6.cell len4 rfl HK.out (j := 0) rfl
    have e1 := O6.cell len4 rfl HK.out (j := 1) rfl
    have e2 := O6.cell len4 rfl HK.out (j := 2) rfl
    have e3 := O6.cell len4 rfl HK.out (j := 3) rfl
    simp only [Nat.zero_mul, Nat.zero_add] at e0 e1 e2 e3
    have ef := O6.frozen rfl
    have o7 := O6.store len4 rfl HK.out (j := 0) (a' := (a1, q2 o 0, q3 o 0, q4 o 0)) (by omega) (u := .int .i64 a1) rfl
    have o8 := o7.store len4 (by rw [List.length_set]) (i := 0) (j := 1) (a := (a1, q2 o 0, q3 o 0, q4 o 0)) (a' := (a1, a2, q3 o 0, q4 o 0)) (u := .int .i64 a2) (by rw [List.getElem?_set_self ol]) (by omega) rfl
    rw [List.set_set] at o8
    have o9 := o8.store len4 (by rw [List.length_set]) (i := 0) (j := 2) (a := (a1, a2, q3 o 0, q4 o 0)) (a' := (a1, a2, a3, q4 o 0)) (u := .int .i64 a3) (by rw [List.getElem?_set_self ol]) (by omega) rfl
    rw [List.set_set] at o9
    have o10 := o9.store len4 (by rw [List.length_set]) (i := 0) (j := 3) (a := (a1, a2, a3, q4 o 0)) (a' := (a1, a2, a3, a4)) (u := .int .i64 a4) (by rw [List.getElem?_set_self ol]) (by omega) rfl
    rw [List.set_set] at o10
    simp only [Nat.zero_mul, Nat.zero_add] at o10
    have O9 := hid o10
    have H9 := hid ((((h6.setCell (p := ⟨g, 0, none⟩) (by simp; omega) (by simp; omega) (.int .i64 a1)).setCell (p := ⟨g, 1, none⟩) (by simp; omega) (by simp; omega) (.int .i64 a2)).setCell (p := ⟨g, 2, none⟩) (by simp; omega) (by simp; omega) (.int .i64 a3)).setCell (p := ⟨g, 3, none⟩) (by simp; omega) (by simp; omega) (.int .i64 a4))
    have G9 := hid (only_setCell (only_setCell (only_setCell (only_setCell G6.out (p := ⟨g, 0, none⟩) (.inr hg1) (.int .i64 a1)) (p := ⟨g, 1, none⟩) (.inr hg1) (.int .i64 a2)) (p := ⟨g, 2, none⟩) (.inr hg1) (.int .i64 a3)) (p := ⟨g, 3, none⟩) (.inr hg1) (.int .i64 a4))
    clear O6 o7 o8 o9 o10 h6
    go_wp2
    go_ret
    refine ⟨o.set 0 (a1, a2, a3, a4), _, rfl, by omega, by rw [List.length_set]; omega, shopB_set HSB.out HM.out, ?_, H9.out.more (by omega), G9.out⟩
    have := O9.out
    exact this
  · by_cases hz1 : m = 1
    · subst hz1
      clear m1 hz
      go_wp2
      go_ret
      exact ⟨[], _, rfl, by omega, by simp, shopB_nil, Own.nil_ .., h2.more (by omega), G2.out⟩
    · go_wp2
      go_ret
      exact ⟨o, _, rfl, by omega, by omega, HSB.out, O2, h2.more (by omega), G2.out⟩

end Go.Proofs.Ytmgphagahdepfaa
