/- Contracts of the generator of shops. -/
import Derived.Test.YtkgofklpogdpmaaGreatZD
import Derived.Test.YtkgofklpogdpmaaGreatZB
import Derived.Deep.RegionHeld3
import Derived.Test.YtkgofklpogdpmaaGreatZC
import Derived.Test.YtkgofklpogdpmaaGreatZE
namespace Go.Proofs.YtkgofklpogdpmaaGreat
open Go.RowKit

theorem infoArticleD : (Tryz.prog.info? 85).map (fun i => (i.zero, i.size, i.bytes)) = some (some (.agg #[.int .i64 0, .int .i64 0, .int .i64 0, .int .i64 0]), 4, 32) := by kernel_rfl
/-- Prices that a generator gives. -/
def shopB (l : List (Int × Int × Int × Int)) : Prop := ∀ x ∈ l, 0 ≤ x.1 ∧ x.1 ≤ 5001
theorem shopB_nil : shopB [] := fun x hx => by simp at hx
theorem shopB_push {l : List (Int × Int × Int × Int)} (h : shopB l) {p a b c : Int} (hp : 0 ≤ p ∧ p ≤ 5001) : shopB (l ++ [(p, a, b, c)]) := fun x hx => by
  rcases List.mem_append.1 hx with h1 | h1
  · exact h x h1
  · simp at h1; subst h1; exact hp
theorem shopB_set {l : List (Int × Int × Int × Int)} (h : shopB l) {i : Nat} {p a b c : Int} (hp : 0 ≤ p ∧ p ≤ 5001) : shopB (l.set i (p, a, b, c)) := fun x hx => by
  rcases List.mem_or_eq_of_mem_set hx with h1 | h1
  · exact h x h1
  · subst h1; exact hp
theorem shopB_at {l : List (Int × Int × Int × Int)} (h : shopB l) {k : Nat} (hk : k < l.length) : 0 ≤ q1 l k ∧ q1 l k ≤ 5001 := by
  have := h l[k] (List.getElem_mem hk)
  rwa [q_eq hk] at this
/-- Some shop. -/
def ShopPost (w : World) (B R M lo : Nat) (e : Ending) (w' : World) : Prop :=
  ∃ (l : List (Int × Int × Int × Int)) (v : Value), e = .returned v ∧ lo ≤ l.length ∧ l.length ≤ 10 ∧ shopB l ∧ Own enc4 4 85 w' w.heap.size v l ∧ Rdr w' B R M ∧ w.grownBy w' (some R)
def SomeShopRel (w : World) (B R N : Nat) (v n : Value) (wr : World) : Prop :=
  ∃ (o : List (Int × Int × Int × Int)) (k : Int), 0 ≤ k ∧ n = .int .i64 k ∧ o.length + k ≤ 10 ∧ 1 ≤ o.length + k ∧ shopB o ∧ Own enc4 4 85 wr w.heap.size v o ∧ Rdr wr B R (N + 1 + 4 * o.length) ∧ w.grownBy wr (some R)

set_option maxHeartbeats 1600000 in
theorem someShop_any (w : World) (B R N : Nat) (h : Rdr w B R N) (hN : N ≤ 900000) :
    Calls Tryz.prog 90 #[.pointer (some ⟨R, 0, none⟩)] w (ShopPost w B R (N + 41) 1) := by
  have hR := h.lt
  have hRB := hR.1
  have hRw := hR.2
  clear hR
  have h0 := h.alloc (.cells #[] 85)
  have O0 := Own.lit0 enc4 4 85 w w.heap.size rfl (Nat.le_refl _)
  go_enter Tryz.func90, Tryz.ntmps90
  go_wp2_with fail
  refine (one_any [4, 6, 3, 8, 1, 10] _ _ _ _ _ _ _ h0 (by omega) (by simp) rfl (by simp) rfl (by simp)).mono ?_
  rintro e w2 ⟨n, rfl, hm, h2, g2⟩
  simp at hm
  have n1 : 1 ≤ n := by omega
  have n2 : n ≤ 10 := by omega
  clear hm
  have O2 := O0.grown g2 (O0.off hRw)
  have G2 := hid (only_trans (only_alloc (only_refl (w := w) (row := some R)) _) g2)
  clear g2 O0 h0 h
  go_wp2_with fail
  go_loopw [3, 4] (fun v n wr => SomeShopRel w B R N v n wr) (fun _ n _ => (intOf n).toNat)
  case atStart => exact ⟨[], n, by omega, rfl, by simp; omega, by simp; omega, shopB_nil, O2, h2, G2.out⟩
  case round =>
    clear O2 h2 G2
    obtain ⟨o, k, k0, rfl, e3, e4, hsb, ho, hr, hg⟩ := hrel
    have HG := hid hg
    have HSB := hid hsb
    clear hg hsb
    by_cases hk : 0 < k
    · have hr0 := hr.lt
      go_wp2_with fail
      refine (one_any [100, 250, 333, 1000, 1, 5000, 799] _ _ _ _ _ _ _ hr (by omega) rfl rfl (by simp) rfl (by simp)).mono ?_
      rintro e w3 ⟨m1, rfl, hm1, h3, g3⟩
      simp at hm1
      have HM := hid (show 0 ≤ m1 ∧ m1 ≤ 5001 by omega)
      have O3 := ho.grown g3 (ho.off hRw)
      have G3 := only_trans HG.out g3
      clear g3 ho hr hm1
      go_wp2_with fail
      refine (pick_any _ _ _ _ _ h3 (by omega)).mono ?_
      rintro e w4 ⟨m2, rfl, _, _, _, h4, g4⟩
      have O4 := O3.grown g4 (O3.off hRw)
      have G4 := only_trans G3 g4
      clear g4 O3 h3 G3
      go_wp2_with fail
      refine (one_any [190, 70, 0, 300, 190] _ _ _ _ _ _ _ h4 (by omega) rfl rfl (by simp) rfl (by simp)).mono ?_
      rintro e w5 ⟨m3, rfl, _, h5, g5⟩
      have O5 := O4.grown g5 (O4.off hRw)
      have G5 := only_trans G4 g5
      clear g5 O4 h4 G4
      go_wp2_with fail
      refine (one_any [100, 500, 0, 2000, 5000] _ _ _ _ _ _ _ h5 (by omega) rfl rfl (by simp) rfl (by simp)).mono ?_
      rintro e w6 ⟨m4, rfl, _, h6, g6⟩
      have O6 := O5.grown g6 (O5.off hRw)
      have G6 := hid (only_trans G5 g6)
      have z6 := G6.out.size
      clear g6 O5 h5 G5
      go_wp2_with (at_builtin; refine wpList_push len4 one4 rfl (.tmp 13) (.tmp 26) _ rfl Tryz.underlying23 infoArticleD rfl (by omega) (by omega) rfl O6 (m1, m2, m3, m4) (by simp) rfl rfl (by (try simp) <;> omega) (by (try simp) <;> omega) ?_)
      intro v7 w7 ho7 hg7 _
      have h7 := (h6.alloc (.cells #[.int .i64 m1, .int .i64 m2, .int .i64 m3, .int .i64 m4] 85)).row O6 hRw (by omega) hg7
      have G7 := hid (only_row (only_alloc G6.out (.cells #[.int .i64 m1, .int .i64 m2, .int .i64 m3, .int .i64 m4] 85)) O6 (Nat.le_refl _) hg7)
      clear hg7 O6 h6
      go_wp2
      go_roundw
      case rel => exact ⟨o ++ [(m1, m2, m3, m4)], k - 1, by omega, rfl, by simp; omega, by simp; omega, shopB_push HSB.out HM.out, ho7, h7.more (by simp; omega), G7.out⟩
      case measure => simp [intOf]; omega
    · have hk0 : k = 0 := by omega
      subst hk0
      clear k0 hk
      go_wp2
      go_ret
      exact ⟨o, _, rfl, by omega, by omega, HSB.out, ho, hr.more (by omega), HG.out⟩

set_option maxHeartbeats 1600000 in
theorem anyShop_any (w : World) (B R N : Nat) (h : Rdr w B R N) (hN : N ≤ 800000) :
    Calls Tryz.prog 66 #[.pointer (some ⟨R, 0, none⟩)] w (ShopPost w B R (N + 46) 0) := by
  have hR := h.lt
  have hRB := hR.1
  have hRw := hR.2
  clear hR
  go_enter Tryz.func66, Tryz.ntmps66
  go_wp2_with fail
  refine (someShop_any _ _ _ _ h (by omega)).mono ?_
  rintro e w1 ⟨o, v, rfl, l1, l10, hsb, O1, h1, g1⟩
  have HSB := hid hsb
  have G1 := hid g1
  have z1 := g1.size
  clear g1 hsb h
  go_wp2_with fail
  refine (pick_any _ _ _ _ _ h1 (by omega)).mono ?_
  rintro e w2 ⟨m, rfl, m1, _, _, h2, g2⟩
  have O2 := O1.grown g2 (O1.off hRw)
  have G2 := hid (only_trans G1.out g2)
  clear g2 O1 h1 G1
  by_cases hz : m = 0
  · subst hz
    clear m1
    go_wp2_with fail
    refine (one_any [0, 5001, 1] _ _ _ _ _ _ _ h2 (by omega) rfl rfl (by simp) rfl (by simp)).mono ?_
    rintro e w3 ⟨a1, rfl, ha1, h3, g3⟩
    simp at ha1
    have HM := hid (show 0 ≤ a1 ∧ a1 ≤ 5001 by omega)
    have O3 := O2.grown g3 (O2.off hRw)
    have G3 := only_trans G2.out g3
    clear g3 O2 h2 ha1
    go_wp2_with fail
    refine (one_any [0, 3, -1] _ _ _ _ _ _ _ h3 (by omega) rfl rfl (by simp) rfl (by simp)).mono ?_
    rintro e w4 ⟨a2, rfl, _, h4, g4⟩
    have O4 := O3.grown g4 (O3.off hRw)
    have G4 := only_trans G3 g4
    clear g4 O3 h3 G3
    go_wp2_with fail
    refine (one_any [0, 301] _ _ _ _ _ _ _ h4 (by omega) rfl rfl (by simp) rfl (by simp)).mono ?_
    rintro e w5 ⟨a3, rfl, _, h5, g5⟩
    have O5 := O4.grown g5 (O4.off hRw)
    have G5 := only_trans G4 g5
    clear g5 O4 h4 G4
    go_wp2_with fail
    refine (one_any [0, 5001] _ _ _ _ _ _ _ h5 (by omega) rfl rfl (by simp) rfl (by simp)).mono ?_
    rintro e w6 ⟨a4, rfl, _, h6, g6⟩
    have O6 := O5.grown g6 (O5.off hRw)
    have G6 := hid (only_trans G5 g6)
    clear g6 O5 h5 G5
    obtain ⟨g, cap', rfl, hg1, hg2⟩ : ∃ g cap', v = .slice (some ⟨g, 0, none⟩) o.length cap' ∧ w.heap.size ≤ g ∧ g < w6.heap.size := by
      rcases O6.form with ⟨_, h0⟩ | ⟨g, cap', h1, h2, h3, _, _⟩
      · subst h0; simp at l1
      · exact ⟨g, cap', h1, h2, h3⟩
    have ol : 0 < o.length := by omega
    have HK := hid (show o[0]? = some (q1 o 0, q2 o 0, q3 o 0, q4 o 0) from q_get ol)
    have e0 := O6.cell len4 rfl HK.out (j := 0) rfl
    have e1 := O6.cell len4 rfl HK.out (j := 1) rfl
    have e2 := O6.cell len4 rfl HK.out (j := 2) rfl
    have e3 := O6.cell len4 rfl HK.out (j := 3) rfl
    simp only [Nat.zero_mul, Nat.zero_add] at e0 e1 e2 e3
    have ef := O6.frozen rfl
    have o7 := O6.store len4 rfl HK.out (j := 0) (a' := (a1, q2 o 0, q3 o 0, q4 o 0)) (by omega) (u := .int .i64 a1) rfl
    have o8 := o7.store len4 (by rw [List.length_set]) (i := 0) (j := 1) (a := (a1, q2 o 0, q3 o 0, q4 o 0)) (a' := (a1, a2, q3 o 0, q4 o 0)) (u := .int .i64 a2) (by rw [List.getElem?_set_self ol]) (by omega) rfl
    rw [List.set_set] at o8
    have o9 := o8.store len4 (by rw [List.length_set]) (i := 0) (j := 2) (a := (a1, a2, q3 o 0, q4 o 0)) (a' := (a1, a2, a3, q4 o 0)) (u := .int .i64 a3) (by rw [List.getElem?_set_self ol]) (by omega) rfl
    rw [List.set_set] at o9
    have o10 := o9.store len4 (by rw [List.length_set]) (i := 0) (j := 3) (a := (a1, a2, a3, q4 o 0)) (a' := (a1, a2, a3, a4)) (u := .int .i64 a4) (by rw [List.getElem?_set_self ol]) (by omega) rfl
    rw [List.set_set] at o10
    simp only [Nat.zero_mul, Nat.zero_add] at o10
    have O9 := hid o10
    have H9 := hid ((((h6.setCell (p := ⟨g, 0, none⟩) (by simp; omega) (by simp; omega) (.int .i64 a1)).setCell (p := ⟨g, 1, none⟩) (by simp; omega) (by simp; omega) (.int .i64 a2)).setCell (p := ⟨g, 2, none⟩) (by simp; omega) (by simp; omega) (.int .i64 a3)).setCell (p := ⟨g, 3, none⟩) (by simp; omega) (by simp; omega) (.int .i64 a4))
    have G9 := hid (only_setCell (only_setCell (only_setCell (only_setCell G6.out (p := ⟨g, 0, none⟩) (.inr hg1) (.int .i64 a1)) (p := ⟨g, 1, none⟩) (.inr hg1) (.int .i64 a2)) (p := ⟨g, 2, none⟩) (.inr hg1) (.int .i64 a3)) (p := ⟨g, 3, none⟩) (.inr hg1) (.int .i64 a4))
    clear O6 o7 o8 o9 o10 h6
    go_wp2
    go_ret
    refine ⟨o.set 0 (a1, a2, a3, a4), _, rfl, by omega, by rw [List.length_set]; omega, shopB_set HSB.out HM.out, ?_, H9.out.more (by omega), G9.out⟩
    have := O9.out
    exact this
  · by_cases hz1 : m = 1
    · subst hz1
      clear m1 hz
      go_wp2
      go_ret
      exact ⟨[], _, rfl, by omega, by simp, shopB_nil, Own.nil_ .., h2.more (by omega), G2.out⟩
    · go_wp2
      go_ret
      exact ⟨o, _, rfl, by omega, by omega, HSB.out, O2, h2.more (by omega), G2.out⟩

end Go.Proofs.YtkgofklpogdpmaaGreat

/- Contracts of the generator of shops and carts. -/
namespace Go.Proofs.YtkgofklpogdpmaaGreat
open Go.RowKit

theorem infoLineD : (Tryz.prog.info? 83).map (fun i => (i.zero, i.size, i.bytes)) = some (some (.agg #[.int .i64 0, .int .i64 0]), 2, 16) := by kernel_rfl
/-- Counts that a generator gives. -/
def cartB (l : List (Int × Int)) : Prop := ∀ x ∈ l, (-1 ≤ x.1 ∧ x.1 ≤ 10) ∧ 0 ≤ x.2 ∧ x.2 ≤ 21
theorem cartB_nil : cartB [] := fun x hx => by simp at hx
theorem cartB_push {l : List (Int × Int)} (h : cartB l) {a q : Int} (ha : -1 ≤ a ∧ a ≤ 10) (hq : 0 ≤ q ∧ q ≤ 21) : cartB (l ++ [(a, q)]) := fun x hx => by
  rcases List.mem_append.1 hx with h1 | h1
  · exact h x h1
  · simp at h1; subst h1; exact ⟨ha, hq⟩
theorem cartB_set {l : List (Int × Int)} (h : cartB l) {i : Nat} {a q : Int} (ha : -1 ≤ a ∧ a ≤ 10) (hq : 0 ≤ q ∧ q ≤ 21) : cartB (l.set i (a, q)) := fun x hx => by
  rcases List.mem_or_eq_of_mem_set hx with h1 | h1
  · exact h x h1
  · subst h1; exact ⟨ha, hq⟩
theorem cartB_at {l : List (Int × Int)} (h : cartB l) {k : Nat} (hk : k < l.length) : (-1 ≤ g1 l k ∧ g1 l k ≤ 10) ∧ 0 ≤ g2 l k ∧ g2 l k ≤ 21 := by
  have := h l[k] (List.getElem_mem hk)
  rwa [g12_eq hk] at this
def CartPost (w : World) (B R M : Nat) (e : Ending) (w' : World) : Prop :=
  ∃ (c : List (Int × Int)) (v : Value), e = .returned v ∧ c.length ≤ 8 ∧ cartB c ∧ Own enc2 2 83 w' w.heap.size v c ∧ Rdr w' B R M ∧ w.grownBy w' (some R)
def CartRel (w : World) (B R N n : Nat) (u i : Value) (wr : World) : Prop :=
  ∃ (k : Nat) (c : List (Int × Int)), k ≤ n ∧ i = .int .i64 k ∧ c.length ≤ 8 ∧ cartB c ∧ Own enc2 2 83 wr w.heap.size u c ∧ Rdr wr B R (N + 2 * k) ∧ w.grownBy wr (some R)

set_option maxHeartbeats 1600000 in
theorem someCart_any (w : World) (B R N : Nat) (A : Option Addr) (n cap : Nat) (h : Rdr w B R N) (hN : N ≤ 800000) (hn : n ≤ 10) :
    Calls Tryz.prog 67 #[.pointer (some ⟨R, 0, none⟩), .slice A n cap] w (CartPost w B R (N + 20)) := by
  have hR := h.lt
  have hRB := hR.1
  have hRw := hR.2
  clear hR
  have h0 := h.alloc (.cells #[] 83)
  have O0 := Own.lit0 enc2 2 83 w w.heap.size rfl (Nat.le_refl _)
  have G0 := hid (only_alloc (only_refl (w := w) (row := some R)) (.cells #[] 83))
  clear h
  go_enter Tryz.func67, Tryz.ntmps67
  go_wp2_with fail
  go_loopw [5, 6] (fun u i wr => CartRel w B R N n u i wr) (fun _ i _ => n - (intOf i).toNat)
  case atStart => exact ⟨0, [], Nat.zero_le _, rfl, by simp, cartB_nil, O0, h0, G0.out⟩
  case round =>
    clear O0 h0 G0
    obtain ⟨k, c, hk, rfl, hc8, hcb, hp, hr, hg⟩ := hrel
    have HG := hid hg
    have HCB := hid hcb
    clear hg hcb
    obtain ⟨C, cc, rfl, _, _⟩ := hp.reads len2
    by_cases hgo : k < n ∧ c.length < 8
    · obtain ⟨hlt, h8⟩ := hgo
      go_wp2_with fail
      refine (pick_any _ _ _ _ _ hr (by omega)).mono ?_
      rintro e w3 ⟨m, rfl, m1, _, _, h3, g3⟩
      have P3 := hp.grown g3 (hp.off hRw)
      have G3 := hid (only_trans HG.out g3)
      clear g3 hp hr
      by_cases hz : 0 < m
      · clear m1
        go_wp2_with fail
        refine (one_any [1, 2, 3, 5, 20, 4] _ _ _ _ _ _ _ h3 (by omega) rfl rfl (by simp) rfl (by simp)).mono ?_
        rintro e w4 ⟨m', rfl, hm', h4, g4⟩
        simp at hm'
        have HM := hid (show 0 ≤ m' ∧ m' ≤ 21 by omega)
        have P4 := P3.grown g4 (P3.off hRw)
        have G4 := hid (only_trans G3.out g4)
        have z4 := G4.out.size
        clear g4 P3 h3 hm'
        go_wp2_with (at_builtin; refine wpList_push len2 one2 rfl (.tmp 22) (.tmp 28) _ rfl Tryz.underlying24 infoLineD rfl (by omega) (by omega) rfl (P4) ⟨k, m'⟩ (by simp) rfl rfl (by (try simp) <;> omega) (by (try simp) <;> omega) ?_)
        intro v5 w5 ho5 hg5 _
        have h5 := (h4.alloc (.cells #[.int .i64 (k : Int), .int .i64 m'] 83)).row P4 hRw (by omega) hg5
        have G5 := hid (only_row (only_alloc G4.out (.cells #[.int .i64 (k : Int), .int .i64 m'] 83)) P4 (Nat.le_refl _) hg5)
        clear hg5 P4 h4
        go_wp2
        go_roundw
        case rel => exact ⟨k + 1, c ++ [((k : Int), m')], by omega, by go_num, by simp; omega, cartB_push HCB.out (by omega) HM.out, ho5, h5.more (by omega), G5.out⟩
        case measure => simp [intOf]; omega
      · go_wp2
        go_roundw
        case rel => exact ⟨k + 1, c, by omega, by go_num, by omega, HCB.out, P3, h3.more (by omega), G3.out⟩
        case measure => simp [intOf]; omega
    · have hends : ¬ k < n ∨ (k < n ∧ ¬ c.length < 8) := by omega
      clear hgo
      rcases hends with hlt | ⟨hlt, h8⟩
      all_goals
        go_wp2
        go_ret
        exact ⟨c, _, rfl, by omega, HCB.out, hp, hr.more (by omega), HG.out⟩

/-- Some shop and some cart. -/
def BasketPost (w : World) (B R M : Nat) (e : Ending) (w' : World) : Prop :=
  ∃ (l : List (Int × Int × Int × Int)) (v : Value) (c : List (Int × Int)) (u : Value), e = .returned (.tuple #[v, u]) ∧ l.length ≤ 10 ∧ c.length ≤ 9 ∧ shopB l ∧ cartB c ∧ Own enc4 4 85 w' w.heap.size v l ∧ Own enc2 2 83 w' w.heap.size u c ∧ Rdr w' B R M ∧ w.grownBy w' (some R)

set_option maxHeartbeats 1600000 in
theorem anyBasket_any (w : World) (B R N : Nat) (h : Rdr w B R N) (hN : N ≤ 700000) :
    Calls Tryz.prog 29 #[.pointer (some ⟨R, 0, none⟩)] w (BasketPost w B R (N + 70)) := by
  have hR := h.lt
  have hRB := hR.1
  have hRw := hR.2
  clear hR
  go_enter Tryz.func29, Tryz.ntmps29
  go_wp2_with fail
  refine (anyShop_any _ _ _ _ h (by omega)).mono ?_
  rintro e w1 ⟨l, v, rfl, _, l10, hsb, O1, h1, g1⟩
  obtain ⟨A1, c1, rfl, _, _⟩ := O1.reads len4
  have HSB := hid hsb
  have HL := hid O1
  have z1 := g1.size
  have hRw1 : R < w1.heap.size := by omega
  have G1 := hid g1
  clear g1 hsb h
  go_wp2_with fail
  refine (someCart_any _ _ _ _ A1 l.length c1 h1 (by omega) (by omega)).mono ?_
  rintro e w2 ⟨c, u, rfl, hc8, hcb, P2, h2, g2⟩
  obtain ⟨C2, cc2, rfl, _, _⟩ := P2.reads len2
  have HCB := hid hcb
  have O2 := O1.grown g2 (O1.off hRw)
  have z2 : w1.heap.size ≤ w2.heap.size := g2.size
  have G2 := hid (only_trans G1.out g2)
  clear g2 O1 h1 G1 hcb
  go_wp2_with fail
  refine (pick_any _ _ _ _ _ h2 (by omega)).mono ?_
  rintro e w3 ⟨m, rfl, m1, _, _, h3, g3⟩
  have O3 := O2.grown g3 (O2.off hRw)
  have P3 := P2.grown g3 (P2.off hRw1)
  have z3 : w1.heap.size ≤ w3.heap.size := by have := g3.size; omega
  have G3 := hid (only_trans G2.out g3)
  clear g3 O2 P2 h2 G2
  by_cases hz : m = 0
  · subst hz
    clear m1
    go_wp2_with fail
    refine (one_any [0, 10, -1] _ _ _ _ _ _ _ h3 (by omega) rfl rfl (by simp) rfl (by simp)).mono ?_
    rintro e w4 ⟨a, rfl, ha, h4, g4⟩
    simp at ha
    have HM := hid (show -1 ≤ a ∧ a ≤ 10 by omega)
    have O4 := O3.grown g4 (O3.off hRw)
    have P4 := P3.grown g4 (P3.off hRw1)
    have G4 := hid (only_trans G3.out g4)
    have z4 : w1.heap.size ≤ w4.heap.size := by have := g4.size; omega
    clear g4 O3 P3 h3 ha
    go_wp2_with (at_builtin; refine wpList_push len2 one2 rfl (.tmp 15) (.tmp 20) _ rfl Tryz.underlying24 infoLineD rfl (by omega) (by omega) rfl (P4) ⟨a, 1⟩ (by simp) rfl rfl (by (try simp) <;> omega) (by (try simp) <;> omega) ?_)
    intro v6 w6 ho6 hg6 _
    have h6 := hid ((h4.alloc (.cells #[.int .i64 a, .int .i64 1] 83)).row P4 hRw1 (by omega) hg6)
    have G6 := hid (only_row (only_alloc G4.out (.cells #[.int .i64 a, .int .i64 1] 83)) P4 z1 hg6)
    have O6 := (O4.alloc (.cells #[.int .i64 a, .int .i64 1] 83)).grown hg6 (HL.out.apart P4 (.inl (Nat.le_refl _)))
    clear hg6 O4 P4 h4
    go_wp2
    go_ret2
    exact ⟨l, _, c ++ [(a, 1)], v6, rfl, by omega, by simp; omega, HSB.out, cartB_push HCB.out HM.out (by omega), O6, ho6.less z1, h6.out.more (by omega), G6.out⟩
  · by_cases hz1 : m = 1
    · subst hz1
      clear m1 hz
      by_cases hcl : 0 < c.length
      · go_wp2_with fail
        refine (one_any [0, 21, 20] _ _ _ _ _ _ _ h3 (by omega) rfl rfl (by simp) rfl (by simp)).mono ?_
        rintro e w4 ⟨q, rfl, hq, h4, g4⟩
        simp at hq
        have HM := hid (show 0 ≤ q ∧ q ≤ 21 by omega)
        have O4 := O3.grown g4 (O3.off hRw)
        have P4 := P3.grown g4 (P3.off hRw1)
        have G4 := hid (only_trans G3.out g4)
        have HP := hid (show (Value.slice C2 c.length cc2).ownBlock = some R → False from fun he => P4.off' hRw1 he)
        clear g4 O3 P3 h3 hq
        obtain ⟨g, cap', hv, hg1, hg2⟩ : ∃ g cap', Value.slice C2 c.length cc2 = .slice (some ⟨g, 0, none⟩) c.length cap' ∧ w1.heap.size ≤ g ∧ g < w4.heap.size := by
          rcases P4.form with ⟨_, h0⟩ | ⟨g, cap', h1, h2, h3, _, _⟩
          · subst h0; simp at hcl
          · exact ⟨g, cap', h1, h2, h3⟩
        obtain ⟨rfl, _, rfl⟩ : C2 = some ⟨g, 0, none⟩ ∧ c.length = c.length ∧ cc2 = cap' := by simpa using hv
        have HK := hid (show c[0]? = some (g1 c 0, g2 c 0) from g12_get hcl)
        have e0 := P4.cell len2 rfl HK.out (j := 0) rfl
        have e1 := P4.cell len2 rfl HK.out (j := 1) rfl
        simp only [Nat.zero_mul, Nat.zero_add] at e0 e1
        have ef := P4.frozen rfl
        have o8 := P4.store len2 rfl HK.out (j := 1) (a' := (g1 c 0, q)) (by omega) (u := .int .i64 q) rfl
        simp only [Nat.zero_mul, Nat.zero_add] at o8
        have HA0 := hid (cartB_at HCB.out hcl).1
        have O9 := hid o8
        have O5 := hid (O4.far (p := ⟨g, 1, none⟩) (fun he => by have := (HL.out.lt g he).2; omega) (.int .i64 q))
        have H9 := hid (h4.setCell (p := ⟨g, 1, none⟩) (by simp; omega) (by simp; omega) (.int .i64 q))
        have G9 := hid (only_setCell G4.out (p := ⟨g, 1, none⟩) (.inr (by simp; omega)) (.int .i64 q))
        clear P4 o8 h4 hv O4
        go_wp2
        go_ret2
        exact ⟨l, _, c.set 0 (g1 c 0, q), _, rfl, by omega, by rw [List.length_set]; omega, HSB.out, cartB_set HCB.out HA0.out HM.out, O5.out, by have := O9.out; exact this.less z1, H9.out.more (by omega), G9.out⟩
      · go_wp2
        go_ret2
        exact ⟨l, _, c, _, rfl, by omega, by omega, HSB.out, HCB.out, O3, P3.less z1, h3.more (by omega), G3.out⟩
    · go_wp2
      go_ret2
      exact ⟨l, _, c, _, rfl, by omega, by omega, HSB.out, HCB.out, O3, P3.less z1, h3.more (by omega), G3.out⟩

end Go.Proofs.YtkgofklpogdpmaaGreat

/- Contracts of the generator of what is left, and of lists of numbers that may be spoilt. -/
namespace Go.Proofs.YtkgofklpogdpmaaGreat
open Go.RowKit

def CopyIntsPost (w : World) (l : List Int) (e : Ending) (w' : World) : Prop :=
  ∃ v, e = .returned v ∧ Own enc1 1 3 w' w.heap.size v l ∧ Below w.heap.size w w'

set_option maxHeartbeats 800000 in
theorem copyInts_any (l : List Int) (A : Option Addr) (cap : Nat) (w : World) (h : Sl enc1 1 w w.heap.size A l) (hl : l.length ≤ 1048576) :
    Calls Tryz.prog 69 #[.slice A l.length cap] w (CopyIntsPost w l) := by
  have O0 := Own.lit0 enc1 1 3 w w.heap.size rfl (Nat.le_refl _)
  have D0 := hid ((Below.refl w.heap.size w).alloc (Nat.le_refl _) (.cells #[] 3))
  go_enter Tryz.func69, Tryz.ntmps69
  go_wp2_with (at_builtin; refine wpList_pushAny len1 one1 rfl (.tmp 3) (.tmp 4) _ rfl Tryz.underlying25 infoInt rfl (by omega) (by omega) rfl O0 (m := l) rfl rfl (h.alloc (Nat.le_refl _) _) (by simp; omega) (by simp) ?_)
  intro v1 w1 h1 hg1
  have D1 := hid (below_row D0.out O0 (Nat.le_refl _) (by simp) hg1)
  have h2 : Own enc1 1 3 w1 w.heap.size v1 l := by simpa using h1
  clear hg1 h1 O0
  go_wp2
  go_ret
  exact ⟨_, rfl, h2, D1.out⟩

def SpoilPost (w : World) (B R M n : Nat) (e : Ending) (w' : World) : Prop :=
  ∃ (m : List Int) (A : Option Addr) (cap : Nat), e = .returned (.slice A m.length cap) ∧ m.length ≤ n ∧ Sl enc1 1 w' w'.heap.size A m ∧ Rdr w' B R M ∧ w.grownBy w' (some R)

set_option maxHeartbeats 1600000 in
theorem spoil_any (l : List Int) (n : Int) (A : Option Addr) (cap : Nat) (w : World) (B R N : Nat) (h : Rdr w B R N) (hN : N ≤ 900000) (hA : Sl enc1 1 w w.heap.size A l) (hl : l.length ≤ 1000) :
    Calls Tryz.prog 32 #[.pointer (some ⟨R, 0, none⟩), .slice A l.length cap, .int .i64 n] w (SpoilPost w B R (N + 3) (l.length + 1)) := by
  have hR := h.lt
  have hRB := hR.1
  have hRw := hR.2
  clear hR
  go_enter Tryz.func32, Tryz.ntmps32
  go_wp2_with fail
  refine (copyInts_any l A cap _ hA (by omega)).mono ?_
  rintro e w1 ⟨v, rfl, O1, b1⟩
  obtain ⟨A1, c1, rfl, hc1, _⟩ := O1.reads len1
  have h1 := h.below b1 hRw
  have G1 := hid (only_of_below b1 (Nat.le_refl _) (row := some R))
  have z1 := b1.size
  clear b1 h hA
  go_wp2_with fail
  refine (pick_any _ _ _ _ _ h1 (by omega)).mono ?_
  rintro e w2 ⟨m, rfl, m1, _, _, h2, g2⟩
  have O2 := O1.grown g2 (O1.off hRw)
  have G2 := hid (only_trans G1.out g2)
  have z2 : w.heap.size ≤ w2.heap.size := G2.out.size
  clear g2 O1 h1 G1
  by_cases hz : m = 0
  · subst hz
    clear m1
    go_wp2_with (at_builtin; refine wpList_push len1 one1 rfl (.tmp 14) (.tmp 16) _ rfl Tryz.underlying25 infoInt rfl (by omega) (by omega) rfl O2 n (by simp) rfl rfl (by (try simp) <;> omega) (by (try simp) <;> omega) ?_)
    intro v3 w3 ho3 hg3 _
    have h3 := hid ((h2.alloc (.cells #[.int .i64 n] 3)).row O2 hRw (by omega) hg3)
    have G3 := hid (only_row (only_alloc G2.out (.cells #[.int .i64 n] 3)) O2 (Nat.le_refl _) hg3)
    obtain ⟨A3, c3, rfl, _, S3⟩ := ho3.reads len1
    have HS := hid S3
    clear hg3 O2 h2 ho3 S3
    go_wp2
    go_ret
    exact ⟨l ++ [n], A3, c3, rfl, by simp, HS.out, h3.out.more (by omega), G3.out⟩
  · have hz1 : m = 1 ∨ m = 2 ∨ (m ≠ 1 ∧ m ≠ 2) := by omega
    rcases hz1 with rfl | rfl | ⟨hm1, hm2⟩
    · clear m1 hz
      have HS := hid (O2.sl len1)
      by_cases hcl : 0 < l.length
      · have HD := hid (fun hk => Sl.drop HS.out (k := 1) (cap := c1) hc1 hk)
        have HLN := hid (show (l.drop 1).length = l.length - 1 by simp)
        have hc : c1 = 1 ∨ c1 ≠ 1 := by omega
        have HH := hid h2
        have HS0 := hid O2
        clear O2 h2
        rcases hc with hc | hc
        · have HE := hid hc
          clear hc
          have hne : l.length = 1 := by have := HE.out; omega
          go_wp2
          go_ret
          exact ⟨[], A1, 0, rfl, by simp, Sl.nil .., HH.out.more (by omega), G2.out⟩
        · obtain ⟨g, rfl⟩ : ∃ g, A1 = some ⟨g, 0, none⟩ := by
            rcases HS0.out.form with ⟨_, h0⟩ | ⟨g, cap', h1, _, _, _, _⟩
            · subst h0; simp at hcl
            · simp at h1; exact ⟨g, h1.1⟩
          have HD2 := hid (show Sl enc1 1 w2 w2.heap.size (some ⟨g, 1, none⟩) (l.drop 1) by
            have h9 := HD.out hcl
            rw [if_neg hc] at h9
            exact h9)
          have HNE := hid hc
          go_wp2
          go_ret
          exact ⟨l.drop 1, some ⟨g, 1, none⟩, c1 - 1, show Ending.returned (.slice (some ⟨g, 1, none⟩) (l.length - 1) (c1 - 1)) = _ by rw [HLN.out], by rw [HLN.out]; omega, HD2.out, HH.out.more (by omega), G2.out⟩
      · go_wp2
        go_ret
        exact ⟨l, _, _, rfl, by omega, HS.out, h2.more (by omega), G2.out⟩
    · clear m1 hz
      by_cases hcl : 0 < l.length
      · go_wp2_with fail
        refine (pick_any _ _ _ _ _ h2 (by omega)).mono ?_
        rintro e w3 ⟨q, rfl, q0, q1, _, h3, g3⟩
        have q2 := q1 (by omega)
        have O3 := O2.grown g3 (O2.off hRw)
        have G3 := only_trans G2.out g3
        clear g3 O2 h2 q1
        go_wp2_with fail
        refine (one_any [-1, n, 0, 1] _ _ _ _ _ _ _ h3 (by omega) rfl rfl (by simp) rfl (by simp)).mono ?_
        rintro e w4 ⟨x, rfl, _, h4, g4⟩
        have O4 := O3.grown g4 (O3.off hRw)
        have G4 := hid (only_trans G3 g4)
        clear g4 O3 h3 G3
        obtain ⟨a, rfl⟩ := Int.eq_ofNat_of_zero_le q0
        have hal : a < l.length := by omega
        obtain ⟨g, cap', hv, hg1, hg2⟩ : ∃ g cap', Value.slice A1 l.length c1 = .slice (some ⟨g, 0, none⟩) l.length cap' ∧ w.heap.size ≤ g ∧ g < w4.heap.size := by
          rcases O4.form with ⟨_, h0⟩ | ⟨g, cap', h1, h2, h3, _, _⟩
          · subst h0; simp at hcl
          · exact ⟨g, cap', h1, h2, h3⟩
        obtain ⟨rfl, _, rfl⟩ : A1 = some ⟨g, 0, none⟩ ∧ l.length = l.length ∧ c1 = cap' := by simpa using hv
        have HK := hid (show l[a]? = some (g0 l a) from g0_get hal)
        have e0 := O4.cell len1 rfl HK.out (j := 0) rfl
        simp only [Nat.mul_one, Nat.add_zero] at e0
        have ef := O4.frozen rfl
        have o8 := O4.store len1 rfl HK.out (j := 0) (a' := x) (by omega) (u := .int .i64 x) rfl
        simp only [Nat.mul_one, Nat.add_zero] at o8
        have HS := hid (show Sl enc1 1 (w4.setCell ⟨g, a, none⟩ (.int .i64 x)) (w4.setCell ⟨g, a, none⟩ (.int .i64 x)).heap.size (some ⟨g, 0, none⟩) (l.set a x) by
          have h9 : Own enc1 1 3 (w4.setCell ⟨g, a, none⟩ (.int .i64 x)) w.heap.size (.slice (some ⟨g, 0, none⟩) (l.set a x).length c1) (l.set a x) := by rw [List.length_set]; exact o8
          exact h9.sl len1)
        have H9 := hid (h4.setCell (p := ⟨g, a, none⟩) (by simp; omega) (by simp; omega) (.int .i64 x))
        have G9 := hid (only_setCell G4.out (p := ⟨g, a, none⟩) (.inr (by simp; omega)) (.int .i64 x))
        clear O4 o8 h4 hv
        go_wp2
        go_ret
        exact ⟨l.set a x, some ⟨g, 0, none⟩, c1, show Ending.returned (.slice (some ⟨g, 0, none⟩) l.length c1) = _ by rw [List.length_set], by rw [List.length_set]; omega, HS.out, H9.out.more (by omega), G9.out⟩
      · have HS := hid (O2.sl len1)
        go_wp2
        go_ret
        exact ⟨l, _, _, rfl, by omega, HS.out, h2.more (by omega), G2.out⟩
    · have HS := hid (O2.sl len1)
      go_wp2
      go_ret
      exact ⟨l, _, _, rfl, by omega, HS.out, h2.more (by omega), G2.out⟩

end Go.Proofs.YtkgofklpogdpmaaGreat

/- Contract: a list of numbers that may be spoilt, in memory of the call's own. -/
namespace Go.Proofs.YtkgofklpogdpmaaGreat
open Go.RowKit

theorem Sl.off {α : Type} {enc : α → List Value} {sz R lo : Nat} {w w' : World} {A : Option Addr} {l : List α} (h : Sl enc sz w w.heap.size A l) (hA : ∀ b off i, A = some ⟨b, off, i⟩ → lo ≤ b) (hR : R < lo) (hg : w.grownBy w' (some R)) : Sl enc sz w' w'.heap.size A l := by
  rcases h with h | ⟨b, off, h1, h2, h3⟩
  · exact .inl h
  · have h4 := hA b off none h1
    exact .inr ⟨b, off, h1, Nat.lt_of_lt_of_le h2 hg.size, fun i a hi j u hu => (World.cell?_of_block (a := ⟨b, off + (i * sz + j), none⟩) (hg.block b h2 (by simp; omega))).trans (h3 i a hi j u hu)⟩

def SpoilOPost (w : World) (B R M n : Nat) (e : Ending) (w' : World) : Prop :=
  ∃ (m : List Int) (A : Option Addr) (cap : Nat), e = .returned (.slice A m.length cap) ∧ m.length ≤ n ∧ Sl enc1 1 w' w'.heap.size A m ∧ Rdr w' B R M ∧ w.grownBy w' (some R) ∧ ∀ b off i, A = some ⟨b, off, i⟩ → w.heap.size ≤ b

set_option maxHeartbeats 1600000 in
theorem spoilO_any (l : List Int) (n : Int) (A : Option Addr) (cap : Nat) (w : World) (B R N : Nat) (h : Rdr w B R N) (hN : N ≤ 900000) (hA : Sl enc1 1 w w.heap.size A l) (hl : l.length ≤ 1000) :
    Calls Tryz.prog 32 #[.pointer (some ⟨R, 0, none⟩), .slice A l.length cap, .int .i64 n] w (SpoilOPost w B R (N + 3) (l.length + 1)) := by
  have hR := h.lt
  have hRB := hR.1
  have hRw := hR.2
  clear hR
  go_enter Tryz.func32, Tryz.ntmps32
  go_wp2_with fail
  refine (copyInts_any l A cap _ hA (by omega)).mono ?_
  rintro e w1 ⟨v, rfl, O1, b1⟩
  obtain ⟨A1, c1, rfl, hc1, _⟩ := O1.reads len1
  have HLB := hid (fun (b off : Nat) i (hx : A1 = some ⟨b, off, i⟩) => show w.heap.size ≤ b by subst hx; exact (O1.lt b rfl).1)
  have h1 := h.below b1 hRw
  have G1 := hid (only_of_below b1 (Nat.le_refl _) (row := some R))
  have z1 := b1.size
  clear b1 h hA
  go_wp2_with fail
  refine (pick_any _ _ _ _ _ h1 (by omega)).mono ?_
  rintro e w2 ⟨m, rfl, m1, _, _, h2, g2⟩
  have O2 := O1.grown g2 (O1.off hRw)
  have G2 := hid (only_trans G1.out g2)
  have z2 : w.heap.size ≤ w2.heap.size := G2.out.size
  clear g2 O1 h1 G1
  by_cases hz : m = 0
  · subst hz
    clear m1
    go_wp2_with (at_builtin; refine wpList_push len1 one1 rfl (.tmp 14) (.tmp 16) _ rfl Tryz.underlying25 infoInt rfl (by omega) (by omega) rfl O2 n (by simp) rfl rfl (by (try simp) <;> omega) (by (try simp) <;> omega) ?_)
    intro v3 w3 ho3 hg3 _
    have h3 := hid ((h2.alloc (.cells #[.int .i64 n] 3)).row O2 hRw (by omega) hg3)
    have G3 := hid (only_row (only_alloc G2.out (.cells #[.int .i64 n] 3)) O2 (Nat.le_refl _) hg3)
    obtain ⟨A3, c3, rfl, _, S3⟩ := ho3.reads len1
    have HL3 := hid (fun (b off : Nat) i (hx : A3 = some ⟨b, off, i⟩) => show w.heap.size ≤ b by subst hx; exact (ho3.lt b rfl).1)
    have HS := hid S3
    clear hg3 O2 h2 ho3 S3
    go_wp2
    go_ret
    exact ⟨l ++ [n], A3, c3, rfl, by simp, HS.out, h3.out.more (by omega), G3.out, HL3.out⟩
  · have hz1 : m = 1 ∨ m = 2 ∨ (m ≠ 1 ∧ m ≠ 2) := by omega
    rcases hz1 with rfl | rfl | ⟨hm1, hm2⟩
    · clear m1 hz
      have HS := hid (O2.sl len1)
      by_cases hcl : 0 < l.length
      · have HD := hid (fun hk => Sl.drop HS.out (k := 1) (cap := c1) hc1 hk)
        have HLN := hid (show (l.drop 1).length = l.length - 1 by simp)
        have hc : c1 = 1 ∨ c1 ≠ 1 := by omega
        have HH := hid h2
        have HS0 := hid O2
        clear O2 h2
        rcases hc with hc | hc
        · have HE := hid hc
          clear hc
          have hne : l.length = 1 := by have := HE.out; omega
          go_wp2
          go_ret
          exact ⟨[], A1, 0, rfl, by simp, Sl.nil .., HH.out.more (by omega), G2.out, HLB.out⟩
        · obtain ⟨g, rfl⟩ : ∃ g, A1 = some ⟨g, 0, none⟩ := by
            rcases HS0.out.form with ⟨_, h0⟩ | ⟨g, cap', h1, _, _, _, _⟩
            · subst h0; simp at hcl
            · simp at h1; exact ⟨g, h1.1⟩
          have HD2 := hid (show Sl enc1 1 w2 w2.heap.size (some ⟨g, 1, none⟩) (l.drop 1) by
            have h9 := HD.out hcl
            rw [if_neg hc] at h9
            exact h9)
          have HNE := hid hc
          go_wp2
          go_ret
          exact ⟨l.drop 1, some ⟨g, 1, none⟩, c1 - 1, show Ending.returned (.slice (some ⟨g, 1, none⟩) (l.length - 1) (c1 - 1)) = _ by rw [HLN.out], by rw [HLN.out]; omega, HD2.out, HH.out.more (by omega), G2.out, fun b off i hx => by injection hx with hx; injection hx with h1 _ _; subst h1; exact HLB.out g 0 none rfl⟩
      · go_wp2
        go_ret
        exact ⟨l, _, _, rfl, by omega, HS.out, h2.more (by omega), G2.out, HLB.out⟩
    · clear m1 hz
      by_cases hcl : 0 < l.length
      · go_wp2_with fail
        refine (pick_any _ _ _ _ _ h2 (by omega)).mono ?_
        rintro e w3 ⟨q, rfl, q0, q1, _, h3, g3⟩
        have q2 := q1 (by omega)
        have O3 := O2.grown g3 (O2.off hRw)
        have G3 := only_trans G2.out g3
        clear g3 O2 h2 q1
        go_wp2_with fail
        refine (one_any [-1, n, 0, 1] _ _ _ _ _ _ _ h3 (by omega) rfl rfl (by simp) rfl (by simp)).mono ?_
        rintro e w4 ⟨x, rfl, _, h4, g4⟩
        have O4 := O3.grown g4 (O3.off hRw)
        have G4 := hid (only_trans G3 g4)
        clear g4 O3 h3 G3
        obtain ⟨a, rfl⟩ := Int.eq_ofNat_of_zero_le q0
        have hal : a < l.length := by omega
        obtain ⟨g, cap', hv, hg1, hg2⟩ : ∃ g cap', Value.slice A1 l.length c1 = .slice (some ⟨g, 0, none⟩) l.length cap' ∧ w.heap.size ≤ g ∧ g < w4.heap.size := by
          rcases O4.form with ⟨_, h0⟩ | ⟨g, cap', h1, h2, h3, _, _⟩
          · subst h0; simp at hcl
          · exact ⟨g, cap', h1, h2, h3⟩
        obtain ⟨rfl, _, rfl⟩ : A1 = some ⟨g, 0, none⟩ ∧ l.length = l.length ∧ c1 = cap' := by simpa using hv
        have HK := hid (show l[a]? = some (g0 l a) from g0_get hal)
        have e0 := O4.cell len1 rfl HK.out (j := 0) rfl
        simp only [Nat.mul_one, Nat.add_zero] at e0
        have ef := O4.frozen rfl
        have o8 := O4.store len1 rfl HK.out (j := 0) (a' := x) (by omega) (u := .int .i64 x) rfl
        simp only [Nat.mul_one, Nat.add_zero] at o8
        have HS := hid (show Sl enc1 1 (w4.setCell ⟨g, a, none⟩ (.int .i64 x)) (w4.setCell ⟨g, a, none⟩ (.int .i64 x)).heap.size (some ⟨g, 0, none⟩) (l.set a x) by
          have h9 : Own enc1 1 3 (w4.setCell ⟨g, a, none⟩ (.int .i64 x)) w.heap.size (.slice (some ⟨g, 0, none⟩) (l.set a x).length c1) (l.set a x) := by rw [List.length_set]; exact o8
          exact h9.sl len1)
        have H9 := hid (h4.setCell (p := ⟨g, a, none⟩) (by simp; omega) (by simp; omega) (.int .i64 x))
        have G9 := hid (only_setCell G4.out (p := ⟨g, a, none⟩) (.inr (by simp; omega)) (.int .i64 x))
        clear O4 o8 h4 hv
        go_wp2
        go_ret
        exact ⟨l.set a x, some ⟨g, 0, none⟩, c1, show Ending.returned (.slice (some ⟨g, 0, none⟩) l.length c1) = _ by rw [List.length_set], by rw [List.length_set]; omega, HS.out, H9.out.more (by omega), G9.out, HLB.out⟩
      · have HS := hid (O2.sl len1)
        go_wp2
        go_ret
        exact ⟨l, _, _, rfl, by omega, HS.out, h2.more (by omega), G2.out, HLB.out⟩
    · have HS := hid (O2.sl len1)
      go_wp2
      go_ret
      exact ⟨l, _, _, rfl, by omega, HS.out, h2.more (by omega), G2.out, HLB.out⟩

--IF spec.someLeft
def LeftRel (w : World) (B R N b1 b2 : Nat) (vs : Value) (s : List (Int × Int × Int × Int)) (vc : Value) (c : List (Int × Int)) (u i : Value) (wr : World) : Prop :=
  ∃ (k : Nat) (o : List Int), k ≤ c.length ∧ i = .int .i64 k ∧ o.length = k ∧ Own enc4 4 85 wr b1 vs s ∧ Own enc2 2 83 wr b2 vc c ∧ Own enc1 1 3 wr w.heap.size u o ∧ Rdr wr B R (N + k) ∧ w.grownBy wr (some R)

/-- Coupons of a cart. -/
def CpnPost (w : World) (B R M : Nat) (e : Ending) (w' : World) : Prop :=
  ∃ (v : Value) (l : List Int), e = .returned v ∧ l.length ≤ 3 ∧ Own enc1 1 3 w' w.heap.size v l ∧ Rdr w' B R M ∧ w.grownBy w' (some R)
def CpnRel (w : World) (B R N : Nat) (v i : Value) (wr : World) : Prop :=
  ∃ (k : Nat) (l : List Int), k ≤ 4 ∧ i = .int .i64 ((k : Int) + 1) ∧ l.length ≤ 3 ∧ Own enc1 1 3 wr w.heap.size v l ∧ Rdr wr B R (N + k) ∧ w.grownBy wr (some R)

set_option maxHeartbeats 1600000 in
theorem someCoupons_any (w : World) (B R N : Nat) (h : Rdr w B R N) (hN : N ≤ 800000) :
    Calls Tryz.prog 30 #[.pointer (some ⟨R, 0, none⟩)] w (CpnPost w B R (N + 4)) := by
  have hR := h.lt
  have hRB := hR.1
  have hRw := hR.2
  clear hR
  have h0 := h.alloc (.cells #[] 3)
  have O0 := Own.lit0 enc1 1 3 w w.heap.size rfl (Nat.le_refl _)
  have G0 := hid (only_alloc (only_refl (w := w) (row := some R)) (.cells #[] 3))
  clear h
  go_enter Tryz.func30, Tryz.ntmps30
  go_wp2_with fail
  go_loopw [3, 4] (fun v i wr => CpnRel w B R N v i wr) (fun _ i _ => 5 - (intOf i).toNat)
  case atStart => exact ⟨0, [], Nat.zero_le _, rfl, by simp, O0, h0, G0.out⟩
  case round =>
    clear O0 h0 G0
    obtain ⟨k, l, hk, rfl, hl3, hp, hr, hg⟩ := hrel
    have HG := hid hg
    clear hg
    obtain ⟨C, cc, rfl, _, _⟩ := hp.reads len1
    by_cases hlt : k < 4
    · have hkk : (k : Int) + 1 ≤ 4 := by omega
      have hw1 : IntKind.i64.wrap ((k : Int) + 1 + 1) = (k : Int) + 1 + 1 := IntWalk.i64_in _ (by omega)
      go_wp2_with fail
      refine (pick_any _ _ _ _ _ hr (by omega)).mono ?_
      rintro e w3 ⟨m, rfl, m1, _, _, h3, g3⟩
      have P3 := hp.grown g3 (hp.off hRw)
      have G3 := hid (only_trans HG.out g3)
      have z3 := G3.out.size
      clear g3 hp hr
      by_cases hz : m = 0
      · have e1 : (m == 0) = true := by rw [hz]; rfl
        clear hz
        by_cases h8 : l.length < 3
        · go_wp2_with (at_builtin; refine wpList_push len1 one1 rfl (.tmp 18) (.tmp 20) _ rfl Tryz.underlying25 infoInt rfl (by omega) (by omega) rfl P3 ((k : Int) + 1) (by simp) rfl rfl (by omega) (by omega) ?_)
          intro v5 w5 ho5 hg5 _
          have h5 := (h3.alloc (.cells #[.int .i64 ((k : Int) + 1)] 3)).row P3 hRw (by omega) hg5
          have G5 := hid (only_row (only_alloc G3.out (.cells #[.int .i64 ((k : Int) + 1)] 3)) P3 (Nat.le_refl _) hg5)
          clear hg5 P3 h3
          go_wp2
          go_roundw
          case rel => exact ⟨k + 1, l ++ [(k : Int) + 1], by omega, by go_num, by simp; omega, ho5, h5.more (by omega), G5.out⟩
          case measure => simp [intOf]; omega
        · go_wp2
          go_roundw
          case rel => exact ⟨k + 1, l, by omega, by go_num, by omega, P3, h3.more (by omega), G3.out⟩
          case measure => simp [intOf]; omega
      · have e1 : (m == 0) = false := beq_eq_false_iff_ne.2 hz
        clear hz
        go_wp2
        go_roundw
        case rel => exact ⟨k + 1, l, by omega, by go_num, by omega, P3, h3.more (by omega), G3.out⟩
        case measure => simp [intOf]; omega
    · have hkk : ¬ (k : Int) + 1 ≤ 4 := by omega
      go_wp2
      go_ret
      exact ⟨_, l, rfl, hl3, hp, hr.more (by omega), HG.out⟩

end Go.Proofs.YtkgofklpogdpmaaGreat
