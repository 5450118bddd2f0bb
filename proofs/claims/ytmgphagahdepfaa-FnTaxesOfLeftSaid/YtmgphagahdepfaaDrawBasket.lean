/- Contracts of the generator of shops and carts. -/
import Derived.Test.YtmgphagahdepfaaDrawShop
namespace Go.Proofs.Ytmgphagahdepfaa
open Go.RowKit

theorem infoLineD : (Try.prog.info? 58).map (fun i => (i.zero, i.size, i.bytes)) = some (some (.agg #[.int .i64 0, .int .i64 0]), 2, 16) := by kernel_rfl
/-- Counts that a generator gives. -/
def cartB (l : List (Int × Int)) : Prop := ∀ x ∈ l, (-1 ≤ x.1 ∧ x.1 ≤ 10) ∧ 0 ≤ x.2 ∧ x.2 ≤ 21
theorem cartB_nil : cartB [] := fun x hx => by simp at hx
theorem cartB_push {l : List (Int × Int)} (h : cartB l) {a q : Int} (ha : -1 ≤ a ∧ a ≤ 10) (hq : 0 ≤ q ∧ q ≤ 21) : cartB (l ++ [(a, q)]) := fun x hx => by
  rcases List.mem_append.1 hx with h1 | h1
  · exact h x h1
  · simp at h1; subst h1; exact ⟨ha, hq⟩
theorem cartB_set {l : List (Int × Int)} (h : cartB l) {i : Nat} {a q : Int} (ha : -1 ≤ a ∧ a ≤ 10) (hq : 0 ≤ q ∧ q ≤ 21) : cartB (l.set i (a, q)) := fun x hx => by
  rcases List.mem_or_eq_of_mem_set hx with h1 | h1
  · exact h x h1
  · subst h1; exact ⟨ha, hq⟩
theorem cartB_at {l : List (Int × Int)} (h : cartB l) {k : Nat} (hk : k < l.length) : (-1 ≤ g1 l k ∧ g1 l k ≤ 10) ∧ 0 ≤ g2 l k ∧ g2 l k ≤ 21 := by
  have := h l[k] (List.getElem_mem hk)
  rwa [g12_eq hk] at this
def CartPost (w : World) (B R M : Nat) (e : Ending) (w' : World) : Prop :=
  ∃ (c : List (Int × Int)) (v : Value), e = .returned v ∧ c.length ≤ 8 ∧ cartB c ∧ Own enc2 2 58 w' w.heap.size v c ∧ Rdr w' B R M ∧ w.grownBy w' (some R)
def CartRel (w : World) (B R N n : Nat) (u i : Value) (wr : World) : Prop :=
  ∃ (k : Nat) (c : List (Int × Int)), k ≤ n ∧ i = .int .i64 k ∧ c.length ≤ 8 ∧ cartB c ∧ Own enc2 2 58 wr w.heap.size u c ∧ Rdr wr B R (N + 2 * k) ∧ w.grownBy wr (some R)

set_option maxHeartbeats 1600000 in
theorem someCart_any (w : World) (B R N : Nat) (A : Option Addr) (n cap : Nat) (h : Rdr w B R N) (hN : N ≤ 800000) (hn : n ≤ 10) :
    Calls Try.prog 62 #[.pointer (some ⟨R, 0, none⟩), .slice A n cap] w (CartPost w B R (N + 20)) := by
  have hR := h.lt
  have hRB := hR.1
  have hRw := hR.2
  clear hR
  have h0 := h.alloc (.cells #[] 58)
  have O0 := Own.lit0 enc2 2 58 w w.heap.size rfl (Nat.le_refl _)
  have G0 := hid (only_alloc (only_refl (w := w) (row := some R)) (.cells #[] 58))
  clear h
  go_enter Try.func62, Try.ntmps62
  go_wp2_with fail
  go_loopw [5, 6] (fun u i wr => CartRel w B R N n u i wr) (fun _ i _ => n - (intOf i).toNat)
  case atStart => exact ⟨0, [], Nat.zero_le _, rfl, by simp, cartB_nil, O0, h0, G0.out⟩
  case round =>
    clear O0 h0 G0
    obtain ⟨k, c, hk, rfl, hc8, hcb, hp, hr, hg⟩ := hrel
    have HG := hid hg
    have HCB := hid hcb
    clear hg hcb
    obtain ⟨C, cc, rfl, _, _⟩ := hp.reads len2
    by_cases hgo : k < n ∧ c.length < 8
    · obtain ⟨hlt, h8⟩ := hgo
      go_wp2_with fail
      refine (pick_any _ _ _ _ _ hr (by omega)).mono ?_
      rintro e w3 ⟨m, rfl, m1, _, _, h3, g3⟩
      have P3 := hp.grown g3 (hp.off hRw)
      have G3 := hid (only_trans HG.out g3)
      clear g3 hp hr
      by_cases hz : 0 < m
      · clear m1
        go_wp2_with fail
        refine (one_any [1, 2, 3, 5, 20, 4] _ _ _ _ _ _ _ h3 (by omega) rfl rfl (by simp) rfl (by simp)).mono ?_
        rintro e w4 ⟨m', rfl, hm', h4, g4⟩
        simp at hm'
        have HM := hid (show 0 ≤ m' ∧ m' ≤ 21 by omega)
        have P4 := P3.grown g4 (P3.off hRw)
        have G4 := hid (only_trans G3.out g4)
        have z4 := G4.out.size
        clear g4 P3 h3 hm'
        go_wp2_with (at_builtin; refine wpList_push len2 one2 rfl (.tmp 22) (.tmp 28) _ rfl Try.underlying24 infoLineD rfl (by omega) (by omega) rfl (P4) ⟨k, m'⟩ (by simp) rfl rfl (by (try simp) <;> omega) (by (try simp) <;> omega) ?_)
        intro v5 w5 ho5 hg5 _
        have h5 := (h4.alloc (.cells #[.int .i64 (k : Int), .int .i64 m'] 58)).row P4 hRw (by omega) hg5
        have G5 := hid (only_row (only_alloc G4.out (.cells #[.int .i64 (k : Int), .int .i64 m'] 58)) P4 (Nat.le_refl _) hg5)
        clear hg5 P4 h4
        go_wp2
        go_roundw
        case rel => exact ⟨k + 1, c ++ [((k : Int), m')], by omega, by go_num, by simp; omega, cartB_push HCB.out (by omega) HM.out, ho5, h5.more (by omega), G5.out⟩
        case measure => simp [intOf]; omega
      · go_wp2
        go_roundw
        case rel => exact ⟨k + 1, c, by omega, by go_num, by omega, HCB.out, P3, h3.more (by omega), G3.out⟩
        case measure => simp [intOf]; omega
    · have hends : ¬ k < n ∨ (k < n ∧ ¬ c.length < 8) := by omega
      clear hgo
      rcases hends with hlt | ⟨hlt, h8⟩
      all_goals
        go_wp2
        go_ret
        exact ⟨c, _, rfl, by omega, HCB.out, hp, hr.more (by omega), HG.out⟩

/-- Some shop and some cart. -/
def BasketPost (w : World) (B R M : Nat) (e : Ending) (w' : World) : Prop :=
  ∃ (l : List (Int × Int × Int × Int)) (v : Value) (c : List (Int × Int)) (u : Value), e = .returned (.tuple #[v, u]) ∧ l.length ≤ 10 ∧ c.length ≤ 9 ∧ shopB l ∧ cartB c ∧ Own enc4 4 60 w' w.heap.size v l ∧ Own enc2 2 58 w' w.heap.size u c ∧ Rdr w' B R M ∧ w.grownBy w' (some R)

set_option maxHeartbeats 1600000 in
theorem anyBasket_any (w : World) (B R N : Nat) (h : Rdr w B R N) (hN : N ≤ 700000) :
    Calls Try.prog 55 #[.pointer (some ⟨R, 0, none⟩)] w (BasketPost w B R (N + 70)) := by
  have hR := h.lt
  have hRB := hR.1
  have hRw := hR.2
  clear hR
  go_enter Try.func55, Try.ntmps55
  go_wp2_with fail
  refine (anyShop_any _ _ _ _ h (by omega)).mono ?_
  rintro e w1 ⟨l, v, rfl, _, l10, hsb, O1, h1, g1⟩
  obtain ⟨A1, c1, rfl, _, _⟩ := O1.reads len4
  have HSB := hid hsb
  have HL := hid O1
  have z1 := g1.size
  have hRw1 : R < w1.heap.size := by omega
  have G1 := hid g1
  clear g1 hsb h
  go_wp2_with fail
  refine (someCart_any _ _ _ _ A1 l.length c1 h1 (by omega) (by omega)).mono ?_
  rintro e w2 ⟨c, u, rfl, hc8, hcb, P2, h2, g2⟩
  obtain ⟨C2, cc2, rfl, _, _⟩ := P2.reads len2
  have HCB := hid hcb
  have O2 := O1.grown g2 (O1.off hRw)
  have z2 : w1.heap.size ≤ w2.heap.size := g2.size
  have G2 := hid (only_trans G1.out g2)
  clear g2 O1 h1 G1 hcb
  go_wp2_with fail
  refine (pick_any _ _ _ _ _ h2 (by omega)).mono ?_
  rintro e w3 ⟨m, rfl, m1, _, _, h3, g3⟩
  have O3 := O2.grown g3 (O2.off hRw)
  have P3 := P2.grown g3 (P2.off hRw1)
  have z3 : w1.heap.size ≤ w3.heap.size := by have := g3.size; omega
  have G3 := hid (only_trans G2.out g3)
  clear g3 O2 P2 h2 G2
  by_cases hz : m = 0
  · subst hz
    clear m1
    go_wp2_with fail
    refine (one_any [0, 10, -1] _ _ _ _ _ _ _ h3 (by omega) rfl rfl (by simp) rfl (by simp)).mono ?_
    rintro e w4 ⟨a, rfl, ha, h4, g4⟩
    simp at ha
    have HM := hid (show -1 ≤ a ∧ a ≤ 10 by omega)
    have O4 := O3.grown g4 (O3.off hRw)
    have P4 := P3.grown g4 (P3.off hRw1)
    have G4 := hid (only_trans G3.out g4)
    have z4 : w1.heap.size ≤ w4.heap.size := by have := g4.size; omega
    clear g4 O3 P3 h3 ha
    go_wp2_with (at_builtin; refine wpList_push len2 one2 rfl (.tmp 15) (.tmp 20) _ rfl Try.underlying24 infoLineD rfl (by omega) (by omega) rfl (P4) ⟨a, 1⟩ (by simp) rfl rfl (by (try simp) <;> omega) (by (try simp) <;> omega) ?_)
    intro v6 w6 ho6 hg6 _
    have h6 := hid ((h4.alloc (.cells #[.int .i64 a, .int .i64 1] 58)).row P4 hRw1 (by omega) hg6)
    have G6 := hid (only_row (only_alloc G4.out (.cells #[.int .i64 a, .int .i64 1] 58)) P4 z1 hg6)
    have O6 := (O4.alloc (.cells #[.int .i64 a, .int .i64 1] 58)).grown hg6 (HL.out.apart P4 (.inl (Nat.le_refl _)))
    clear hg6 O4 P4 h4
    go_wp2
    go_ret2
    exact ⟨l, _, c ++ [(a, 1)], v6, rfl, by omega, by simp; omega, HSB.out, cartB_push HCB.out HM.out (by omega), O6, ho6.less z1, h6.out.more (by omega), G6.out⟩
  · by_cases hz1 : m = 1
    · subst hz1
      clear m1 hz
      by_cases hcl : 0 < c.length
      · go_wp2_with fail
        refine (one_any [0, 21, 20] _ _ _ _ _ _ _ h3 (by omega) rfl rfl (by simp) rfl (by simp)).mono ?_
        rintro e w4 ⟨q, rfl, hq, h4, g4⟩
        simp at hq
        have HM := hid (show 0 ≤ q ∧ q ≤ 21 by omega)
        have O4 := O3.grown g4 (O3.off hRw)
        have P4 := P3.grown g4 (P3.off hRw1)
        have G4 := hid (only_trans G3.out g4)
        have HP := hid (show (Value.slice C2 c.length cc2).ownBlock = some R → False from fun he => P4.off' hRw1 he)
        clear g4 O3 P3 h3 hq
        obtain ⟨g, cap', hv, hg1, hg2⟩ : ∃ g cap', Value.slice C2 c.length cc2 = .slice (some ⟨g, 0, none⟩) c.length cap' ∧ w1.heap.size ≤ g ∧ g < w4.heap.size := by
          rcases P4.form with ⟨_, h0⟩ | ⟨g, cap', h1, h2, h3, _, _⟩
          · subst h0; simp at hcl
          · exact ⟨g, cap', h1, h2, h3⟩
        obtain ⟨rfl, _, rfl⟩ : C2 = some ⟨g, 0, none⟩ ∧ c.length = c.length ∧ cc2 = cap' := by simpa using hv
        have HK := hid (show c[0]? = some (g1 c 0, g2 c 0) from g12_get hcl)
        have e0 := P4.cell len2 rfl HK.out (j := 0) rfl
        have e1 := P4.cell len2 rfl HK.out (j := 1) rfl
        simp only [Nat.zero_mul, Nat.zero_add] at e0 e1
        have ef := P4.frozen rfl
        have o8 := P4.store len2 rfl HK.out (j := 1) (a' := (g1 c 0, q)) (by omega) (u := .int .i64 q) rfl
        simp only [Nat.zero_mul, Nat.zero_add] at o8
        have HA0 := hid (cartB_at HCB.out hcl).1
        have O9 := hid o8
        have O5 := hid (O4.far (p := ⟨g, 1, none⟩) (fun he => by have := (HL.out.lt g he).2; omega) (.int .i64 q))
        have H9 := hid (h4.setCell (p := ⟨g, 1, none⟩) (by simp; omega) (by simp; omega) (.int .i64 q))
        have G9 := hid (only_setCell G4.out (p := ⟨g, 1, none⟩) (.inr (by simp; omega)) (.int .i64 q))
        clear P4 o8 h4 hv O4
        go_wp2
        go_ret2
        exact ⟨l, _, c.set 0 (g1 c 0, q), _, rfl, by omega, by rw [List.length_set]; omega, HSB.out, cartB_set HCB.out HA0.out HM.out, O5.out, by have := O9.out; exact this.less z1, H9.out.more (by omega), G9.out⟩
      · go_wp2
        go_ret2
        exact ⟨l, _, c, _, rfl, by omega, by omega, HSB.out, HCB.out, O3, P3.less z1, h3.more (by omega), G3.out⟩
    · go_wp2
      go_ret2
      exact ⟨l, _, c, _, rfl, by omega, by omega, HSB.out, HCB.out, O3, P3.less z1, h3.more (by omega), G3.out⟩

end Go.Proofs.Ytmgphagahdepfaa
