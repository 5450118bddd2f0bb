/- Contracts of the generator of stocks and carts. -/
import Derived.Test.YthdmngchfahciaaDrw
import Derived.Deep.RegionHeld3
namespace Go.Proofs.Ythdmngchfahciaa
open Go.RowKit

theorem infoStockD : (Try.prog.info? 38).map (fun i => (i.zero, i.size, i.bytes)) = some (some (.agg #[.int .i64 0, .int .i64 0]), 2, 16) := by kernel_rfl
theorem infoLineD : (Try.prog.info? 36).map (fun i => (i.zero, i.size, i.bytes)) = some (some (.agg #[.int .i64 0, .int .i64 0]), 2, 16) := by kernel_rfl

/-- Some stock. -/
def StockPost (w : World) (B R M : Nat) (e : Ending) (w' : World) : Prop :=
  ∃ (l : List (Int × Int)) (v : Value), e = .returned v ∧ 1 ≤ l.length ∧ l.length ≤ 10 ∧ Own enc2 2 38 w' w.heap.size v l ∧ Rdr w' B R M ∧ w.grownBy w' (some R)
def AnyStockRel (w : World) (B R N : Nat) (v n : Value) (wr : World) : Prop :=
  ∃ (o : List (Int × Int)) (k : Int), 0 ≤ k ∧ n = .int .i64 k ∧ o.length + k ≤ 10 ∧ 1 ≤ o.length + k ∧ Own enc2 2 38 wr w.heap.size v o ∧ Rdr wr B R (N + 1 + 2 * o.length) ∧ w.grownBy wr (some R)

set_option maxHeartbeats 1600000 in
theorem anyStock_any (w : World) (B R N : Nat) (h : Rdr w B R N) (hN : N ≤ 900000) :
    Calls Try.prog 54 #[.pointer (some ⟨R, 0, none⟩)] w (StockPost w B R (N + 30)) := by
  have hR := h.lt
  have hRB := hR.1
  have hRw := hR.2
  clear hR
  have h0 := h.alloc (.cells #[] 38)
  have O0 := Own.lit0 enc2 2 38 w w.heap.size rfl (Nat.le_refl _)
  go_enter Try.func54, Try.ntmps54
  go_wp2_with fail
  refine (one_any [4, 6, 3, 1, 10] _ _ _ _ _ _ _ h0 (by omega) (by simp) rfl (by simp) rfl (by simp)).mono ?_
  rintro e w2 ⟨n, rfl, hm, h2, g2⟩
  simp at hm
  have n1 : 1 ≤ n := by omega
  have n2 : n ≤ 10 := by omega
  clear hm
  have O2 := O0.grown g2 (O0.off hRw)
  have G2 := hid (only_trans (only_alloc (only_refl (w := w) (row := some R)) _) g2)
  clear g2 O0 h0 h
  go_wp2_with fail
  go_loopw [3, 4] (fun v n wr => AnyStockRel w B R N v n wr) (fun _ n _ => (intOf n).toNat)
  case atStart => exact ⟨[], n, by omega, rfl, by simp; omega, by simp; omega, O2, h2, G2.out⟩
  case round =>
    clear O2 h2 G2
    obtain ⟨o, k, k0, rfl, e3, e4, ho, hr, hg⟩ := hrel
    have HG := hid hg
    clear hg
    by_cases hk : 0 < k
    · have hr0 := hr.lt
      go_wp2_with fail
      refine (one_any [5, 0, 20, 100, 3] _ _ _ _ _ _ _ hr (by omega) rfl rfl (by simp) rfl (by simp)).mono ?_
      rintro e w3 ⟨m, rfl, _, h3, g3⟩
      have O3 := ho.grown g3 (ho.off hRw)
      have G3 := only_trans HG.out g3
      clear g3 ho hr
      go_wp2_with fail
      refine (one_any [0, 5, 20, 3, 100] _ _ _ _ _ _ _ h3 (by omega) rfl rfl (by simp) rfl (by simp)).mono ?_
      rintro e w4 ⟨m', rfl, _, h4, g4⟩
      have O4 := O3.grown g4 (O3.off hRw)
      have G4 := hid (only_trans G3 g4)
      have z4 := G4.out.size
      clear g4 O3 h3 G3
      go_wp2_with (at_builtin; refine wpList_push len2 one2 rfl (.tmp 13) (.tmp 21) _ rfl Try.underlying25 infoStockD rfl (by omega) (by omega) rfl (O4) ⟨m, m'⟩ (by simp) rfl rfl (by (try simp) <;> omega) (by (try simp) <;> omega) ?_)
      intro v5 w5 ho5 hg5 _
      have h5 := (h4.alloc (.cells #[.int .i64 m, .int .i64 m'] 38)).row O4 hRw (by omega) hg5
      have G5 := hid (only_row (only_alloc G4.out (.cells #[.int .i64 m, .int .i64 m'] 38)) O4 (Nat.le_refl _) hg5)
      clear hg5 O4 h4
      go_wp2
      go_roundw
      case rel => exact ⟨o ++ [(m, m')], k - 1, by omega, rfl, by simp; omega, by simp; omega, ho5, h5.more (by simp; omega), G5.out⟩
      case measure => simp [intOf]; omega
    · have hk0 : k = 0 := by omega
      subst hk0
      clear k0 hk
      go_wp2_with fail
      refine (pick_any _ _ _ _ _ hr (by omega)).mono ?_
      rintro e w6 ⟨m, rfl, m1, _, _, h6, g6⟩
      have O6 := ho.grown g6 (ho.off hRw)
      have G6 := hid (only_trans HG.out g6)
      clear g6 ho hr
      by_cases hz : m = 0
      · subst hz
        clear m1
        go_wp2_with fail
        refine (one_any [-1, 101] _ _ _ _ _ _ _ h6 (by omega) rfl rfl (by simp) rfl (by simp)).mono ?_
        rintro e w7 ⟨m', rfl, _, h7, g7⟩
        have O7 := O6.grown g7 (O6.off hRw)
        have G7 := hid (only_trans G6.out g7)
        clear g7 O6 h6
        obtain ⟨g, cap', rfl, hg1, hg2⟩ : ∃ g cap', u3 = .slice (some ⟨g, 0, none⟩) o.length cap' ∧ w.heap.size ≤ g ∧ g < w7.heap.size := by
          rcases O7.form with ⟨_, h0⟩ | ⟨g, cap', h1, h2, h3, _, _⟩
          · subst h0; simp at e4
          · exact ⟨g, cap', h1, h2, h3⟩
        have ol : 0 < o.length := by omega
        have HK := hid (show o[0]? = some (g1 o 0, g2 o 0) from g12_get ol)
        have e0 := O7.cell len2 rfl HK.out (j := 0) rfl
        have e1 := O7.cell len2 rfl HK.out (j := 1) rfl
        simp only [Nat.zero_mul, Nat.zero_add] at e0 e1
        have ef := O7.frozen rfl
        have o8 := O7.store len2 rfl HK.out (j := 0) (a' := (m', g2 o 0)) (by omega) (u := .int .i64 m') rfl
        have o9 := o8.store len2 (by rw [List.length_set]) (i := 0) (j := 1) (a := (m', g2 o 0)) (a' := (m', 0)) (u := .int .i64 0) (by rw [List.getElem?_set_self ol]) (by omega) rfl
        simp only [Nat.zero_mul, Nat.zero_add, List.set_set] at o9
        have O9 := hid o9
        have H9 := hid (((h7.setCell (p := ⟨g, 0, none⟩) (by simp; omega) (by simp; omega) (.int .i64 m')).setCell (p := ⟨g, 1, none⟩) (by simp; omega) (by simp; omega) (.int .i64 0)))
        have G9 := hid (only_setCell (only_setCell G7.out (p := ⟨g, 0, none⟩) (.inr hg1) (.int .i64 m')) (p := ⟨g, 1, none⟩) (.inr hg1) (.int .i64 0))
        clear O7 o8 o9 h7
        go_wp2
        go_ret
        refine ⟨o.set 0 (m', 0), _, rfl, by rw [List.length_set]; omega, by rw [List.length_set]; omega, ?_, H9.out.more (by omega), G9.out⟩
        have := O9.out
        exact this
      · go_wp2
        go_ret
        exact ⟨o, _, rfl, by omega, by omega, O6, h6.more (by omega), G6.out⟩

/-- Some stock and some cart. -/
def StockCartPost (w : World) (B R M : Nat) (e : Ending) (w' : World) : Prop :=
  ∃ (l : List (Int × Int)) (v : Value) (c : List (Int × Int)) (u : Value), e = .returned (.tuple #[v, u]) ∧ 1 ≤ l.length ∧ l.length ≤ 10 ∧ c.length ≤ 9 ∧ Own enc2 2 38 w' w.heap.size v l ∧ Own enc2 2 36 w' w.heap.size u c ∧ Rdr w' B R M ∧ w.grownBy w' (some R)
def StockCartRel (w w1 : World) (B R N n : Nat) (v : Value) (l : List (Int × Int)) (u i : Value) (wr : World) : Prop :=
  ∃ (k : Nat) (c : List (Int × Int)), k ≤ n ∧ i = .int .i64 k ∧ c.length ≤ 8 ∧ w1.heap.size ≤ wr.heap.size ∧ Own enc2 2 38 wr w.heap.size v l ∧ Own enc2 2 36 wr w1.heap.size u c ∧ Rdr wr B R (N + 2 * k) ∧ w.grownBy wr (some R)

set_option maxHeartbeats 1600000 in
theorem anyStockCart_any (w : World) (B R N : Nat) (h : Rdr w B R N) (hN : N ≤ 900000) :
    Calls Try.prog 45 #[.pointer (some ⟨R, 0, none⟩)] w (StockCartPost w B R (N + 60)) := by
  have hR := h.lt
  have hRB := hR.1
  have hRw := hR.2
  clear hR
  go_enter Try.func45, Try.ntmps45
  go_wp2_with fail
  refine (anyStock_any _ _ _ _ h hN).mono ?_
  rintro e w1 ⟨l, v, rfl, l1, l10, O1, h1, g1⟩
  obtain ⟨A1, c1, rfl, _, _⟩ := O1.reads len2
  have z1 := g1.size
  have HL := hid O1
  have h2 := h1.alloc (.cells #[] 36)
  have O2 := O1.alloc (.cells #[] 36)
  have P2 := Own.lit0 enc2 2 36 w1 w1.heap.size rfl (Nat.le_refl _)
  have G2 := hid (only_alloc g1 (.cells #[] 36))
  clear g1 O1 h1 h
  go_wp2_with fail
  go_loopw [5, 6] (fun u i wr => StockCartRel w w1 B R (N + 30) l.length (.slice A1 l.length c1) l u i wr) (fun _ i _ => l.length - (intOf i).toNat)
  case atStart => exact ⟨0, [], Nat.zero_le _, rfl, by simp, by simp, O2, P2, h2, G2.out⟩
  case round =>
    clear O2 P2 h2 G2
    obtain ⟨k, c, hk, rfl, hc8, hzr, ho, hp, hr, hg⟩ := hrel
    have HG := hid hg
    have hRw1 : R < w1.heap.size := by omega
    clear hg
    obtain ⟨C, cc, rfl, _, _⟩ := hp.reads len2
    by_cases hgo : k < l.length ∧ c.length < 8
    · obtain ⟨hlt, h8⟩ := hgo
      · go_wp2_with fail
        refine (pick_any _ _ _ _ _ hr (by omega)).mono ?_
        rintro e w3 ⟨m, rfl, m1, _, _, h3, g3⟩
        have O3 := ho.grown g3 (ho.off hRw)
        have P3 := hp.grown g3 (hp.off hRw1)
        have G3 := hid (only_trans HG.out g3)
        have z3 : w1.heap.size ≤ w3.heap.size := by have := g3.size; omega
        clear g3 ho hp hr
        by_cases hz : m = 0
        · subst hz
          clear m1
          go_wp2_with fail
          refine (one_any [1, 2, 3, 5, 20] _ _ _ _ _ _ _ h3 (by omega) rfl rfl (by simp) rfl (by simp)).mono ?_
          rintro e w4 ⟨m', rfl, _, h4, g4⟩
          have O4 := O3.grown g4 (O3.off hRw)
          have P4 := P3.grown g4 (P3.off hRw1)
          have G4 := hid (only_trans G3.out g4)
          have z4 := G4.out.size
          have hz4 : w1.heap.size ≤ w4.heap.size := by have := g4.size; omega
          clear g4 O3 P3 h3
          go_wp2_with (at_builtin; refine wpList_push len2 one2 rfl (.tmp 24) (.tmp 30) _ rfl Try.underlying30 infoLineD rfl (by omega) (by omega) rfl (P4) ⟨k, m'⟩ (by simp) rfl rfl (by (try simp) <;> omega) (by (try simp) <;> omega) ?_)
          intro v5 w5 ho5 hg5 _
          have h5 := (h4.alloc (.cells #[.int .i64 (k : Int), .int .i64 m'] 36)).row P4 hRw1 (by omega) hg5
          have G5 := hid (only_row (only_alloc G4.out (.cells #[.int .i64 (k : Int), .int .i64 m'] 36)) P4 z1 hg5)
          have O5 := (O4.alloc (.cells #[.int .i64 (k : Int), .int .i64 m'] 36)).grown hg5 (HL.out.apart P4 (.inl (Nat.le_refl _)))
          have z5 : w1.heap.size ≤ w5.heap.size := by have := hg5.size; simp at this; omega
          clear hg5 O4 P4 h4
          go_wp2
          go_roundw
          case rel => exact ⟨k + 1, c ++ [((k : Int), m')], by omega, by go_num, by simp; omega, z5, O5, ho5, h5.more (by omega), G5.out⟩
          case measure => simp [intOf]; omega
        · go_wp2
          go_roundw
          case rel => exact ⟨k + 1, c, by omega, by go_num, by omega, z3, O3, P3, h3.more (by omega), G3.out⟩
          case measure => simp [intOf]; omega
    · have hends : ¬ k < l.length ∨ (k < l.length ∧ ¬ c.length < 8) := by omega
      clear hgo
      rcases hends with hlt | ⟨hlt, h8⟩
      all_goals
        go_wp2_with fail
        refine (pick_any _ _ _ _ _ hr (by omega)).mono ?_
        rintro e w3 ⟨m, rfl, m1, _, _, h3, g3⟩
        have O3 := ho.grown g3 (ho.off hRw)
        have P3 := hp.grown g3 (hp.off hRw1)
        have G3 := hid (only_trans HG.out g3)
        have z3 : w1.heap.size ≤ w3.heap.size := by have := g3.size; omega
        clear g3 ho hp hr
        by_cases hz : m = 0
        · subst hz
          clear m1
          go_wp2_with fail
          refine (one_any [0, 10, -1] _ _ _ _ _ _ _ h3 (by omega) rfl rfl (by simp) rfl (by simp)).mono ?_
          rintro e w4 ⟨a, rfl, _, h4, g4⟩
          have O4 := O3.grown g4 (O3.off hRw)
          have P4 := P3.grown g4 (P3.off hRw1)
          have G4 := only_trans G3.out g4
          have z4 : w1.heap.size ≤ w4.heap.size := by have := g4.size; omega
          clear g4 O3 P3 h3
          go_wp2_with fail
          refine (one_any [1, 0, 21] _ _ _ _ _ _ _ h4 (by omega) rfl rfl (by simp) rfl (by simp)).mono ?_
          rintro e w5 ⟨q, rfl, _, h5, g5⟩
          have O5 := O4.grown g5 (O4.off hRw)
          have P5 := P4.grown g5 (P4.off hRw1)
          have G5 := hid (only_trans G4 g5)
          have z5 : w1.heap.size ≤ w5.heap.size := by have := g5.size; omega
          have y5 := G5.out.size
          clear g5 O4 P4 h4 G4
          go_wp2_with (at_builtin; refine wpList_push len2 one2 rfl (.tmp 35) (.tmp 43) _ rfl Try.underlying30 infoLineD rfl (by omega) (by omega) rfl (P5) ⟨a, q⟩ (by simp) rfl rfl (by (try simp) <;> omega) (by (try simp) <;> omega) ?_)
          intro v6 w6 ho6 hg6 _
          have h6 := hid ((h5.alloc (.cells #[.int .i64 a, .int .i64 q] 36)).row P5 hRw1 (by omega) hg6)
          have G6 := hid (only_row (only_alloc G5.out (.cells #[.int .i64 a, .int .i64 q] 36)) P5 z1 hg6)
          have O6 := (O5.alloc (.cells #[.int .i64 a, .int .i64 q] 36)).grown hg6 (HL.out.apart P5 (.inl (Nat.le_refl _)))
          clear hg6 O5 P5 h5
          go_wp2
          go_ret2
          exact ⟨l, _, c ++ [(a, q)], v6, rfl, by omega, by omega, by simp; omega, O6, ho6.less z1, h6.out.more (by omega), G6.out⟩
        · go_wp2
          go_ret2
          exact ⟨l, _, c, _, rfl, by omega, by omega, by omega, O3, P3.less z1, h3.more (by omega), G3.out⟩


/-- Some stock and some cart; nothing of old memory has turned. -/
def StockDraw (w : World) (e : Ending) (w' : World) : Prop :=
  ∃ (l : List (Int × Int)) (v : Value) (c : List (Int × Int)) (u : Value), e = .returned (.tuple #[v, u]) ∧ 1 ≤ l.length ∧ l.length ≤ 10 ∧ c.length ≤ 9 ∧ Own enc2 2 38 w' w.heap.size v l ∧ Own enc2 2 36 w' w.heap.size u c ∧ Below w.heap.size w w'

set_option maxHeartbeats 800000 in
theorem drawHoldCart_any (w : World) (A : Option Addr) (len cap : Nat) (h : Bytes w w.heap.size A len cap) :
    Calls Try.prog 28 #[.slice A len cap] w (StockDraw w) := by
  go_enter Try.func28, Try.ntmps28
  go_wp2_with fail
  refine (newReader_any _ _ _ _ _ h (Nat.le_refl _)).mono ?_
  rintro e w1 ⟨rfl, h1, b1⟩
  have z1 := b1.size
  go_wp2_with fail
  refine (anyStockCart_any _ _ _ _ h1 (by omega)).mono ?_
  rintro e w2 ⟨l, v, c, u, rfl, x1, x2, x3, O2, P2, _, g2⟩
  have G2 := hid (below_of_only b1 g2 z1 (Nat.le_refl _))
  have O3 := O2.less z1
  have P3 := P2.less z1
  clear O2 P2 h1 b1 g2 h
  go_wp2
  go_ret2
  exact ⟨l, v, c, u, rfl, x1, x2, x3, O3, P3, G2.out⟩

set_option maxHeartbeats 800000 in
theorem drawFreeCart_any (w : World) (A : Option Addr) (len cap : Nat) (h : Bytes w w.heap.size A len cap) :
    Calls Try.prog 32 #[.slice A len cap] w (StockDraw w) := by
  go_enter Try.func32, Try.ntmps32
  go_wp2_with fail
  refine (newReader_any _ _ _ _ _ h (Nat.le_refl _)).mono ?_
  rintro e w1 ⟨rfl, h1, b1⟩
  have z1 := b1.size
  go_wp2_with fail
  refine (anyStockCart_any _ _ _ _ h1 (by omega)).mono ?_
  rintro e w2 ⟨l, v, c, u, rfl, x1, x2, x3, O2, P2, _, g2⟩
  have G2 := hid (below_of_only b1 g2 z1 (Nat.le_refl _))
  have O3 := O2.less z1
  have P3 := P2.less z1
  clear O2 P2 h1 b1 g2 h
  go_wp2
  go_ret2
  exact ⟨l, v, c, u, rfl, x1, x2, x3, O3, P3, G2.out⟩

set_option maxHeartbeats 800000 in
theorem drawSellCart_any (w : World) (A : Option Addr) (len cap : Nat) (h : Bytes w w.heap.size A len cap) :
    Calls Try.prog 24 #[.slice A len cap] w (StockDraw w) := by
  go_enter Try.func24, Try.ntmps24
  go_wp2_with fail
  refine (newReader_any _ _ _ _ _ h (Nat.le_refl _)).mono ?_
  rintro e w1 ⟨rfl, h1, b1⟩
  have z1 := b1.size
  go_wp2_with fail
  refine (anyStockCart_any _ _ _ _ h1 (by omega)).mono ?_
  rintro e w2 ⟨l, v, c, u, rfl, x1, x2, x3, O2, P2, _, g2⟩
  have G2 := hid (below_of_only b1 g2 z1 (Nat.le_refl _))
  have O3 := O2.less z1
  have P3 := P2.less z1
  clear O2 P2 h1 b1 g2 h
  go_wp2
  go_ret2
  exact ⟨l, v, c, u, rfl, x1, x2, x3, O3, P3, G2.out⟩

set_option maxHeartbeats 800000 in
theorem drawMissing_any (w : World) (A : Option Addr) (len cap : Nat) (h : Bytes w w.heap.size A len cap) :
    Calls Try.prog 20 #[.slice A len cap] w (StockDraw w) := by
  go_enter Try.func20, Try.ntmps20
  go_wp2_with fail
  refine (newReader_any _ _ _ _ _ h (Nat.le_refl _)).mono ?_
  rintro e w1 ⟨rfl, h1, b1⟩
  have z1 := b1.size
  go_wp2_with fail
  refine (anyStockCart_any _ _ _ _ h1 (by omega)).mono ?_
  rintro e w2 ⟨l, v, c, u, rfl, x1, x2, x3, O2, P2, _, g2⟩
  have G2 := hid (below_of_only b1 g2 z1 (Nat.le_refl _))
  have O3 := O2.less z1
  have P3 := P2.less z1
  clear O2 P2 h1 b1 g2 h
  go_wp2
  go_ret2
  exact ⟨l, v, c, u, rfl, x1, x2, x3, O3, P3, G2.out⟩

end Go.Proofs.Ythdmngchfahciaa
