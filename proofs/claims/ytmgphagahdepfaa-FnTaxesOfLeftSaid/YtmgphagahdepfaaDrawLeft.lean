/- Contracts of the generator of what is left, and of lists of numbers that may be spoilt. -/
import Derived.Test.YtmgphagahdepfaaDrawBasket
import Derived.Test.YtmgphagahdepfaaAppAny
import Derived.Test.YtmgphagahdepfaaCopyInt
namespace Go.Proofs.Ytmgphagahdepfaa
open Go.RowKit

def CopyIntsPost (w : World) (l : List Int) (e : Ending) (w' : World) : Prop :=
  ∃ v, e = .returned v ∧ Own enc1 1 3 w' w.heap.size v l ∧ Below w.heap.size w w'

set_option maxHeartbeats 800000 in
theorem copyInts_any (l : List Int) (A : Option Addr) (cap : Nat) (w : World) (h : Sl enc1 1 w w.heap.size A l) (hl : l.length ≤ 1048576) :
    Calls Try.prog 67 #[.slice A l.length cap] w (CopyIntsPost w l) := by
  have O0 := Own.lit0 enc1 1 3 w w.heap.size rfl (Nat.le_refl _)
  have D0 := hid ((Below.refl w.heap.size w).alloc (Nat.le_refl _) (.cells #[] 3))
  go_enter Try.func67, Try.ntmps67
  go_wp2_with (at_builtin; refine wpList_pushAny len1 one1 rfl (.tmp 3) (.tmp 4) _ rfl Try.underlying25 infoInt rfl (by omega) (by omega) rfl O0 (m := l) rfl rfl (h.alloc (Nat.le_refl _) _) (by simp; omega) (by simp) ?_)
  intro v1 w1 h1 hg1
  have D1 := hid (below_row D0.out O0 (Nat.le_refl _) (by simp) hg1)
  have h2 : Own enc1 1 3 w1 w.heap.size v1 l := by simpa using h1
  clear hg1 h1 O0
  go_wp2
  go_ret
  exact ⟨_, rfl, h2, D1.out⟩

def SpoilPost (w : World) (B R M n : Nat) (e : Ending) (w' : World) : Prop :=
  ∃ (m : List Int) (A : Option Addr) (cap : Nat), e = .returned (.slice A m.length cap) ∧ m.length ≤ n ∧ Sl enc1 1 w' w'.heap.size A m ∧ Rdr w' B R M ∧ w.grownBy w' (some R)

set_option maxHeartbeats 1600000 in
theorem spoil_any (l : List Int) (n : Int) (A : Option Addr) (cap : Nat) (w : World) (B R N : Nat) (h : Rdr w B R N) (hN : N ≤ 900000) (hA : Sl enc1 1 w w.heap.size A l) (hl : l.length ≤ 1000) :
    Calls Try.prog 63 #[.pointer (some ⟨R, 0, none⟩), .slice A l.length cap, .int .i64 n] w (SpoilPost w B R (N + 3) (l.length + 1)) := by
  have hR := h.lt
  have hRB := hR.1
  have hRw := hR.2
  clear hR
  go_enter Try.func63, Try.ntmps63
  go_wp2_with fail
  refine (copyInts_any l A cap _ hA (by omega)).mono ?_
  rintro e w1 ⟨v, rfl, O1, b1⟩
  obtain ⟨A1, c1, rfl, hc1, _⟩ := O1.reads len1
  have h1 := h.below b1 hRw
  have G1 := hid (only_of_below b1 (Nat.le_refl _) (row := some R))
  have z1 := b1.size
  clear b1 h hA
  go_wp2_with fail
  refine (pick_any _ _ _ _ _ h1 (by omega)).mono ?_
  rintro e w2 ⟨m, rfl, m1, _, _, h2, g2⟩
  have O2 := O1.grown g2 (O1.off hRw)
  have G2 := hid (only_trans G1.out g2)
  have z2 : w.heap.size ≤ w2.heap.size := G2.out.size
  clear g2 O1 h1 G1
  by_cases hz : m = 0
  · subst hz
    clear m1
    go_wp2_with (at_builtin; refine wpList_push len1 one1 rfl (.tmp 14) (.tmp 16) _ rfl Try.underlying25 infoInt rfl (by omega) (by omega) rfl O2 n (by simp) rfl rfl (by (try simp) <;> omega) (by (try simp) <;> omega) ?_)
    intro v3 w3 ho3 hg3 _
    have h3 := hid ((h2.alloc (.cells #[.int .i64 n] 3)).row O2 hRw (by omega) hg3)
    have G3 := hid (only_row (only_alloc G2.out (.cells #[.int .i64 n] 3)) O2 (Nat.le_refl _) hg3)
    obtain ⟨A3, c3, rfl, _, S3⟩ := ho3.reads len1
    have HS := hid S3
    clear hg3 O2 h2 ho3 S3
    go_wp2
    go_ret
    exact ⟨l ++ [n], A3, c3, rfl, by simp, HS.out, h3.out.more (by omega), G3.out⟩
  · have hz1 : m = 1 ∨ m = 2 ∨ (m ≠ 1 ∧ m ≠ 2) := by omega
    rcases hz1 with rfl | rfl | ⟨hm1, hm2⟩
    · clear m1 hz
      have HS := hid (O2.sl len1)
      by_cases hcl : 0 < l.length
      · have HD := hid (fun hk => Sl.drop HS.out (k := 1) (cap := c1) hc1 hk)
        have HLN := hid (show (l.drop 1).length = l.length - 1 by simp)
        have hc : c1 = 1 ∨ c1 ≠ 1 := by omega
        have HH := hid h2
        have HS0 := hid O2
        clear O2 h2
        rcases hc with hc | hc
        · have HE := hid hc
          clear hc
          have hne : l.length = 1 := by have := HE.out; omega
          go_wp2
          go_ret
          exact ⟨[], A1, 0, rfl, by simp, Sl.nil .., HH.out.more (by omega), G2.out⟩
        · obtain ⟨g, rfl⟩ : ∃ g, A1 = some ⟨g, 0, none⟩ := by
            rcases HS0.out.form with ⟨_, h0⟩ | ⟨g, cap', h1, _, _, _, _⟩
            · subst h0; simp at hcl
            · simp at h1; exact ⟨g, h1.1⟩
          have HD2 := hid (show Sl enc1 1 w2 w2.heap.size (some ⟨g, 1, none⟩) (l.drop 1) by
            have h9 := HD.out hcl
            rw [if_neg hc] at h9
            exact h9)
          have HNE := hid hc
          go_wp2
          go_ret
          exact ⟨l.drop 1, some ⟨g, 1, none⟩, c1 - 1, show Ending.returned (.slice (some ⟨g, 1, none⟩) (l.length - 1) (c1 - 1)) = _ by rw [HLN.out], by rw [HLN.out]; omega, HD2.out, HH.out.more (by omega), G2.out⟩
      · go_wp2
        go_ret
        exact ⟨l, _, _, rfl, by omega, HS.out, h2.more (by omega), G2.out⟩
    · clear m1 hz
      by_cases hcl : 0 < l.length
      · go_wp2_with fail
        refine (pick_any _ _ _ _ _ h2 (by omega)).mono ?_
        rintro e w3 ⟨q, rfl, q0, q1, _, h3, g3⟩
        have q2 := q1 (by omega)
        have O3 := O2.grown g3 (O2.off hRw)
        have G3 := only_trans G2.out g3
        clear g3 O2 h2 q1
        go_wp2_with fail
        refine (one_any [-1, n, 0, 1] _ _ _ _ _ _ _ h3 (by omega) rfl rfl (by simp) rfl (by simp)).mono ?_
        rintro e w4 ⟨x, rfl, _, h4, g4⟩
        have O4 := O3.grown g4 (O3.off hRw)
        have G4 := hid (only_trans G3 g4)
        clear g4 O3 h3 G3
        obtain ⟨a, rfl⟩ := Int.eq_ofNat_of_zero_le q0
        have hal : a < l.length := by omega
        obtain ⟨g, cap', hv, hg1, hg2⟩ : ∃ g cap', Value.slice A1 l.length c1 = .slice (some ⟨g, 0, none⟩) l.length cap' ∧ w.heap.size ≤ g ∧ g < w4.heap.size := by
          rcases O4.form with ⟨_, h0⟩ | ⟨g, cap', h1, h2, h3, _, _⟩
          · subst h0; simp at hcl
          · exact ⟨g, cap', h1, h2, h3⟩
        obtain ⟨rfl, _, rfl⟩ : A1 = some ⟨g, 0, none⟩ ∧ l.length = l.length ∧ c1 = cap' := by simpa using hv
        have HK := hid (show l[a]? = some (g0 l a) from g0_get hal)
        have e0 := O4.cell len1 rfl HK.out (j := 0) rfl
        simp only [Nat.mul_one, Nat.add_zero] at e0
        have ef := O4.frozen rfl
        have o8 := O4.store len1 rfl HK.out (j := 0) (a' := x) (by omega) (u := .int .i64 x) rfl
        simp only [Nat.mul_one, Nat.add_zero] at o8
        have HS := hid (show Sl enc1 1 (w4.setCell ⟨g, a, none⟩ (.int .i64 x)) (w4.setCell ⟨g, a, none⟩ (.int .i64 x)).heap.size (some ⟨g, 0, none⟩) (l.set a x) by
          have h9 : Own enc1 1 3 (w4.setCell ⟨g, a, none⟩ (.int .i64 x)) w.heap.size (.slice (some ⟨g, 0, none⟩) (l.set a x).length c1) (l.set a x) := by rw [List.length_set]; exact o8
          exact h9.sl len1)
        have H9 := hid (h4.setCell (p := ⟨g, a, none⟩) (by simp; omega) (by simp; omega) (.int .i64 x))
        have G9 := hid (only_setCell G4.out (p := ⟨g, a, none⟩) (.inr (by simp; omega)) (.int .i64 x))
        clear O4 o8 h4 hv
        go_wp2
        go_ret
        exact ⟨l.set a x, some ⟨g, 0, none⟩, c1, show Ending.returned (.slice (some ⟨g, 0, none⟩) l.length c1) = _ by rw [List.length_set], by rw [List.length_set]; omega, HS.out, H9.out.more (by omega), G9.out⟩
      · have HS := hid (O2.sl len1)
        go_wp2
        go_ret
        exact ⟨l, _, _, rfl, by omega, HS.out, h2.more (by omega), G2.out⟩
    · have HS := hid (O2.sl len1)
      go_wp2
      go_ret
      exact ⟨l, _, _, rfl, by omega, HS.out, h2.more (by omega), G2.out⟩

def LeftRel (w : World) (B R N b1 b2 : Nat) (vs : Value) (s : List (Int × Int × Int × Int)) (vc : Value) (c : List (Int × Int)) (u i : Value) (wr : World) : Prop :=
  ∃ (k : Nat) (o : List Int), k ≤ c.length ∧ i = .int .i64 k ∧ o.length = k ∧ Own enc4 4 60 wr b1 vs s ∧ Own enc2 2 58 wr b2 vc c ∧ Own enc1 1 3 wr w.heap.size u o ∧ Rdr wr B R (N + k) ∧ w.grownBy wr (some R)

set_option maxHeartbeats 3200000 in
set_option maxRecDepth 100000 in
theorem someLeft_any (s : List (Int × Int × Int × Int)) (c : List (Int × Int)) (A Ac : Option Addr) (cap capc : Nat) (w : World) (B R N b1 b2 : Nat) (h : Rdr w B R N) (hN : N ≤ 800000) (hA : Own enc4 4 60 w b1 (.slice A s.length cap) s) (hC : Own enc2 2 58 w b2 (.slice Ac c.length capc) c) (h1 : R < b1) (h2 : R < b2) (hc : c.length ≤ 9) (hsb : shopB s) (hcb : cartB c) :
    Calls Try.prog 56 #[.pointer (some ⟨R, 0, none⟩), .slice A s.length cap, .slice Ac c.length capc] w (SpoilPost w B R (N + 20) 10) := by
  have hR := h.lt
  have hRB := hR.1
  have hRw := hR.2
  clear hR
  have HB1 := h1
  have HB2 := h2
  clear h1 h2
  have HSH := hid hA
  have HCT := hid hC
  have HSB := hid hsb
  have HCB := hid hcb
  have h0 := h.alloc (.cells #[] 3)
  have S0 := hA.alloc (.cells #[] 3)
  have C0 := hC.alloc (.cells #[] 3)
  have O0 := Own.lit0 enc1 1 3 w w.heap.size rfl (Nat.le_refl _)
  have G0 := hid (only_alloc (only_refl (w := w) (row := some R)) (.cells #[] 3))
  clear h hA hC hsb hcb
  go_enter Try.func56, Try.ntmps56
  go_wp2_with fail
  go_loopw [7, 8] (fun u i wr => LeftRel w B R N b1 b2 (.slice A s.length cap) s (.slice Ac c.length capc) c u i wr) (fun _ i _ => c.length - (intOf i).toNat)
  case atStart => exact ⟨0, [], Nat.zero_le _, rfl, rfl, S0, C0, O0, h0, G0.out⟩
  case round =>
    clear S0 C0 O0 h0 G0
    obtain ⟨k, o, hk, rfl, hol, hS, hC, ho, hr, hg⟩ := hrel
    have HG := hid hg
    have hol9 : o.length ≤ 9 := by omega
    have HOL := hid hol
    clear hg hol
    by_cases hlt : k < c.length
    · obtain ⟨b, off, rfl, hbb, c1, c2⟩ := (hC.sl len2).get2 hlt
      obtain ⟨gb1, gb2⟩ := cartB_at HCB.out hlt
      obtain ⟨a, ha⟩ : ∃ a, g1 c k = a := ⟨_, rfl⟩
      obtain ⟨q, hq⟩ : ∃ a, g2 c k = a := ⟨_, rfl⟩
      rw [ha] at c1 gb1
      rw [hq] at c2 gb2
      clear ha hq
      have hkc : (k : Int) < (c.length : Int) := by omega
      by_cases h0 : a < 0
      · have e0 : decide (0 ≤ a) = false := by simp; omega
        have e1 : (0 ≤ a) = False := by simp; omega
        go_wp2_with fail
        refine (one_any [100, 100, 50, 0, 99, 33] _ _ _ _ _ _ _ hr (by omega) rfl rfl (by simp) rfl (by simp)).mono ?_
        rintro e w4 ⟨x, rfl, _, h4, g4⟩
        have S4 := hS.grown g4 (hS.off HB1)
        have C4 := hC.grown g4 (hC.off HB2)
        have O4 := ho.grown g4 (ho.off hRw)
        have G4 := hid (only_trans HG.out g4)
        have z4 := G4.out.size
        clear g4 hS hC ho hr
        go_wp2_with (at_builtin; refine wpList_push len1 one1 rfl (.tmp 48) (.tmp 60) _ rfl Try.underlying25 infoInt rfl (by omega) (by omega) rfl O4 x (by simp) rfl rfl (by (try simp) <;> omega) (by (try simp) <;> omega) ?_)
        intro v5 w5 ho5 hg5 _
        have h5 := (h4.alloc (.cells #[.int .i64 x] 3)).row O4 hRw (by omega) hg5
        have G5 := hid (only_row (only_alloc G4.out (.cells #[.int .i64 x] 3)) O4 (Nat.le_refl _) hg5)
        have S5 := (S4.alloc (.cells #[.int .i64 x] 3)).grown hg5 (HSH.out.apart O4 (.inl (Nat.le_refl _)))
        have C5 := (C4.alloc (.cells #[.int .i64 x] 3)).grown hg5 (HCT.out.apart O4 (.inl (Nat.le_refl _)))
        clear hg5 O4 h4 S4 C4
        go_wp2
        go_roundw
        case rel => exact ⟨k + 1, o ++ [x], by omega, by go_num, by rw [List.length_append, HOL.out]; rfl, S5, C5, ho5, h5.more (by omega), G5.out⟩
        case measure => simp [intOf]; omega
      · obtain ⟨n, rfl⟩ := Int.eq_ofNat_of_zero_le (show 0 ≤ a by omega)
        clear h0
        by_cases hns : n < s.length
        · obtain ⟨b', off', rfl, hbb', c3, _⟩ := (hS.sl len4).get4 hns
          have pb := shopB_at HSB.out hns
          obtain ⟨p, hp⟩ : ∃ a, q1 s n = a := ⟨_, rfl⟩
          rw [hp] at c3 pb
          clear hp
          have hns' : (n : Int) < (s.length : Int) := by omega
          have pq : 0 ≤ p * q ∧ p * q ≤ 5001 * 21 := ⟨Int.mul_nonneg pb.1 gb2.1, Int.mul_le_mul pb.2 gb2.2 gb2.1 (by omega)⟩
          obtain ⟨u, hu⟩ : ∃ u, p * q = u := ⟨_, rfl⟩
          rw [hu] at pq
          have hw1 : IntKind.i64.wrap (p * q) = u := by rw [hu]; exact IntWalk.i64_in _ (by omega)
          have HU := hid hu
          clear hu
          go_wp2_with fail
          go_quiet (fail)
          clear hw1
          obtain ⟨wd, hwd⟩ : ∃ x, x = wr.drewN nq := ⟨_, rfl⟩
          have hSd : Own enc4 4 60 wd b1 (.slice (some ⟨b', off', none⟩) s.length cap) s := by rw [hwd]; exact hS.drewN nq
          have hCd : Own enc2 2 58 wd b2 (.slice (some ⟨b, off, none⟩) c.length capc) c := by rw [hwd]; exact hC.drewN nq
          have hod : Own enc1 1 3 wd w.heap.size u7 o := by rw [hwd]; exact ho.drewN nq
          have hrd : Rdr wd B R (N + k) := by rw [hwd]; exact hr.drewN nq
          have HGD := hid (show w.grownBy wd (some R) by rw [hwd]; exact only_drewN HG.out nq)
          rw [← hwd]
          clear hS hC ho hr hwd c1 c2 c3
          go_wp2_with fail
          refine (one_any [u, u, u / 2, 0, u - 1, u / 3] _ _ _ _ _ _ _ hrd (by omega) rfl rfl (by simp) rfl (by simp)).mono ?_
          rintro e w4 ⟨x, rfl, _, h4, g4⟩
          have S4 := hSd.grown g4 (hSd.off HB1)
          have C4 := hCd.grown g4 (hCd.off HB2)
          have O4 := hod.grown g4 (hod.off hRw)
          have G4 := hid (only_trans HGD.out g4)
          have z4 := G4.out.size
          clear g4 hSd hCd hod hrd
          go_wp2_with (at_builtin; refine wpList_push len1 one1 rfl (.tmp 48) (.tmp 60) _ rfl Try.underlying25 infoInt rfl (by omega) (by omega) rfl O4 x (by simp) rfl rfl (by (try simp) <;> omega) (by (try simp) <;> omega) ?_)
          intro v5 w5 ho5 hg5 _
          have h5 := (h4.alloc (.cells #[.int .i64 x] 3)).row O4 hRw (by omega) hg5
          have G5 := hid (only_row (only_alloc G4.out (.cells #[.int .i64 x] 3)) O4 (Nat.le_refl _) hg5)
          have S5 := (S4.alloc (.cells #[.int .i64 x] 3)).grown hg5 (HSH.out.apart O4 (.inl (Nat.le_refl _)))
          have C5 := (C4.alloc (.cells #[.int .i64 x] 3)).grown hg5 (HCT.out.apart O4 (.inl (Nat.le_refl _)))
          clear hg5 O4 h4 S4 C4
          go_wp2
          go_roundw
          case rel => exact ⟨k + 1, o ++ [x], by omega, by go_num, by rw [List.length_append, HOL.out]; rfl, S5, C5, ho5, h5.more (by omega), G5.out⟩
          case measure => simp [intOf]; omega
        · go_wp2_with fail
          refine (one_any [100, 100, 50, 0, 99, 33] _ _ _ _ _ _ _ hr (by omega) rfl rfl (by simp) rfl (by simp)).mono ?_
          rintro e w4 ⟨x, rfl, _, h4, g4⟩
          have S4 := hS.grown g4 (hS.off HB1)
          have C4 := hC.grown g4 (hC.off HB2)
          have O4 := ho.grown g4 (ho.off hRw)
          have G4 := hid (only_trans HG.out g4)
          have z4 := G4.out.size
          clear g4 hS hC ho hr
          go_wp2_with (at_builtin; refine wpList_push len1 one1 rfl (.tmp 48) (.tmp 60) _ rfl Try.underlying25 infoInt rfl (by omega) (by omega) rfl O4 x (by simp) rfl rfl (by (try simp) <;> omega) (by (try simp) <;> omega) ?_)
          intro v5 w5 ho5 hg5 _
          have h5 := (h4.alloc (.cells #[.int .i64 x] 3)).row O4 hRw (by omega) hg5
          have G5 := hid (only_row (only_alloc G4.out (.cells #[.int .i64 x] 3)) O4 (Nat.le_refl _) hg5)
          have S5 := (S4.alloc (.cells #[.int .i64 x] 3)).grown hg5 (HSH.out.apart O4 (.inl (Nat.le_refl _)))
          have C5 := (C4.alloc (.cells #[.int .i64 x] 3)).grown hg5 (HCT.out.apart O4 (.inl (Nat.le_refl _)))
          clear hg5 O4 h4 S4 C4
          go_wp2
          go_roundw
          case rel => exact ⟨k + 1, o ++ [x], by omega, by go_num, by rw [List.length_append, HOL.out]; rfl, S5, C5, ho5, h5.more (by omega), G5.out⟩
          case measure => simp [intOf]; omega
    · obtain ⟨Ao, co, rfl, _, _⟩ := ho.reads len1
      go_wp2_with fail
      refine (spoil_any o 1000001 Ao co _ B R (N + k) hr (by omega) (ho.sl len1) (by omega)).mono ?_
      rintro e w6 ⟨m, A6, c6, rfl, hm, S6, h6, g6⟩
      have HS6 := hid S6
      have G6 := hid (only_trans HG.out g6)
      clear S6 g6 hS hC ho hr
      go_wp2
      go_ret
      exact ⟨m, A6, c6, rfl, by omega, HS6.out, h6.more (by omega), G6.out⟩

/-- Some shop, some cart, and what is left of its lines; nothing of old memory has turned. -/
def TaxesDraw (w : World) (e : Ending) (w' : World) : Prop :=
  ∃ (s : List (Int × Int × Int × Int)) (c : List (Int × Int)) (l : List Int) (A Ac Al : Option Addr) (cap capc capl : Nat), e = .returned (.tuple #[.slice A s.length cap, .slice Ac c.length capc, .slice Al l.length capl]) ∧ s.length ≤ 10 ∧ c.length ≤ 9 ∧ l.length ≤ 10 ∧ Sl enc4 4 w' w'.heap.size A s ∧ Sl enc2 2 w' w'.heap.size Ac c ∧ Sl enc1 1 w' w'.heap.size Al l ∧ Below w.heap.size w w'

set_option maxHeartbeats 800000 in
theorem drawTaxesOf_any (w : World) (A : Option Addr) (len cap : Nat) (h : Bytes w w.heap.size A len cap) :
    Calls Try.prog 34 #[.slice A len cap] w (TaxesDraw w) := by
  go_enter Try.func34, Try.ntmps34
  go_wp2_with fail
  refine (newReader_any _ _ _ _ _ h (Nat.le_refl _)).mono ?_
  rintro e w1 ⟨rfl, h1, b1⟩
  have z1 := b1.size
  have hR := h1.lt.2
  go_wp2_with fail
  refine (anyBasket_any _ _ _ _ h1 (by omega)).mono ?_
  rintro e w2 ⟨s, v, c, u, rfl, x1, x2, x3, x4, S2, C2, h2, g2⟩
  obtain ⟨A2, c2, rfl, _, _⟩ := S2.reads len4
  obtain ⟨A3, c3, rfl, _, _⟩ := C2.reads len2
  have HS2 := hid S2
  have HC2 := hid C2
  go_wp2_with fail
  refine (someLeft_any s c A2 A3 c2 c3 _ _ _ _ w1.heap.size w1.heap.size h2 (by omega) S2 C2 hR hR x2 x3 x4).mono ?_
  rintro e w3 ⟨l, A4, c4, rfl, hl, L3, h3, g3⟩
  have S3 := hid ((HS2.out.grown g3 (HS2.out.off hR)).sl len4)
  have C3 := hid ((HC2.out.grown g3 (HC2.out.off hR)).sl len2)
  have L4 := hid L3
  have G3 := hid (below_of_only b1 (only_trans g2 g3) z1 (Nat.le_refl _))
  clear S2 C2 h1 h2 h3 b1 g2 g3 h L3
  go_wp2
  go_ret3
  exact ⟨s, c, l, _, _, _, _, _, _, rfl, x1, x2, hl, S3.out, C3.out, L4.out, G3.out⟩

set_option maxHeartbeats 800000 in
theorem drawNetOf_any (w : World) (A : Option Addr) (len cap : Nat) (h : Bytes w w.heap.size A len cap) :
    Calls Try.prog 10 #[.slice A len cap] w (TaxesDraw w) := by
  go_enter Try.func10, Try.ntmps10
  go_wp2_with fail
  refine (drawTaxesOf_any _ _ _ _ h).mono ?_
  rintro e w1 ⟨s, c, l, A1, A2, A3, c1, c2, c3, rfl, x1, x2, hl, S3, C3, L4, G3⟩
  have HS := hid S3
  have HC := hid C3
  have HL := hid L4
  have HG := hid G3
  clear S3 C3 L4 G3 h
  go_wp2
  go_ret3
  exact ⟨s, c, l, _, _, _, _, _, _, rfl, x1, x2, hl, HS.out, HC.out, HL.out, HG.out⟩

end Go.Proofs.Ytmgphagahdepfaa
