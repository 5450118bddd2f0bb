/- The walk of the law that points that end first are spent first. -/
import Derived.Test.YtdnfhpgiphobgaaDrawLotB
import Derived.Test.YtdnfhpgiphobgaaSpendS
import Derived.Test.YtdnfhpgiphobgaaEqualLot
import Derived.Deep.RegionHeld3
namespace Go.Proofs.Ytdnfhpgiphobgaa
open Go.RowKit

theorem spendL_le {p d : Int} {l : List (Int × Int)} (h : l.length ≤ 9) : (spendL p d l).length ≤ 9 := by
  unfold spendL
  split
  · have := spend_length (d := d) p l; omega
  · simp
theorem sl_drew {w : World} {A : Option Addr} {l : List (Int × Int)} (h : Sl enc2 2 w w.heap.size A l) : Sl enc2 2 w.drew w.drew.heap.size A l := h
theorem eqLots_at {R : List (Int × Int)} {n1 n2 : Nat} (h1 : n1 = R.length) (h2 : n2 = R.length) {A A' : Option Addr} {cap cap' : Nat} {w : World} (h : Sl enc2 2 w w.heap.size A R) (h' : Sl enc2 2 w w.heap.size A' R) (hl : R.length ≤ 1048576) :
    Calls Try.prog 14 #[.slice A n1 cap, .slice A' n2 cap'] w fun e w' => e = .returned (.bool true) ∧ Below w.heap.size w w' := by
  subst h1
  rw [h2]
  exact equalLots_same R A A' cap cap' w h h' hl

set_option maxHeartbeats 3200000 in
set_option maxRecDepth 100000 in
theorem fnSpendPointsOld_walk (w : World) (A : Option Addr) (len cap : Nat) (h : Bytes w w.heap.size A len cap) :
    Calls Try.prog 6 #[.slice A len cap] w fun e w' => e = .returned (.bool true) ∧ Below w.heap.size w w' := by
  by_cases hl : 1048576 < len
  · clear h
    go_enter Try.func6, Try.ntmps6
    go_wp2
    go_ret
    exact ⟨rfl, Below.refl _ _⟩
  · go_enter Try.func6, Try.ntmps6
    go_wp2_with fail
    refine (drawSpendPoints_any _ _ _ _ h).mono ?_
    rintro e w1 ⟨l, v, p, d, rfl, hll, o1, D1⟩
    clear h
    obtain ⟨A1, c1, rfl, hc1, r1⟩ := o1.reads len2
    clear o1
    obtain ⟨RL, hRL⟩ : ∃ x, x = spendL p d l := ⟨_, rfl⟩
    have hRn : RL.length ≤ 9 := by rw [hRL]; exact spendL_le hll
    have HR := hid hRL
    clear hRL
    go_wp2_with fail
    refine (spendPoints_any l A1 c1 p d _ r1 (by omega)).mono ?_
    rintro e w2 ⟨v2, rfl, o2, b2⟩
    rw [← HR.out] at o2
    obtain ⟨A2, c2, rfl, hc2, r2⟩ := o2.reads len2
    have D2 := D1.trans (b2.mono D1.size)
    have q2 := (r1.below b2 (Nat.le_refl _)).more b2.size
    clear b2 o2 r1 D1
    go_wp2_with fail
    refine (specSpendPoints_any l A1 c1 p d _ q2 (by omega)).mono ?_
    rintro e w3 ⟨v3, rfl, o3, b3⟩
    rw [← HR.out] at o3
    obtain ⟨A3, c3, rfl, _, r3⟩ := o3.reads len2
    have D3 := D2.trans (b3.mono D2.size)
    have q3 := (q2.below b3 (Nat.le_refl _)).more b3.size
    have s3 := (r2.below b3 (Nat.le_refl _)).more b3.size
    clear b3 o3 q2 r2 D2
    go_wp2_with fail
    refine (equalLots_same RL A2 A3 c2 c3 _ s3 r3 (by omega)).mono ?_
    rintro e w4 ⟨rfl, b4⟩
    have D4 := D3.trans (b4.mono D3.size)
    have q4 := (q3.below b4 (Nat.le_refl _)).more b4.size
    have s4 := (s3.below b4 (Nat.le_refl _)).more b4.size
    have r4 := (r3.below b4 (Nat.le_refl _)).more b4.size
    clear b4 q3 s3 r3 D3
    by_cases hok : okSpend l p d = true
    · obtain ⟨hv, hd, p1, p2⟩ := okSpend_true.1 hok
      have HV := hid (vLots_iff.1 hv)
      have hRe : RL = spend d p l := by rw [HR.out]; simp [spendL, hok]
      by_cases hz : RL.length = 0
      · have hzi : (RL.length == 0) = true := by simpa using hz
        have hzj : ((RL.length : Int) == 0) = true := by simpa using hz
        clear hz hRe hv
        go_wp2_with fail
        refine (equalLots_same RL A2 A3 c2 c3 _ s4 r4 (by omega)).mono ?_
        rintro e w5 ⟨rfl, b5⟩
        have D5 := D4.trans (b5.mono D4.size)
        clear q4 s4 r4 b5 D4 
        have DD := hid D5
        clear D5
        go_wp2
        go_ret
        exact ⟨rfl, DD.out⟩
      · have hzi : (RL.length == 0) = false := by simpa using hz
        have hzj : ((RL.length : Int) == 0) = false := by simpa using hz
        have hf := spend_form (d := d) l p (fun x hx => (HV.out.bd x hx).1) HV.out.1 (by omega)
        rw [← hRe] at hf
        rcases hf with hf | ⟨n, q, hn, hf, hq⟩
        · exfalso; apply hz; rw [hf]; rfl
        obtain ⟨n', hn'⟩ : ∃ n', n + 1 = n' := ⟨_, rfl⟩
        rw [hn'] at hf
        obtain ⟨R, hR⟩ : ∃ R, l.drop n' = R := ⟨_, rfl⟩
        rw [hR] at hf
        have hRd : RL.drop 1 = R := by rw [hf]; rfl
        have hRl : R.length = l.length - n' := by rw [← hR, List.length_drop]
        have hRL : RL.length = R.length + 1 := by rw [hf]; rfl
        have HN1 := hid (show RL.length - 1 = R.length by omega)
        have HN2 := hid (show l.length - n' = R.length from hRl.symm)
        have hR63 : R.length ≤ 1048576 := by omega
        have hnn : (l.length : Int) - (RL.length : Int) = (n : Int) := by omega
        have hn0 : (0 : Int) ≤ (n : Int) := by omega
        have hkk1 : (n : Int) + 1 = (n' : Int) := by omega
        have wk3 : IntKind.i64.wrap (n' : Int) = (n' : Int) := IntWalk.i64_in _ (by omega)
        have wk1 : IntKind.i64.wrap ((n : Int) + 1) = (n' : Int) := by rw [IntWalk.i64_in _ (by omega)]; omega
        have hk1 : (0 : Int) ≤ (n' : Int) := by omega
        have hk1l : (n' : Int) ≤ (l.length : Int) := by omega
        have hnl : (n : Int) < (l.length : Int) := by omega
        have h1r : (1 : Int) ≤ (RL.length : Int) := by omega
        have h0r : (0 : Int) < (RL.length : Int) := by omega
        have h0rn : 0 < RL.length := by omega
        have h1rn : 1 ≤ RL.length := by omega
        have hda0 := s4.drop (k := 1) hc2 h1rn
        have hdb0 := q4.drop (k := n') hc1 (by omega)
        rw [hRd] at hda0
        rw [hR] at hdb0
        obtain ⟨b, off, hA2, hbb, d1, d2⟩ := s4.get2 (k := 0) h0rn
        obtain ⟨b', off', hA1, hbb', d3, d4⟩ := q4.get2 (k := n) hn
        simp only [Nat.zero_mul, Nat.add_zero] at d1 d2
        have g10 : g1 RL 0 = g1 l n := by rw [hf]; rfl
        have g20 : g2 RL 0 = q := by rw [hf]; rfl
        rw [g10] at d1
        rw [g20] at d2
        obtain ⟨X, hX⟩ : ∃ x, g1 l n = x := ⟨_, rfl⟩
        obtain ⟨Z, hZ⟩ : ∃ x, g2 l n = x := ⟨_, rfl⟩
        rw [hX] at d1 d3
        rw [hZ] at d4 hq
        obtain ⟨Y, hY⟩ : ∃ x, q = x := ⟨_, rfl⟩
        rw [hY] at d2 hq
        have hle : decide (Y ≤ Z) = true := decide_eq_true hq
        subst hA2
        subst hA1
        clear hz hRe hv hf hR hRd hRl hRL g10 g20 hX hZ hY hn' r4
        by_cases hca : c2 = 1
        · by_cases hcb : c1 = n'
          · rw [if_pos hca] at hda0
            rw [if_pos hcb] at hdb0
            have s4d := sl_drew hda0
            have q4d := sl_drew hdb0
            go_wp2_with fail
            go_region_held3 (fun x => x.cell? ⟨b, off, none⟩ = some (.int .i64 X) ∧ x.cell? ⟨b, off + 1, none⟩ = some (.int .i64 Y) ∧ x.cell? ⟨b', off' + n * 2, none⟩ = some (.int .i64 X) ∧ x.cell? ⟨b', off' + n * 2 + 1, none⟩ = some (.int .i64 Z)) (((repeat' apply And.intro) <;> first | assumption | (simp [go_sem, *]; done)))
              ((go_at_call 14; (with_reducible refine Calls.mono (eqLots_at (w := w4.drew) HN1.out HN2.out s4d q4d hR63) ?_); rintro e w5 ⟨rfl, b5⟩; have e1 : w5.cell? ⟨b, off, none⟩ = some (.int .i64 X) := (b5.cell (p := ⟨b, off, none⟩) hbb).trans d1; have e2 : w5.cell? ⟨b, off + 1, none⟩ = some (.int .i64 Y) := (b5.cell (p := ⟨b, off + 1, none⟩) hbb).trans d2; have e3 : w5.cell? ⟨b', off' + n * 2, none⟩ = some (.int .i64 X) := (b5.cell (p := ⟨b', off' + n * 2, none⟩) hbb').trans d3; have e4 : w5.cell? ⟨b', off' + n * 2 + 1, none⟩ = some (.int .i64 Z) := (b5.cell (p := ⟨b', off' + n * 2 + 1, none⟩) hbb').trans d4))
            have DD := hid (D4.drew.trans (b5.mono D4.size))
            clear D4 b5 s4d q4d
            go_wp2
            go_ret
            exact ⟨rfl, DD.out⟩
          · rw [if_pos hca] at hda0
            rw [if_neg hcb] at hdb0
            simp only [Option.map_some, Addr.add_lit] at hdb0
            have s4d := sl_drew hda0
            have q4d := sl_drew hdb0
            go_wp2_with fail
            go_region_held3 (fun x => x.cell? ⟨b, off, none⟩ = some (.int .i64 X) ∧ x.cell? ⟨b, off + 1, none⟩ = some (.int .i64 Y) ∧ x.cell? ⟨b', off' + n * 2, none⟩ = some (.int .i64 X) ∧ x.cell? ⟨b', off' + n * 2 + 1, none⟩ = some (.int .i64 Z)) (((repeat' apply And.intro) <;> first | assumption | (simp [go_sem, *]; done)))
              ((go_at_call 14; (with_reducible refine Calls.mono (eqLots_at (w := w4.drew) HN1.out HN2.out s4d q4d hR63) ?_); rintro e w5 ⟨rfl, b5⟩; have e1 : w5.cell? ⟨b, off, none⟩ = some (.int .i64 X) := (b5.cell (p := ⟨b, off, none⟩) hbb).trans d1; have e2 : w5.cell? ⟨b, off + 1, none⟩ = some (.int .i64 Y) := (b5.cell (p := ⟨b, off + 1, none⟩) hbb).trans d2; have e3 : w5.cell? ⟨b', off' + n * 2, none⟩ = some (.int .i64 X) := (b5.cell (p := ⟨b', off' + n * 2, none⟩) hbb').trans d3; have e4 : w5.cell? ⟨b', off' + n * 2 + 1, none⟩ = some (.int .i64 Z) := (b5.cell (p := ⟨b', off' + n * 2 + 1, none⟩) hbb').trans d4))
            have DD := hid (D4.drew.trans (b5.mono D4.size))
            clear D4 b5 s4d q4d
            go_wp2
            go_ret
            exact ⟨rfl, DD.out⟩
        · by_cases hcb : c1 = n'
          · rw [if_neg hca] at hda0
            rw [if_pos hcb] at hdb0
            simp only [Option.map_some, Addr.add_lit, Nat.one_mul] at hda0
            have s4d := sl_drew hda0
            have q4d := sl_drew hdb0
            go_wp2_with fail
            go_region_held3 (fun x => x.cell? ⟨b, off, none⟩ = some (.int .i64 X) ∧ x.cell? ⟨b, off + 1, none⟩ = some (.int .i64 Y) ∧ x.cell? ⟨b', off' + n * 2, none⟩ = some (.int .i64 X) ∧ x.cell? ⟨b', off' + n * 2 + 1, none⟩ = some (.int .i64 Z)) (((repeat' apply And.intro) <;> first | assumption | (simp [go_sem, *]; done)))
              ((go_at_call 14; (with_reducible refine Calls.mono (eqLots_at (w := w4.drew) HN1.out HN2.out s4d q4d hR63) ?_); rintro e w5 ⟨rfl, b5⟩; have e1 : w5.cell? ⟨b, off, none⟩ = some (.int .i64 X) := (b5.cell (p := ⟨b, off, none⟩) hbb).trans d1; have e2 : w5.cell? ⟨b, off + 1, none⟩ = some (.int .i64 Y) := (b5.cell (p := ⟨b, off + 1, none⟩) hbb).trans d2; have e3 : w5.cell? ⟨b', off' + n * 2, none⟩ = some (.int .i64 X) := (b5.cell (p := ⟨b', off' + n * 2, none⟩) hbb').trans d3; have e4 : w5.cell? ⟨b', off' + n * 2 + 1, none⟩ = some (.int .i64 Z) := (b5.cell (p := ⟨b', off' + n * 2 + 1, none⟩) hbb').trans d4))
            have DD := hid (D4.drew.trans (b5.mono D4.size))
            clear D4 b5 s4d q4d
            go_wp2
            go_ret
            exact ⟨rfl, DD.out⟩
          · rw [if_neg hca] at hda0
            rw [if_neg hcb] at hdb0
            simp only [Option.map_some, Addr.add_lit, Nat.one_mul] at hda0
            simp only [Option.map_some, Addr.add_lit] at hdb0
            have s4d := sl_drew hda0
            have q4d := sl_drew hdb0
            go_wp2_with fail
            go_region_held3 (fun x => x.cell? ⟨b, off, none⟩ = some (.int .i64 X) ∧ x.cell? ⟨b, off + 1, none⟩ = some (.int .i64 Y) ∧ x.cell? ⟨b', off' + n * 2, none⟩ = some (.int .i64 X) ∧ x.cell? ⟨b', off' + n * 2 + 1, none⟩ = some (.int .i64 Z)) (((repeat' apply And.intro) <;> first | assumption | (simp [go_sem, *]; done)))
              ((go_at_call 14; (with_reducible refine Calls.mono (eqLots_at (w := w4.drew) HN1.out HN2.out s4d q4d hR63) ?_); rintro e w5 ⟨rfl, b5⟩; have e1 : w5.cell? ⟨b, off, none⟩ = some (.int .i64 X) := (b5.cell (p := ⟨b, off, none⟩) hbb).trans d1; have e2 : w5.cell? ⟨b, off + 1, none⟩ = some (.int .i64 Y) := (b5.cell (p := ⟨b, off + 1, none⟩) hbb).trans d2; have e3 : w5.cell? ⟨b', off' + n * 2, none⟩ = some (.int .i64 X) := (b5.cell (p := ⟨b', off' + n * 2, none⟩) hbb').trans d3; have e4 : w5.cell? ⟨b', off' + n * 2 + 1, none⟩ = some (.int .i64 Z) := (b5.cell (p := ⟨b', off' + n * 2 + 1, none⟩) hbb').trans d4))
            have DD := hid (D4.drew.trans (b5.mono D4.size))
            clear D4 b5 s4d q4d
            go_wp2
            go_ret
            exact ⟨rfl, DD.out⟩
    · have hok' : okSpend l p d = false := by simpa using hok
      clear hok
      go_wp2_with fail
      refine (equalLots_same RL A2 A3 c2 c3 _ s4 r4 (by omega)).mono ?_
      rintro e w5 ⟨rfl, b5⟩
      have D5 := hid (D4.trans (b5.mono D4.size))
      clear D4 b5 q4 s4 r4
      go_wp2
      go_ret
      exact ⟨rfl, D5.out⟩

end Go.Proofs.Ytdnfhpgiphobgaa
