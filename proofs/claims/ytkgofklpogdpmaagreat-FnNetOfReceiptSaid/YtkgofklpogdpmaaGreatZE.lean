/- Contracts: slices of numbers copied. -/
import Derived.Test.YtkgofklpogdpmaaGreatZA
import Derived.Test.YtkgofklpogdpmaaGreatZC
import Derived.Deep.RegionHeld3
import Derived.Test.YtkgofklpogdpmaaGreatZB
namespace Go.Proofs.YtkgofklpogdpmaaGreat
open Go.RowKit

theorem infoInt : (Tryz.prog.info? 3).map (fun i => (i.zero, i.size, i.bytes)) = some (some (.int .i64 0), 1, 8) := by kernel_rfl

end Go.Proofs.YtkgofklpogdpmaaGreat

/- Contract: the prices of the lines of a cart, as the paper says it. -/
namespace Go.Proofs.YtkgofklpogdpmaaGreat
open Go.RowKit

def AmtsPost (w : World) (s : List (Int × Int × Int × Int)) (c : List (Int × Int)) (e : Ending) (w' : World) : Prop :=
  ∃ v, e = .returned v ∧ Own enc1 1 3 w' w.heap.size v (amts s c) ∧ Below w.heap.size w w'
def AmtsRel (w : World) (s : List (Int × Int × Int × Int)) (c : List (Int × Int)) (v i : Value) (wr : World) : Prop :=
  ∃ (k : Nat) (o : List Int), k ≤ c.length ∧ i = .int .i64 k ∧ o = (List.range k).map (amt s c) ∧ Own enc1 1 3 wr w.heap.size v o ∧ Below w.heap.size w wr
theorem amts_step (s : List (Int × Int × Int × Int)) (c : List (Int × Int)) (k : Nat) : (List.range (k + 1)).map (amt s c) = (List.range k).map (amt s c) ++ [amt s c k] := by
  rw [List.range_succ, List.map_append]; rfl

set_option maxHeartbeats 3200000 in
set_option maxRecDepth 100000 in
theorem slineAmounts_any (s : List (Int × Int × Int × Int)) (c : List (Int × Int)) (A Ac : Option Addr) (cap capc : Nat) (w : World) (hA : Sl enc4 4 w w.heap.size A s) (hC : Sl enc2 2 w w.heap.size Ac c) (hs : vShop s = true) (hc : vCart s.length c = true) :
    Calls Tryz.prog 56 #[.slice A s.length cap, .slice Ac c.length capc] w (AmtsPost w s c) := by
  have O0 := Own.lit0 enc1 1 3 w w.heap.size rfl (Nat.le_refl _)
  have D0 := (Below.refl w.heap.size w).alloc (Nat.le_refl _) (.cells #[] 3)
  have HS := hid hs
  have HC := hid hc
  have hl1 := vShop_len hs
  have hc8 := (vCart_iff.1 hc).2.2
  clear hs hc
  go_enter Tryz.func56, Tryz.ntmps56
  go_wp2_with fail
  go_loopw [5, 6] (fun v i wr => AmtsRel w s c v i wr) (fun _ i _ => c.length - (intOf i).toNat)
  case atStart => exact ⟨0, [], Nat.zero_le _, rfl, rfl, O0, D0⟩
  case round =>
    clear O0 D0
    obtain ⟨k, o, hk, rfl, hoe, ho, hb⟩ := hrel
    have HOE := hid hoe
    have hsz := hb.size
    have HB := hid hb
    have hol : o.length ≤ 8 := by rw [hoe]; simp; omega
    clear hoe
    by_cases hlt : k < c.length
    · obtain ⟨b, off, rfl, hbb, c1, c2⟩ := hC.get2 hlt
      obtain ⟨f1, f2, f3, f4, _⟩ := fit_at HS.out HC.out hlt
      have hstep := amts_step s c k
      unfold amt at f4
      have HU := hid (show amt s c k = q1 s (g1 c k).toNat * g2 c k from rfl)
      obtain ⟨a, ha⟩ : ∃ a : Nat, (g1 c k).toNat = a := ⟨_, rfl⟩
      obtain ⟨q, hq⟩ : ∃ q, g2 c k = q := ⟨_, rfl⟩
      obtain ⟨p, hp⟩ : ∃ p, q1 s a = p := ⟨_, rfl⟩
      rw [ha] at f1 f2
      rw [ha, hq, hp] at f4
      have HU2 := hid (show amt s c k = p * q by rw [HU.out, ha, hq, hp])
      have HST := hid hstep
      rw [← f2] at c1
      rw [hq] at c2 f3
      obtain ⟨b', off', rfl, hbb', c3, _⟩ := hA.get4 f1
      rw [hp] at c3
      have d1 : wr.cell? ⟨b, off + k * 2, none⟩ = some (.int .i64 (a : Int)) := (hb.cell hbb).trans c1
      have d2 : wr.cell? ⟨b, off + k * 2 + 1, none⟩ = some (.int .i64 q) := (hb.cell hbb).trans c2
      have d3 : wr.cell? ⟨b', off' + a * 4, none⟩ = some (.int .i64 p) := (hb.cell hbb').trans c3
      have hbw : b < wr.heap.size := by omega
      have hbw' : b' < wr.heap.size := by omega
      obtain ⟨u, hu⟩ : ∃ u, p * q = u := ⟨_, rfl⟩
      rw [hu] at f4
      have hw1 : IntKind.i64.wrap (p * q) = u := by rw [hu]; exact IntWalk.i64_in _ (by omega)
      have HU3 := hid (show amt s c k = u by rw [HU2.out, hu])
      have hkl : (k : Int) < (c.length : Int) := by omega
      have hal : (a : Int) < (s.length : Int) := by omega
      have hne : some b ≠ u5.ownBlock := fun he => by have := (ho.lt b he.symm).1; omega
      have hne' : some b' ≠ u5.ownBlock := fun he => by have := (ho.lt b' he.symm).1; omega
      clear c1 c2 c3 ha hq hp hu hb f2 f3 hstep HU HU2
      go_wp2_with fail
      go_region_held3 (fun x => x.cell? ⟨b, off + k * 2, none⟩ = some (.int .i64 (a : Int)) ∧ x.cell? ⟨b, off + k * 2 + 1, none⟩ = some (.int .i64 q) ∧ x.cell? ⟨b', off' + a * 4, none⟩ = some (.int .i64 p)) (((repeat' apply And.intro) <;> first | assumption | (simp [go_sem, *]; done))) ((refine step_push len1 one1 (by rfl) _ _ _ (by rfl) Tryz.underlying25 infoInt rfl (by omega) (by omega) (by rfl) ho u (by rfl) (by rfl) (by rfl) (by omega) (by omega) ?_; intro v2 w2 ho2 hg2; have e1 : w2.cell? ⟨b, off + k * 2, none⟩ = some (.int .i64 (a : Int)) := (World.cell?_of_block (hg2.block b (by simp; omega) hne)).trans ((World.cell?_alloc_lt _ _ _ hbw).trans d1); have e2 : w2.cell? ⟨b, off + k * 2 + 1, none⟩ = some (.int .i64 q) := (World.cell?_of_block (hg2.block b (by simp; omega) hne)).trans ((World.cell?_alloc_lt _ _ _ hbw).trans d2); have e3 : w2.cell? ⟨b', off' + a * 4, none⟩ = some (.int .i64 p) := (World.cell?_of_block (hg2.block b' (by simp; omega) hne')).trans ((World.cell?_alloc_lt _ _ _ hbw').trans d3); have D2 := hid (below_push HB.out hsz ho (Nat.le_refl _) hg2); clear hg2))
      go_wp2
      go_roundw
      case rel => exact ⟨k + 1, o ++ [u], by omega, by go_num, by rw [HST.out, HOE.out, HU3.out], ho2, D2.out⟩
      case measure => simp [intOf]; omega
    · have hkl : k = c.length := by omega
      subst hkl
      have HE := hid (show o = amts s c from HOE.out)
      go_wp2
      go_ret
      refine ⟨_, rfl, ?_, HB.out⟩
      rw [← HE.out]
      exact ho

end Go.Proofs.YtkgofklpogdpmaaGreat

/- Contract: the prices of the lines of a cart, as the program does it. -/
namespace Go.Proofs.YtkgofklpogdpmaaGreat
open Go.RowKit

def amtsI (s : List (Int × Int × Int × Int)) (c : List (Int × Int)) : List Int := if (vShop s && vCart s.length c) = true then amts s c else []
def AmtsIPost (w : World) (s : List (Int × Int × Int × Int)) (c : List (Int × Int)) (e : Ending) (w' : World) : Prop :=
  ∃ v, e = .returned v ∧ Own enc1 1 3 w' w.heap.size v (amtsI s c) ∧ Below w.heap.size w w'

set_option maxHeartbeats 3200000 in
set_option maxRecDepth 100000 in
theorem lineAmounts_any (s : List (Int × Int × Int × Int)) (c : List (Int × Int)) (A Ac : Option Addr) (cap capc : Nat) (w : World) (hA : Sl enc4 4 w w.heap.size A s) (hC : Sl enc2 2 w w.heap.size Ac c) (hl : s.length ≤ 1048576) (hc : c.length ≤ 1048576) :
    Calls Tryz.prog 14 #[.slice A s.length cap, .slice Ac c.length capc] w (AmtsIPost w s c) := by
  have O0 := Own.lit0 enc1 1 3 w w.heap.size rfl (Nat.le_refl _)
  have D0 := (Below.refl w.heap.size w).alloc (Nat.le_refl _) (.cells #[] 3)
  have hA0 : Sl enc4 4 (w.alloc (.cells #[] 3)) (w.alloc (.cells #[] 3)).heap.size A s := (hA.alloc (Nat.le_refl _) _).more (by simp)
  have hC0 : Sl enc2 2 (w.alloc (.cells #[] 3)) (w.alloc (.cells #[] 3)).heap.size Ac c := (hC.alloc (Nat.le_refl _) _).more (by simp)
  by_cases hok : (vShop s && vCart s.length c) = true
  · obtain ⟨hs, hcv⟩ := Bool.and_eq_true_iff.1 hok
    have HOK := hid hok
    have HI := hid (show amtsI s c = amts s c by unfold amtsI; rw [if_pos hok])
    have HS := hid hs
    have HC := hid hcv
    have hl1 := vShop_len hs
    have hc8 := (vCart_iff.1 hcv).2.2
    clear hs hcv hok
    go_enter Tryz.func14, Tryz.ntmps14
    go_wp2_with fail
    refine (validCartI_any s c A Ac cap capc _ hA0 hC0 (by omega) (by omega)).mono ?_
    rintro e w1 ⟨rfl, b1⟩
    rw [HOK.out]
    have O1 := O0.below b1 (Nat.le_refl _)
    have D1 := D0.trans (b1.mono (by simp))
    clear b1 O0 D0 hA0 hC0
    go_wp2_with fail
    go_loopw [5, 16] (fun v i wr => AmtsRel w s c v i wr) (fun _ i _ => c.length - (intOf i).toNat)
    case atStart => exact ⟨0, [], Nat.zero_le _, rfl, rfl, O1, D1⟩
    case round =>
      clear O1 D1
      obtain ⟨k, o, hk, rfl, hoe, ho, hb⟩ := hrel
      have HOE := hid hoe
      have hsz := hb.size
      have HB := hid hb
      have hol : o.length ≤ 8 := by rw [hoe]; simp; omega
      clear hoe
      by_cases hlt : k < c.length
      · obtain ⟨b, off, rfl, hbb, c1, c2⟩ := hC.get2 hlt
        obtain ⟨f1, f2, f3, f4, _⟩ := fit_at HS.out HC.out hlt
        have hstep := amts_step s c k
        unfold amt at f4
        have HU := hid (show amt s c k = q1 s (g1 c k).toNat * g2 c k from rfl)
        obtain ⟨a, ha⟩ : ∃ a : Nat, (g1 c k).toNat = a := ⟨_, rfl⟩
        obtain ⟨q, hq⟩ : ∃ q, g2 c k = q := ⟨_, rfl⟩
        obtain ⟨p, hp⟩ : ∃ p, q1 s a = p := ⟨_, rfl⟩
        rw [ha] at f1 f2
        rw [ha, hq, hp] at f4
        have HU2 := hid (show amt s c k = p * q by rw [HU.out, ha, hq, hp])
        have HST := hid hstep
        rw [← f2] at c1
        rw [hq] at c2 f3
        obtain ⟨b', off', rfl, hbb', c3, _⟩ := hA.get4 f1
        rw [hp] at c3
        have d1 : wr.cell? ⟨b, off + k * 2, none⟩ = some (.int .i64 (a : Int)) := (hb.cell hbb).trans c1
        have d2 : wr.cell? ⟨b, off + k * 2 + 1, none⟩ = some (.int .i64 q) := (hb.cell hbb).trans c2
        have d3 : wr.cell? ⟨b', off' + a * 4, none⟩ = some (.int .i64 p) := (hb.cell hbb').trans c3
        have hbw : b < wr.heap.size := by omega
        have hbw' : b' < wr.heap.size := by omega
        obtain ⟨u, hu⟩ : ∃ u, p * q = u := ⟨_, rfl⟩
        rw [hu] at f4
        have hw1 : IntKind.i64.wrap (p * q) = u := by rw [hu]; exact IntWalk.i64_in _ (by omega)
        have HU3 := hid (show amt s c k = u by rw [HU2.out, hu])
        have hkl : (k : Int) < (c.length : Int) := by omega
        have hal : (a : Int) < (s.length : Int) := by omega
        have hne' : some b' ≠ u5.ownBlock := fun he => by have := (ho.lt b' he.symm).1; omega
        have hnz : some wr.heap.size ≠ u5.ownBlock := fun he => by have := (ho.lt wr.heap.size he.symm).2; omega
        have hoN := ho.alloc (.cells #[.int .i64 (a : Int), .int .i64 q] 83)
        have HBN := hid (HB.out.alloc hsz (.cells #[.int .i64 (a : Int), .int .i64 q] 83))
        have n0 : (wr.alloc (.cells #[.int .i64 (a : Int), .int .i64 q] 83)).cell? ⟨wr.heap.size, 0, none⟩ = some (.int .i64 (a : Int)) := by simp [go_sem]
        have n1 : (wr.alloc (.cells #[.int .i64 (a : Int), .int .i64 q] 83)).cell? ⟨wr.heap.size, 1, none⟩ = some (.int .i64 q) := by simp [go_sem]
        have n2 : (wr.alloc (.cells #[.int .i64 (a : Int), .int .i64 q] 83)).cell? ⟨b', off' + a * 4, none⟩ = some (.int .i64 p) := (World.cell?_alloc_lt _ _ _ hbw').trans d3
        have hz1 : wr.heap.size < (wr.alloc (.cells #[.int .i64 (a : Int), .int .i64 q] 83)).heap.size := by simp
        have HG0 := hid (show wr.heap.size + 1 = (wr.alloc (.cells #[.int .i64 (a : Int), .int .i64 q] 83)).heap.size by simp)
        have hz2 : b' < (wr.alloc (.cells #[.int .i64 (a : Int), .int .i64 q] 83)).heap.size := by simp; omega
        have hz3 : w.heap.size ≤ (wr.alloc (.cells #[.int .i64 (a : Int), .int .i64 q] 83)).heap.size := by simp; omega
        clear c1 c2 c3 ha hq hp hu hb f2 f3 hstep HU HU2 ho HB
        go_wp2_with fail
        go_region_held3 (fun x => x.cell? ⟨wr.heap.size, 0, none⟩ = some (.int .i64 (a : Int)) ∧ x.cell? ⟨wr.heap.size, 1, none⟩ = some (.int .i64 q) ∧ x.cell? ⟨b', off' + a * 4, none⟩ = some (.int .i64 p)) (((repeat' apply And.intro) <;> first | assumption | (simp [go_sem, *]; done))) ((refine step_push len1 one1 (by rfl) _ _ _ (by rfl) Tryz.underlying25 infoInt rfl (by omega) (by omega) (by rfl) hoN u HG0.out (by rfl) (by rfl) (by omega) (by omega) ?_; intro v2 w2 ho2 hg2; have e1 : w2.cell? ⟨wr.heap.size, 0, none⟩ = some (.int .i64 (a : Int)) := (World.cell?_of_block (hg2.block _ (by simp; omega) hnz)).trans ((World.cell?_alloc_lt _ _ _ hz1).trans n0); have e2 : w2.cell? ⟨wr.heap.size, 1, none⟩ = some (.int .i64 q) := (World.cell?_of_block (hg2.block _ (by simp; omega) hnz)).trans ((World.cell?_alloc_lt _ _ _ hz1).trans n1); have e3 : w2.cell? ⟨b', off' + a * 4, none⟩ = some (.int .i64 p) := (World.cell?_of_block (hg2.block b' (by simp; omega) hne')).trans ((World.cell?_alloc_lt _ _ _ hz2).trans n2); have D2 := hid (below_push HBN.out hz3 hoN (Nat.le_refl _) hg2); clear hg2))
        go_wp2
        go_roundw
        case rel => exact ⟨k + 1, o ++ [u], by omega, by go_num, by rw [HST.out, HOE.out, HU3.out], ho2, D2.out⟩
        case measure => simp [intOf]; omega
      · have hkl : k = c.length := by omega
        subst hkl
        have HE := hid (show o = amts s c from HOE.out)
        go_wp2
        go_ret
        refine ⟨_, rfl, ?_, HB.out⟩
        rw [HI.out, ← HE.out]
        exact ho
  · have hok' : (vShop s && vCart s.length c) = false := by simpa using hok
    have HOK := hid hok'
    have HI := hid (show amtsI s c = [] by unfold amtsI; rw [if_neg hok])
    clear hok hok'
    go_enter Tryz.func14, Tryz.ntmps14
    go_wp2_with fail
    refine (validCartI_any s c A Ac cap capc _ hA0 hC0 (by omega) (by omega)).mono ?_
    rintro e w1 ⟨rfl, b1⟩
    rw [HOK.out]
    have O1 := O0.below b1 (Nat.le_refl _)
    have D1 := hid (D0.trans (b1.mono (by simp)))
    clear b1 O0 D0 hA0 hC0
    go_wp2
    go_ret
    refine ⟨_, rfl, ?_, D1.out⟩
    rw [HI.out]
    exact O1

end Go.Proofs.YtkgofklpogdpmaaGreat

/- Contract: what is left of the lines, as the paper says it. -/
namespace Go.Proofs.YtkgofklpogdpmaaGreat
open Go.RowKit

theorem amts_len (s : List (Int × Int × Int × Int)) (c : List (Int × Int)) : (amts s c).length = c.length := by simp [amts]
theorem amts_at {s : List (Int × Int × Int × Int)} {c : List (Int × Int)} {k : Nat} (h : k < c.length) : g0 (amts s c) k = amt s c k := by
  simp [g0, amts, List.getD, h]
theorem vLeft_no {s : List (Int × Int × Int × Int)} {c : List (Int × Int)} {l : List Int} (h : l.length ≠ c.length) : vLeft s c l = false := by
  simp [vLeft, h]
theorem vLeft_yes {s : List (Int × Int × Int × Int)} {c : List (Int × Int)} {l : List Int} (h : l.length = c.length) (ha : (List.range c.length).all (lftOk s c l) = true) : vLeft s c l = true := by
  unfold vLeft; rw [ha]; simp [h]
theorem vLeft_bad {s : List (Int × Int × Int × Int)} {c : List (Int × Int)} {l : List Int} {k : Nat} (h : k < c.length) (ha : lftOk s c l k = false) : vLeft s c l = false := by
  unfold vLeft; rw [range_all_no h ha]; rfl

end Go.Proofs.YtkgofklpogdpmaaGreat

/- Contracts: coupons of a cart, and numbers in lists. -/
namespace Go.Proofs.YtkgofklpogdpmaaGreat
open Go.RowKit

/-- Whether a list has a number. -/
def noK (l : List Int) (n : Int) (k : Nat) : Bool := decide (g0 l k ≠ n)
def hasN (l : List Int) (n : Int) : Bool := !((List.range l.length).all (noK l n))
theorem hasN_yes {l : List Int} {n : Int} {k : Nat} (h : k < l.length) (hk : g0 l k = n) : hasN l n = true := by
  unfold hasN; rw [range_all_no h (by unfold noK; rw [hk]; simp)]; rfl
theorem hasN_no {l : List Int} {n : Int} (h : (List.range l.length).all (noK l n) = true) : hasN l n = false := by
  unfold hasN; rw [h]; rfl

set_option maxHeartbeats 800000 in
theorem hasNumber_any (l : List Int) (n : Int) (A : Option Addr) (cap : Nat) (w : World) (h : Sl enc1 1 w w.heap.size A l) (hl : l.length ≤ 1048576) :
    Calls Tryz.prog 48 #[.slice A l.length cap, .int .i64 n] w fun e w' => e = .returned (.bool (hasN l n)) ∧ Below w.heap.size w w' := by
  go_enter Tryz.func48, Tryz.ntmps48
  go_wp2_with fail
  go_loopw [9] (fun i wr => ∃ k : Nat, k ≤ l.length ∧ i = .int .i64 k ∧ (List.range k).all (noK l n) = true ∧ Below w.heap.size w wr) (fun i _ => l.length - (intOf i).toNat)
  case atStart => exact ⟨0, Nat.zero_le _, rfl, rfl, Below.refl _ _⟩
  case round =>
    obtain ⟨k, hk, rfl, hall, hb⟩ := hrel
    have HA := hid hall
    have HB := hid hb
    clear hall
    by_cases hlt : k < l.length
    · obtain ⟨b, off, rfl, hbb, c1⟩ := h.get1 hlt
      have d1 : wr.cell? ⟨b, off + k, none⟩ = some (.int .i64 (g0 l k)) := (hb.cell hbb).trans c1
      have hbw : b < wr.heap.size := by have := hb.size; omega
      clear c1 hb
      by_cases hz : g0 l k = n
      · have e1 : (g0 l k == n) = true := by rw [hz]; simp
        have HE := hid (hasN_yes hlt hz)
        clear hz
        go_wp2
        go_ret
        exact ⟨ret_bool HE.out.symm, HB.out⟩
      · have e1 : (g0 l k == n) = false := beq_eq_false_iff_ne.2 hz
        have HZ := hid (show noK l n k = true by unfold noK; exact decide_eq_true hz)
        clear hz
        go_wp2
        go_roundw
        case rel => exact ⟨k + 1, by omega, by go_num, range_all_succ HA.out HZ.out, HB.out⟩
        case measure => simp [intOf]; omega
    · have hkl : k = l.length := by omega
      subst hkl
      have HE := hid (hasN_no HA.out)
      go_wp2
      go_ret
      exact ⟨ret_bool HE.out.symm, HB.out⟩

set_option maxHeartbeats 800000 in
theorem isIn_any (l : List Int) (n : Int) (A : Option Addr) (cap : Nat) (w : World) (h : Sl enc1 1 w w.heap.size A l) (hl : l.length ≤ 1048576) :
    Calls Tryz.prog 87 #[.slice A l.length cap, .int .i64 n] w fun e w' => e = .returned (.bool (hasN l n)) ∧ Below w.heap.size w w' := by
  go_enter Tryz.func87, Tryz.ntmps87
  go_wp2_with fail
  go_loopw [5] (fun i wr => ∃ k : Nat, k ≤ l.length ∧ i = .int .i64 k ∧ (List.range k).all (noK l n) = true ∧ Below w.heap.size w wr) (fun i _ => l.length - (intOf i).toNat)
  case atStart => exact ⟨0, Nat.zero_le _, rfl, rfl, Below.refl _ _⟩
  case round =>
    obtain ⟨k, hk, rfl, hall, hb⟩ := hrel
    have HA := hid hall
    have HB := hid hb
    clear hall
    by_cases hlt : k < l.length
    · obtain ⟨b, off, rfl, hbb, c1⟩ := h.get1 hlt
      have d1 : wr.cell? ⟨b, off + k, none⟩ = some (.int .i64 (g0 l k)) := (hb.cell hbb).trans c1
      have hbw : b < wr.heap.size := by have := hb.size; omega
      have hkl : (k : Int) < (l.length : Int) := by omega
      clear c1 hb
      by_cases hz : g0 l k = n
      · have e1 : (g0 l k == n) = true := by rw [hz]; simp
        have HE := hid (hasN_yes hlt hz)
        clear hz
        go_wp2
        go_ret
        exact ⟨ret_bool HE.out.symm, HB.out⟩
      · have e1 : (g0 l k == n) = false := beq_eq_false_iff_ne.2 hz
        have HZ := hid (show noK l n k = true by unfold noK; exact decide_eq_true hz)
        clear hz
        go_wp2
        go_roundw
        case rel => exact ⟨k + 1, by omega, by go_num, range_all_succ HA.out HZ.out, HB.out⟩
        case measure => simp [intOf]; omega
    · have hkl : k = l.length := by omega
      subst hkl
      have HE := hid (hasN_no HA.out)
      go_wp2
      go_ret
      exact ⟨ret_bool HE.out.symm, HB.out⟩

/-- All numbers in a range; numbers that ascend. -/
def inK (l : List Int) (lo hi : Int) (k : Nat) : Bool := withinB (g0 l k) lo hi
def ascK (l : List Int) (k : Nat) : Bool := decide (k = 0) || decide (g0 l (k - 1) < g0 l k)
def allInB (l : List Int) (lo hi : Int) : Bool := (List.range l.length).all (inK l lo hi)
def ascB (l : List Int) : Bool := (List.range l.length).all (ascK l)
def cpnK (l : List Int) (k : Nat) : Bool := inK l 1 9 k && ascK l k
def vCpn (l : List Int) : Bool := (List.range l.length).all (cpnK l) && decide (l.length ≤ 3)
theorem vCpn_eq (l : List Int) : (decide (l.length ≤ 3) && (ascB l && allInB l 1 9)) = vCpn l := by
  have h : (List.range l.length).all (cpnK l) = (ascB l && allInB l 1 9) := by
    rw [Bool.eq_iff_iff]
    unfold ascB allInB cpnK
    simp only [Bool.and_eq_true, List.all_eq_true]
    exact ⟨fun h => ⟨fun x hx => (h x hx).2, fun x hx => (h x hx).1⟩, fun h x hx => ⟨h.2 x hx, h.1 x hx⟩⟩
  unfold vCpn
  rw [h, Bool.and_comm]

set_option maxHeartbeats 800000 in
theorem allIn_any (l : List Int) (lo hi : Int) (A : Option Addr) (cap : Nat) (w : World) (h : Sl enc1 1 w w.heap.size A l) (hl : l.length ≤ 1048576) :
    Calls Tryz.prog 53 #[.slice A l.length cap, .int .i64 lo, .int .i64 hi] w fun e w' => e = .returned (.bool (allInB l lo hi)) ∧ Below w.heap.size w w' := by
  go_enter Tryz.func53, Tryz.ntmps53
  go_wp2_with fail
  go_loopw [7] (fun i wr => ∃ k : Nat, k ≤ l.length ∧ i = .int .i64 k ∧ (List.range k).all (inK l lo hi) = true ∧ Below w.heap.size w wr) (fun i _ => l.length - (intOf i).toNat)
  case atStart => exact ⟨0, Nat.zero_le _, rfl, rfl, Below.refl _ _⟩
  case round =>
    obtain ⟨k, hk, rfl, hall, hb⟩ := hrel
    have HA := hid hall
    have HB := hid hb
    clear hall
    by_cases hlt : k < l.length
    · obtain ⟨b, off, rfl, hbb, c1⟩ := h.get1 hlt
      have d1 : wr.cell? ⟨b, off + k, none⟩ = some (.int .i64 (g0 l k)) := (hb.cell hbb).trans c1
      have hbw : b < wr.heap.size := by have := hb.size; omega
      have hkl : (k : Int) < (l.length : Int) := by omega
      clear c1 hb
      by_cases hz : withinB (g0 l k) lo hi = true
      · have HZ := hid (show inK l lo hi k = true from hz)
        go_wp2_with ((go_at_call 51; (first | (refine (inRange_yes (by assumption) _).mono ?_) | (refine (inRange_no (by assumption) _).mono ?_)); rintro e w' ⟨rfl, rfl⟩))
        go_roundw
        case rel => exact ⟨k + 1, by omega, by go_num, range_all_succ HA.out HZ.out, HB.out⟩
        case measure => simp [intOf]; omega
      · have hz' : withinB (g0 l k) lo hi = false := by simpa using hz
        have HE := hid (show allInB l lo hi = false from range_all_no hlt hz')
        clear hz
        go_wp2_with ((go_at_call 51; (first | (refine (inRange_yes (by assumption) _).mono ?_) | (refine (inRange_no (by assumption) _).mono ?_)); rintro e w' ⟨rfl, rfl⟩))
        go_ret
        exact ⟨ret_bool HE.out.symm, HB.out⟩
    · have hkl : k = l.length := by omega
      subst hkl
      have HE := hid (show allInB l lo hi = true from HA.out)
      go_wp2
      go_ret
      exact ⟨ret_bool HE.out.symm, HB.out⟩

set_option maxHeartbeats 800000 in
theorem ascends_any (l : List Int) (A : Option Addr) (cap : Nat) (w : World) (h : Sl enc1 1 w w.heap.size A l) (hl : l.length ≤ 1048576) :
    Calls Tryz.prog 52 #[.slice A l.length cap] w fun e w' => e = .returned (.bool (ascB l)) ∧ Below w.heap.size w w' := by
  go_enter Tryz.func52, Tryz.ntmps52
  go_wp2_with fail
  go_loopw [3] (fun i wr => ∃ k : Nat, (l.length = 0 ∨ k ≤ l.length) ∧ 1 ≤ k ∧ i = .int .i64 k ∧ (List.range k).all (ascK l) = true ∧ Below w.heap.size w wr) (fun i _ => l.length - (intOf i).toNat)
  case atStart => exact ⟨1, by omega, Nat.le_refl _, rfl, rfl, Below.refl _ _⟩
  case round =>
    obtain ⟨k, hk, hk1, rfl, hall, hb⟩ := hrel
    have HA := hid hall
    have HB := hid hb
    clear hall
    by_cases hlt : k < l.length
    · obtain ⟨b, off, rfl, hbb, c1⟩ := h.get1 hlt
      obtain ⟨b', off', he, _, c2⟩ := h.get1 (show k - 1 < l.length by omega)
      obtain ⟨rfl, rfl⟩ : b = b' ∧ off = off' := by simpa using he
      obtain ⟨j, rfl⟩ : ∃ j, k = j + 1 := ⟨k - 1, by omega⟩
      have hj1 : j + 1 - 1 = j := by omega
      rw [hj1] at c2
      have d1 : wr.cell? ⟨b, off + (j + 1), none⟩ = some (.int .i64 (g0 l (j + 1))) := (hb.cell hbb).trans c1
      have d2 : wr.cell? ⟨b, off + j, none⟩ = some (.int .i64 (g0 l j)) := (hb.cell hbb).trans c2
      have hbw : b < wr.heap.size := by have := hb.size; omega
      obtain ⟨m, hm⟩ : ∃ m, j + 1 = m := ⟨_, rfl⟩
      have hmj : (m : Int) - 1 = (j : Int) := by omega
      have hw1 : IntKind.i64.wrap (j : Int) = (j : Int) := IntWalk.i64_in _ (by omega)
      have hkl : (m : Int) < (l.length : Int) := by omega
      have hkj : (j : Int) < (l.length : Int) := by omega
      have HJ := hid hj1
      rw [hm] at d1 hlt ⊢
      have HM := hid hm
      clear c1 c2 hb he hj1
      by_cases hz : g0 l j < g0 l m
      · have e1 : decide (g0 l m ≤ g0 l j) = false := decide_eq_false (by omega)
        have HZ := hid (show ascK l m = true by unfold ascK; rw [show m - 1 = j by have := HM.out; omega, decide_eq_true hz]; simp)
        clear hz hm hk hk1
        go_wp2_with fail
        go_quiet (fail)
        go_wp2
        go_roundw
        case rel => exact ⟨m + 1, .inr (by omega), by omega, by go_num, range_all_succ (by rw [← HM.out]; exact HA.out) HZ.out, below_drewN HB.out _⟩
        case measure => simp [intOf]; omega
      · have e1 : decide (g0 l m ≤ g0 l j) = true := decide_eq_true (by omega)
        have HE := hid (show ascB l = false from range_all_no hlt (by unfold ascK; rw [show m - 1 = j by have := HM.out; omega, decide_eq_false hz]; simp; have := HM.out; omega))
        clear hz hm hk hk1
        go_wp2_with fail
        go_quiet (fail)
        go_wp2
        go_ret
        exact ⟨ret_bool HE.out.symm, below_drewN HB.out _⟩
    · have hle : l.length ≤ k := by omega
      have HE := hid (show ascB l = true by
        unfold ascB; rw [List.all_eq_true]; intro x hx
        have h1 := HA.out; rw [List.all_eq_true] at h1
        exact h1 x (List.mem_range.2 (by have := List.mem_range.1 hx; omega)))
      clear hk
      go_wp2
      go_ret
      exact ⟨ret_bool HE.out.symm, HB.out⟩

set_option maxHeartbeats 800000 in
theorem validCoupons_any (l : List Int) (A : Option Addr) (cap : Nat) (w : World) (h : Sl enc1 1 w w.heap.size A l) (hl : l.length ≤ 1048576) :
    Calls Tryz.prog 20 #[.slice A l.length cap] w fun e w' => e = .returned (.bool (vCpn l)) ∧ Below w.heap.size w w' := by
  have HE := hid (vCpn_eq l)
  by_cases h3 : l.length ≤ 3
  · have e1 : decide ((l.length : Int) ≤ 3) = true := decide_eq_true (by omega)
    rw [decide_eq_true h3, Bool.true_and] at HE
    obtain ⟨x, hx⟩ : ∃ x, ascB l = x := ⟨_, rfl⟩
    have HX := hid hx
    rw [hx] at HE
    clear h3
    cases x
    · have HE2 := hid (show vCpn l = false from HE.out.symm)
      clear hx
      go_enter Tryz.func20, Tryz.ntmps20
      go_wp2_with fail
      refine (ascends_any l A cap _ h hl).mono ?_
      rintro e w1 ⟨rfl, b1⟩
      rw [HX.out]
      go_wp2
      go_ret
      exact ⟨ret_bool HE2.out.symm, b1⟩
    · have HE2 := hid (show allInB l 1 9 = vCpn l from HE.out)
      clear hx
      go_enter Tryz.func20, Tryz.ntmps20
      go_wp2_with fail
      refine (ascends_any l A cap _ h hl).mono ?_
      rintro e w1 ⟨rfl, b1⟩
      rw [HX.out]
      have h1 := (h.below b1 (Nat.le_refl _)).more b1.size
      have B1 := hid b1
      clear b1
      go_wp2_with fail
      refine (allIn_any l 1 9 A cap _ h1 hl).mono ?_
      rintro e w2 ⟨rfl, b2⟩
      have B2 := hid (B1.out.trans (b2.mono B1.out.size))
      rw [HE2.out]
      clear b2
      go_wp2
      go_ret
      exact ⟨rfl, B2.out⟩
  · have e1 : decide ((l.length : Int) ≤ 3) = false := decide_eq_false (by omega)
    rw [decide_eq_false h3, Bool.false_and] at HE
    clear h3
    go_enter Tryz.func20, Tryz.ntmps20
    go_wp2
    go_ret
    exact ⟨ret_bool HE.out, Below.refl _ _⟩

set_option maxHeartbeats 1600000 in
theorem couponsOk_any (l : List Int) (A : Option Addr) (cap : Nat) (w : World) (h : Sl enc1 1 w w.heap.size A l) (hl : l.length ≤ 1048576) :
    Calls Tryz.prog 36 #[.slice A l.length cap] w fun e w' => e = .returned (.bool (vCpn l)) ∧ Below w.heap.size w w' := by
  go_enter Tryz.func36, Tryz.ntmps36
  go_wp2_with fail
  go_loopw [7] (fun i wr => ∃ k : Nat, k ≤ l.length ∧ i = .int .i64 k ∧ (List.range k).all (cpnK l) = true ∧ Below w.heap.size w wr) (fun i _ => l.length - (intOf i).toNat)
  case atStart => exact ⟨0, Nat.zero_le _, rfl, rfl, Below.refl _ _⟩
  case round =>
    obtain ⟨k, hk, rfl, hall, hb⟩ := hrel
    have HA := hid hall
    have HB := hid hb
    clear hall
    by_cases hlt : k < l.length
    · obtain ⟨b, off, rfl, hbb, c1⟩ := h.get1 hlt
      have d1 : wr.cell? ⟨b, off + k, none⟩ = some (.int .i64 (g0 l k)) := (hb.cell hbb).trans c1
      have hbw : b < wr.heap.size := by have := hb.size; omega
      have hsz := hb.size
      clear c1
      by_cases ha : withinB (g0 l k) 1 9 = true
      · by_cases h0 : k = 0
        · have e0 : decide (0 < k) = false := by simp; omega
          have HZ := hid h0
          clear h0
          go_wp2_with ((go_at_call 64; (first | (refine (within_yes (by assumption) _).mono ?_) | (refine (within_no (by assumption) _).mono ?_)); rintro e w' ⟨rfl, rfl⟩))
          go_roundw
          case rel =>
            refine ⟨k + 1, by omega, by go_num, range_all_succ HA.out (by simp [cpnK, inK, ascK, ha]; exact Or.inl HZ.out), HB.out⟩
          case measure => simp [intOf]; omega
        · have e0 : decide (0 < k) = true := by simp; omega
          have e2 : 0 < k := by omega
          have hk1 : k - 1 < l.length := by omega
          obtain ⟨b', off', he, _, c3⟩ := h.get1 hk1
          obtain ⟨rfl, rfl⟩ : b = b' ∧ off = off' := by simpa using he
          have d3 : wr.cell? ⟨b, off + (k - 1), none⟩ = some (.int .i64 (g0 l (k - 1))) := (hb.cell hbb).trans c3
          clear c3 he
          by_cases hd : g0 l (k - 1) < g0 l k
          · have HD := hid hd
            have e1 : decide (g0 l k ≤ g0 l (k - 1)) = false := by simp; omega
            clear hd
            go_wp2_with ((go_at_call 64; (first | (refine (within_yes (by assumption) _).mono ?_) | (refine (within_no (by assumption) _).mono ?_)); rintro e w' ⟨rfl, rfl⟩))
            go_roundw
            case rel =>
              exact ⟨k + 1, by omega, by go_num, range_all_succ HA.out (by simp [cpnK, inK, ascK, ha, HD.out]), HB.out⟩
            case measure => simp [intOf]; omega
          · have HD := hid (show decide (g0 l (k - 1) < g0 l k) = false by simpa using hd)
            have HZ := hid h0
            have e1 : decide (g0 l k ≤ g0 l (k - 1)) = true := by simp; omega
            clear hd h0
            go_wp2_with ((go_at_call 64; (first | (refine (within_yes (by assumption) _).mono ?_) | (refine (within_no (by assumption) _).mono ?_)); rintro e w' ⟨rfl, rfl⟩))
            go_ret
            refine ⟨ret_bool ?_, HB.out⟩
            unfold vCpn
            rw [range_all_no hlt (by simp [cpnK, ascK, HD.out, HZ.out])]; rfl
      · have ha' : withinB (g0 l k) 1 9 = false := by simpa using ha
        clear ha
        go_wp2_with ((go_at_call 64; (first | (refine (within_yes (by assumption) _).mono ?_) | (refine (within_no (by assumption) _).mono ?_)); rintro e w' ⟨rfl, rfl⟩))
        go_ret
        refine ⟨ret_bool ?_, HB.out⟩
        unfold vCpn
        rw [range_all_no hlt (by simp [cpnK, inK, ha'])]; rfl
    · have hkl : k = l.length := by omega
      subst hkl
      go_wp2
      go_ret
      refine ⟨ret_bool ?_, hb⟩
      unfold vCpn
      rw [HA.out, Bool.true_and, decide_eq_decide]
      omega

end Go.Proofs.YtkgofklpogdpmaaGreat

/- The plain law of a rule's discounts. No program in sight. -/
namespace Go.Proofs.YtkgofklpogdpmaaGreat

/-- Whether a rule is meant for a line; what is left of the lines for which it is. -/
def mntB (s : List (Int × Int × Int × Int)) (c : List (Int × Int)) (gp : Int) (k : Nat) : Bool := decide (gp < 0) || decide (q2 s (g1 c k).toNat = gp)
def mntK (s : List (Int × Int × Int × Int)) (c : List (Int × Int)) (gp : Int) (l : List Int) (k : Nat) : Int := if mntB s c gp k = true then g0 l k else 0
def mnts (s : List (Int × Int × Int × Int)) (c : List (Int × Int)) (gp : Int) (l : List Int) : List Int := (List.range c.length).map (mntK s c gp l)
/-- The discount of a line by a part of what is left, or of free pieces. -/
def dscK (s : List (Int × Int × Int × Int)) (c : List (Int × Int)) (gp kd vl : Int) (l : List Int) (k : Nat) : Int :=
  if kd = 1 then mntK s c gp l k * vl / 1000 else if kd = 3 then min (mntK s c gp l k) (g2 c k / vl * q1 s (g1 c k).toNat) else 0
def dscs (s : List (Int × Int × Int × Int)) (c : List (Int × Int)) (gp kd vl : Int) (l : List Int) : List Int := (List.range c.length).map (dscK s c gp kd vl l)
def wishP (s : List (Int × Int × Int × Int)) (c : List (Int × Int)) (gp kd vl : Int) (l : List Int) : List Int :=
  if kd = 2 then apP (min vl (tot (g0 (mnts s c gp l)) c.length)) (mnts s c gp l) else dscs s c gp kd vl l
def effP (s : List (Int × Int × Int × Int)) (c : List (Int × Int)) (gp kd vl cp : Int) (l : List Int) : List Int :=
  if 0 < cp ∧ cp < tot (g0 (wishP s c gp kd vl l)) c.length then apP cp (wishP s c gp kd vl l) else wishP s c gp kd vl l

theorem g0_map {f : Nat → Int} {n k : Nat} (h : k < n) : g0 ((List.range n).map f) k = f k := by
  simp [g0, List.getD, h]
theorem map_len {f : Nat → Int} {n : Nat} : ((List.range n).map f).length = n := by simp

section
variable {s : List (Int × Int × Int × Int)} {c : List (Int × Int)} {l : List Int} {gp kd vl cp : Int}
theorem mntK_bd (hs : vShop s = true) (hc : vCart s.length c = true) (hl : vLeft s c l = true) {k : Nat} (hk : k < c.length) : 0 ≤ mntK s c gp l k ∧ mntK s c gp l k ≤ g0 l k ∧ g0 l k ≤ 100000 := by
  have := left_at hs hc hl hk
  unfold mntK
  split <;> omega
theorem vKind_bd (h : vKind kd vl = true) : (kd = 1 ∧ 1 ≤ vl ∧ vl ≤ 1000) ∨ (kd = 2 ∧ 1 ≤ vl ∧ vl ≤ 1000000) ∨ (kd = 3 ∧ 2 ≤ vl ∧ vl ≤ 20) := by
  unfold vKind at h
  by_cases h1 : kd = 1
  · rw [if_pos h1] at h; have := withinB_true.1 h; exact .inl ⟨h1, this.1, this.2⟩
  · rw [if_neg h1] at h
    by_cases h2 : kd = 2
    · rw [if_pos h2] at h; have := withinB_true.1 h; exact .inr (.inl ⟨h2, this.1, this.2⟩)
    · rw [if_neg h2] at h
      by_cases h3 : kd = 3
      · rw [if_pos h3] at h; have := withinB_true.1 h; exact .inr (.inr ⟨h3, this.1, this.2⟩)
      · rw [if_neg h3] at h; cases h
/-- The price of the free pieces of a line. -/
theorem free_bd (hs : vShop s = true) (hc : vCart s.length c = true) {k : Nat} (hk : k < c.length) (hv : 2 ≤ vl) : 0 ≤ g2 c k / vl ∧ g2 c k / vl ≤ 20 ∧ 0 ≤ g2 c k / vl * q1 s (g1 c k).toNat ∧ g2 c k / vl * q1 s (g1 c k).toNat ≤ 100000 := by
  have hf := fit_at hs hc hk
  have hp := (vShop_at hs hf.1).1
  have h1 : 0 ≤ g2 c k / vl := Int.ediv_nonneg (by omega) (by omega)
  have h2 : g2 c k / vl ≤ g2 c k := Int.ediv_le_self _ (by omega)
  have h3 : g2 c k / vl * q1 s (g1 c k).toNat ≤ 20 * 5000 := Int.mul_le_mul (by omega) hp.2 (by omega) (by omega)
  exact ⟨h1, by omega, Int.mul_nonneg h1 (by omega), by omega⟩
theorem part_bd {x : Int} (hx : 0 ≤ x ∧ x ≤ 100000) (hv : 1 ≤ vl ∧ vl ≤ 1000) : 0 ≤ x * vl ∧ x * vl ≤ 100000000 ∧ 0 ≤ x * vl / 1000 ∧ x * vl / 1000 ≤ x := by
  have h1 : 0 ≤ x * vl := Int.mul_nonneg hx.1 (by omega)
  have h2 : x * vl ≤ 100000 * 1000 := Int.mul_le_mul hx.2 hv.2 (by omega) (by omega)
  have h3 : x * vl ≤ x * 1000 := Int.mul_le_mul_of_nonneg_left hv.2 hx.1
  refine ⟨h1, by omega, Int.ediv_nonneg h1 (by omega), ?_⟩
  omega
theorem dscK_bd (hs : vShop s = true) (hc : vCart s.length c = true) (hl : vLeft s c l = true) (hv : vKind kd vl = true) {k : Nat} (hk : k < c.length) : 0 ≤ dscK s c gp kd vl l k ∧ dscK s c gp kd vl l k ≤ mntK s c gp l k := by
  have h1 := mntK_bd (gp := gp) hs hc hl hk
  unfold dscK
  rcases vKind_bd hv with ⟨e, h⟩ | ⟨e, h⟩ | ⟨e, h⟩
  · rw [if_pos e]
    have := part_bd (x := mntK s c gp l k) (vl := vl) ⟨h1.1, by omega⟩ h
    omega
  · rw [if_neg (by omega), if_neg (by omega)]; omega
  · rw [if_neg (by omega), if_pos e]
    have := free_bd hs hc hk h.1
    omega
theorem mnts_bd (hs : vShop s = true) (hc : vCart s.length c = true) (hl : vLeft s c l = true) (k : Nat) (hk : k < (mnts s c gp l).length) : 0 ≤ g0 (mnts s c gp l) k ∧ g0 (mnts s c gp l) k ≤ 1000000 := by
  unfold mnts at hk ⊢
  rw [map_len] at hk
  rw [g0_map hk]
  have := mntK_bd (gp := gp) hs hc hl hk
  omega
theorem wish_bd (hs : vShop s = true) (hc : vCart s.length c = true) (hl : vLeft s c l = true) (hv : vKind kd vl = true) :
    (wishP s c gp kd vl l).length = c.length ∧ ∀ k, k < c.length → 0 ≤ g0 (wishP s c gp kd vl l) k ∧ g0 (wishP s c gp kd vl l) k ≤ g0 l k := by
  have hc8 := (vCart_iff.1 hc).2.2
  have hml : (mnts s c gp l).length = c.length := map_len
  unfold wishP
  split
  · rename_i h2
    have hvl := vKind_bd hv
    have hb := tot_bd (lf := g0 (mnts s c gp l)) (b := 1000000) (mnts s c gp l).length (fun k hk => mnts_bd hs hc hl k hk)
    have h := apP_len (a := min vl (tot (g0 (mnts s c gp l)) c.length)) (ws := mnts s c gp l) (by rw [hml] at hb; omega) (fun k hk => mnts_bd hs hc hl k hk) (by rw [hml]; exact hc8) (by rw [hml]; omega)
    rw [hml] at h
    refine ⟨h.1, fun k hk => ?_⟩
    have h3 := h.2 k hk
    rw [show g0 (mnts s c gp l) k = mntK s c gp l k from g0_map hk] at h3
    have := mntK_bd (gp := gp) hs hc hl hk
    omega
  · refine ⟨map_len, fun k hk => ?_⟩
    rw [show g0 (dscs s c gp kd vl l) k = dscK s c gp kd vl l k from g0_map hk]
    have := mntK_bd (gp := gp) hs hc hl hk
    have := dscK_bd (gp := gp) hs hc hl hv hk
    omega
theorem eff_bd (hs : vShop s = true) (hc : vCart s.length c = true) (hl : vLeft s c l = true) (hv : vKind kd vl = true) :
    (effP s c gp kd vl cp l).length = c.length ∧ ∀ k, k < c.length → 0 ≤ g0 (effP s c gp kd vl cp l) k ∧ g0 (effP s c gp kd vl cp l) k ≤ g0 l k := by
  have hc8 := (vCart_iff.1 hc).2.2
  have hw := wish_bd (gp := gp) hs hc hl hv
  have hlb : ∀ k, k < c.length → g0 l k ≤ 100000 := fun k hk => (left_at hs hc hl hk).2
  unfold effP
  split
  · rename_i h2
    have h := apP_len (a := cp) (ws := wishP s c gp kd vl l) (by omega) (fun k hk => by rw [hw.1] at hk; have := hw.2 k hk; have := hlb k hk; omega) (by rw [hw.1]; exact hc8) (by rw [hw.1]; omega)
    rw [hw.1] at h
    refine ⟨h.1, fun k hk => ?_⟩
    have h3 := h.2 k hk
    have := hw.2 k hk
    omega
  · exact hw
end

end Go.Proofs.YtkgofklpogdpmaaGreat

/- Contract: what is left of the lines, as the program does it. -/
namespace Go.Proofs.YtkgofklpogdpmaaGreat
open Go.RowKit

theorem fitTax_no1 {s : List (Int × Int × Int × Int)} {c : List (Int × Int)} {l : List Int} (h : (vShop s && vCart s.length c) = false) : fitTax s c l = false := by
  unfold fitTax; rw [h]; rfl
theorem fitTax_yes {s : List (Int × Int × Int × Int)} {c : List (Int × Int)} {l : List Int} (h : (vShop s && vCart s.length c) = true) : fitTax s c l = vLeft s c l := by
  unfold fitTax; rw [h]; rfl

set_option maxHeartbeats 3200000 in
set_option maxRecDepth 100000 in
theorem leftOk_any (s : List (Int × Int × Int × Int)) (c : List (Int × Int)) (l : List Int) (A Ac Al : Option Addr) (cap capc capl : Nat) (w : World) (hA : Sl enc4 4 w w.heap.size A s) (hC : Sl enc2 2 w w.heap.size Ac c) (hL : Sl enc1 1 w w.heap.size Al l) (hs : s.length ≤ 1048576) (hc : c.length ≤ 1048576) (hl : l.length ≤ 1048576) :
    Calls Tryz.prog 26 #[.slice A s.length cap, .slice Ac c.length capc, .slice Al l.length capl] w fun e w' => e = .returned (.bool (fitTax s c l)) ∧ Below w.heap.size w w' := by
  go_enter Tryz.func26, Tryz.ntmps26
  go_wp2_with fail
  refine (lineAmounts_any s c A Ac cap capc _ hA hC hs hc).mono ?_
  rintro e w1 ⟨v, rfl, o1, b1⟩
  obtain ⟨Aa, ca, rfl, _, _⟩ := o1.reads len1
  have SA := o1.sl len1
  have hA1 := (hA.below b1 (Nat.le_refl _)).more b1.size
  have hC1 := (hC.below b1 (Nat.le_refl _)).more b1.size
  have hL1 := (hL.below b1 (Nat.le_refl _)).more b1.size
  have B1 := hid b1
  clear o1 b1 hA hC hL
  by_cases hok : (vShop s && vCart s.length c) = true
  · have HOK := hid hok
    have HF := hid (fitTax_yes (l := l) hok)
    have HM := hid (fun k (h : k < c.length) => amts_at (s := s) h)
    have hml := amts_len s c
    obtain ⟨m, hm⟩ : ∃ m, amts s c = m := ⟨_, rfl⟩
    have hmi : amtsI s c = m := by unfold amtsI; rw [if_pos hok]; exact hm
    rw [hm] at hml HM
    rw [hmi] at SA
    rw [hmi]
    clear hok hm hmi
    have SA1 := SA
    go_wp2_with fail
    refine (validCartI_any s c A Ac cap capc _ hA1 hC1 hs hc).mono ?_
    rintro e w2 ⟨rfl, b2⟩
    rw [HOK.out]
    have hL2 := (hL1.below b2 (Nat.le_refl _)).more b2.size
    have SA2 := (SA.below b2 (Nat.le_refl _)).more b2.size
    have B2 := hid (B1.out.trans (b2.mono B1.out.size))
    clear b2 hA1 hC1 hL1 SA SA1
    by_cases he : l.length = c.length
    · have HE := hid he
      have e1 : ((l.length : Int) != (c.length : Int)) = false := by rw [he]; simp
      have e2 : ((l.length : Int) == (c.length : Int)) = true := by rw [he]; simp
      clear he
      go_wp2_with fail
      go_loopw [26] (fun i wr => ∃ k : Nat, k ≤ l.length ∧ i = .int .i64 k ∧ (List.range k).all (lftOk s c l) = true ∧ Below w2.heap.size w2 wr) (fun i _ => l.length - (intOf i).toNat)
      case atStart => exact ⟨0, Nat.zero_le _, rfl, rfl, Below.refl _ _⟩
      case round =>
        obtain ⟨k, hk, rfl, hall, hb⟩ := hrel
        have HA := hid hall
        have HB := hid (B2.out.trans (hb.mono B2.out.size))
        have hsz := hb.size
        have hle := hid HE.out
        clear hall
        by_cases hlt : k < l.length
        · have hlc : k < c.length := by have := HE.out; omega
          obtain ⟨b, off, rfl, hbb, c1⟩ := hL2.get1 hlt
          obtain ⟨b', off', rfl, hbb', c2⟩ := SA2.get1 (k := k) (by omega)
          have hg := HM.out k hlc
          rw [hg] at c2
          have d1 : wr.cell? ⟨b, off + k, none⟩ = some (.int .i64 (g0 l k)) := (hb.cell hbb).trans c1
          have d2 : wr.cell? ⟨b', off' + k, none⟩ = some (.int .i64 (amt s c k)) := (hb.cell hbb').trans c2
          have hbw : b < wr.heap.size := by omega
          have hbw' : b' < wr.heap.size := by omega
          clear c1 c2 hg
          by_cases ha : withinB (g0 l k) 0 (amt s c k) = true
          · have HF2 := hid (show lftOk s c l k = true from ha)
            go_wp2_with ((go_at_call 64; (first | (refine (within_yes (by assumption) _).mono ?_) | (refine (within_no (by assumption) _).mono ?_)); rintro e w' ⟨rfl, rfl⟩))
            go_roundw
            case rel =>
              refine ⟨k + 1, by omega, by go_num, range_all_succ HA.out HF2.out, ?_⟩
              first | exact hb | exact below_drewN hb _ | exact hb.drew
            case measure => simp [intOf]; omega
          · have ha' : withinB (g0 l k) 0 (amt s c k) = false := by simpa using ha
            have HF2 := hid (vLeft_bad (s := s) (c := c) (l := l) hlc ha')
            clear ha
            go_wp2_with ((go_at_call 64; (first | (refine (within_yes (by assumption) _).mono ?_) | (refine (within_no (by assumption) _).mono ?_)); rintro e w' ⟨rfl, rfl⟩))
            go_ret
            refine ⟨ret_bool ?_, ?_⟩
            · rw [HF.out, HF2.out]
            · first | exact HB.out | exact below_drewN HB.out _ | exact HB.out.drew
        · have hkl : k = l.length := by omega
          subst hkl
          have HF2 := hid (vLeft_yes (s := s) HE.out (by rw [← HE.out]; exact HA.out))
          go_wp2
          go_ret
          exact ⟨ret_bool (by rw [HF.out, HF2.out]), HB.out⟩
    · have HF2 := hid (vLeft_no (s := s) (c := c) (l := l) he)
      have e1 : ((l.length : Int) != (c.length : Int)) = true := by simp; omega
      have e2 : ((l.length : Int) == (c.length : Int)) = false := by simp; omega
      clear he
      go_wp2
      go_ret
      exact ⟨ret_bool (by rw [HF.out, HF2.out]), B2.out⟩
  · have hok' : (vShop s && vCart s.length c) = false := by simpa using hok
    have HOK := hid hok'
    have HF := hid (fitTax_no1 (l := l) hok')
    clear hok hok'
    go_wp2_with fail
    refine (validCartI_any s c A Ac cap capc _ hA1 hC1 hs hc).mono ?_
    rintro e w2 ⟨rfl, b2⟩
    rw [HOK.out]
    have B2 := hid (B1.out.trans (b2.mono B1.out.size))
    clear b2 hA1 hC1 hL1 SA
    go_wp2
    go_ret
    exact ⟨ret_bool (by rw [HF.out]), B2.out⟩

end Go.Proofs.YtkgofklpogdpmaaGreat

/- Contracts: slices of numbers compared and summed. -/
namespace Go.Proofs.YtkgofklpogdpmaaGreat
open Go.RowKit

set_option maxHeartbeats 1600000 in
theorem equalInts_same (l : List Int) (A A' : Option Addr) (cap cap' : Nat) (w : World) (h : Sl enc1 1 w w.heap.size A l) (h' : Sl enc1 1 w w.heap.size A' l) (hl : l.length ≤ 1048576) :
    Calls Tryz.prog 24 #[.slice A l.length cap, .slice A' l.length cap'] w fun e w' => e = .returned (.bool true) ∧ Below w.heap.size w w' := by
  go_enter Tryz.func24, Tryz.ntmps24
  go_wp2_with fail
  go_loopw [5] (fun i wr => ∃ k : Nat, k ≤ l.length ∧ i = .int .i64 k ∧ Below w.heap.size w wr) (fun i _ => l.length - (intOf i).toNat)
  case atStart => exact ⟨0, Nat.zero_le _, rfl, Below.refl _ _⟩
  case round =>
    obtain ⟨k, hk, rfl, hb⟩ := hrel
    by_cases hlt : k < l.length
    · obtain ⟨b, off, rfl, hbb, c1⟩ := h.get1 hlt
      obtain ⟨b', off', rfl, hbb', c3⟩ := h'.get1 hlt
      have d1 : wr.cell? ⟨b, off + k, none⟩ = some (.int .i64 (g0 l k)) := (hb.cell hbb).trans c1
      have d3 : wr.cell? ⟨b', off' + k, none⟩ = some (.int .i64 (g0 l k)) := (hb.cell hbb').trans c3
      have hkl : (k : Int) < (l.length : Int) := by omega
      clear c1 c3
      go_wp2_with fail
      go_quiet (fail)
      go_wp2
      go_roundw
      case rel =>
        refine ⟨k + 1, by omega, by go_num, ?_⟩
        repeat (first | exact Below.refl _ _ | (refine Below.alloc ?_ (by (try simp) <;> omega) _) | (refine Below.setCell ?_ (by (try simp) <;> omega) _) | (refine Below.drew ?_) | (refine below_drewN ?_ _) | (refine Below.trans ?_ (Below.mono (by assumption) (by (try simp) <;> omega))))
      case measure => simp [intOf]; omega
    · have hkl : k = l.length := by omega
      subst hkl
      go_wp2
      go_ret
      exact ⟨rfl, hb⟩

end Go.Proofs.YtkgofklpogdpmaaGreat

/- Contract: the taxes of a cart, as the program does it. -/
namespace Go.Proofs.YtkgofklpogdpmaaGreat
open Go.RowKit

def TaxesPost (w : World) (L : List (Int × Int × Int)) (e : Ending) (w' : World) : Prop :=
  ∃ v, e = .returned v ∧ Own enc3 3 69 w' w.heap.size v L ∧ Below w.heap.size w w'
def TaxesRel (w : World) (s : List (Int × Int × Int × Int)) (c : List (Int × Int)) (l : List Int) (v r : Value) (wr : World) : Prop :=
  ∃ (R : Nat) (o : List (Int × Int × Int)), R ≤ 301 ∧ r = .int .i64 R ∧ o = txs (rtK s c) (g0 l) c.length R ∧ Own enc3 3 69 wr w.heap.size v o ∧ Below w.heap.size w wr
def TaxesIn (w : World) (s : List (Int × Int × Int × Int)) (c : List (Int × Int)) (l : List Int) (R : Nat) (i g f : Value) (wr : World) : Prop :=
  ∃ k : Nat, k ≤ c.length ∧ i = .int .i64 k ∧ g = .int .i64 (gr (rtK s c) (g0 l) R k) ∧ f = .bool (has (rtK s c) R k) ∧ Below w.heap.size w wr
theorem infoTax : (Tryz.prog.info? 69).map (fun i => (i.zero, i.size, i.bytes)) = some (some (.agg #[.int .i64 0, .int .i64 0, .int .i64 0]), 3, 24) := by kernel_rfl
set_option maxHeartbeats 3200000 in
set_option maxRecDepth 100000 in
theorem taxesOf_any (s : List (Int × Int × Int × Int)) (c : List (Int × Int)) (l : List Int) (A Ac Al : Option Addr) (cap capc capl : Nat) (w : World) (hA : Sl enc4 4 w w.heap.size A s) (hC : Sl enc2 2 w w.heap.size Ac c) (hL : Sl enc1 1 w w.heap.size Al l) (hs : s.length ≤ 1048576) (hc : c.length ≤ 1048576) (hl : l.length ≤ 1048576) :
    Calls Tryz.prog 27 #[.slice A s.length cap, .slice Ac c.length capc, .slice Al l.length capl] w (TaxesPost w (taxesI s c l)) := by
  have O0 := Own.lit0 enc3 3 69 w w.heap.size rfl (Nat.le_refl _)
  have D0 := (Below.refl w.heap.size w).alloc (Nat.le_refl _) (.cells #[] 69)
  have hA0 : Sl enc4 4 (w.alloc (.cells #[] 69)) (w.alloc (.cells #[] 69)).heap.size A s := (hA.alloc (Nat.le_refl _) _).more (by simp)
  have hC0 : Sl enc2 2 (w.alloc (.cells #[] 69)) (w.alloc (.cells #[] 69)).heap.size Ac c := (hC.alloc (Nat.le_refl _) _).more (by simp)
  have hL0 : Sl enc1 1 (w.alloc (.cells #[] 69)) (w.alloc (.cells #[] 69)).heap.size Al l := (hL.alloc (Nat.le_refl _) _).more (by simp)
  by_cases hok : fitTax s c l = true
  · obtain ⟨hv1, hv2, hv3⟩ := fit_parts hok
    have HI := hid (show taxesI s c l = txs (rtK s c) (g0 l) c.length 301 by unfold taxesI; rw [if_pos hok])
    have HOK := hid hok
    have H1 := hid hv1
    have H2 := hid hv2
    have H3 := hid hv3
    have HLL := hid (vLeft_len hv3)
    have hl1 := vShop_len hv1
    have hc8 := (vCart_iff.1 hv2).2.2
    clear hv1 hv2 hv3 hok
    go_enter Tryz.func27, Tryz.ntmps27
    go_wp2_with fail
    refine (leftOk_any s c l A Ac Al cap capc capl _ hA0 hC0 hL0 hs hc hl).mono ?_
    rintro e w1 ⟨rfl, b1⟩
    rw [HOK.out]
    have O1 := O0.below b1 (Nat.le_refl _)
    have D1 := D0.trans (b1.mono (by simp))
    clear b1 O0 D0 hA0 hC0 hL0
    go_wp2_with fail
    go_loopw [7, 8] (fun v r wr => TaxesRel w s c l v r wr) (fun _ r _ => 301 - (intOf r).toNat)
    case atStart => exact ⟨0, [], by omega, rfl, rfl, O1, D1⟩
    case round =>
      clear O1 D1
      obtain ⟨R, o, hR, rfl, hoe, ho, hb⟩ := hrel
      have HOE := hid hoe
      have HB := hid hb
      have hsz := hb.size
      have hol : o.length ≤ 301 := by rw [hoe, txs_len]; have := rts_len (rtK s c) c.length R; omega
      clear hoe hb
      by_cases hlt : R ≤ 300
      · obtain ⟨wo, rfl⟩ : ∃ wo : World, wo = wr := ⟨_, rfl⟩
        have hAo := (hA.below HB.out (Nat.le_refl _)).more hsz
        have hCo := (hC.below HB.out (Nat.le_refl _)).more hsz
        have hLo := (hL.below HB.out (Nat.le_refl _)).more hsz
        go_wp2_with fail
        go_loopw [26, 9, 10] (fun i g f wr => TaxesIn wo s c l R i g f wr) (fun i _ _ _ => c.length - (intOf i).toNat)
        case atStart => exact ⟨0, Nat.zero_le _, rfl, rfl, rfl, Below.refl _ _⟩
        case round =>
          obtain ⟨k, hk, rfl, rfl, rfl, hi⟩ := hrel
          have hzi := hi.size
          have hgb := gr_lim H1.out H2.out H3.out (R : Int) hk
          obtain ⟨G, hG⟩ : ∃ x, gr (rtK s c) (g0 l) (R : Int) k = x := ⟨_, rfl⟩
          rw [hG] at hgb
          rw [hG]
          have HG := hid hG
          clear hG
          by_cases hlk : k < c.length
          · obtain ⟨b, off, rfl, hbb, c1, c2⟩ := hCo.get2 hlk
            obtain ⟨f1, f2, f3, f4, f5⟩ := fit_at H1.out H2.out hlk
            obtain ⟨b', off', rfl, hbb', _, _, c3, _⟩ := hAo.get4 f1
            obtain ⟨b2, off2, rfl, hbb2, c4⟩ := hLo.get1 (k := k) (by have := HLL.out; omega)
            have f6 := left_at H1.out H2.out H3.out hlk
            obtain ⟨a, ha⟩ : ∃ a : Nat, (g1 c k).toNat = a := ⟨_, rfl⟩
            obtain ⟨q, hq⟩ : ∃ q, g2 c k = q := ⟨_, rfl⟩
            obtain ⟨p, hp⟩ : ∃ p, q3 s a = p := ⟨_, rfl⟩
            obtain ⟨n, hn⟩ : ∃ n, g0 l k = n := ⟨_, rfl⟩
            rw [ha] at f1 f2 c3
            rw [← f2] at c1
            rw [hq] at c2
            rw [hp] at c3
            rw [hn] at c4 f6
            have HR := hid (show rtK s c k = p by unfold rtK; rw [ha, hp])
            have HN := hid hn
            have d1 : wr.cell? ⟨b, off + k * 2, none⟩ = some (.int .i64 (a : Int)) := (hi.cell hbb).trans c1
            have d2 : wr.cell? ⟨b, off + k * 2 + 1, none⟩ = some (.int .i64 q) := (hi.cell hbb).trans c2
            have d3 : wr.cell? ⟨b', off' + a * 4 + 2, none⟩ = some (.int .i64 p) := (hi.cell hbb').trans c3
            have d4 : wr.cell? ⟨b2, off2 + k, none⟩ = some (.int .i64 n) := (hi.cell hbb2).trans c4
            have hbw : b < wr.heap.size := by omega
            have hbw' : b' < wr.heap.size := by omega
            have hbw2 : b2 < wr.heap.size := by omega
            have hkl : k < l.length := by have := HLL.out; omega
            have HI2 := hid (hi.alloc hzi (.cells #[.int .i64 (a : Int), .int .i64 q] 83))
            clear c1 c2 c3 c4 ha hq hp hn f2 f3 f4 f5 hi ho
            by_cases he : p = (R : Int)
            · have e1 : (p == (R : Int)) = true := by rw [he]; simp
              have HE := hid he
              clear he
              have HG2 := hid (show gr (rtK s c) (g0 l) (R : Int) (k + 1) = G + n by unfold gr; rw [HG.out, HR.out, HN.out, if_pos HE.out])
              have HH2 := hid (show has (rtK s c) (R : Int) (k + 1) = true by unfold has; rw [HR.out, HE.out]; simp)
              go_wp2
              go_roundw
              case rel => exact ⟨k + 1, by omega, by go_num, by rw [HG2.out], by rw [HH2.out], HI2.out⟩
              case measure => simp [intOf]; omega
            · have e1 : (p == (R : Int)) = false := beq_eq_false_iff_ne.2 he
              have HE := hid he
              clear he
              have HG2 := hid (show gr (rtK s c) (g0 l) (R : Int) (k + 1) = G by unfold gr; rw [HG.out, HR.out, if_neg HE.out]; omega)
              have HH2 := hid (show has (rtK s c) (R : Int) (k + 1) = has (rtK s c) (R : Int) k by show (has (rtK s c) (R : Int) k || (rtK s c k == (R : Int))) = _; rw [HR.out, e1, Bool.or_false])
              go_wp2
              go_roundw
              case rel => exact ⟨k + 1, by omega, by go_num, by rw [HG2.out], by rw [HH2.out], HI2.out⟩
              case measure => simp [intOf]; omega
          · have hkc : k = c.length := by omega
            subst hkc
            have HI3 := hid (HB.out.trans (hi.mono hsz))
            have ho2 := ho.below hi (Nat.le_refl _)
            clear hi ho
            by_cases hh : has (rtK s c) (R : Int) c.length = true
            · have HT := hid (show txs (rtK s c) (g0 l) c.length (R + 1) = o ++ [((R : Int), G, taxI G R)] by unfold txs; rw [if_pos hh, ← HOE.out]; unfold tx; rw [HG.out])
              rw [hh]
              clear hh
              have z2 := ho2.lt
              have hbz : w.heap.size ≤ wr.heap.size := HI3.out.size
              go_wp2_with fail
              refine (taxIn_any G (R : Int) _ (by omega) (by omega)).mono ?_
              rintro e w' ⟨rfl, rfl⟩
              obtain ⟨T, hT⟩ : ∃ x, taxI G (R : Int) = x := ⟨_, rfl⟩
              rw [hT]
              have HTT := hid hT
              clear hT
              go_wp2_with (at_builtin; refine wpList_push len3 one3 rfl (.tmp 47) (.tmp 54) _ rfl Tryz.underlying66 infoTax rfl (by omega) (by omega) rfl ho2 ((R : Int), G, T) (by simp) rfl rfl (by omega) (by omega) ?_)
              intro v2 w2 ho3 hg3 _
              have D3 := hid (below_push HI3.out hbz ho2 (Nat.le_refl _) hg3)
              clear hg3
              go_wp2
              go_roundw
              case rel => exact ⟨R + 1, o ++ [((R : Int), G, T)], by omega, by go_num, by rw [HT.out, HTT.out], ho3, D3.out⟩
              case measure => simp [intOf]; omega
            · have hh' : has (rtK s c) (R : Int) c.length = false := by simpa using hh
              have HT := hid (show txs (rtK s c) (g0 l) c.length (R + 1) = o by unfold txs; rw [if_neg hh, ← HOE.out, List.append_nil])
              rw [hh']
              clear hh hh'
              go_wp2
              go_roundw
              case rel => exact ⟨R + 1, o, by omega, by go_num, by rw [HT.out], ho2, HI3.out⟩
              case measure => simp [intOf]; omega
      · have hR1 : R = 301 := by omega
        subst hR1
        have HE := hid (show o = taxesI s c l by rw [HI.out]; exact HOE.out)
        go_wp2
        go_ret
        refine ⟨_, rfl, ?_, HB.out⟩
        rw [← HE.out]
        exact ho
  · have hok' : fitTax s c l = false := by simpa using hok
    have HOK := hid hok'
    have HI := hid (show taxesI s c l = [] by unfold taxesI; rw [if_neg hok])
    clear hok hok'
    go_enter Tryz.func27, Tryz.ntmps27
    go_wp2_with fail
    refine (leftOk_any s c l A Ac Al cap capc capl _ hA0 hC0 hL0 hs hc hl).mono ?_
    rintro e w1 ⟨rfl, b1⟩
    rw [HOK.out]
    have O1 := O0.below b1 (Nat.le_refl _)
    have D1 := hid (D0.trans (b1.mono (by simp)))
    clear b1 O0 D0 hA0 hC0 hL0
    go_wp2
    go_ret
    refine ⟨_, rfl, ?_, D1.out⟩
    rw [HI.out]
    exact O1

end Go.Proofs.YtkgofklpogdpmaaGreat

/- Contract: the net amount of a cart, as the program does it. -/
namespace Go.Proofs.YtkgofklpogdpmaaGreat
open Go.RowKit

def NetRel (w : World) (L : List (Int × Int × Int)) (n i : Value) (wr : World) : Prop :=
  ∃ k : Nat, k ≤ L.length ∧ i = .int .i64 k ∧ n = .int .i64 (snt (L.take k)) ∧ Below w.heap.size w wr

set_option maxHeartbeats 3200000 in
set_option maxRecDepth 100000 in
theorem netOf_any (s : List (Int × Int × Int × Int)) (c : List (Int × Int)) (l : List Int) (A Ac Al : Option Addr) (cap capc capl : Nat) (w : World) (hA : Sl enc4 4 w w.heap.size A s) (hC : Sl enc2 2 w w.heap.size Ac c) (hL : Sl enc1 1 w w.heap.size Al l) (hs : s.length ≤ 1048576) (hc : c.length ≤ 1048576) (hl : l.length ≤ 1048576) :
    Calls Tryz.prog 8 #[.slice A s.length cap, .slice Ac c.length capc, .slice Al l.length capl] w fun e w' => e = .returned (.int .i64 (netI s c l)) ∧ Below w.heap.size w w' := by
  by_cases hok : fitTax s c l = true
  · have HOK := hid hok
    have HI := hid (netI_fit hok)
    have HT := hid (fun i (hi : i < (taxesI s c l).length) => taxes_lim hok hi)
    clear hok
    go_enter Tryz.func8, Tryz.ntmps8
    go_wp2_with fail
    refine (leftOk_any s c l A Ac Al cap capc capl _ hA hC hL hs hc hl).mono ?_
    rintro e w1 ⟨rfl, b1⟩
    rw [HOK.out]
    have hA1 := (hA.below b1 (Nat.le_refl _)).more b1.size
    have hC1 := (hC.below b1 (Nat.le_refl _)).more b1.size
    have hL1 := (hL.below b1 (Nat.le_refl _)).more b1.size
    have B1 := hid b1
    clear b1 hA hC hL
    go_wp2_with fail
    refine (taxesOf_any s c l A Ac Al cap capc capl _ hA1 hC1 hL1 hs hc hl).mono ?_
    rintro e w2 ⟨v, rfl, O2, b2⟩
    have hlen := taxesI_len s c l
    obtain ⟨L, hLL⟩ : ∃ x, taxesI s c l = x := ⟨_, rfl⟩
    have HI2 := hid (show netI s c l = snt L by rw [HI.out, hLL])
    rw [hLL] at O2 hlen HT
    clear hLL
    obtain ⟨A2, c2, rfl, _, S2⟩ := O2.reads len3
    have B2 := hid (B1.out.trans (b2.mono B1.out.size))
    clear b2 hA1 hC1 hL1 O2
    go_wp2_with fail
    go_loopw [7, 20] (fun n i wr => NetRel w2 L n i wr) (fun _ i _ => L.length - (intOf i).toNat)
    case atStart => exact ⟨0, Nat.zero_le _, rfl, by simp [snt, sgr, sta], Below.refl _ _⟩
    case round =>
      obtain ⟨k, hk, rfl, rfl, hb⟩ := hrel
      have hsz := hb.size
      have hn := snt_bd HT.out k hk
      obtain ⟨N, hN⟩ : ∃ x, snt (L.take k) = x := ⟨_, rfl⟩
      rw [hN] at hn
      rw [hN]
      have HN := hid hN
      clear hN
      by_cases hlt : k < L.length
      · obtain ⟨b, off, rfl, hbb, c1, c2, c3⟩ := S2.get3 hlt
        have ht := HT.out k hlt
        obtain ⟨x, hx⟩ : ∃ x, t1 L k = x := ⟨_, rfl⟩
        obtain ⟨y, hy⟩ : ∃ x, t2 L k = x := ⟨_, rfl⟩
        obtain ⟨z, hz⟩ : ∃ x, t3 L k = x := ⟨_, rfl⟩
        rw [hx] at c1
        rw [hy] at c2 ht
        rw [hz] at c3 ht
        obtain ⟨z1, z2, z3⟩ := ht
        have HS := hid (show snt (L.take (k + 1)) = N + (y - z) by rw [snt_succ hlt, HN.out, hy, hz])
        have d1 : wr.cell? ⟨b, off + k * 3, none⟩ = some (.int .i64 x) := (hb.cell hbb).trans c1
        have d2 : wr.cell? ⟨b, off + k * 3 + 1, none⟩ = some (.int .i64 y) := (hb.cell hbb).trans c2
        have d3 : wr.cell? ⟨b, off + k * 3 + 2, none⟩ = some (.int .i64 z) := (hb.cell hbb).trans c3
        have hbw : b < wr.heap.size := by omega
        have HB := hid (hb.alloc hsz (.cells #[.int .i64 x, .int .i64 y, .int .i64 z] 69))
        clear c1 c2 c3 hx hy hz hb
        go_wp2
        go_roundw
        case rel => exact ⟨k + 1, by omega, by go_num, by rw [HS.out], HB.out⟩
        case measure => simp [intOf]; omega
      · have hkl : k = L.length := by omega
        subst hkl
        have HE := hid (show netI s c l = N by rw [HI2.out, ← HN.out, List.take_length])
        have HB := hid (B2.out.trans (hb.mono B2.out.size))
        clear hb
        go_wp2
        go_ret
        exact ⟨ret_int HE.out.symm, HB.out⟩
  · have hok' : fitTax s c l = false := by simpa using hok
    have HOK := hid hok'
    have HI := hid (netI_no hok')
    clear hok hok'
    go_enter Tryz.func8, Tryz.ntmps8
    go_wp2_with fail
    refine (leftOk_any s c l A Ac Al cap capc capl _ hA hC hL hs hc hl).mono ?_
    rintro e w1 ⟨rfl, b1⟩
    rw [HOK.out]
    have B1 := hid b1
    clear b1
    go_wp2
    go_ret
    exact ⟨ret_int HI.out.symm, B1.out⟩

end Go.Proofs.YtkgofklpogdpmaaGreat
