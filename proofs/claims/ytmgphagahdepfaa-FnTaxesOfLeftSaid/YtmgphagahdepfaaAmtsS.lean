/- Contract: the prices of the lines of a cart, as the paper says it. -/
import Derived.Test.YtmgphagahdepfaaTaxL
import Derived.Test.YtmgphagahdepfaaCopyInt
namespace Go.Proofs.Ytmgphagahdepfaa
open Go.RowKit

def AmtsPost (w : World) (s : List (Int × Int × Int × Int)) (c : List (Int × Int)) (e : Ending) (w' : World) : Prop :=
  ∃ v, e = .returned v ∧ Own enc1 1 3 w' w.heap.size v (amts s c) ∧ Below w.heap.size w w'
def AmtsRel (w : World) (s : List (Int × Int × Int × Int)) (c : List (Int × Int)) (v i : Value) (wr : World) : Prop :=
  ∃ (k : Nat) (o : List Int), k ≤ c.length ∧ i = .int .i64 k ∧ o = (List.range k).map (amt s c) ∧ Own enc1 1 3 wr w.heap.size v o ∧ Below w.heap.size w wr
theorem amts_step (s : List (Int × Int × Int × Int)) (c : List (Int × Int)) (k : Nat) : (List.range (k + 1)).map (amt s c) = (List.range k).map (amt s c) ++ [amt s c k] := by
  rw [List.range_succ, List.map_append]; rfl

set_option maxHeartbeats 3200000 in
set_option maxRecDepth 100000 in
theorem slineAmounts_any (s : List (Int × Int × Int × Int)) (c : List (Int × Int)) (A Ac : Option Addr) (cap capc : Nat) (w : World) (hA : Sl enc4 4 w w.heap.size A s) (hC : Sl enc2 2 w w.heap.size Ac c) (hs : vShop s = true) (hc : vCart s.length c = true) :
    Calls Try.prog 59 #[.slice A s.length cap, .slice Ac c.length capc] w (AmtsPost w s c) := by
  have O0 := Own.lit0 enc1 1 3 w w.heap.size rfl (Nat.le_refl _)
  have D0 := (Below.refl w.heap.size w).alloc (Nat.le_refl _) (.cells #[] 3)
  have HS := hid hs
  have HC := hid hc
  have hl1 := vShop_len hs
  have hc8 := (vCart_iff.1 hc).2.2
  clear hs hc
  go_enter Try.func59, Try.ntmps59
  go_wp2_with fail
  go_loopw [5, 6] (fun v i wr => AmtsRel w s c v i wr) (fun _ i _ => c.length - (intOf i).toNat)
  case atStart => exact ⟨0, [], Nat.zero_le _, rfl, rfl, O0, D0⟩
  case round =>
    clear O0 D0
    obtain ⟨k, o, hk, rfl, hoe, ho, hb⟩ := hrel
    have HOE := hid hoe
    have hsz := hb.size
    have HB := hid hb
    have hol : o.length ≤ 8 := by rw [hoe]; simp; omega
    clear hoe
    by_cases hlt : k < c.length
    · obtain ⟨b, off, rfl, hbb, c1, c2⟩ := hC.get2 hlt
      obtain ⟨f1, f2, f3, f4, _⟩ := fit_at HS.out HC.out hlt
      have hstep := amts_step s c k
      unfold amt at f4
      have HU := hid (show amt s c k = q1 s (g1 c k).toNat * g2 c k from rfl)
      obtain ⟨a, ha⟩ : ∃ a : Nat, (g1 c k).toNat = a := ⟨_, rfl⟩
      obtain ⟨q, hq⟩ : ∃ q, g2 c k = q := ⟨_, rfl⟩
      obtain ⟨p, hp⟩ : ∃ p, q1 s a = p := ⟨_, rfl⟩
      rw [ha] at f1 f2
      rw [ha, hq, hp] at f4
      have HU2 := hid (show amt s c k = p * q by rw [HU.out, ha, hq, hp])
      have HST := hid hstep
      rw [← f2] at c1
      rw [hq] at c2 f3
      obtain ⟨b', off', rfl, hbb', c3, _⟩ := hA.get4 f1
      rw [hp] at c3
      have d1 : wr.cell? ⟨b, off + k * 2, none⟩ = some (.int .i64 (a : Int)) := (hb.cell hbb).trans c1
      have d2 : wr.cell? ⟨b, off + k * 2 + 1, none⟩ = some (.int .i64 q) := (hb.cell hbb).trans c2
      have d3 : wr.cell? ⟨b', off' + a * 4, none⟩ = some (.int .i64 p) := (hb.cell hbb').trans c3
      have hbw : b < wr.heap.size := by omega
      have hbw' : b' < wr.heap.size := by omega
      obtain ⟨u, hu⟩ : ∃ u, p * q = u := ⟨_, rfl⟩
      rw [hu] at f4
      have hw1 : IntKind.i64.wrap (p * q) = u := by rw [hu]; exact IntWalk.i64_in _ (by omega)
      have HU3 := hid (show amt s c k = u by rw [HU2.out, hu])
      have hkl : (k : Int) < (c.length : Int) := by omega
      have hal : (a : Int) < (s.length : Int) := by omega
      have hne : some b ≠ u5.ownBlock := fun he => by have := (ho.lt b he.symm).1; omega
      have hne' : some b' ≠ u5.ownBlock := fun he => by have := (ho.lt b' he.symm).1; omega
      clear c1 c2 c3 ha hq hp hu hb f2 f3 hstep HU HU2
      go_wp2_with fail
      go_region_held3 (fun x => x.cell? ⟨b, off + k * 2, none⟩ = some (.int .i64 (a : Int)) ∧ x.cell? ⟨b, off + k * 2 + 1, none⟩ = some (.int .i64 q) ∧ x.cell? ⟨b', off' + a * 4, none⟩ = some (.int .i64 p)) (((repeat' apply And.intro) <;> first | assumption | (simp [go_sem, *]; done))) ((refine step_push len1 one1 (by rfl) _ _ _ (by rfl) Try.underlying25 infoInt rfl (by omega) (by omega) (by rfl) ho u (by rfl) (by rfl) (by rfl) (by omega) (by omega) ?_; intro v2 w2 ho2 hg2; have e1 : w2.cell? ⟨b, off + k * 2, none⟩ = some (.int .i64 (a : Int)) := (World.cell?_of_block (hg2.block b (by simp; omega) hne)).trans ((World.cell?_alloc_lt _ _ _ hbw).trans d1); have e2 : w2.cell? ⟨b, off + k * 2 + 1, none⟩ = some (.int .i64 q) := (World.cell?_of_block (hg2.block b (by simp; omega) hne)).trans ((World.cell?_alloc_lt _ _ _ hbw).trans d2); have e3 : w2.cell? ⟨b', off' + a * 4, none⟩ = some (.int .i64 p) := (World.cell?_of_block (hg2.block b' (by simp; omega) hne')).trans ((World.cell?_alloc_lt _ _ _ hbw').trans d3); have D2 := hid (below_push HB.out hsz ho (Nat.le_refl _) hg2); clear hg2))
      go_wp2
      go_roundw
      case rel => exact ⟨k + 1, o ++ [u], by omega, by go_num, by rw [HST.out, HOE.out, HU3.out], ho2, D2.out⟩
      case measure => simp [intOf]; omega
    · have hkl : k = c.length := by omega
      subst hkl
      have HE := hid (show o = amts s c from HOE.out)
      go_wp2
      go_ret
      refine ⟨_, rfl, ?_, HB.out⟩
      rw [← HE.out]
      exact ho

end Go.Proofs.Ytmgphagahdepfaa
