/- Contracts: amounts without discounts, and the notes of discounts, as the paper says it. -/
import Derived.Test.YtkgofklpogdpmaaGreatZRcpP
import Derived.Test.YtkgofklpogdpmaaGreatZC
import Derived.Test.YtkgofklpogdpmaaGreatZEffS
import Derived.Deep.RegionHeld3
namespace Go.Proofs.YtkgofklpogdpmaaGreat
open Go.RowKit

theorem infoNote : (Tryz.prog.info? 58).map (fun i => (i.zero, i.size, i.bytes)) = some (some (.agg #[.int .i64 0, .int .i64 0, .int .i64 0]), 3, 24) := by kernel_rfl

set_option maxHeartbeats 3200000 in
set_option maxRecDepth 100000 in
theorem less_any (l m : List Int) (A A' : Option Addr) (cap cap' : Nat) (w : World) (hL : Sl enc1 1 w w.heap.size A l) (hM : Sl enc1 1 w w.heap.size A' m) (hm : m.length = l.length) (hl : l.length ≤ 8) (hx : ∀ k, k < l.length → 0 ≤ g0 m k ∧ g0 m k ≤ g0 l k ∧ g0 l k ≤ 100000) :
    Calls Tryz.prog 62 #[.slice A l.length cap, .slice A' m.length cap'] w (EffPost w (lessL l m)) := by
  have HML := hid hm
  have HX := hid hx
  have HL := hid (fun k (h : k < l.length) => lessL_at (m := m) h)
  have HLL := hid (lessL_len l m)
  obtain ⟨F, hF⟩ : ∃ F, lessL l m = F := ⟨_, rfl⟩
  rw [hF] at HL HLL
  rw [hF]
  have O0 := hid (Own.lit0 enc1 1 3 w w.heap.size rfl (Nat.le_refl _))
  have D0 := hid ((Below.refl w.heap.size w).alloc (Nat.le_refl _) (.cells #[] 3))
  clear hm hx hF
  go_enter Tryz.func62, Tryz.ntmps62
  go_wp2_with fail
  go_loopw [5, 6] (fun v i wr => ∃ k : Nat, k ≤ l.length ∧ i = .int .i64 k ∧ Own enc1 1 3 wr w.heap.size v (F.take k) ∧ Below w.heap.size w wr) (fun _ i _ => l.length - (intOf i).toNat)
  case atStart => exact ⟨0, Nat.zero_le _, rfl, O0.out, D0.out⟩
  case round =>
    clear O0 D0
    obtain ⟨k, hk, rfl, ho, hb⟩ := hrel
    have HB := hid hb
    have hsz := hb.size
    by_cases hlt : k < l.length
    · obtain ⟨b, off, rfl, hbb, c1⟩ := hL.get1 hlt
      have hkm : k < m.length := by rw [HML.out]; exact hlt
      obtain ⟨b', off', rfl, hbb', c2⟩ := hM.get1 hkm
      obtain ⟨x1, x2, x3⟩ := HX.out k hlt
      have hFk := HL.out k hlt
      obtain ⟨x, hx⟩ : ∃ x, g0 l k = x := ⟨_, rfl⟩
      obtain ⟨y, hy⟩ : ∃ y, g0 m k = y := ⟨_, rfl⟩
      rw [hx] at c1 x2 x3 hFk
      rw [hy] at c2 x1 x2 hFk
      have d1 : wr.cell? ⟨b, off + k, none⟩ = some (.int .i64 x) := (hb.cell hbb).trans c1
      have d2 : wr.cell? ⟨b', off' + k, none⟩ = some (.int .i64 y) := (hb.cell hbb').trans c2
      have hbw : b < wr.heap.size := by omega
      have hbw' : b' < wr.heap.size := by omega
      obtain ⟨u, hu⟩ : ∃ u, x - y = u := ⟨_, rfl⟩
      have hw1 : IntKind.i64.wrap (x - y) = u := by rw [hu]; exact IntWalk.i64_in _ (by omega)
      have HST := hid (show F.take (k + 1) = F.take k ++ [u] by rw [List.take_succ_eq_append_getElem (by rw [HLL.out]; exact hlt), g0_eq (by rw [HLL.out]; exact hlt), hFk, hu])
      have hkl : (k : Int) < (l.length : Int) := by omega
      have hkmi : (k : Int) < (m.length : Int) := by omega
      have hne : some b ≠ u5.ownBlock := fun he => by have := (ho.lt b he.symm).1; omega
      have hne' : some b' ≠ u5.ownBlock := fun he => by have := (ho.lt b' he.symm).1; omega
      have hlen : (F.take k).length ≤ 1000 := by rw [List.length_take]; omega
      clear c1 c2 hx hy hu hb hFk
      go_wp2_with fail
      go_region_held3 (fun x' => x'.cell? ⟨b, off + k, none⟩ = some (.int .i64 x) ∧ x'.cell? ⟨b', off' + k, none⟩ = some (.int .i64 y)) (((repeat' apply And.intro) <;> first | assumption | (simp [go_sem, *]; done))) ((refine step_push len1 one1 (by rfl) _ _ _ (by rfl) Tryz.underlying25 infoInt rfl (by omega) (by omega) (by rfl) ho u (by rfl) (by rfl) (by rfl) (by omega) (by omega) ?_; intro v2 w2 ho2 hg2; have e1 : w2.cell? ⟨b, off + k, none⟩ = some (.int .i64 x) := (World.cell?_of_block (hg2.block b (by simp; omega) hne)).trans ((World.cell?_alloc_lt _ _ _ hbw).trans d1); have e2 : w2.cell? ⟨b', off' + k, none⟩ = some (.int .i64 y) := (World.cell?_of_block (hg2.block b' (by simp; omega) hne')).trans ((World.cell?_alloc_lt _ _ _ hbw').trans d2); have D2 := hid (below_push HB.out hsz ho (Nat.le_refl _) hg2); clear hg2))
      go_wp2
      go_roundw
      case rel => exact ⟨k + 1, by omega, by go_num, by rw [HST.out]; exact ho2, D2.out⟩
      case measure => simp [intOf]; omega
    · have hkl : k = l.length := by omega
      have HE := hid (show F.take k = F by rw [hkl, ← HLL.out, List.take_length])
      subst hkl
      go_wp2
      go_ret
      exact ⟨_, rfl, by rw [← HE.out]; exact ho, HB.out⟩

/-- Notes, in a row of the call's own. -/
def NotePost (w : World) (q : List (Int × Int × Int)) (e : Ending) (w' : World) : Prop :=
  ∃ v, e = .returned v ∧ Own enc3 3 58 w' w.heap.size v q ∧ Below w.heap.size w w'

set_option maxHeartbeats 3200000 in
set_option maxRecDepth 100000 in
theorem notesOf_any (n lv rk gp kd vl cp lo hi cn : Int) (a : Option Addr) (C : Nat) (S : List (Int × Int)) (m : List Int) (A : Option Addr) (cap : Nat) (w : World) (hM : Sl enc1 1 w w.heap.size A m) (hm : m.length ≤ 8) :
    Calls Tryz.prog 63 #[.agg #[.int .i64 n, .int .i64 lv, .int .i64 rk, .int .i64 gp, .int .i64 kd, .int .i64 vl, .int .i64 cp, .int .i64 lo, .int .i64 hi, .slice a S.length C, .int .i64 cn], .slice A m.length cap] w (NotePost w (notesTo n m m.length)) := by
  have KB0 := hid (Blk.new w 54 #[.int .i64 n, .int .i64 lv, .int .i64 rk, .int .i64 gp, .int .i64 kd, .int .i64 vl, .int .i64 cp, .int .i64 lo, .int .i64 hi, .slice a S.length C, .int .i64 cn])
  obtain ⟨w0, hw0⟩ : ∃ x, x = w.alloc (.cells #[.int .i64 n, .int .i64 lv, .int .i64 rk, .int .i64 gp, .int .i64 kd, .int .i64 vl, .int .i64 cp, .int .i64 lo, .int .i64 hi, .slice a S.length C, .int .i64 cn] 54) := ⟨_, rfl⟩
  rw [← hw0] at KB0
  have D0 := hid (show Below w.heap.size w w0 by rw [hw0]; exact (Below.refl _ _).alloc (Nat.le_refl _) _)
  have hz0 : w0.heap.size = w.heap.size + 1 := by rw [hw0]; simp
  have HW := hid hw0
  have O0 := hid (show Own enc3 3 58 (w0.alloc (.cells #[] 58)) w0.heap.size (.slice (some ⟨w.heap.size + 1, 0, none⟩) 0 0) [] from Own.lit0 enc3 3 58 w0 w0.heap.size hz0.symm (by omega))
  have D1 := hid ((Below.refl w0.heap.size w0).alloc (Nat.le_refl _) (.cells #[] 58))
  clear hw0
  go_enter Tryz.func63, Tryz.ntmps63
  go_wp2_with fail
  rw [← HW.out]
  go_loopw [5, 6] (fun v i wr => ∃ k : Nat, k ≤ m.length ∧ i = .int .i64 k ∧ Own enc3 3 58 wr w0.heap.size v (notesTo n m k) ∧ Below w0.heap.size w0 wr) (fun _ i _ => m.length - (intOf i).toNat)
  case atStart => exact ⟨0, Nat.zero_le _, rfl, O0.out, D1.out⟩
  case round =>
    clear O0 D1
    obtain ⟨k, hk, rfl, ho, hb⟩ := hrel
    have HB := hid hb
    have hsz := hb.size
    have KB := hid (KB0.out.below hb KB0.out.lt)
    have k0 : wr.cell? ⟨w.heap.size, 0, none⟩ = some (.int .i64 n) := KB.out.cell 0
    have zz : w.heap.size < wr.heap.size := KB.out.lt
    by_cases hlt : k < m.length
    · obtain ⟨b, off, rfl, hbb, c1⟩ := hM.get1 hlt
      have HST := hid (show notesTo n m (k + 1) = notesTo n m k ++ ntK n m k from rfl)
      have hlen := notesTo_len n m k
      have HNK := hid (show ntK n m k = if 0 < g0 m k then [((k : Int), n, g0 m k)] else [] from rfl)
      obtain ⟨Q, hQ⟩ : ∃ Q, notesTo n m k = Q := ⟨_, rfl⟩
      rw [hQ] at HST hlen ho
      obtain ⟨x, hx⟩ : ∃ x, g0 m k = x := ⟨_, rfl⟩
      rw [hx] at c1 HNK
      have d1 : wr.cell? ⟨b, off + k, none⟩ = some (.int .i64 x) := (hb.cell (by simp; omega)).trans ((D0.out.cell hbb).trans c1)
      have hbw : b < wr.heap.size := by omega
      have hkl : (k : Int) < (m.length : Int) := by omega
      clear c1 hx hb hQ
      by_cases hp : 0 < x
      · have e1 : decide (0 < x) = true := decide_eq_true hp
        have e1' : decide (x > 0) = true := decide_eq_true hp
        have HN2 := hid (show ntK n m k = [((k : Int), n, x)] by rw [HNK.out, if_pos hp])
        have hne : some b ≠ u5.ownBlock := fun he => by have := (ho.lt b he.symm).1; omega
        have hne2 : some w.heap.size ≠ u5.ownBlock := fun he => by have := (ho.lt w.heap.size he.symm).1; omega
        clear hp
        go_wp2_with fail
        go_region_held3 (fun x' => x'.cell? ⟨b, off + k, none⟩ = some (.int .i64 x) ∧ x'.cell? ⟨w.heap.size, 0, none⟩ = some (.int .i64 n)) (((repeat' apply And.intro) <;> first | assumption | (simp [go_sem, *]; done))) ((refine step_push len3 one3 (by rfl) _ _ _ (by rfl) Tryz.underlying29 infoNote rfl (by omega) (by omega) (by rfl) ho ((k : Int), n, x) (by rfl) (by rfl) (by rfl) (by omega) (by omega) ?_; intro v2 w2 ho2 hg2; have e1 : w2.cell? ⟨b, off + k, none⟩ = some (.int .i64 x) := (World.cell?_of_block (hg2.block b (by simp; omega) hne)).trans ((World.cell?_alloc_lt _ _ _ hbw).trans d1); have e2 : w2.cell? ⟨w.heap.size, 0, none⟩ = some (.int .i64 n) := (World.cell?_of_block (hg2.block w.heap.size (by simp; omega) hne2)).trans ((World.cell?_alloc_lt _ _ _ zz).trans k0); have D2 := hid (below_push HB.out hsz ho (Nat.le_refl _) hg2); clear hg2))
        go_wp2
        go_roundw
        case rel => exact ⟨k + 1, by omega, by go_num, by rw [HST.out, HN2.out]; exact ho2, D2.out⟩
        case measure => simp [intOf]; omega
      · have e1 : decide (0 < x) = false := decide_eq_false hp
        have e1' : decide (x > 0) = false := decide_eq_false hp
        have HN2 := hid (show ntK n m k = [] by rw [HNK.out, if_neg hp])
        clear hp
        go_wp2
        go_roundw
        case rel => exact ⟨k + 1, by omega, by go_num, by rw [HST.out, HN2.out, List.append_nil]; exact ho, HB.out⟩
        case measure => simp [intOf]; omega
    · have hkl : k = m.length := by omega
      have DD := hid (D0.out.trans (HB.out.mono D0.out.size))
      have hz : w.heap.size ≤ w0.heap.size := by omega
      subst hkl
      clear hb
      go_wp2
      go_ret
      exact ⟨_, rfl, ho.less hz, DD.out⟩

end Go.Proofs.YtkgofklpogdpmaaGreat
