/- Contract: a rule's discounts, as the paper says it. -/
import Derived.Test.YtkgofklpogdpmaaGreatZWishS
namespace Go.Proofs.YtkgofklpogdpmaaGreat
open Go.RowKit

set_option maxHeartbeats 3200000 in
set_option maxRecDepth 100000 in
theorem effect_any (s : List (Int × Int × Int × Int)) (c : List (Int × Int)) (l : List Int) (A Ac Al : Option Addr) (cap capc capl : Nat) (n lv rk gp kd vl cp lo hi cn : Int) (a : Option Addr) (C : Nat) (S : List (Int × Int)) (w : World) (hA : Sl enc4 4 w w.heap.size A s) (hC : Sl enc2 2 w w.heap.size Ac c) (hL : Sl enc1 1 w w.heap.size Al l) (hs : vShop s = true) (hc : vCart s.length c = true) (hv : vLeft s c l = true) (hk : vKind kd vl = true) (hcp : 0 ≤ cp ∧ cp ≤ 1000000) :
    Calls Tryz.prog 61 #[.slice A s.length cap, .slice Ac c.length capc, .agg #[.int .i64 n, .int .i64 lv, .int .i64 rk, .int .i64 gp, .int .i64 kd, .int .i64 vl, .int .i64 cp, .int .i64 lo, .int .i64 hi, .slice a S.length C, .int .i64 cn], .slice Al l.length capl] w (EffPost w (effP s c gp kd vl cp l)) := by
  have HCP := hid hcp
  have hc8 := (vCart_iff.1 hc).2.2
  have hwb := wish_bd (gp := gp) hs hc hv hk
  have HLB := hid (fun k (h : k < c.length) => (left_at hs hc hv h).2)
  have HEF := hid (show effP s c gp kd vl cp l = if 0 < cp ∧ cp < tot (g0 (wishP s c gp kd vl l)) c.length then apP cp (wishP s c gp kd vl l) else wishP s c gp kd vl l from rfl)
  have KB0 := hid (Blk.new w 54 #[.int .i64 n, .int .i64 lv, .int .i64 rk, .int .i64 gp, .int .i64 kd, .int .i64 vl, .int .i64 cp, .int .i64 lo, .int .i64 hi, .slice a S.length C, .int .i64 cn])
  obtain ⟨w0, hw0⟩ : ∃ x, x = w.alloc (.cells #[.int .i64 n, .int .i64 lv, .int .i64 rk, .int .i64 gp, .int .i64 kd, .int .i64 vl, .int .i64 cp, .int .i64 lo, .int .i64 hi, .slice a S.length C, .int .i64 cn] 54) := ⟨_, rfl⟩
  rw [← hw0] at KB0
  have D0 := hid (show Below w.heap.size w w0 by rw [hw0]; exact (Below.refl _ _).alloc (Nat.le_refl _) _)
  have hz0 : w0.heap.size = w.heap.size + 1 := by rw [hw0]; simp
  have HW := hid hw0
  have zA := hid ((hA.below D0.out (Nat.le_refl _)).more (show w.heap.size ≤ w0.heap.size by omega))
  have zC := hid ((hC.below D0.out (Nat.le_refl _)).more (show w.heap.size ≤ w0.heap.size by omega))
  have zL := hid ((hL.below D0.out (Nat.le_refl _)).more (show w.heap.size ≤ w0.heap.size by omega))
  have hcon := hid (wish_any s c l A Ac Al cap capc capl n lv rk gp kd vl cp lo hi cn a C S w0 zA.out zC.out zL.out hs hc hv hk)
  obtain ⟨M, hM⟩ : ∃ M, wishP s c gp kd vl l = M := ⟨_, rfl⟩
  rw [hM] at hwb hcon HEF
  obtain ⟨hm1, hm2⟩ := hwb
  have HML := hid hm1
  have HMB := hid (fun k (h : k < M.length) => show 0 ≤ g0 M k ∧ g0 M k ≤ 100000 by rw [HML.out] at h; have h1 := hm2 k h; have h2 := HLB.out k h; exact ⟨h1.1, by omega⟩)
  clear hs hc hv hk hA hC hL hM hw0 hm1 hm2 hcp zA zC zL
  go_enter Tryz.func61, Tryz.ntmps61
  go_wp2_with fail
  rw [← HW.out]
  refine hcon.out.mono ?_
  rintro e w1 ⟨v, rfl, o1, b1⟩
  have KB := hid (KB0.out.below b1 KB0.out.lt)
  have k6 : w1.cell? ⟨w.heap.size, 6, none⟩ = some (.int .i64 cp) := KB.out.cell 6
  have zz : w.heap.size < w1.heap.size := KB.out.lt
  have DD := hid (D0.out.trans (b1.mono D0.out.size))
  obtain ⟨AM, cM, rfl, _, sM⟩ := o1.reads len1
  have O1 := hid (o1.less (show w.heap.size ≤ w0.heap.size by omega))
  have hsum : ∀ x : Nat, Calls Tryz.prog 57 #[.slice AM M.length cM] (w1.drewN x) fun e w' => e = .returned (.int .i64 (tot (g0 M) c.length)) ∧ w1.drewN x = w' := fun x => by
    have := ssum_any M AM cM (w1.drewN x) sM (by rw [HML.out]; omega) (fun k hk => by have := HMB.out k hk; omega)
    rw [HML.out] at this ⊢; exact this
  have happ : ∀ (x : World), Sl enc1 1 x x.heap.size AM M → cp ≤ tot (g0 M) c.length → Calls Tryz.prog 89 #[.int .i64 cp, .slice AM M.length cM] x (ApPost x cp M) := fun x hx hle => by
    exact apportionS_any cp M AM cM x hx HCP.out (by rw [HML.out]; omega) (fun k hk => by have := HMB.out k hk; omega) (by rw [HML.out]; exact hle)
  obtain ⟨T, hT⟩ : ∃ T, tot (g0 M) c.length = T := ⟨_, rfl⟩
  rw [hT] at hsum happ HEF
  have SM := hid sM
  clear b1 o1 sM hT hcon KB0
  by_cases h1 : 0 < cp
  · have e1 : decide (0 < cp) = true := decide_eq_true h1
    have e1' : decide (cp > 0) = true := decide_eq_true h1
    by_cases h2 : cp < T
    · have e2 : decide (cp < T) = true := decide_eq_true h2
      have hle : cp ≤ T := by omega
      have HE := hid (show effP s c gp kd vl cp l = apP cp M by rw [HEF.out, if_pos ⟨h1, h2⟩])
      clear h1 h2
      go_wp2_with fail
      go_quiet ((go_at_call 57; exact quiet_same (hsum _)))
      go_wp2_with fail
      refine (happ _ (SM.out.drewN _) hle).mono ?_
      rintro e w5 ⟨v5, rfl, o5, b5⟩
      have b5' : Below w1.heap.size w1 w5 := ⟨b5.os, b5.tape, b5.output, b5.size, b5.block⟩
      have DD5 := hid (DD.out.trans (b5'.mono DD.out.size))
      have O5 := hid (show Own enc1 1 3 w5 w.heap.size v5 (effP s c gp kd vl cp l) by rw [HE.out]; exact o5.less DD.out.size)
      clear b5 b5' o5
      go_wp2
      go_ret
      exact ⟨_, rfl, O5.out, DD5.out⟩
    · have e2 : decide (cp < T) = false := decide_eq_false h2
      have HE := hid (show effP s c gp kd vl cp l = M by rw [HEF.out, if_neg (fun h => h2 h.2)])
      clear h1 h2
      go_wp2_with fail
      go_quiet ((go_at_call 57; exact quiet_same (hsum _)))
      go_wp2
      go_ret
      exact ⟨_, rfl, by rw [HE.out]; exact O1.out.drewN _, below_drewN DD.out _⟩
  · have e1 : decide (0 < cp) = false := decide_eq_false h1
    have e1' : decide (cp > 0) = false := decide_eq_false h1
    have HE := hid (show effP s c gp kd vl cp l = M by rw [HEF.out, if_neg (fun h => h1 h.1)])
    clear h1
    go_wp2_with fail
    go_quiet ((go_at_call 57; exact quiet_same (hsum _)))
    go_wp2
    go_ret
    exact ⟨_, rfl, by rw [HE.out]; exact O1.out.drewN _, below_drewN DD.out _⟩

end Go.Proofs.YtkgofklpogdpmaaGreat
