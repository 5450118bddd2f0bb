/- Contract: receipts of any arguments, as the paper says it. -/
import Derived.Test.YtkgofklpogdpmaaGreatZRcpS
import Derived.Test.YtkgofklpogdpmaaGreatZC
import Derived.Test.YtkgofklpogdpmaaGreatZClearS
import Derived.Test.YtkgofklpogdpmaaGreatZB
import Derived.Test.YtkgofklpogdpmaaGreatZE
namespace Go.Proofs.YtkgofklpogdpmaaGreat
open Go.RowKit

/-- Whether there is a receipt. -/
def rcpOk (s : List (Int × Int × Int × Int)) (c : List (Int × Int)) (cu : List Int) (l : List ((Int × Int × Int × Int × Int × Int × Int) × (Int × Int) × (Option Addr × Nat × List (Int × Int)) × Int)) : Bool := ((vShop s && vCart s.length c) && vCpn cu) && (vRules l && clr l)
def RofPost (w : World) (s : List (Int × Int × Int × Int)) (c : List (Int × Int)) (cu : List Int) (l : List ((Int × Int × Int × Int × Int × Int × Int) × (Int × Int) × (Option Addr × Nat × List (Int × Int)) × Int)) (e : Ending) (w' : World) : Prop :=
  (rcpOk s c cu l = true ∧ ∃ v, e = .returned (.tuple #[v, .bool true]) ∧ RcpRes w s c cu l v w') ∨ (rcpOk s c cu l = false ∧ e = .returned (.tuple #[.agg #[.slice none 0 0, .slice none 0 0], .bool false]) ∧ Below w.heap.size w w')

set_option maxHeartbeats 6400000 in
set_option maxRecDepth 100000 in
theorem receiptOfS_any (s : List (Int × Int × Int × Int)) (c : List (Int × Int)) (cu : List Int) (l : List ((Int × Int × Int × Int × Int × Int × Int) × (Int × Int) × (Option Addr × Nat × List (Int × Int)) × Int)) (A Ac Al Ar : Option Addr) (cap capc capl capr : Nat) (w : World) (hA : Sl enc4 4 w w.heap.size A s) (hC : Sl enc2 2 w w.heap.size Ac c) (hP : Sl enc1 1 w w.heap.size Al cu) (hR : Sl encR 11 w w.heap.size Ar l) (hS : SpansIn w w.heap.size l) (hs : s.length ≤ 1000) (hc : c.length ≤ 1000) (hu : cu.length ≤ 1000) (hl : l.length ≤ 1000) :
    Calls Tryz.prog 6 #[.slice A s.length cap, .slice Ac c.length capc, .slice Al cu.length capl, .slice Ar l.length capr] w (RofPost w s c cu l) := by
  have HOK := hid (show rcpOk s c cu l = (((vShop s && vCart s.length c) && vCpn cu) && (vRules l && clr l)) from rfl)
  have K0 := hid (Blk.new w 31 #[.slice none 0 0, .slice none 0 0])
  obtain ⟨w0, hw0⟩ : ∃ x, x = w.alloc (.cells #[.slice none 0 0, .slice none 0 0] 31) := ⟨_, rfl⟩
  rw [← hw0] at K0
  have D0 := hid (show Below w.heap.size w w0 by rw [hw0]; exact (Below.refl _ _).alloc (Nat.le_refl _) _)
  have hz0 : w0.heap.size = w.heap.size + 1 := by rw [hw0]; simp
  have HW := hid hw0
  have ZA0 := hid ((hA.below D0.out (Nat.le_refl _)).more (show w.heap.size ≤ w0.heap.size by omega))
  have ZC0 := hid ((hC.below D0.out (Nat.le_refl _)).more (show w.heap.size ≤ w0.heap.size by omega))
  have ZP0 := hid ((hP.below D0.out (Nat.le_refl _)).more (show w.heap.size ≤ w0.heap.size by omega))
  have ZR0 := hid ((hR.below D0.out (Nat.le_refl _)).more (show w.heap.size ≤ w0.heap.size by omega))
  have ZS0 := hid ((hS.below D0.out (Nat.le_refl _)).more (show w.heap.size ≤ w0.heap.size by omega))
  clear hA hC hP hR hS hw0
  obtain ⟨x1, hx1⟩ : ∃ x, vShop s = x := ⟨_, rfl⟩
  obtain ⟨x2, hx2⟩ : ∃ x, vCart s.length c = x := ⟨_, rfl⟩
  obtain ⟨x3, hx3⟩ : ∃ x, vCpn cu = x := ⟨_, rfl⟩
  obtain ⟨x4, hx4⟩ : ∃ x, vRules l = x := ⟨_, rfl⟩
  have X1 := hid hx1
  have X2 := hid hx2
  have X3 := hid hx3
  have X4 := hid hx4
  rw [hx1, hx2, hx3, hx4] at HOK
  clear hx1 hx2 hx3 hx4
  go_enter Tryz.func6, Tryz.ntmps6
  go_wp2_with fail
  rw [← HW.out]
  refine (svalidShop_any s A cap _ ZA0.out (by omega)).mono ?_
  rintro e w1 ⟨rfl, b1⟩
  rw [X1.out]
  have z1 := b1.size
  have ZA1 := hid ((ZA0.out.below b1 (Nat.le_refl _)).more z1)
  have ZC1 := hid ((ZC0.out.below b1 (Nat.le_refl _)).more z1)
  have ZP1 := hid ((ZP0.out.below b1 (Nat.le_refl _)).more z1)
  have ZR1 := hid ((ZR0.out.below b1 (Nat.le_refl _)).more z1)
  have ZS1 := hid ((ZS0.out.below b1 (Nat.le_refl _)).more z1)
  have K1 := hid (K0.out.below b1 K0.out.lt)
  have D1 := hid (D0.out.trans (b1.mono D0.out.size))
  clear b1
  cases x1
  · have k0 := K1.out.cell 0
    have k1 := K1.out.cell 1
    have kf := K1.out.frozen
    have zz := K1.out.lt
    have HNO := hid (show rcpOk s c cu l = false by rw [HOK.out]; simp)
    have D9 := hid ((D1.out.setCell (p := ⟨w.heap.size, 0, none⟩) (Nat.le_refl _) (.slice none 0 0)).setCell (p := ⟨w.heap.size, 1, none⟩) (Nat.le_refl _) (.slice none 0 0))
    go_wp2
    exact bodyPost_ret (v := .tuple #[.agg #[.slice none 0 0, .slice none 0 0], .bool false]) (by simp [results, Tryz.results6, go_sem, *]) rfl (.inr ⟨HNO.out, rfl, D9.out⟩)
  go_wp2_with fail
  refine (svalidCart_any c Ac capc s.length cap A _ ZC1.out (by omega) (by omega)).mono ?_
  rintro e w2 ⟨rfl, b2⟩
  rw [X2.out]
  have z2 := b2.size
  have ZA2 := hid ((ZA1.out.below b2 (Nat.le_refl _)).more z2)
  have ZC2 := hid ((ZC1.out.below b2 (Nat.le_refl _)).more z2)
  have ZP2 := hid ((ZP1.out.below b2 (Nat.le_refl _)).more z2)
  have ZR2 := hid ((ZR1.out.below b2 (Nat.le_refl _)).more z2)
  have ZS2 := hid ((ZS1.out.below b2 (Nat.le_refl _)).more z2)
  have K2 := hid (K1.out.below b2 K1.out.lt)
  have D2 := hid (D1.out.trans (b2.mono D1.out.size))
  clear b2
  cases x2
  · have k0 := K2.out.cell 0
    have k1 := K2.out.cell 1
    have kf := K2.out.frozen
    have zz := K2.out.lt
    have HNO := hid (show rcpOk s c cu l = false by rw [HOK.out]; simp)
    have D9 := hid ((D2.out.setCell (p := ⟨w.heap.size, 0, none⟩) (Nat.le_refl _) (.slice none 0 0)).setCell (p := ⟨w.heap.size, 1, none⟩) (Nat.le_refl _) (.slice none 0 0))
    go_wp2
    exact bodyPost_ret (v := .tuple #[.agg #[.slice none 0 0, .slice none 0 0], .bool false]) (by simp [results, Tryz.results6, go_sem, *]) rfl (.inr ⟨HNO.out, rfl, D9.out⟩)
  go_wp2_with fail
  refine (validCoupons_any cu Al capl _ ZP2.out (by omega)).mono ?_
  rintro e w3 ⟨rfl, b3⟩
  rw [X3.out]
  have z3 := b3.size
  have ZA3 := hid ((ZA2.out.below b3 (Nat.le_refl _)).more z3)
  have ZC3 := hid ((ZC2.out.below b3 (Nat.le_refl _)).more z3)
  have ZP3 := hid ((ZP2.out.below b3 (Nat.le_refl _)).more z3)
  have ZR3 := hid ((ZR2.out.below b3 (Nat.le_refl _)).more z3)
  have ZS3 := hid ((ZS2.out.below b3 (Nat.le_refl _)).more z3)
  have K3 := hid (K2.out.below b3 K2.out.lt)
  have D3 := hid (D2.out.trans (b3.mono D2.out.size))
  clear b3
  cases x3
  · have k0 := K3.out.cell 0
    have k1 := K3.out.cell 1
    have kf := K3.out.frozen
    have zz := K3.out.lt
    have HNO := hid (show rcpOk s c cu l = false by rw [HOK.out]; simp)
    have D9 := hid ((D3.out.setCell (p := ⟨w.heap.size, 0, none⟩) (Nat.le_refl _) (.slice none 0 0)).setCell (p := ⟨w.heap.size, 1, none⟩) (Nat.le_refl _) (.slice none 0 0))
    go_wp2
    exact bodyPost_ret (v := .tuple #[.agg #[.slice none 0 0, .slice none 0 0], .bool false]) (by simp [results, Tryz.results6, go_sem, *]) rfl (.inr ⟨HNO.out, rfl, D9.out⟩)
  go_wp2_with fail
  refine (svalidRules_any l Ar capr _ ZR3.out ZS3.out hl).mono ?_
  rintro e w4 ⟨rfl, b4⟩
  rw [X4.out]
  have z4 := b4.size
  have ZA4 := hid ((ZA3.out.below b4 (Nat.le_refl _)).more z4)
  have ZC4 := hid ((ZC3.out.below b4 (Nat.le_refl _)).more z4)
  have ZP4 := hid ((ZP3.out.below b4 (Nat.le_refl _)).more z4)
  have ZR4 := hid ((ZR3.out.below b4 (Nat.le_refl _)).more z4)
  have ZS4 := hid ((ZS3.out.below b4 (Nat.le_refl _)).more z4)
  have K4 := hid (K3.out.below b4 K3.out.lt)
  have D4 := hid (D3.out.trans (b4.mono D3.out.size))
  clear b4
  cases x4
  · have k0 := K4.out.cell 0
    have k1 := K4.out.cell 1
    have kf := K4.out.frozen
    have zz := K4.out.lt
    have HNO := hid (show rcpOk s c cu l = false by rw [HOK.out]; simp)
    have D9 := hid ((D4.out.setCell (p := ⟨w.heap.size, 0, none⟩) (Nat.le_refl _) (.slice none 0 0)).setCell (p := ⟨w.heap.size, 1, none⟩) (Nat.le_refl _) (.slice none 0 0))
    go_wp2
    exact bodyPost_ret (v := .tuple #[.agg #[.slice none 0 0, .slice none 0 0], .bool false]) (by simp [results, Tryz.results6, go_sem, *]) rfl (.inr ⟨HNO.out, rfl, D9.out⟩)
  go_wp2_with fail
  refine (clear1_any l Ar capr _ ZR4.out ZS4.out X4.out).mono ?_
  rintro e w5 ⟨rfl, b5⟩
  obtain ⟨x5, hx5⟩ : ∃ x, clr l = x := ⟨_, rfl⟩
  rw [hx5] at HOK
  rw [hx5]
  clear hx5
  have z5 := b5.size
  have ZA5 := hid ((ZA4.out.below b5 (Nat.le_refl _)).more z5)
  have ZC5 := hid ((ZC4.out.below b5 (Nat.le_refl _)).more z5)
  have ZP5 := hid ((ZP4.out.below b5 (Nat.le_refl _)).more z5)
  have ZR5 := hid ((ZR4.out.below b5 (Nat.le_refl _)).more z5)
  have ZS5 := hid ((ZS4.out.below b5 (Nat.le_refl _)).more z5)
  have K5 := hid (K4.out.below b5 K4.out.lt)
  have D5 := hid (D4.out.trans (b5.mono D4.out.size))
  clear b5
  cases x5
  · have k0 := K5.out.cell 0
    have k1 := K5.out.cell 1
    have kf := K5.out.frozen
    have zz := K5.out.lt
    have HNO := hid (show rcpOk s c cu l = false by rw [HOK.out]; simp)
    have D9 := hid ((D5.out.setCell (p := ⟨w.heap.size, 0, none⟩) (Nat.le_refl _) (.slice none 0 0)).setCell (p := ⟨w.heap.size, 1, none⟩) (Nat.le_refl _) (.slice none 0 0))
    go_wp2
    exact bodyPost_ret (v := .tuple #[.agg #[.slice none 0 0, .slice none 0 0], .bool false]) (by simp [results, Tryz.results6, go_sem, *]) rfl (.inr ⟨HNO.out, rfl, D9.out⟩)
  go_wp2_with fail
  have hu3 : cu.length ≤ 3 := by have h9 := X3.out; unfold vCpn at h9; rw [Bool.and_eq_true, decide_eq_true_eq] at h9; exact h9.2
  refine (receiptS_any s c cu l A Ac Al Ar cap capc capl capr w5 ZA5.out ZC5.out ZP5.out ZR5.out ZS5.out X1.out X2.out hu3 X4.out).mono ?_
  rintro e w6 ⟨v, rfl, q, A1, A2, c1, c2, hq, rfl, s1, s2, b6⟩
  have HQ := hid hq
  obtain ⟨L, hL⟩ : ∃ L, (rcpOf s c cu q).1 = L := ⟨_, rfl⟩
  obtain ⟨Q, hQ⟩ : ∃ Q, (rcpOf s c cu q).2 = Q := ⟨_, rfl⟩
  have HL := hid hL
  have HQ2 := hid hQ
  rw [hL] at s1
  rw [hQ] at s2
  rw [hL, hQ]
  have OO1 := s1.less (show w.heap.size + 1 ≤ w5.heap.size by omega)
  have OO2 := s2.less (show w.heap.size + 1 ≤ w5.heap.size by omega)
  have K6 := hid (K5.out.below b6 K5.out.lt)
  have D6 := hid (D5.out.trans (b6.mono D5.out.size))
  have k0 := K6.out.cell 0
  have k1 := K6.out.cell 1
  have kf := K6.out.frozen
  have zz := K6.out.lt
  have f1 : (Value.slice A1 L.length c1).ownBlock ≠ some w.heap.size := fun he => by have := (OO1.lt _ he).1; omega
  have f2 : (Value.slice A2 Q.length c2).ownBlock ≠ some w.heap.size := fun he => by have := (OO2.lt _ he).1; omega
  have S7 := hid (((OO1.far (p := ⟨w.heap.size, 0, none⟩) f1 (.slice A1 L.length c1)).far (p := ⟨w.heap.size, 1, none⟩) f1 (.slice A2 Q.length c2)).less (show w.heap.size ≤ w.heap.size + 1 by omega))
  have L7 := hid (((OO2.far (p := ⟨w.heap.size, 0, none⟩) f2 (.slice A1 L.length c1)).far (p := ⟨w.heap.size, 1, none⟩) f2 (.slice A2 Q.length c2)).less (show w.heap.size ≤ w.heap.size + 1 by omega))
  have D7 := hid ((D6.out.setCell (p := ⟨w.heap.size, 0, none⟩) (Nat.le_refl _) (.slice A1 L.length c1)).setCell (p := ⟨w.heap.size, 1, none⟩) (Nat.le_refl _) (.slice A2 Q.length c2))
  have HYES := hid (show rcpOk s c cu l = true by rw [HOK.out]; rfl)
  clear s1 s2 b6 OO1 OO2 f1 f2 hL hQ hq
  go_wp2
  refine bodyPost_ret (v := .tuple #[.agg #[.slice A1 L.length c1, .slice A2 Q.length c2], .bool true]) (by simp [results, Tryz.results6, go_sem, *]) rfl (.inl ⟨HYES.out, _, rfl, q, A1, A2, c1, c2, HQ.out, by rw [HL.out, HQ2.out], ?_, ?_, D7.out⟩)
  · rw [HL.out]; exact S7.out
  · rw [HQ2.out]; exact L7.out

end Go.Proofs.YtkgofklpogdpmaaGreat
