/- The walk of the law: pieces are refunded one by one. -/
import Derived.Test.YtgeffidkamklaaaSaleL
namespace Go.Proofs.Ytgeffidkamklaaa
open Go.RowKit

/-- How many pieces are left, for the loop's measure. -/
def leftOf (c : Int) (T : Nat) (w : World) : Nat := match w.cell? ⟨T, 2, none⟩ with | some (.int _ k) => (c - k).toNat | _ => 0
theorem leftOf_blk {w : World} {T : Nat} {t : TypeId} {x y : Value} {c k : Int} (h : Blk w T t #[x, y, .int .i64 k]) : leftOf c T w = (c - k).toNat := by
  have := h.three.2.2.1
  unfold leftOf
  rw [this]

/-- What holds of the loop's round: t has k pieces given back, and all is what they cost. -/
def EachRel (w : World) (T : Nat) (c p b : Int) (v : Value) (wr : World) : Prop :=
  ∃ k : Int, b ≤ k ∧ k ≤ c ∧ v = .int .i64 (partI p k c - partI p b c) ∧ Blk wr T 25 #[.int .i64 c, .int .i64 p, .int .i64 k] ∧ Below w.heap.size w wr

set_option maxHeartbeats 1600000 in
theorem fnRefundForEach_walk (w : World) (A : Option Addr) (len cap : Nat) (h : Bytes w w.heap.size A len cap) :
    Calls Try.prog 13 #[.slice A len cap] w fun e w' => e = .returned (.bool true) ∧ Below w.heap.size w w' := by
  by_cases hl : 1048576 < len
  · clear h
    go_enter Try.func13, Try.ntmps13
    go_wp2
    go_ret
    exact ⟨rfl, Below.refl _ _⟩
  · go_enter Try.func13, Try.ntmps13
    go_wp2_with fail
    refine (drawKeptOf_any _ _ _ _ h).mono ?_
    rintro e w1 ⟨c, p, b, rfl, x1, x2, x3, x4, b1⟩
    clear h
    have z1 := b1.size
    have S1 := Blk.new w1 25 #[.int .i64 c, .int .i64 p, .int .i64 b]
    by_cases hv : vSale c p b = true
    · obtain ⟨a1, a2, a3, a4, a5, a6⟩ := vSale_true hv
      obtain ⟨q1, q2⟩ := part_bd (c := c) a1 a3 a5 a6
      have HK := hid (kept_yes hv)
      have HV := hid hv
      clear hv
      go_wp2_with fail; refine (keptOf_any _ _ _ _).mono ?_; rintro e w2 ⟨rfl, b2⟩
      rw [HK.out]
      have S2 := S1.below b2 (by have := S1.lt; (try simp) <;> omega); have zS2 := S2.lt
      obtain ⟨S2a, S2b, S2c, S2f⟩ := S2.three
      go_wp2_with fail; refine (specKeptOf_any _ _ _ _).mono ?_; rintro e w3 ⟨rfl, b3⟩
      rw [HK.out]
      have S3 := S2.below b3 (by have := S2.lt; (try simp) <;> omega); have zS3 := S3.lt
      obtain ⟨S3a, S3b, S3c, S3f⟩ := S3.three
      have D3 := hid (show Below w.heap.size w (w3.alloc (.cells #[.int .i64 c, .int .i64 p, .int .i64 b] 25)) by repeat (first | exact Below.refl _ _ | (refine Below.alloc ?_ (by (try simp) <;> omega) _) | (refine Below.setCell ?_ (by (try simp) <;> omega) _) | (refine Below.drew ?_) | (refine below_drewN ?_ _) | (refine Below.trans ?_ (Below.mono (by assumption) (by (try simp) <;> omega)))))
      have N3 := Blk.new w3 25 #[.int .i64 c, .int .i64 p, .int .i64 b]
      have z3 : w.heap.size ≤ w3.heap.size := by omega
      clear S1 S2 S3 S2a S2b S2c S2f b1 b2 b3
      go_wp2_with fail
      go_loopw [5] (fun v wr => EachRel w w3.heap.size c p b v wr) (fun _ wr => leftOf c w3.heap.size wr)
      case atStart => exact ⟨b, Int.le_refl b, a6, by simp, N3, D3.out⟩
      case round =>
        obtain ⟨k, k1, k2, rfl, N4, D4⟩ := hrel
        have HN := hid (leftOf_blk (c := c) N4)
        have D5 := hid D4
        have z5 : w3.heap.size < wr.heap.size := N4.lt
        clear D4 N3 D3 S3a S3b S3c S3f
        obtain ⟨n0, n1, n2, nf⟩ := N4.three
        obtain ⟨t1, t2⟩ := part_bd (c := c) (n := k) a1 a3 (by omega) (by omega)
        have t3 := part_mono (c := c) (p := p) (m := b) (n := k) a1 a3 (by omega)
        by_cases hk : k < c
        · obtain ⟨r1, r2⟩ := part_bd (c := c) (n := k + 1) a1 a3 (by omega) (by omega)
          have r3 := part_mono (c := c) (p := p) (m := k) (n := k + 1) a1 a3 (by omega)
          have hok := okBack_mk (n := 1) (vSale_mk a1 a2 a3 a4 (by omega : 0 ≤ k) k2) (by omega) (by omega)
          have HR := hid (refund_yes hok)
          have HG := hid (giveV_yes hok)
          clear hok
          obtain ⟨r, hr⟩ : ∃ r, partI p (k + 1) c = r := ⟨_, rfl⟩
          rw [hr] at r1 r2 r3
          have HS := hid hr
          have HR := hid (show refundI c p k 1 = r - partI p k c by rw [HR.out, hr])
          clear hr
          go_wp2_with fail; refine (refundFor_any _ _ _ _ _).mono ?_; rintro e w5 ⟨rfl, b5⟩
          rw [HR.out]
          have N5 := N4.below b5 z5
          obtain ⟨j0, j1, j2, jf⟩ := N5.three
          have y5 := N5.lt
          go_wp2_with fail; refine (giveBack_any _ _ _ _ _).mono ?_; rintro e w6 ⟨rfl, b6⟩
          rw [HG.out]
          have N6 := N5.below b6 y5
          have y6 := N6.lt
          obtain ⟨i0, i1, i2, if_⟩ := N6.three
          have M6 := hid ((((N6.set_ 0 (.int .i64 c)).set_ 1 (.int .i64 p)).set_ 2 (.int .i64 (k + 1))).alloc (.cells #[.int .i64 c, .int .i64 p, .int .i64 (k + 1)] 25))
          have D6 := hid (show Below w.heap.size w w6 from (D5.out.trans (b5.mono (by omega))).trans (b6.mono (by omega)))
          clear N4 N5 N6 b5 b6
          go_wp2
          go_roundw
          case rel =>
            refine ⟨k + 1, by omega, by omega, ?_, ?_, ?_⟩
            · congr 1; rw [HS.out]; omega
            · have := M6.out
              simpa using this
            · have := D6.out
              repeat (first | exact Below.refl _ _ | (refine Below.alloc ?_ (by (try simp) <;> omega) _) | (refine Below.setCell ?_ (by (try simp) <;> omega) _) | (refine Below.drew ?_) | (refine below_drewN ?_ _) | (refine Below.trans ?_ (Below.mono (by assumption) (by (try simp) <;> omega))))
          case measure =>
            have := M6.out
            simp at this
            rw [HN.out, leftOf_blk this]
            omega
        · have hkc : k = c := by omega
          subst hkc
          have ha := hid (part_all (p := p) a1)
          go_wp2
          go_ret
          refine ⟨ret_bool (by rw [ha.out]; simp), ?_⟩
          exact D5.out
    · have hv' : vSale c p b = false := by simpa using hv
      have HK := hid (show keptI c p b = -1 by simp [keptI, hv'])
      clear hv hv'
      go_wp2_with fail; refine (keptOf_any _ _ _ _).mono ?_; rintro e w2 ⟨rfl, b2⟩
      rw [HK.out]
      have S2 := S1.below b2 (by have := S1.lt; (try simp) <;> omega); have zS2 := S2.lt
      obtain ⟨S2a, S2b, S2c, S2f⟩ := S2.three
      go_wp2_with fail; refine (specKeptOf_any _ _ _ _).mono ?_; rintro e w3 ⟨rfl, b3⟩
      rw [HK.out]
      have S3 := S2.below b3 (by have := S2.lt; (try simp) <;> omega); have zS3 := S3.lt
      obtain ⟨S3a, S3b, S3c, S3f⟩ := S3.three
      go_wp2_with fail; refine (specKeptOf_any _ _ _ _).mono ?_; rintro e w4 ⟨rfl, b4⟩
      rw [HK.out]
      have S4 := S3.below b4 (by have := S3.lt; (try simp) <;> omega); have zS4 := S4.lt
      go_wp2
      go_ret
      refine ⟨rfl, ?_⟩
      repeat (first | exact Below.refl _ _ | (refine Below.alloc ?_ (by (try simp) <;> omega) _) | (refine Below.setCell ?_ (by (try simp) <;> omega) _) | (refine Below.drew ?_) | (refine below_drewN ?_ _) | (refine Below.trans ?_ (Below.mono (by assumption) (by (try simp) <;> omega))))

end Go.Proofs.Ytgeffidkamklaaa
