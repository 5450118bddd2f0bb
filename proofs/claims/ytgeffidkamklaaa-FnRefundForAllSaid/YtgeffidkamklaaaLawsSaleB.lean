/- The walks of the laws on sold lines: kept, refunded, given back. -/
import Derived.Test.YtgeffidkamklaaaSaleL
namespace Go.Proofs.Ytgeffidkamklaaa
open Go.RowKit

set_option maxHeartbeats 1600000 in
theorem fnValidSale_walk (w : World) (A : Option Addr) (len cap : Nat) (h : Bytes w w.heap.size A len cap) :
    Calls Try.prog 7 #[.slice A len cap] w fun e w' => e = .returned (.bool true) ∧ Below w.heap.size w w' := by
  by_cases hl : 1048576 < len
  · clear h
    go_enter Try.func7, Try.ntmps7
    go_wp2
    go_ret
    exact ⟨rfl, Below.refl _ _⟩
  · go_enter Try.func7, Try.ntmps7
    go_wp2_with fail
    refine (drawValidSale_any _ _ _ _ h).mono ?_
    rintro e w1 ⟨c, p, b, rfl, x1, x2, x3, x4, b1⟩
    clear h
    have z1 := b1.size
    have S1 := Blk.new w1 25 #[.int .i64 c, .int .i64 p, .int .i64 b]
    by_cases hv : vSale c p b = true
    · obtain ⟨a1, a2, a3, a4, a5, a6⟩ := vSale_true hv
      by_cases hbc : b < c
      · have HG := hid (giveV_yes (okBack_mk (n := 1) hv (by omega) (by omega)))
        have hv1 := vSale_back (n := 1) hv (by omega) (by omega)
        go_wp2_with fail; refine (validSale_any _ _ _ _).mono ?_; rintro e w2 ⟨rfl, b2⟩
        have S2 := S1.below b2 (by have := S1.lt; (try simp) <;> omega); have zS2 := S2.lt
        obtain ⟨S2a, S2b, S2c, S2f⟩ := S2.three
        go_wp2_with fail; refine (specValidSale_any _ _ _ _).mono ?_; rintro e w3 ⟨rfl, b3⟩
        have S3 := S2.below b3 (by have := S2.lt; (try simp) <;> omega); have zS3 := S3.lt
        obtain ⟨S3a, S3b, S3c, S3f⟩ := S3.three
        go_wp2_with fail; refine (giveBack_any _ _ _ _ _).mono ?_; rintro e w4 ⟨rfl, b4⟩
        rw [HG.out]
        have S4 := S3.below b4 (by have := S3.lt; (try simp) <;> omega); have zS4 := S4.lt
        obtain ⟨S4a, S4b, S4c, S4f⟩ := S4.three
        go_wp2_with fail
        refine (validSale_any _ _ _ _).mono ?_
        rintro e w5 ⟨rfl, b5⟩
        go_wp2
        go_ret
        refine ⟨rfl, ?_⟩
        repeat (first | exact Below.refl _ _ | (refine Below.alloc ?_ (by (try simp) <;> omega) _) | (refine Below.setCell ?_ (by (try simp) <;> omega) _) | (refine Below.drew ?_) | (refine below_drewN ?_ _) | (refine Below.trans ?_ (Below.mono (by assumption) (by (try simp) <;> omega))))
      · have HG := hid (giveV_no (c := c) (p := p) (b := b) (n := 1) (by simp [okBack, withinB]; omega))
        have hbc' : decide (b < c) = false := by simpa using hbc
        clear hbc
        go_wp2_with fail; refine (validSale_any _ _ _ _).mono ?_; rintro e w2 ⟨rfl, b2⟩
        have S2 := S1.below b2 (by have := S1.lt; (try simp) <;> omega); have zS2 := S2.lt
        obtain ⟨S2a, S2b, S2c, S2f⟩ := S2.three
        go_wp2_with fail; refine (specValidSale_any _ _ _ _).mono ?_; rintro e w3 ⟨rfl, b3⟩
        have S3 := S2.below b3 (by have := S2.lt; (try simp) <;> omega); have zS3 := S3.lt
        obtain ⟨S3a, S3b, S3c, S3f⟩ := S3.three
        go_wp2_with fail; refine (giveBack_any _ _ _ _ _).mono ?_; rintro e w4 ⟨rfl, b4⟩
        rw [HG.out]
        have S4 := S3.below b4 (by have := S3.lt; (try simp) <;> omega); have zS4 := S4.lt
        obtain ⟨S4a, S4b, S4c, S4f⟩ := S4.three
        go_wp2
        go_ret
        refine ⟨rfl, ?_⟩
        repeat (first | exact Below.refl _ _ | (refine Below.alloc ?_ (by (try simp) <;> omega) _) | (refine Below.setCell ?_ (by (try simp) <;> omega) _) | (refine Below.drew ?_) | (refine below_drewN ?_ _) | (refine Below.trans ?_ (Below.mono (by assumption) (by (try simp) <;> omega))))
    · have hv' : vSale c p b = false := by simpa using hv
      clear hv
      have HG := hid (giveV_no (c := c) (p := p) (b := b) (n := 1) (by simp [okBack, hv']))
      go_wp2_with fail; refine (validSale_any _ _ _ _).mono ?_; rintro e w2 ⟨rfl, b2⟩
      have S2 := S1.below b2 (by have := S1.lt; (try simp) <;> omega); have zS2 := S2.lt
      obtain ⟨S2a, S2b, S2c, S2f⟩ := S2.three
      go_wp2_with fail; refine (specValidSale_any _ _ _ _).mono ?_; rintro e w3 ⟨rfl, b3⟩
      have S3 := S2.below b3 (by have := S2.lt; (try simp) <;> omega); have zS3 := S3.lt
      obtain ⟨S3a, S3b, S3c, S3f⟩ := S3.three
      go_wp2_with fail; refine (giveBack_any _ _ _ _ _).mono ?_; rintro e w4 ⟨rfl, b4⟩
      rw [HG.out]
      have S4 := S3.below b4 (by have := S3.lt; (try simp) <;> omega); have zS4 := S4.lt
      obtain ⟨S4a, S4b, S4c, S4f⟩ := S4.three
      go_wp2
      go_ret
      refine ⟨rfl, ?_⟩
      repeat (first | exact Below.refl _ _ | (refine Below.alloc ?_ (by (try simp) <;> omega) _) | (refine Below.setCell ?_ (by (try simp) <;> omega) _) | (refine Below.drew ?_) | (refine below_drewN ?_ _) | (refine Below.trans ?_ (Below.mono (by assumption) (by (try simp) <;> omega))))

set_option maxHeartbeats 1600000 in
theorem fnKeptOf_walk (w : World) (A : Option Addr) (len cap : Nat) (h : Bytes w w.heap.size A len cap) :
    Calls Try.prog 8 #[.slice A len cap] w fun e w' => e = .returned (.bool true) ∧ Below w.heap.size w w' := by
  by_cases hl : 1048576 < len
  · clear h
    go_enter Try.func8, Try.ntmps8
    go_wp2
    go_ret
    exact ⟨rfl, Below.refl _ _⟩
  · go_enter Try.func8, Try.ntmps8
    go_wp2_with fail
    refine (drawKeptOf_any _ _ _ _ h).mono ?_
    rintro e w1 ⟨c, p, b, rfl, x1, x2, x3, x4, b1⟩
    clear h
    have z1 := b1.size
    have S1 := Blk.new w1 25 #[.int .i64 c, .int .i64 p, .int .i64 b]
    by_cases hv : vSale c p b = true
    · obtain ⟨a1, a2, a3, a4, a5, a6⟩ := vSale_true hv
      obtain ⟨q1, q2⟩ := part_bd (c := c) a1 a3 a5 a6
      by_cases h0 : b = 0
      · subst h0
        have HK := hid (show keptI c p 0 = p by rw [kept_yes hv, part_zero]; omega)
        go_wp2_with fail; refine (keptOf_any _ _ _ _).mono ?_; rintro e w2 ⟨rfl, b2⟩
        rw [HK.out]
        have S2 := S1.below b2 (by have := S1.lt; (try simp) <;> omega); have zS2 := S2.lt
        obtain ⟨S2a, S2b, S2c, S2f⟩ := S2.three
        go_wp2_with fail; refine (specKeptOf_any _ _ _ _).mono ?_; rintro e w3 ⟨rfl, b3⟩
        rw [HK.out]
        have S3 := S2.below b3 (by have := S2.lt; (try simp) <;> omega); have zS3 := S3.lt
        obtain ⟨S3a, S3b, S3c, S3f⟩ := S3.three
        go_wp2
        go_ret
        refine ⟨rfl, ?_⟩
        repeat (first | exact Below.refl _ _ | (refine Below.alloc ?_ (by (try simp) <;> omega) _) | (refine Below.setCell ?_ (by (try simp) <;> omega) _) | (refine Below.drew ?_) | (refine below_drewN ?_ _) | (refine Below.trans ?_ (Below.mono (by assumption) (by (try simp) <;> omega))))
      · by_cases hbc : b = c
        · subst hbc
          have HK := hid (show keptI b p b = 0 by rw [kept_yes hv, part_all a1]; omega)
          go_wp2_with fail; refine (keptOf_any _ _ _ _).mono ?_; rintro e w2 ⟨rfl, b2⟩
          rw [HK.out]
          have S2 := S1.below b2 (by have := S1.lt; (try simp) <;> omega); have zS2 := S2.lt
          obtain ⟨S2a, S2b, S2c, S2f⟩ := S2.three
          go_wp2_with fail; refine (specKeptOf_any _ _ _ _).mono ?_; rintro e w3 ⟨rfl, b3⟩
          rw [HK.out]
          have S3 := S2.below b3 (by have := S2.lt; (try simp) <;> omega); have zS3 := S3.lt
          obtain ⟨S3a, S3b, S3c, S3f⟩ := S3.three
          go_wp2
          go_ret
          refine ⟨rfl, ?_⟩
          repeat (first | exact Below.refl _ _ | (refine Below.alloc ?_ (by (try simp) <;> omega) _) | (refine Below.setCell ?_ (by (try simp) <;> omega) _) | (refine Below.drew ?_) | (refine below_drewN ?_ _) | (refine Below.trans ?_ (Below.mono (by assumption) (by (try simp) <;> omega))))
        · obtain ⟨q, hq⟩ : ∃ q, partI p b c = q := ⟨_, rfl⟩
          rw [hq] at q1 q2
          have HK := hid (show keptI c p b = p - q by rw [kept_yes hv, hq])
          go_wp2_with fail; refine (keptOf_any _ _ _ _).mono ?_; rintro e w2 ⟨rfl, b2⟩
          rw [HK.out]
          have S2 := S1.below b2 (by have := S1.lt; (try simp) <;> omega); have zS2 := S2.lt
          obtain ⟨S2a, S2b, S2c, S2f⟩ := S2.three
          go_wp2_with fail; refine (specKeptOf_any _ _ _ _).mono ?_; rintro e w3 ⟨rfl, b3⟩
          rw [HK.out]
          have S3 := S2.below b3 (by have := S2.lt; (try simp) <;> omega); have zS3 := S3.lt
          obtain ⟨S3a, S3b, S3c, S3f⟩ := S3.three
          clear hq hv
          go_wp2
          go_ret
          refine ⟨rfl, ?_⟩
          repeat (first | exact Below.refl _ _ | (refine Below.alloc ?_ (by (try simp) <;> omega) _) | (refine Below.setCell ?_ (by (try simp) <;> omega) _) | (refine Below.drew ?_) | (refine below_drewN ?_ _) | (refine Below.trans ?_ (Below.mono (by assumption) (by (try simp) <;> omega))))
    · have hv' : vSale c p b = false := by simpa using hv
      have HK := hid (show keptI c p b = -1 by simp [keptI, hv'])
      go_wp2_with fail; refine (keptOf_any _ _ _ _).mono ?_; rintro e w2 ⟨rfl, b2⟩
      rw [HK.out]
      have S2 := S1.below b2 (by have := S1.lt; (try simp) <;> omega); have zS2 := S2.lt
      obtain ⟨S2a, S2b, S2c, S2f⟩ := S2.three
      go_wp2_with fail; refine (specKeptOf_any _ _ _ _).mono ?_; rintro e w3 ⟨rfl, b3⟩
      rw [HK.out]
      have S3 := S2.below b3 (by have := S2.lt; (try simp) <;> omega); have zS3 := S3.lt
      obtain ⟨S3a, S3b, S3c, S3f⟩ := S3.three
      clear hv hv'
      go_wp2_with fail; refine (specKeptOf_any _ _ _ _).mono ?_; rintro e w4 ⟨rfl, b4⟩
      rw [HK.out]
      have S4 := S3.below b4 (by have := S3.lt; (try simp) <;> omega); have zS4 := S4.lt
      go_wp2
      go_ret
      refine ⟨rfl, ?_⟩
      repeat (first | exact Below.refl _ _ | (refine Below.alloc ?_ (by (try simp) <;> omega) _) | (refine Below.setCell ?_ (by (try simp) <;> omega) _) | (refine Below.drew ?_) | (refine below_drewN ?_ _) | (refine Below.trans ?_ (Below.mono (by assumption) (by (try simp) <;> omega))))

set_option maxHeartbeats 1600000 in
theorem fnRefundForAll_walk (w : World) (A : Option Addr) (len cap : Nat) (h : Bytes w w.heap.size A len cap) :
    Calls Try.prog 9 #[.slice A len cap] w fun e w' => e = .returned (.bool true) ∧ Below w.heap.size w w' := by
  by_cases hl : 1048576 < len
  · clear h
    go_enter Try.func9, Try.ntmps9
    go_wp2
    go_ret
    exact ⟨rfl, Below.refl _ _⟩
  · go_enter Try.func9, Try.ntmps9
    go_wp2_with fail
    refine (drawRefundFor_any _ _ _ _ h).mono ?_
    rintro e w1 ⟨c, p, b, n, rfl, x1, x2, x3, x4, x5, x6, b1⟩
    clear h
    have z1 := b1.size
    have S1 := Blk.new w1 25 #[.int .i64 c, .int .i64 p, .int .i64 b]
    by_cases hok : okBack c p b n = true
    · obtain ⟨hv, n1, n2⟩ := okBack_true hok
      obtain ⟨a1, a2, a3, a4, a5, a6⟩ := vSale_true hv
      obtain ⟨q1, q2⟩ := part_bd (c := c) a1 a3 a5 a6
      obtain ⟨r1, r2⟩ := part_bd (c := c) (n := b + n) a1 a3 (by omega) (by omega)
      have r3 := part_mono (c := c) (p := p) (m := b) (n := b + n) a1 a3 (by omega)
      have HF := hid (show refundI c p 0 c = p by
        rw [refund_yes (okBack_mk (vSale_mk a1 a2 a3 a4 (Int.le_refl 0) (by omega)) a1 (by omega)), Int.zero_add, part_all a1, part_zero]; omega)
      have HQ := hid (refund_yes hok)
      generalize partI p (b + n) c = r at *
      generalize partI p b c = q at *
      have HK := HQ
      go_wp2_with fail; refine (refundFor_any _ _ _ _ _).mono ?_; rintro e w2 ⟨rfl, b2⟩
      rw [HK.out]
      have S2 := S1.below b2 (by have := S1.lt; (try simp) <;> omega); have zS2 := S2.lt
      obtain ⟨S2a, S2b, S2c, S2f⟩ := S2.three
      go_wp2_with fail; refine (specRefundFor_any _ _ _ _ _).mono ?_; rintro e w3 ⟨rfl, b3⟩
      rw [HK.out]
      have S3 := S2.below b3 (by have := S2.lt; (try simp) <;> omega); have zS3 := S3.lt
      obtain ⟨S3a, S3b, S3c, S3f⟩ := S3.three
      clear hok hv
      have hd : decide (r - q ≤ p) = true := by simp; omega
      go_wp2_with fail
      have F3 := Blk.new w3 25 #[.int .i64 c, .int .i64 p, .int .i64 0]
      obtain ⟨f0, f1, f2, ff⟩ := F3.three
      obtain ⟨g0, g1, g2, gf⟩ := (S3.alloc (.cells #[.int .i64 c, .int .i64 p, .int .i64 0] 25)).three
      go_region_held3 (fun x => x.cell? ⟨w3.heap.size, 0, none⟩ = some (.int .i64 (c)) ∧ x.cell? ⟨w3.heap.size, 1, none⟩ = some (.int .i64 (p)) ∧ x.cell? ⟨w3.heap.size, 2, none⟩ = some (.int .i64 (0)) ∧ x.cell? ⟨w1.heap.size, 0, none⟩ = some (.int .i64 (c)) ∧ x.cell? ⟨w1.heap.size, 1, none⟩ = some (.int .i64 (p)) ∧ x.cell? ⟨w1.heap.size, 2, none⟩ = some (.int .i64 (b))) (((repeat' apply And.intro) <;> first | assumption | (simp [go_sem, *]; done))) ((go_at_call 21; refine (refundFor_any _ _ _ _ _).mono ?_; rintro e w4 ⟨rfl, b4⟩; rw [HF.out]; have : w4.cell? ⟨w3.heap.size, 0, none⟩ = some (.int .i64 (c)) := (b4.cell (p := ⟨w3.heap.size, 0, none⟩) (by (try simp) <;> omega)).trans (by assumption); have : w4.cell? ⟨w3.heap.size, 1, none⟩ = some (.int .i64 (p)) := (b4.cell (p := ⟨w3.heap.size, 1, none⟩) (by (try simp) <;> omega)).trans (by assumption); have : w4.cell? ⟨w3.heap.size, 2, none⟩ = some (.int .i64 (0)) := (b4.cell (p := ⟨w3.heap.size, 2, none⟩) (by (try simp) <;> omega)).trans (by assumption); have : w3.heap.size < w4.heap.size := (by have := b4.size; (try simp at this); (try simp) <;> omega); have : w4.cell? ⟨w1.heap.size, 0, none⟩ = some (.int .i64 (c)) := (b4.cell (p := ⟨w1.heap.size, 0, none⟩) (by (try simp) <;> omega)).trans (by assumption); have : w4.cell? ⟨w1.heap.size, 1, none⟩ = some (.int .i64 (p)) := (b4.cell (p := ⟨w1.heap.size, 1, none⟩) (by (try simp) <;> omega)).trans (by assumption); have : w4.cell? ⟨w1.heap.size, 2, none⟩ = some (.int .i64 (b)) := (b4.cell (p := ⟨w1.heap.size, 2, none⟩) (by (try simp) <;> omega)).trans (by assumption); have : w1.heap.size < w4.heap.size := (by have := b4.size; (try simp at this); (try simp) <;> omega)))
      go_wp2
      go_ret
      refine ⟨rfl, ?_⟩
      repeat (first | exact Below.refl _ _ | (refine Below.alloc ?_ (by (try simp) <;> omega) _) | (refine Below.setCell ?_ (by (try simp) <;> omega) _) | (refine Below.drew ?_) | (refine below_drewN ?_ _) | (refine Below.trans ?_ (Below.mono (by assumption) (by (try simp) <;> omega))))
    · have hok' : okBack c p b n = false := by simpa using hok
      have HK := hid (show refundI c p b n = -1 by simp [refundI, hok'])
      go_wp2_with fail; refine (refundFor_any _ _ _ _ _).mono ?_; rintro e w2 ⟨rfl, b2⟩
      rw [HK.out]
      have S2 := S1.below b2 (by have := S1.lt; (try simp) <;> omega); have zS2 := S2.lt
      obtain ⟨S2a, S2b, S2c, S2f⟩ := S2.three
      go_wp2_with fail; refine (specRefundFor_any _ _ _ _ _).mono ?_; rintro e w3 ⟨rfl, b3⟩
      rw [HK.out]
      have S3 := S2.below b3 (by have := S2.lt; (try simp) <;> omega); have zS3 := S3.lt
      obtain ⟨S3a, S3b, S3c, S3f⟩ := S3.three
      clear hok hok'
      go_wp2_with fail; refine (specRefundFor_any _ _ _ _ _).mono ?_; rintro e w4 ⟨rfl, b4⟩
      rw [HK.out]
      have S4 := S3.below b4 (by have := S3.lt; (try simp) <;> omega); have zS4 := S4.lt
      go_wp2
      go_ret
      refine ⟨rfl, ?_⟩
      repeat (first | exact Below.refl _ _ | (refine Below.alloc ?_ (by (try simp) <;> omega) _) | (refine Below.setCell ?_ (by (try simp) <;> omega) _) | (refine Below.drew ?_) | (refine below_drewN ?_ _) | (refine Below.trans ?_ (Below.mono (by assumption) (by (try simp) <;> omega))))

end Go.Proofs.Ytgeffidkamklaaa
