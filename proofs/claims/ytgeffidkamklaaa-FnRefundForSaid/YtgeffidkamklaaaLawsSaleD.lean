/- The walks of the laws: kept pieces become fewer; refunds add up; pieces are refunded one by one. -/
import Derived.Test.YtgeffidkamklaaaSaleL
namespace Go.Proofs.Ytgeffidkamklaaa
open Go.RowKit

set_option maxHeartbeats 1600000 in
theorem fnGiveBackKept_walk (w : World) (A : Option Addr) (len cap : Nat) (h : Bytes w w.heap.size A len cap) :
    Calls Try.prog 11 #[.slice A len cap] w fun e w' => e = .returned (.bool true) ∧ Below w.heap.size w w' := by
  by_cases hl : 1048576 < len
  · clear h
    go_enter Try.func11, Try.ntmps11
    go_wp2
    go_ret
    exact ⟨rfl, Below.refl _ _⟩
  · go_enter Try.func11, Try.ntmps11
    go_wp2_with fail
    refine (drawGiveBack_any _ _ _ _ h).mono ?_
    rintro e w1 ⟨c, p, b, n, rfl, x1, x2, x3, x4, x5, x6, b1⟩
    clear h
    have z1 := b1.size
    have S1 := Blk.new w1 25 #[.int .i64 c, .int .i64 p, .int .i64 b]
    by_cases hok : okBack c p b n = true
    · obtain ⟨hv, n1, n2⟩ := okBack_true hok
      obtain ⟨a1, a2, a3, a4, a5, a6⟩ := vSale_true hv
      obtain ⟨q1, q2⟩ := part_bd (c := c) a1 a3 a5 a6
      obtain ⟨r1, r2⟩ := part_bd (c := c) (n := b + n) a1 a3 (by omega) (by omega)
      have r3 := part_mono (c := c) (p := p) (m := b) (n := b + n) a1 a3 (by omega)
      have HK := kept_yes hv
      have HL := kept_yes (vSale_back (n := n) hv (by omega) (by omega))
      have HC := show keptI c p c = 0 by rw [kept_yes (vSale_mk a1 a2 a3 a4 (by omega) (Int.le_refl c)), part_all a1]; omega
      have HV := hid (giveV_yes hok)
      have HA := hid (show giveV c p b (c - b) = .tuple #[.agg #[.int .i64 c, .int .i64 p, .int .i64 c], .bool true] by
        rw [giveV_yes (okBack_mk hv (by omega) (by omega)), show b + (c - b) = c by omega])
      clear hok hv
      generalize partI p (b + n) c = r at *
      generalize partI p b c = q at *
      have hd : decide (p - r ≤ p - q) = true := by simp; omega
      have HG := HV
      go_wp2_with fail; refine (giveBack_any _ _ _ _ _).mono ?_; rintro e w2 ⟨rfl, b2⟩
      rw [HG.out]
      have S2 := S1.below b2 (by have := S1.lt; (try simp) <;> omega); have zS2 := S2.lt
      obtain ⟨S2a, S2b, S2c, S2f⟩ := S2.three
      have T2 := Blk.new w2 25 #[.int .i64 c, .int .i64 p, .int .i64 (b + n)]
      go_wp2_with fail; refine (specGiveBack_any _ _ _ _ _).mono ?_; rintro e w3 ⟨rfl, b3⟩
      rw [HG.out]
      have S3 := (S2.alloc _).below b3 (by have := S2.lt; (try simp) <;> omega); have zS3 := S3.lt
      obtain ⟨S3a, S3b, S3c, S3f⟩ := S3.three
      have T3 := T2.below b3 (by have := T2.lt; (try simp) <;> omega); have zT3 := T3.lt
      obtain ⟨T3a, T3b, T3c, T3f⟩ := T3.three
      have U3 := Blk.new w3 25 #[.int .i64 c, .int .i64 p, .int .i64 (b + n)]
      go_wp2_with fail; refine (giveBack_any _ _ _ _ _).mono ?_; rintro e w4 ⟨rfl, b4⟩
      rw [HA.out]
      have S4 := (S3.alloc _).below b4 (by have := S3.lt; (try simp) <;> omega); have zS4 := S4.lt
      have T4 := (T3.alloc _).below b4 (by have := T3.lt; (try simp) <;> omega); have zT4 := T4.lt
      have V4 := Blk.new w4 25 #[.int .i64 c, .int .i64 p, .int .i64 c]
      go_wp2_with fail
      obtain ⟨f0, f1, f2, ff⟩ := (T4.alloc (.cells #[.int .i64 c, .int .i64 p, .int .i64 c] 25)).three
      obtain ⟨g0, g1, g2, gf⟩ := (S4.alloc (.cells #[.int .i64 c, .int .i64 p, .int .i64 c] 25)).three
      obtain ⟨k0, k1, k2, kf⟩ := V4.three
      go_region_held3 (fun x => x.cell? ⟨w2.heap.size, 0, none⟩ = some (.int .i64 (c)) ∧ x.cell? ⟨w2.heap.size, 1, none⟩ = some (.int .i64 (p)) ∧ x.cell? ⟨w2.heap.size, 2, none⟩ = some (.int .i64 (b + n)) ∧ x.cell? ⟨w1.heap.size, 0, none⟩ = some (.int .i64 (c)) ∧ x.cell? ⟨w1.heap.size, 1, none⟩ = some (.int .i64 (p)) ∧ x.cell? ⟨w1.heap.size, 2, none⟩ = some (.int .i64 (b)) ∧ x.cell? ⟨w4.heap.size, 0, none⟩ = some (.int .i64 (c)) ∧ x.cell? ⟨w4.heap.size, 1, none⟩ = some (.int .i64 (p)) ∧ x.cell? ⟨w4.heap.size, 2, none⟩ = some (.int .i64 (c))) (((repeat' apply And.intro) <;> first | assumption | (simp [go_sem, *]; done))) ((go_at_call 19; refine (keptOf_any _ _ _ _).mono ?_; rintro e w5 ⟨rfl, b5⟩; have : w5.cell? ⟨w2.heap.size, 0, none⟩ = some (.int .i64 (c)) := (b5.cell (p := ⟨w2.heap.size, 0, none⟩) (by (try simp) <;> omega)).trans (by assumption); have : w5.cell? ⟨w2.heap.size, 1, none⟩ = some (.int .i64 (p)) := (b5.cell (p := ⟨w2.heap.size, 1, none⟩) (by (try simp) <;> omega)).trans (by assumption); have : w5.cell? ⟨w2.heap.size, 2, none⟩ = some (.int .i64 (b + n)) := (b5.cell (p := ⟨w2.heap.size, 2, none⟩) (by (try simp) <;> omega)).trans (by assumption); have : w2.heap.size < w5.heap.size := (by have := b5.size; (try simp at this); (try simp) <;> omega); have : w5.cell? ⟨w1.heap.size, 0, none⟩ = some (.int .i64 (c)) := (b5.cell (p := ⟨w1.heap.size, 0, none⟩) (by (try simp) <;> omega)).trans (by assumption); have : w5.cell? ⟨w1.heap.size, 1, none⟩ = some (.int .i64 (p)) := (b5.cell (p := ⟨w1.heap.size, 1, none⟩) (by (try simp) <;> omega)).trans (by assumption); have : w5.cell? ⟨w1.heap.size, 2, none⟩ = some (.int .i64 (b)) := (b5.cell (p := ⟨w1.heap.size, 2, none⟩) (by (try simp) <;> omega)).trans (by assumption); have : w1.heap.size < w5.heap.size := (by have := b5.size; (try simp at this); (try simp) <;> omega); have : w5.cell? ⟨w4.heap.size, 0, none⟩ = some (.int .i64 (c)) := (b5.cell (p := ⟨w4.heap.size, 0, none⟩) (by (try simp) <;> omega)).trans (by assumption); have : w5.cell? ⟨w4.heap.size, 1, none⟩ = some (.int .i64 (p)) := (b5.cell (p := ⟨w4.heap.size, 1, none⟩) (by (try simp) <;> omega)).trans (by assumption); have : w5.cell? ⟨w4.heap.size, 2, none⟩ = some (.int .i64 (c)) := (b5.cell (p := ⟨w4.heap.size, 2, none⟩) (by (try simp) <;> omega)).trans (by assumption); have : w4.heap.size < w5.heap.size := (by have := b5.size; (try simp at this); (try simp) <;> omega)))
      go_wp2
      go_ret
      refine ⟨rfl, ?_⟩
      repeat (first | exact Below.refl _ _ | (refine Below.alloc ?_ (by (try simp) <;> omega) _) | (refine Below.setCell ?_ (by (try simp) <;> omega) _) | (refine Below.drew ?_) | (refine below_drewN ?_ _) | (refine Below.trans ?_ (Below.mono (by assumption) (by (try simp) <;> omega))))
    · have hok' : okBack c p b n = false := by simpa using hok
      have HG := hid (giveV_no hok')
      go_wp2_with fail; refine (giveBack_any _ _ _ _ _).mono ?_; rintro e w2 ⟨rfl, b2⟩
      rw [HG.out]
      have S2 := S1.below b2 (by have := S1.lt; (try simp) <;> omega); have zS2 := S2.lt
      obtain ⟨S2a, S2b, S2c, S2f⟩ := S2.three
      have T2 := Blk.new w2 25 #[.int .i64 0, .int .i64 0, .int .i64 0]
      go_wp2_with fail; refine (specGiveBack_any _ _ _ _ _).mono ?_; rintro e w3 ⟨rfl, b3⟩
      rw [HG.out]
      have S3 := (S2.alloc _).below b3 (by have := S2.lt; (try simp) <;> omega); have zS3 := S3.lt
      obtain ⟨S3a, S3b, S3c, S3f⟩ := S3.three
      have T3 := T2.below b3 (by have := T2.lt; (try simp) <;> omega); have zT3 := T3.lt
      obtain ⟨T3a, T3b, T3c, T3f⟩ := T3.three
      have U3 := Blk.new w3 25 #[.int .i64 0, .int .i64 0, .int .i64 0]
      clear hok hok'
      go_wp2
      go_ret
      refine ⟨rfl, ?_⟩
      repeat (first | exact Below.refl _ _ | (refine Below.alloc ?_ (by (try simp) <;> omega) _) | (refine Below.setCell ?_ (by (try simp) <;> omega) _) | (refine Below.drew ?_) | (refine below_drewN ?_ _) | (refine Below.trans ?_ (Below.mono (by assumption) (by (try simp) <;> omega))))

set_option maxHeartbeats 1600000 in
theorem fnRefundFor_walk (w : World) (A : Option Addr) (len cap : Nat) (h : Bytes w w.heap.size A len cap) :
    Calls Try.prog 12 #[.slice A len cap] w fun e w' => e = .returned (.bool true) ∧ Below w.heap.size w w' := by
  by_cases hl : 1048576 < len
  · clear h
    go_enter Try.func12, Try.ntmps12
    go_wp2
    go_ret
    exact ⟨rfl, Below.refl _ _⟩
  · go_enter Try.func12, Try.ntmps12
    go_wp2_with fail
    refine (drawRefundFor_any _ _ _ _ h).mono ?_
    rintro e w1 ⟨c, p, b, n, rfl, x1, x2, x3, x4, x5, x6, b1⟩
    clear h
    have z1 := b1.size
    have S1 := Blk.new w1 25 #[.int .i64 c, .int .i64 p, .int .i64 b]
    by_cases hok : okBack c p b n = true
    · obtain ⟨hv, n1, n2⟩ := okBack_true hok
      obtain ⟨a1, a2, a3, a4, a5, a6⟩ := vSale_true hv
      obtain ⟨q1, q2⟩ := part_bd (c := c) a1 a3 a5 a6
      obtain ⟨r1, r2⟩ := part_bd (c := c) (n := b + n) a1 a3 (by omega) (by omega)
      have r3 := part_mono (c := c) (p := p) (m := b) (n := b + n) a1 a3 (by omega)
      by_cases hn2 : n < 2
      · have HQ := hid (refund_yes hok)
        generalize partI p (b + n) c = r at *
        generalize partI p b c = q at *
        have HK := HQ
        go_wp2_with fail; refine (refundFor_any _ _ _ _ _).mono ?_; rintro e w2 ⟨rfl, b2⟩
        rw [HK.out]
        have S2 := S1.below b2 (by have := S1.lt; (try simp) <;> omega); have zS2 := S2.lt
        obtain ⟨S2a, S2b, S2c, S2f⟩ := S2.three
        go_wp2_with fail; refine (specRefundFor_any _ _ _ _ _).mono ?_; rintro e w3 ⟨rfl, b3⟩
        rw [HK.out]
        have S3 := S2.below b3 (by have := S2.lt; (try simp) <;> omega); have zS3 := S3.lt
        obtain ⟨S3a, S3b, S3c, S3f⟩ := S3.three
        clear hok hv
        go_wp2_with fail; refine (specRefundFor_any _ _ _ _ _).mono ?_; rintro e w4 ⟨rfl, b4⟩
        rw [HK.out]
        have S4 := S3.below b4 (by have := S3.lt; (try simp) <;> omega); have zS4 := S4.lt
        go_wp2
        go_ret
        refine ⟨rfl, ?_⟩
        repeat (first | exact Below.refl _ _ | (refine Below.alloc ?_ (by (try simp) <;> omega) _) | (refine Below.setCell ?_ (by (try simp) <;> omega) _) | (refine Below.drew ?_) | (refine below_drewN ?_ _) | (refine Below.trans ?_ (Below.mono (by assumption) (by (try simp) <;> omega))))
      · have m1 : 1 ≤ n / 2 := by omega
        have m2 : n / 2 ≤ n - 1 := by omega
        have HQ := hid (refund_yes hok)
        have hm := okBack_mk hv m1 (by omega)
        have HV := hid (giveV_yes hm)
        have HA := refund_yes hm
        have HB := show refundI c p (b + n / 2) (n - n / 2) = partI p (b + n) c - partI p (b + n / 2) c by
          rw [refund_yes (okBack_mk (vSale_back hv (by omega) (by omega)) (by omega) (by omega)), show b + n / 2 + (n - n / 2) = b + n by omega]
        have s1 := part_mono (c := c) (p := p) (m := b) (n := b + n / 2) a1 a3 (by omega)
        have s2 := part_mono (c := c) (p := p) (m := b + n / 2) (n := b + n) a1 a3 (by omega)
        clear hok hv hm
        generalize partI p (b + n / 2) c = s at *
        generalize partI p (b + n) c = r at *
        generalize partI p b c = q at *
        have e1 : IntKind.i64.wrap (s - q + (r - s)) = r - q := by rw [show s - q + (r - s) = r - q by omega]; exact IntWalk.i64_in _ (by omega)
        have e2 : IntKind.i64.wrap (n - n / 2) = n - n / 2 := IntWalk.i64_in _ (by omega)
        have HK := HQ
        go_wp2_with fail; refine (refundFor_any _ _ _ _ _).mono ?_; rintro e w2 ⟨rfl, b2⟩
        rw [HK.out]
        have S2 := S1.below b2 (by have := S1.lt; (try simp) <;> omega); have zS2 := S2.lt
        obtain ⟨S2a, S2b, S2c, S2f⟩ := S2.three
        go_wp2_with fail; refine (specRefundFor_any _ _ _ _ _).mono ?_; rintro e w3 ⟨rfl, b3⟩
        rw [HK.out]
        have S3 := S2.below b3 (by have := S2.lt; (try simp) <;> omega); have zS3 := S3.lt
        obtain ⟨S3a, S3b, S3c, S3f⟩ := S3.three
        go_wp2_with fail; refine (giveBack_any _ _ _ _ _).mono ?_; rintro e w4 ⟨rfl, b4⟩
        rw [HV.out]
        have S4 := S3.below b4 (by have := S3.lt; (try simp) <;> omega); have zS4 := S4.lt
        have T4 := Blk.new w4 25 #[.int .i64 c, .int .i64 p, .int .i64 (b + n / 2)]
        go_wp2_with fail
        obtain ⟨f0, f1, f2, ff⟩ := T4.three
        obtain ⟨g0, g1, g2, gf⟩ := (S4.alloc (.cells #[.int .i64 c, .int .i64 p, .int .i64 (b + n / 2)] 25)).three
        go_region_held3 (fun x => x.cell? ⟨w4.heap.size, 0, none⟩ = some (.int .i64 (c)) ∧ x.cell? ⟨w4.heap.size, 1, none⟩ = some (.int .i64 (p)) ∧ x.cell? ⟨w4.heap.size, 2, none⟩ = some (.int .i64 (b + n / 2)) ∧ x.cell? ⟨w1.heap.size, 0, none⟩ = some (.int .i64 (c)) ∧ x.cell? ⟨w1.heap.size, 1, none⟩ = some (.int .i64 (p)) ∧ x.cell? ⟨w1.heap.size, 2, none⟩ = some (.int .i64 (b))) (((repeat' apply And.intro) <;> first | assumption | (simp [go_sem, *]; done))) ((go_at_call 21; refine (refundFor_any _ _ _ _ _).mono ?_; rintro e w5 ⟨rfl, b5⟩; have : w5.cell? ⟨w4.heap.size, 0, none⟩ = some (.int .i64 (c)) := (b5.cell (p := ⟨w4.heap.size, 0, none⟩) (by (try simp) <;> omega)).trans (by assumption); have : w5.cell? ⟨w4.heap.size, 1, none⟩ = some (.int .i64 (p)) := (b5.cell (p := ⟨w4.heap.size, 1, none⟩) (by (try simp) <;> omega)).trans (by assumption); have : w5.cell? ⟨w4.heap.size, 2, none⟩ = some (.int .i64 (b + n / 2)) := (b5.cell (p := ⟨w4.heap.size, 2, none⟩) (by (try simp) <;> omega)).trans (by assumption); have : w4.heap.size < w5.heap.size := (by have := b5.size; (try simp at this); (try simp) <;> omega); have : w5.cell? ⟨w1.heap.size, 0, none⟩ = some (.int .i64 (c)) := (b5.cell (p := ⟨w1.heap.size, 0, none⟩) (by (try simp) <;> omega)).trans (by assumption); have : w5.cell? ⟨w1.heap.size, 1, none⟩ = some (.int .i64 (p)) := (b5.cell (p := ⟨w1.heap.size, 1, none⟩) (by (try simp) <;> omega)).trans (by assumption); have : w5.cell? ⟨w1.heap.size, 2, none⟩ = some (.int .i64 (b)) := (b5.cell (p := ⟨w1.heap.size, 2, none⟩) (by (try simp) <;> omega)).trans (by assumption); have : w1.heap.size < w5.heap.size := (by have := b5.size; (try simp at this); (try simp) <;> omega)))
        go_wp2
        go_ret
        refine ⟨rfl, ?_⟩
        repeat (first | exact Below.refl _ _ | (refine Below.alloc ?_ (by (try simp) <;> omega) _) | (refine Below.setCell ?_ (by (try simp) <;> omega) _) | (refine Below.drew ?_) | (refine below_drewN ?_ _) | (refine Below.trans ?_ (Below.mono (by assumption) (by (try simp) <;> omega))))
    · have hok' : okBack c p b n = false := by simpa using hok
      have HK := hid (show refundI c p b n = -1 by simp [refundI, hok'])
      go_wp2_with fail; refine (refundFor_any _ _ _ _ _).mono ?_; rintro e w2 ⟨rfl, b2⟩
      rw [HK.out]
      have S2 := S1.below b2 (by have := S1.lt; (try simp) <;> omega); have zS2 := S2.lt
      obtain ⟨S2a, S2b, S2c, S2f⟩ := S2.three
      go_wp2_with fail; refine (specRefundFor_any _ _ _ _ _).mono ?_; rintro e w3 ⟨rfl, b3⟩
      rw [HK.out]
      have S3 := S2.below b3 (by have := S2.lt; (try simp) <;> omega); have zS3 := S3.lt
      obtain ⟨S3a, S3b, S3c, S3f⟩ := S3.three
      clear hok hok'
      go_wp2_with fail; refine (specRefundFor_any _ _ _ _ _).mono ?_; rintro e w4 ⟨rfl, b4⟩
      rw [HK.out]
      have S4 := S3.below b4 (by have := S3.lt; (try simp) <;> omega); have zS4 := S4.lt
      go_wp2
      go_ret
      refine ⟨rfl, ?_⟩
      repeat (first | exact Below.refl _ _ | (refine Below.alloc ?_ (by (try simp) <;> omega) _) | (refine Below.setCell ?_ (by (try simp) <;> omega) _) | (refine Below.drew ?_) | (refine below_drewN ?_ _) | (refine Below.trans ?_ (Below.mono (by assumption) (by (try simp) <;> omega))))

end Go.Proofs.Ytgeffidkamklaaa
