/- The walk of the law: points on a day. -/
import Derived.Test.YtmlmjapmhdbcpaaDrawLotA
import Derived.Test.YtmlmjapmhdbcpaaLotsV
import Derived.Test.YtmlmjapmhdbcpaaLotsL
namespace Go.Proofs.Ytmlmjapmhdbcpaa
open Go.RowKit

theorem pOnI_yes {l : List (Int × Int)} {d : Int} (hv : vLots l = true) (hd : withinB d 0 999 = true) : pOnI l d = ptsOn d l := by
  simp [pOnI, hv, hd, ptsW_on (vLots_iff.1 hv)]
theorem pOnI_not {l : List (Int × Int)} {d : Int} (h : (vLots l && withinB d 0 999) = false) : pOnI l d = -1 := by
  simp only [pOnI]; rw [h]; rfl

set_option maxHeartbeats 1600000 in
theorem fnPointsOn_walk (w : World) (A : Option Addr) (len cap : Nat) (h : Bytes w w.heap.size A len cap) :
    Calls Try.prog 9 #[.slice A len cap] w fun e w' => e = .returned (.bool true) ∧ Below w.heap.size w w' := by
  by_cases hl : 1048576 < len
  · clear h
    go_enter Try.func9, Try.ntmps9
    go_wp2
    go_ret
    exact ⟨rfl, Below.refl _ _⟩
  · go_enter Try.func9, Try.ntmps9
    go_wp2_with fail
    refine (drawPointsOn_any _ _ _ _ h).mono ?_
    rintro e w1 ⟨l, v, d, rfl, d1, d2, hll, o1, D1⟩
    clear h
    obtain ⟨A1, c1, rfl, _, r1⟩ := o1.reads len2
    clear o1
    by_cases hok : (vLots l && withinB d 0 999) = true
    · obtain ⟨hv, hd⟩ := Bool.and_eq_true_iff.1 hok
      have HV := hid (vLots_iff.1 hv)
      obtain ⟨d3, d4⟩ := withinB_true.1 hd
      obtain ⟨P, hP⟩ : ∃ P, ptsOn d l = P := ⟨_, rfl⟩
      have HP := hid (show pOnI l d = P by rw [pOnI_yes hv hd, hP])
      have hb := ptsOn_of (day := d) HV.out
      have hm := ptsOn_anti (d := 0) (d' := d) d3 l HV.out.bd
      have HT := hid (show pOnI l 0 = ptot l by rw [pOnI_yes hv (withinB_true.2 (by omega)), ptsOn_tot HV.out])
      rw [ptsOn_tot HV.out] at hm
      have HS := hid (show d ≠ 999 → pOnI l (d + 1) ≤ P by
        intro hne
        rw [pOnI_yes hv (withinB_true.2 (by omega)), ← hP]
        exact ptsOn_anti (by omega) l HV.out.bd)
      rw [hP] at hb hm
      obtain ⟨p1, p2⟩ := hb
      have e1 : ¬ P < 0 := by omega
      clear hok hv hd hP
      have HM := hid hm
      clear hm
      go_wp2_with fail
      refine (pointsOn_any l A1 c1 d _ r1 (by omega)).mono ?_
      rintro e w2 ⟨rfl, b2⟩
      rw [HP.out]
      have D2 := D1.trans (b2.mono D1.size)
      have r2 := (r1.below b2 (Nat.le_refl _)).more b2.size
      go_wp2_with fail
      refine (specPointsOn_any l A1 c1 d _ r2 (by omega)).mono ?_
      rintro e w3 ⟨rfl, b3⟩
      rw [HP.out]
      have D3 := D2.trans (b3.mono D2.size)
      have r3 := (r2.below b3 (Nat.le_refl _)).more b3.size
      clear D1 D2 b2 b3 r1 r2
      go_wp2_with fail
      go_loopw [6, 7] (fun n i wr => ∃ k : Nat, k ≤ l.length ∧ i = .int .i64 k ∧ n = .int .i64 (ptot (l.take k)) ∧ wr = w3) (fun _ i _ => l.length - (intOf i).toNat)
      case atStart => exact ⟨0, Nat.zero_le _, rfl, rfl, rfl⟩
      case round =>
        obtain ⟨k, hk, rfl, rfl, rfl⟩ := hrel
        by_cases hlt : k < l.length
        · obtain ⟨b, off, rfl, hbb, k1, k2⟩ := r3.get2 hlt
          have HS2 := hid (ptot_step hlt)
          have hq := HV.out.bd _ (List.getElem_mem hlt)
          rw [g12_eq hlt] at hq
          obtain ⟨q1, q2⟩ := hq
          dsimp only at q1 q2
          obtain ⟨t1, t2⟩ := ptot_take HV.out k
          go_wp2
          go_roundw
          case rel => exact ⟨k + 1, by omega, by go_num, by rw [HS2.out], (by first | rfl | trivial)⟩
          case measure => simp [intOf]; omega
        · have hkl : k = l.length := by omega
          subst hkl
          rw [List.take_length]
          have t0 := ptot_take HV.out l.length
          rw [List.take_length] at t0
          obtain ⟨t1, t2⟩ := t0
          obtain ⟨T, hT⟩ : ∃ T, ptot l = T := ⟨_, rfl⟩
          have hm := HM.out
          rw [hT] at hm t1 t2 ⊢
          have HT2 := hid (show pOnI l 0 = T by rw [HT.out, hT])
          have e2 : decide (P ≤ T) = true := by simp; omega
          clear hm hT
          by_cases h9 : d = 999
          · subst h9
            go_wp2_with fail
            refine (pointsOn_any l A1 c1 0 _ r3 (by omega)).mono ?_
            rintro e w4 ⟨rfl, b4⟩
            rw [HT2.out]
            have D4 := hid (D3.trans (b4.mono D3.size))
            clear D3 b4 r3
            go_wp2
            go_ret
            exact ⟨rfl, D4.out⟩
          · have e3 : (d == 999) = false := by simpa using h9
            have HS3 := hid (HS.out h9)
            obtain ⟨Q, hQ⟩ : ∃ Q, pOnI l (d + 1) = Q := ⟨_, rfl⟩
            have HQ := hid hQ
            have HE := hid (show decide (Q ≤ P) = true by have := HS3.out; rw [hQ] at this; simp; omega)
            clear hQ h9
            go_wp2_with fail
            refine (pointsOn_any l A1 c1 0 _ r3 (by omega)).mono ?_
            rintro e w4 ⟨rfl, b4⟩
            rw [HT2.out]
            have D4 := D3.trans (b4.mono D3.size)
            have r4 := (r3.below b4 (Nat.le_refl _)).more b4.size
            clear D3 b4 r3
            go_wp2_with fail
            refine (pointsOn_any l A1 c1 (d + 1) _ r4 (by omega)).mono ?_
            rintro e w5 ⟨rfl, b5⟩
            rw [HQ.out]
            have D5 := hid (D4.trans (b5.mono D4.size))
            clear D4 b5 r4
            go_wp2
            go_ret
            exact ⟨ret_bool HE.out, D5.out⟩
    · have HN := hid (pOnI_not (l := l) (d := d) (by simpa using hok))
      clear hok
      go_wp2_with fail
      refine (pointsOn_any l A1 c1 d _ r1 (by omega)).mono ?_
      rintro e w2 ⟨rfl, b2⟩
      rw [HN.out]
      have D2 := D1.trans (b2.mono D1.size)
      have r2 := (r1.below b2 (Nat.le_refl _)).more b2.size
      go_wp2_with fail
      refine (specPointsOn_any l A1 c1 d _ r2 (by omega)).mono ?_
      rintro e w3 ⟨rfl, b3⟩
      rw [HN.out]
      have D3 := D2.trans (b3.mono D2.size)
      have r3 := (r2.below b3 (Nat.le_refl _)).more b3.size
      clear D1 D2 b2 b3 r1 r2
      go_wp2_with fail
      refine (specPointsOn_any l A1 c1 d _ r3 (by omega)).mono ?_
      rintro e w4 ⟨rfl, b4⟩
      rw [HN.out]
      have D4 := hid (D3.trans (b4.mono D3.size))
      clear D3 b4 r3
      go_wp2
      go_ret
      exact ⟨rfl, D4.out⟩

end Go.Proofs.Ytmlmjapmhdbcpaa
