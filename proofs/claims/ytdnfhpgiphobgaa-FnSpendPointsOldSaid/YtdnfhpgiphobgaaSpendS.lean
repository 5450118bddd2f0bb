/- Contract: spending points, as the reference does it. -/
import Derived.Test.YtdnfhpgiphobgaaSpendW
import Derived.Deep.RegionHeld3
namespace Go.Proofs.Ytdnfhpgiphobgaa
open Go.RowKit

set_option maxHeartbeats 6400000 in
theorem specSpendPoints_any (l : List (Int × Int)) (A : Option Addr) (cap : Nat) (p d : Int) (w : World) (h : Sl enc2 2 w w.heap.size A l) (hl : l.length ≤ 1048576) :
    Calls Try.prog 17 #[.slice A l.length cap, .int .i64 p, .int .i64 d] w (SpendPost w l p d) := by
  have D0 : Below w.heap.size w (w.alloc (.cells #[] 33)) := (Below.refl _ _).alloc (Nat.le_refl _) _
  have h0 : Sl enc2 2 (w.alloc (.cells #[] 33)) (w.alloc (.cells #[] 33)).heap.size A l := (h.below D0 (Nat.le_refl _)).more (by simp)
  have HD0 := hid D0
  clear D0
  by_cases hok : okSpend l p d = true
  · obtain ⟨hv, hd, p1, p2⟩ := okSpend_true.1 hok
    have HV := hid (vLots_iff.1 hv)
    have hl8 := HV.out.2.2
    have HP := hid (ptsW_on (day := d) HV.out)
    have hd' := withinB_true.2 hd
    have hp3 := (ptsOn_of (day := d) HV.out).2
    have HK := hid hok
    have HL := hid (show spendL p d l = spend d p l by simp [spendL, hok])
    clear hok
    go_enter Try.func17, Try.ntmps17
    go_wp2_with (first | (go_at_call 31; refine (svalidLots_any l A cap _ h0 (by omega)).mono ?_; rintro e w1 ⟨rfl, b1⟩) | (go_at_call 32; refine (inRange_any _ _ _ _).mono ?_; rintro e w' ⟨rfl, rfl⟩))
    have z1 := b1.size
    simp only [World.size_alloc] at z1
    have D1 := HD0.out.trans (b1.mono (by simp))
    refine (spointsOn_any l A cap d _ ((h.below D1 (Nat.le_refl _)).more (by omega)) (by omega)).mono ?_
    rintro e w2 ⟨rfl, b2⟩
    rw [HP.out]
    have z2 := b2.size
    have O2 := ((Own.lit0 enc2 2 33 w w.heap.size rfl (Nat.le_refl _)).below b1 (Nat.le_refl _)).below b2 (Nat.le_refl _)
    have D2 := hid (D1.trans (b2.mono (by omega)))
    clear D1 b1 b2 h0
    go_wp2_with fail
    go_loopw [9, 8, 1] (fun i v pv wr => SpendRel w l p d i v pv wr) (fun i _ _ _ => l.length - (intOf i).toNat)
    case atStart => exact ⟨0, [], p, Nat.zero_le _, rfl, rfl, rfl, O2, D2.out⟩
    case round =>
      obtain ⟨k, o, P, hk, rfl, rfl, hs, ho, hb⟩ := hrel
      have hsz := hb.size
      have HB := hid hb
      have hol : o.length ≤ 8 := by have := spTo_length d p (l.take k); rw [hs, List.length_take] at this; dsimp only at this; omega
      have hPb := spTo_bd (d := d) (p := p) (l := l.take k) (fun x hx => HV.out.bd x (List.mem_of_mem_take hx)) (by omega)
      rw [hs] at hPb
      obtain ⟨P1, P2⟩ := hPb
      dsimp only at P1 P2
      clear D2 O2
      by_cases hlt : k < l.length
      · obtain ⟨b, off, rfl, hbb, c1, c2⟩ := h.get2 hlt
        have d1 : wr.cell? ⟨b, off + k * 2, none⟩ = some (.int .i64 (g1 l k)) := (hb.cell hbb).trans c1
        have d2 : wr.cell? ⟨b, off + k * 2 + 1, none⟩ = some (.int .i64 (g2 l k)) := (hb.cell hbb).trans c2
        have hbw : b < wr.heap.size := by omega
        have HS := hid (show spTo d p (l.take (k + 1)) = spStep d (P, o) (g1 l k, g2 l k) by rw [spTo_step hlt, hs])
        have hq := HV.out.bd _ (List.getElem_mem hlt)
        rw [g12_eq hlt] at hq
        obtain ⟨hq1, hq2⟩ := hq
        dsimp only at hq1 hq2
        clear c1 c2 hb hs
        by_cases hday : g1 l k < d
        · go_wp2
          go_roundw
          case rel => exact ⟨k + 1, o, P, by omega, by go_num, rfl, by rw [HS.out, spStep_lt (x := (g1 l k, g2 l k)) hday], ho, HB.out⟩
          case measure => simp [intOf]; omega
        · have HD := hid hday
          by_cases hm : g2 l k ≤ P
          · go_wp2
            go_roundw
            case rel => exact ⟨k + 1, o, P - g2 l k, by omega, by go_num, (by congr 1; split <;> omega), by rw [HS.out, spStep_more (x := (g1 l k, g2 l k)) (by dsimp only; have := HD.out; omega) (by dsimp only; omega)], ho, HB.out⟩
            case measure => simp [intOf]; omega
          · have hgt : P < g2 l k := by omega
            have hne : some b ≠ u8.ownBlock := fun he => by have := (ho.lt b he.symm).1; omega
            have hkl : (k : Int) < (l.length : Int) := by omega
            have hw1 : IntKind.i64.wrap (g2 l k - P) = g2 l k - P := IntWalk.i64_in _ (by omega)
            go_wp2_with fail
            go_region_held3 (fun x => x.cell? ⟨b, off + k * 2, none⟩ = some (.int .i64 (g1 l k)) ∧ x.cell? ⟨b, off + k * 2 + 1, none⟩ = some (.int .i64 (g2 l k))) (((repeat' apply And.intro) <;> first | assumption | (simp [go_sem, *]; done))) ((refine step_push len2 one2 (by rfl) _ _ _ (by rfl) Try.underlying23 lotInfo rfl (by omega) (by omega) (by rfl) ho ⟨g1 l k, g2 l k - P⟩ (by rfl) (by rfl) (by rfl) (by omega) (by omega) ?_; intro v2 w2 ho2 hg2; have e1 : w2.cell? ⟨b, off + k * 2, none⟩ = some (.int .i64 (g1 l k)) := (World.cell?_of_block (hg2.block b (by simp; omega) hne)).trans ((World.cell?_alloc_lt _ _ _ hbw).trans d1); have e2 : w2.cell? ⟨b, off + k * 2 + 1, none⟩ = some (.int .i64 (g2 l k)) := (World.cell?_of_block (hg2.block b (by simp; omega) hne)).trans ((World.cell?_alloc_lt _ _ _ hbw).trans d2); have D2 := hid (below_push HB.out hsz ho (Nat.le_refl _) hg2); clear hg2))
            go_wp2
            go_roundw
            case rel =>
              refine ⟨k + 1, o ++ [(g1 l k, g2 l k - P)], 0, by omega, by go_num, by simp, ?_, ho2, D2.out⟩
              rw [HS.out, spStep_less (x := (g1 l k, g2 l k)) (by dsimp only; have := HD.out; omega) (by dsimp only; omega)]
            case measure => simp [intOf]; omega
      · have hkl : k = l.length := by omega
        subst hkl
        have HO := hid (show o = spend d p l by rw [← spTo_all, ← List.take_length (l := l), hs])
        clear hs
        go_wp2
        go_ret2
        refine ⟨u8, by rw [HK.out]; rfl, ?_, hb⟩
        rw [HL.out, ← HO.out]
        exact ho
  · have hok' : okSpend l p d = false := by simpa using hok
    have HK := hid hok'
    have HL := hid (show spendL p d l = [] by simp [spendL, hok'])
    by_cases hv : vLots l = true
    · by_cases hd : withinB d 0 999 = true
      · by_cases hp : 1 ≤ p
        · have hlt : ptsOn d l < p := by
            have := pOnI_no (l := l) (p := p) (d := d) hp hok'
            rwa [pOnI_ok hv hd] at this
          have HP := hid (ptsW_on (day := d) (vLots_iff.1 hv))
          clear hok hok'
          go_enter Try.func17, Try.ntmps17
          go_wp2_with (first | (go_at_call 31; refine (svalidLots_any l A cap _ h0 (by omega)).mono ?_; rintro e w1 ⟨rfl, b1⟩) | (go_at_call 32; refine (inRange_any _ _ _ _).mono ?_; rintro e w' ⟨rfl, rfl⟩))
          have z1 := b1.size
          simp only [World.size_alloc] at z1
          have D1 := HD0.out.trans (b1.mono (by simp))
          refine (spointsOn_any l A cap d _ ((h.below D1 (Nat.le_refl _)).more (by omega)) (by omega)).mono ?_
          rintro e w2 ⟨rfl, b2⟩
          rw [HP.out]
          go_wp2
          go_ret2
          refine ⟨.slice none 0 0, by rw [HK.out]; rfl, by rw [HL.out]; exact Own.nil_ .., D1.trans (b2.mono (by omega))⟩
        · clear hok hok'
          go_enter Try.func17, Try.ntmps17
          go_wp2_with (first | (go_at_call 31; refine (svalidLots_any l A cap _ h0 (by omega)).mono ?_; rintro e w1 ⟨rfl, b1⟩) | (go_at_call 32; refine (inRange_any _ _ _ _).mono ?_; rintro e w' ⟨rfl, rfl⟩))
          go_ret2
          exact ⟨.slice none 0 0, by rw [HK.out]; rfl, by rw [HL.out]; exact Own.nil_ .., HD0.out.trans (b1.mono (by simp))⟩
      · have hd' : withinB d 0 999 = false := by simpa using hd
        clear hok hok' hd
        go_enter Try.func17, Try.ntmps17
        go_wp2_with (first | (go_at_call 31; refine (svalidLots_any l A cap _ h0 (by omega)).mono ?_; rintro e w1 ⟨rfl, b1⟩) | (go_at_call 32; refine (inRange_any _ _ _ _).mono ?_; rintro e w' ⟨rfl, rfl⟩))
        go_ret2
        exact ⟨.slice none 0 0, by rw [HK.out]; rfl, by rw [HL.out]; exact Own.nil_ .., HD0.out.trans (b1.mono (by simp))⟩
    · have hv' : vLots l = false := by simpa using hv
      clear hok hok' hv
      go_enter Try.func17, Try.ntmps17
      go_wp2_with (first | (go_at_call 31; refine (svalidLots_any l A cap _ h0 (by omega)).mono ?_; rintro e w1 ⟨rfl, b1⟩) | (go_at_call 32; refine (inRange_any _ _ _ _).mono ?_; rintro e w' ⟨rfl, rfl⟩))
      go_ret2
      exact ⟨.slice none 0 0, by rw [HK.out]; rfl, by rw [HL.out]; exact Own.nil_ .., HD0.out.trans (b1.mono (by simp))⟩

end Go.Proofs.Ytdnfhpgiphobgaa
