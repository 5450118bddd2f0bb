/- Contract: spending points, as the program does it. -/
import Derived.Test.YtdnfhpgiphobgaaLotsW2
import Derived.Test.YtdnfhpgiphobgaaLotsS
import Derived.Test.YtdnfhpgiphobgaaEarnW
namespace Go.Proofs.Ytdnfhpgiphobgaa
open Go.RowKit

/-- What spending leaves: the lots, if all is fine, and else none. -/
def spendL (p d : Int) (l : List (Int × Int)) : List (Int × Int) := if okSpend l p d then spend d p l else []
theorem spendL_len {p d : Int} {l : List (Int × Int)} : (spendL p d l).length ≤ 1048576 := by
  unfold spendL
  split
  · rename_i h
    have h1 := vLots_iff.1 (okSpend_true.1 h).1
    have := spend_length (d := d) p l
    have := h1.2.2
    omega
  · simp
def SpendPost (w : World) (l : List (Int × Int)) (p d : Int) (e : Ending) (w' : World) : Prop :=
  ∃ v, e = .returned (.tuple #[v, .bool (okSpend l p d)]) ∧ Own enc2 2 33 w' w.heap.size v (spendL p d l) ∧ Below w.heap.size w w'
/-- The loop's round. -/
def SpendRel (w : World) (l : List (Int × Int)) (p d : Int) (i v pv : Value) (wr : World) : Prop :=
  ∃ (k : Nat) (o : List (Int × Int)) (P : Int), k ≤ l.length ∧ i = .int .i64 k ∧ pv = .int .i64 P ∧ spTo d p (l.take k) = (P, o) ∧ Own enc2 2 33 wr w.heap.size v o ∧ Below w.heap.size w wr

theorem pOnI_ok {l : List (Int × Int)} {d : Int} (hv : vLots l = true) (hd : withinB d 0 999 = true) : pOnI l d = ptsOn d l := by
  simp [pOnI, hv, hd, ptsW_on (vLots_iff.1 hv)]
theorem pOnI_no {l : List (Int × Int)} {p d : Int} (hp : 1 ≤ p) (h : okSpend l p d = false) : pOnI l d < p := by
  unfold pOnI
  split
  · rename_i hc
    rw [Bool.and_eq_true] at hc
    rw [ptsW_on (vLots_iff.1 hc.1)]
    simp [okSpend, hc.1, hc.2, hp] at h
    omega
  · omega
theorem spStep_lt {d : Int} {s : Int × List (Int × Int)} {x : Int × Int} (h : x.1 < d) : spStep d s x = s := by simp only [spStep]; rw [if_pos h]
theorem spStep_more {d : Int} {s : Int × List (Int × Int)} {x : Int × Int} (h : ¬ x.1 < d) (hp : x.2 ≤ s.1) : spStep d s x = (s.1 - x.2, s.2) := by
  simp only [spStep]; rw [if_neg h, Int.min_eq_left hp, if_neg (by omega)]; simp
theorem spStep_less {d : Int} {s : Int × List (Int × Int)} {x : Int × Int} (h : ¬ x.1 < d) (hp : s.1 < x.2) : spStep d s x = (0, s.2 ++ [(x.1, x.2 - s.1)]) := by
  simp only [spStep]; rw [if_neg h, Int.min_eq_right (by omega), if_pos (by omega), Int.sub_self]

set_option maxHeartbeats 3200000 in
theorem spendPoints_any (l : List (Int × Int)) (A : Option Addr) (cap : Nat) (p d : Int) (w : World) (h : Sl enc2 2 w w.heap.size A l) (hl : l.length ≤ 1048576) :
    Calls Try.prog 16 #[.slice A l.length cap, .int .i64 p, .int .i64 d] w (SpendPost w l p d) := by
  by_cases hp1 : p < 1
  · have HK := hid (show okSpend l p d = false by
      cases hh : okSpend l p d
      · rfl
      · have := (okSpend_true.1 hh).2.2.1; omega)
    go_enter Try.func16, Try.ntmps16
    go_wp2
    go_ret2
    refine ⟨.slice (some ⟨w.heap.size, 0, none⟩) 0 0, by rw [HK.out]; rfl, ?_, (Below.refl _ _).alloc (Nat.le_refl _) _⟩
    rw [show spendL p d l = [] by simp [spendL, HK.out]]
    exact Own.lit0 enc2 2 _ w w.heap.size rfl (Nat.le_refl _)
  · by_cases hok : okSpend l p d = true
    · obtain ⟨hv, hd, p1, p2⟩ := okSpend_true.1 hok
      have HV := hid (vLots_iff.1 hv)
      have hl8 := HV.out.2.2
      have HP := hid (pOnI_ok hv (withinB_true.2 hd))
      have hp3 := (ptsOn_of (day := d) HV.out).2
      have HK := hid hok
      have HL := hid (show spendL p d l = spend d p l by simp [spendL, hok])
      have hlt : ¬ ptsOn d l < p := by omega
      clear hok hv
      go_enter Try.func16, Try.ntmps16
      go_wp2_with (go_at_call 19; refine (pointsOn_any l A cap d _ h (by omega)).mono ?_; rintro e w1 ⟨rfl, b1⟩; rw [HP.out])
      have z1 := b1.size
      have O1 := Own.lit0 enc2 2 33 w1 w.heap.size rfl b1.size
      have D1 := hid (b1.alloc b1.size (.cells #[] 33))
      go_loopw [25, 8, 1] (fun i v pv wr => SpendRel w l p d i v pv wr) (fun i _ _ _ => l.length - (intOf i).toNat)
      case atStart => exact ⟨0, [], p, Nat.zero_le _, rfl, rfl, rfl, O1, D1.out⟩
      case round =>
        obtain ⟨k, o, P, hk, rfl, rfl, hs, ho, hb⟩ := hrel
        have hsz := hb.size
        have HB := hid hb
        have hol : o.length ≤ 8 := by have := spTo_length d p (l.take k); rw [hs, List.length_take] at this; dsimp only at this; omega
        have hPb := spTo_bd (d := d) (p := p) (l := l.take k) (fun x hx => HV.out.bd x (List.mem_of_mem_take hx)) (by omega)
        rw [hs] at hPb
        obtain ⟨P1, P2⟩ := hPb
        dsimp only at P1 P2
        clear D1 O1
        by_cases hlt : k < l.length
        · obtain ⟨b, off, rfl, hbb, c1, c2⟩ := h.get2 hlt
          have d1 : wr.cell? ⟨b, off + k * 2, none⟩ = some (.int .i64 (g1 l k)) := (hb.cell hbb).trans c1
          have d2 : wr.cell? ⟨b, off + k * 2 + 1, none⟩ = some (.int .i64 (g2 l k)) := (hb.cell hbb).trans c2
          have hbw : b < wr.heap.size := by omega
          have HS := hid (show spTo d p (l.take (k + 1)) = spStep d (P, o) (g1 l k, g2 l k) by rw [spTo_step hlt, hs])
          have hq := HV.out.bd _ (List.getElem_mem hlt)
          rw [g12_eq hlt] at hq
          obtain ⟨hq1, hq2⟩ := hq
          dsimp only at hq1 hq2
          clear c1 c2 hb hs
          by_cases hday : g1 l k < d
          · go_wp2
            go_roundw
            case rel => exact ⟨k + 1, o, P, by omega, by go_num, rfl, by rw [HS.out, spStep_lt (x := (g1 l k, g2 l k)) hday], ho.alloc _, HB.out.alloc hsz _⟩
            case measure => simp [intOf]; omega
          · have HD := hid hday
            by_cases hm : g2 l k ≤ P
            · go_wp2
              go_roundw
              case rel => exact ⟨k + 1, o, P - g2 l k, by omega, by go_num, rfl, by rw [HS.out, spStep_more (x := (g1 l k, g2 l k)) (by dsimp only; have := HD.out; omega) (by dsimp only; omega)], ho.alloc _, HB.out.alloc hsz _⟩
              case measure => simp [intOf]; omega
            · have hgt : P < g2 l k := by omega
              go_wp2_with (at_builtin; refine wpList_push len2 one2 rfl (.tmp 48) (.tmp 50) _ rfl Try.underlying23 lotInfo rfl (by omega) (by omega) rfl (ho.alloc _) ⟨g1 l k, g2 l k - P⟩ (by simp) rfl rfl (by (try simp) <;> omega) (by (try simp) <;> omega) ?_)
              intro v2 w2 ho2 hg2 _
              have D2 := hid (below_push (HB.out.alloc hsz _) (by simp; omega) (ho.alloc _) (Nat.le_refl _) hg2)
              clear hg2
              go_wp2
              go_roundw
              case rel =>
                refine ⟨k + 1, o ++ [(g1 l k, g2 l k - P)], 0, by omega, by go_num, by simp, ?_, ho2, D2.out⟩
                rw [HS.out, spStep_less (x := (g1 l k, g2 l k)) (by dsimp only; have := HD.out; omega) (by dsimp only; omega)]
              case measure => simp [intOf]; omega
        · have hkl : k = l.length := by omega
          subst hkl
          have HO := hid (show o = spend d p l by rw [← spTo_all, ← List.take_length (l := l), hs])
          clear hs
          go_wp2
          go_ret2
          refine ⟨u8, by rw [HK.out]; rfl, ?_, hb⟩
          rw [HL.out, ← HO.out]
          exact ho
    · have hok' : okSpend l p d = false := by simpa using hok
      have HK := hid hok'
      have hno := pOnI_no (l := l) (p := p) (d := d) (by omega) hok'
      have HL := hid (show spendL p d l = [] by simp [spendL, hok'])
      clear hok hok'
      generalize hQ : pOnI l d = Q at *
      have HQ := hid hQ
      clear hQ
      go_enter Try.func16, Try.ntmps16
      go_wp2_with (go_at_call 19; refine (pointsOn_any l A cap d _ h (by omega)).mono ?_; rintro e w1 ⟨rfl, b1⟩; rw [HQ.out])
      go_ret2
      refine ⟨.slice (some ⟨w1.heap.size, 0, none⟩) 0 0, by rw [HK.out]; rfl, ?_, b1.alloc b1.size _⟩
      rw [HL.out]
      exact Own.lit0 enc2 2 _ w1 w.heap.size rfl b1.size

end Go.Proofs.Ytdnfhpgiphobgaa
