/- Contract: the taxes of a cart, as the program does it. -/
import Derived.Test.YtmgphagahdepfaaLeftI
import Derived.Test.YtmgphagahdepfaaTaxW
import Derived.Test.YtmgphagahdepfaaTaxN
import Derived.Test.YtmgphagahdepfaaOwn
namespace Go.Proofs.Ytmgphagahdepfaa
open Go.RowKit

def TaxesPost (w : World) (L : List (Int × Int × Int)) (e : Ending) (w' : World) : Prop :=
  ∃ v, e = .returned v ∧ Own enc3 3 32 w' w.heap.size v L ∧ Below w.heap.size w w'
def TaxesRel (w : World) (s : List (Int × Int × Int × Int)) (c : List (Int × Int)) (l : List Int) (v r : Value) (wr : World) : Prop :=
  ∃ (R : Nat) (o : List (Int × Int × Int)), R ≤ 301 ∧ r = .int .i64 R ∧ o = txs (rtK s c) (g0 l) c.length R ∧ Own enc3 3 32 wr w.heap.size v o ∧ Below w.heap.size w wr
def TaxesIn (w : World) (s : List (Int × Int × Int × Int)) (c : List (Int × Int)) (l : List Int) (R : Nat) (i g f : Value) (wr : World) : Prop :=
  ∃ k : Nat, k ≤ c.length ∧ i = .int .i64 k ∧ g = .int .i64 (gr (rtK s c) (g0 l) R k) ∧ f = .bool (has (rtK s c) R k) ∧ Below w.heap.size w wr
theorem infoTax : (Try.prog.info? 32).map (fun i => (i.zero, i.size, i.bytes)) = some (some (.agg #[.int .i64 0, .int .i64 0, .int .i64 0]), 3, 24) := by kernel_rfl
set_option maxHeartbeats 3200000 in
set_option maxRecDepth 100000 in
theorem taxesOf_any (s : List (Int × Int × Int × Int)) (c : List (Int × Int)) (l : List Int) (A Ac Al : Option Addr) (cap capc capl : Nat) (w : World) (hA : Sl enc4 4 w w.heap.size A s) (hC : Sl enc2 2 w w.heap.size Ac c) (hL : Sl enc1 1 w w.heap.size Al l) (hs : s.length ≤ 1048576) (hc : c.length ≤ 1048576) (hl : l.length ≤ 1048576) :
    Calls Try.prog 13 #[.slice A s.length cap, .slice Ac c.length capc, .slice Al l.length capl] w (TaxesPost w (taxesI s c l)) := by
  have O0 := Own.lit0 enc3 3 32 w w.heap.size rfl (Nat.le_refl _)
  have D0 := (Below.refl w.heap.size w).alloc (Nat.le_refl _) (.cells #[] 32)
  have hA0 : Sl enc4 4 (w.alloc (.cells #[] 32)) (w.alloc (.cells #[] 32)).heap.size A s := (hA.alloc (Nat.le_refl _) _).more (by simp)
  have hC0 : Sl enc2 2 (w.alloc (.cells #[] 32)) (w.alloc (.cells #[] 32)).heap.size Ac c := (hC.alloc (Nat.le_refl _) _).more (by simp)
  have hL0 : Sl enc1 1 (w.alloc (.cells #[] 32)) (w.alloc (.cells #[] 32)).heap.size Al l := (hL.alloc (Nat.le_refl _) _).more (by simp)
  by_cases hok : fitTax s c l = true
  · obtain ⟨hv1, hv2, hv3⟩ := fit_parts hok
    have HI := hid (show taxesI s c l = txs (rtK s c) (g0 l) c.length 301 by unfold taxesI; rw [if_pos hok])
    have HOK := hid hok
    have H1 := hid hv1
    have H2 := hid hv2
    have H3 := hid hv3
    have HLL := hid (vLeft_len hv3)
    have hl1 := vShop_len hv1
    have hc8 := (vCart_iff.1 hv2).2.2
    clear hv1 hv2 hv3 hok
    go_enter Try.func13, Try.ntmps13
    go_wp2_with fail
    refine (leftOk_any s c l A Ac Al cap capc capl _ hA0 hC0 hL0 hs hc hl).mono ?_
    rintro e w1 ⟨rfl, b1⟩
    rw [HOK.out]
    have O1 := O0.below b1 (Nat.le_refl _)
    have D1 := D0.trans (b1.mono (by simp))
    clear b1 O0 D0 hA0 hC0 hL0
    go_wp2_with fail
    go_loopw [7, 8] (fun v r wr => TaxesRel w s c l v r wr) (fun _ r _ => 301 - (intOf r).toNat)
    case atStart => exact ⟨0, [], by omega, rfl, rfl, O1, D1⟩
    case round =>
      clear O1 D1
      obtain ⟨R, o, hR, rfl, hoe, ho, hb⟩ := hrel
      have HOE := hid hoe
      have HB := hid hb
      have hsz := hb.size
      have hol : o.length ≤ 301 := by rw [hoe, txs_len]; have := rts_len (rtK s c) c.length R; omega
      clear hoe hb
      by_cases hlt : R ≤ 300
      · obtain ⟨wo, rfl⟩ : ∃ wo : World, wo = wr := ⟨_, rfl⟩
        have hAo := (hA.below HB.out (Nat.le_refl _)).more hsz
        have hCo := (hC.below HB.out (Nat.le_refl _)).more hsz
        have hLo := (hL.below HB.out (Nat.le_refl _)).more hsz
        go_wp2_with fail
        go_loopw [26, 9, 10] (fun i g f wr => TaxesIn wo s c l R i g f wr) (fun i _ _ _ => c.length - (intOf i).toNat)
        case atStart => exact ⟨0, Nat.zero_le _, rfl, rfl, rfl, Below.refl _ _⟩
        case round =>
          obtain ⟨k, hk, rfl, rfl, rfl, hi⟩ := hrel
          have hzi := hi.size
          have hgb := gr_lim H1.out H2.out H3.out (R : Int) hk
          obtain ⟨G, hG⟩ : ∃ x, gr (rtK s c) (g0 l) (R : Int) k = x := ⟨_, rfl⟩
          rw [hG] at hgb
          rw [hG]
          have HG := hid hG
          clear hG
          by_cases hlk : k < c.length
          · obtain ⟨b, off, rfl, hbb, c1, c2⟩ := hCo.get2 hlk
            obtain ⟨f1, f2, f3, f4, f5⟩ := fit_at H1.out H2.out hlk
            obtain ⟨b', off', rfl, hbb', _, _, c3, _⟩ := hAo.get4 f1
            obtain ⟨b2, off2, rfl, hbb2, c4⟩ := hLo.get1 (k := k) (by have := HLL.out; omega)
            have f6 := left_at H1.out H2.out H3.out hlk
            obtain ⟨a, ha⟩ : ∃ a : Nat, (g1 c k).toNat = a := ⟨_, rfl⟩
            obtain ⟨q, hq⟩ : ∃ q, g2 c k = q := ⟨_, rfl⟩
            obtain ⟨p, hp⟩ : ∃ p, q3 s a = p := ⟨_, rfl⟩
            obtain ⟨n, hn⟩ : ∃ n, g0 l k = n := ⟨_, rfl⟩
            rw [ha] at f1 f2 c3
            rw [← f2] at c1
            rw [hq] at c2
            rw [hp] at c3
            rw [hn] at c4 f6
            have HR := hid (show rtK s c k = p by unfold rtK; rw [ha, hp])
            have HN := hid hn
            have d1 : wr.cell? ⟨b, off + k * 2, none⟩ = some (.int .i64 (a : Int)) := (hi.cell hbb).trans c1
            have d2 : wr.cell? ⟨b, off + k * 2 + 1, none⟩ = some (.int .i64 q) := (hi.cell hbb).trans c2
            have d3 : wr.cell? ⟨b', off' + a * 4 + 2, none⟩ = some (.int .i64 p) := (hi.cell hbb').trans c3
            have d4 : wr.cell? ⟨b2, off2 + k, none⟩ = some (.int .i64 n) := (hi.cell hbb2).trans c4
            have hbw : b < wr.heap.size := by omega
            have hbw' : b' < wr.heap.size := by omega
            have hbw2 : b2 < wr.heap.size := by omega
            have hkl : k < l.length := by have := HLL.out; omega
            have HI2 := hid (hi.alloc hzi (.cells #[.int .i64 (a : Int), .int .i64 q] 58))
            clear c1 c2 c3 c4 ha hq hp hn f2 f3 f4 f5 hi ho
            by_cases he : p = (R : Int)
            · have e1 : (p == (R : Int)) = true := by rw [he]; simp
              have HE := hid he
              clear he
              have HG2 := hid (show gr (rtK s c) (g0 l) (R : Int) (k + 1) = G + n by unfold gr; rw [HG.out, HR.out, HN.out, if_pos HE.out])
              have HH2 := hid (show has (rtK s c) (R : Int) (k + 1) = true by unfold has; rw [HR.out, HE.out]; simp)
              go_wp2
              go_roundw
              case rel => exact ⟨k + 1, by omega, by go_num, by rw [HG2.out], by rw [HH2.out], HI2.out⟩
              case measure => simp [intOf]; omega
            · have e1 : (p == (R : Int)) = false := beq_eq_false_iff_ne.2 he
              have HE := hid he
              clear he
              have HG2 := hid (show gr (rtK s c) (g0 l) (R : Int) (k + 1) = G by unfold gr; rw [HG.out, HR.out, if_neg HE.out]; omega)
              have HH2 := hid (show has (rtK s c) (R : Int) (k + 1) = has (rtK s c) (R : Int) k by show (has (rtK s c) (R : Int) k || (rtK s c k == (R : Int))) = _; rw [HR.out, e1, Bool.or_false])
              go_wp2
              go_roundw
              case rel => exact ⟨k + 1, by omega, by go_num, by rw [HG2.out], by rw [HH2.out], HI2.out⟩
              case measure => simp [intOf]; omega
          · have hkc : k = c.length := by omega
            subst hkc
            have HI3 := hid (HB.out.trans (hi.mono hsz))
            have ho2 := ho.below hi (Nat.le_refl _)
            clear hi ho
            by_cases hh : has (rtK s c) (R : Int) c.length = true
            · have HT := hid (show txs (rtK s c) (g0 l) c.length (R + 1) = o ++ [((R : Int), G, taxI G R)] by unfold txs; rw [if_pos hh, ← HOE.out]; unfold tx; rw [HG.out])
              rw [hh]
              clear hh
              have z2 := ho2.lt
              have hbz : w.heap.size ≤ wr.heap.size := HI3.out.size
              go_wp2_with fail
              refine (taxIn_any G (R : Int) _ (by omega) (by omega)).mono ?_
              rintro e w' ⟨rfl, rfl⟩
              obtain ⟨T, hT⟩ : ∃ x, taxI G (R : Int) = x := ⟨_, rfl⟩
              rw [hT]
              have HTT := hid hT
              clear hT
              go_wp2_with (at_builtin; refine wpList_push len3 one3 rfl (.tmp 47) (.tmp 54) _ rfl Try.underlying29 infoTax rfl (by omega) (by omega) rfl ho2 ((R : Int), G, T) (by simp) rfl rfl (by omega) (by omega) ?_)
              intro v2 w2 ho3 hg3 _
              have D3 := hid (below_push HI3.out hbz ho2 (Nat.le_refl _) hg3)
              clear hg3
              go_wp2
              go_roundw
              case rel => exact ⟨R + 1, o ++ [((R : Int), G, T)], by omega, by go_num, by rw [HT.out, HTT.out], ho3, D3.out⟩
              case measure => simp [intOf]; omega
            · have hh' : has (rtK s c) (R : Int) c.length = false := by simpa using hh
              have HT := hid (show txs (rtK s c) (g0 l) c.length (R + 1) = o by unfold txs; rw [if_neg hh, ← HOE.out, List.append_nil])
              rw [hh']
              clear hh hh'
              go_wp2
              go_roundw
              case rel => exact ⟨R + 1, o, by omega, by go_num, by rw [HT.out], ho2, HI3.out⟩
              case measure => simp [intOf]; omega
      · have hR1 : R = 301 := by omega
        subst hR1
        have HE := hid (show o = taxesI s c l by rw [HI.out]; exact HOE.out)
        go_wp2
        go_ret
        refine ⟨_, rfl, ?_, HB.out⟩
        rw [← HE.out]
        exact ho
  · have hok' : fitTax s c l = false := by simpa using hok
    have HOK := hid hok'
    have HI := hid (show taxesI s c l = [] by unfold taxesI; rw [if_neg hok])
    clear hok hok'
    go_enter Try.func13, Try.ntmps13
    go_wp2_with fail
    refine (leftOk_any s c l A Ac Al cap capc capl _ hA0 hC0 hL0 hs hc hl).mono ?_
    rintro e w1 ⟨rfl, b1⟩
    rw [HOK.out]
    have O1 := O0.below b1 (Nat.le_refl _)
    have D1 := hid (D0.trans (b1.mono (by simp)))
    clear b1 O0 D0 hA0 hC0 hL0
    go_wp2
    go_ret
    refine ⟨_, rfl, ?_, D1.out⟩
    rw [HI.out]
    exact O1

end Go.Proofs.Ytmgphagahdepfaa
