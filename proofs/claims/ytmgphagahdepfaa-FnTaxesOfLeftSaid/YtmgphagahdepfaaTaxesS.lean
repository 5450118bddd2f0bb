/- Contract: the taxes of a cart, as the paper says it. -/
import Derived.Test.YtmgphagahdepfaaRatesS
import Derived.Test.YtmgphagahdepfaaShopS
import Derived.Test.YtmgphagahdepfaaCartS
import Derived.Test.YtmgphagahdepfaaTaxesI
import Derived.Test.YtmgphagahdepfaaAppB
import Derived.Deep.RegionHeld3
namespace Go.Proofs.Ytmgphagahdepfaa
open Go.RowKit

def TaxesRelS (w w1 : World) (L : List (Int × Int × Int)) (v i : Value) (wr : World) : Prop :=
  ∃ k : Nat, k ≤ L.length ∧ i = .int .i64 k ∧ Own enc3 3 32 wr w.heap.size v (L.take k) ∧ Below w.heap.size w wr ∧ w1.grownBy wr (some w.heap.size) ∧ ∀ g, v.ownBlock = some g → g = w.heap.size ∨ w1.heap.size ≤ g
theorem only_either {a b c : World} {row row' : Option Nat} (h : a.grownBy b row) (k : b.grownBy c row') (hr : ∀ g, row' = some g → some g = row ∨ a.heap.size ≤ g) : a.grownBy c row :=
  ⟨k.os.trans h.os, k.tape.trans h.tape, k.output.trans h.output, Nat.le_trans h.size k.size, fun i hi hne => (k.block i (Nat.lt_of_lt_of_le hi h.size) (fun e => by rcases hr i e.symm with h1 | h1; exact hne h1; omega)).trans (h.block i hi hne)⟩
def TaxesInS (w : World) (rt lf : Nat → Int) (r : Int) (n : Nat) (i g : Value) (wr : World) : Prop :=
  ∃ k : Nat, k ≤ n ∧ i = .int .i64 k ∧ g = .int .i64 (gr rt lf r k) ∧ Below w.heap.size w wr
theorem fit_shop {s : List (Int × Int × Int × Int)} {c : List (Int × Int)} {l : List Int} (h : vShop s = false) : fitTax s c l = false := by
  unfold fitTax; rw [h]; rfl
theorem fit_cart {s : List (Int × Int × Int × Int)} {c : List (Int × Int)} {l : List Int} (h : vCart s.length c = false) : fitTax s c l = false := by
  unfold fitTax; rw [h]; simp
theorem fit_left {s : List (Int × Int × Int × Int)} {c : List (Int × Int)} {l : List Int} (h : vLeft s c l = false) : fitTax s c l = false := by
  unfold fitTax; rw [h]; simp
theorem fit_all {s : List (Int × Int × Int × Int)} {c : List (Int × Int)} {l : List Int} (h1 : vShop s = true) (h2 : vCart s.length c = true) (h3 : vLeft s c l = true) : fitTax s c l = true := by
  unfold fitTax; rw [h1, h2, h3]; rfl
theorem taxes_no {s : List (Int × Int × Int × Int)} {c : List (Int × Int)} {l : List Int} (h : fitTax s c l = false) : taxesI s c l = [] := by
  unfold taxesI; rw [if_neg (by simp [h])]

set_option maxHeartbeats 3200000 in
set_option maxRecDepth 100000 in
theorem staxesOf_no (s : List (Int × Int × Int × Int)) (c : List (Int × Int)) (l : List Int) (A Ac Al : Option Addr) (cap capc capl : Nat) (w : World) (hA : Sl enc4 4 w w.heap.size A s) (hC : Sl enc2 2 w w.heap.size Ac c) (hL : Sl enc1 1 w w.heap.size Al l) (hs : s.length ≤ 1048576) (hc : c.length ≤ 1048576) (hl : l.length ≤ 1048576) (hno : fitTax s c l = false) :
    Calls Try.prog 17 #[.slice A s.length cap, .slice Ac c.length capc, .slice Al l.length capl] w (TaxesPost w (taxesI s c l)) := by
  have D0 := (Below.refl w.heap.size w).alloc (Nat.le_refl _) (.cells #[] 32)
  have hA0 : Sl enc4 4 (w.alloc (.cells #[] 32)) (w.alloc (.cells #[] 32)).heap.size A s := (hA.alloc (Nat.le_refl _) _).more (by simp)
  have hC0 : Sl enc2 2 (w.alloc (.cells #[] 32)) (w.alloc (.cells #[] 32)).heap.size Ac c := (hC.alloc (Nat.le_refl _) _).more (by simp)
  have hL0 : Sl enc1 1 (w.alloc (.cells #[] 32)) (w.alloc (.cells #[] 32)).heap.size Al l := (hL.alloc (Nat.le_refl _) _).more (by simp)
  have HNO := hid (taxes_no hno)
  have HN := hid hno
  clear hno hA hC hL
  by_cases hv1 : vShop s = true
  · have H1 := hid hv1
    clear hv1
    by_cases hv2 : vCart s.length c = true
    · have H2 := hid hv2
      have H3 := hid (show vLeft s c l = false by
        by_cases h : vLeft s c l = true
        · exact absurd (fit_all H1.out hv2 h) (by simp [HN.out])
        · simpa using h)
      clear hv2
      go_enter Try.func17, Try.ntmps17
      go_wp2_with fail
      refine (svalidShop_any s A cap _ hA0 (by omega)).mono ?_
      rintro e w1 ⟨rfl, b1⟩
      rw [H1.out]
      have hA1 := (hA0.below b1 (Nat.le_refl _)).more b1.size
      have hC1 := (hC0.below b1 (Nat.le_refl _)).more b1.size
      have hL1 := (hL0.below b1 (Nat.le_refl _)).more b1.size
      have D1 := hid (D0.trans (b1.mono (by simp)))
      clear b1 D0 hA0 hC0 hL0
      go_wp2_with fail
      refine (svalidCart_any c Ac capc s.length cap A _ hC1 (by omega) (by omega)).mono ?_
      rintro e w2 ⟨rfl, b2⟩
      rw [H2.out]
      have hA2 := (hA1.below b2 (Nat.le_refl _)).more b2.size
      have hC2 := (hC1.below b2 (Nat.le_refl _)).more b2.size
      have hL2 := (hL1.below b2 (Nat.le_refl _)).more b2.size
      have D2 := hid (D1.out.trans (b2.mono D1.out.size))
      clear b2 hA1 hC1 hL1
      go_wp2_with fail
      refine (svalidLeft_any s c l A Ac Al cap capc capl _ hA2 hC2 hL2 H1.out H2.out hl).mono ?_
      rintro e w3 ⟨rfl, b3⟩
      rw [H3.out]
      have D3 := hid (D2.out.trans (b3.mono D2.out.size))
      clear b3 hA2 hC2 hL2
      go_wp2
      go_ret
      exact ⟨_, rfl, by rw [HNO.out]; exact Own.nil_ .., D3.out⟩
    · have H2 := hid (show vCart s.length c = false by simpa using hv2)
      clear hv2
      go_enter Try.func17, Try.ntmps17
      go_wp2_with fail
      refine (svalidShop_any s A cap _ hA0 (by omega)).mono ?_
      rintro e w1 ⟨rfl, b1⟩
      rw [H1.out]
      have hC1 := (hC0.below b1 (Nat.le_refl _)).more b1.size
      have D1 := hid (D0.trans (b1.mono (by simp)))
      clear b1 D0 hA0 hC0 hL0
      go_wp2_with fail
      refine (svalidCart_any c Ac capc s.length cap A _ hC1 (by omega) (by omega)).mono ?_
      rintro e w2 ⟨rfl, b2⟩
      rw [H2.out]
      have D2 := hid (D1.out.trans (b2.mono D1.out.size))
      clear b2 hC1
      go_wp2
      go_ret
      exact ⟨_, rfl, by rw [HNO.out]; exact Own.nil_ .., D2.out⟩
  · have H1 := hid (show vShop s = false by simpa using hv1)
    clear hv1
    go_enter Try.func17, Try.ntmps17
    go_wp2_with fail
    refine (svalidShop_any s A cap _ hA0 (by omega)).mono ?_
    rintro e w1 ⟨rfl, b1⟩
    rw [H1.out]
    have D1 := hid (D0.trans (b1.mono (by simp)))
    clear b1 D0 hA0 hC0 hL0
    go_wp2
    go_ret
    exact ⟨_, rfl, by rw [HNO.out]; exact Own.nil_ .., D1.out⟩

set_option maxHeartbeats 3200000 in
set_option maxRecDepth 100000 in
theorem staxesOf_yes (s : List (Int × Int × Int × Int)) (c : List (Int × Int)) (l : List Int) (A Ac Al : Option Addr) (cap capc capl : Nat) (w : World) (hA : Sl enc4 4 w w.heap.size A s) (hC : Sl enc2 2 w w.heap.size Ac c) (hL : Sl enc1 1 w w.heap.size Al l) (hs : s.length ≤ 1048576) (hc : c.length ≤ 1048576) (hl : l.length ≤ 1048576) (hok : fitTax s c l = true) :
    Calls Try.prog 17 #[.slice A s.length cap, .slice Ac c.length capc, .slice Al l.length capl] w (TaxesPost w (taxesI s c l)) := by
  have O0 := Own.lit0 enc3 3 32 w w.heap.size rfl (Nat.le_refl _)
  have D0 := (Below.refl w.heap.size w).alloc (Nat.le_refl _) (.cells #[] 32)
  have hA0 : Sl enc4 4 (w.alloc (.cells #[] 32)) (w.alloc (.cells #[] 32)).heap.size A s := (hA.alloc (Nat.le_refl _) _).more (by simp)
  have hC0 : Sl enc2 2 (w.alloc (.cells #[] 32)) (w.alloc (.cells #[] 32)).heap.size Ac c := (hC.alloc (Nat.le_refl _) _).more (by simp)
  have hL0 : Sl enc1 1 (w.alloc (.cells #[] 32)) (w.alloc (.cells #[] 32)).heap.size Al l := (hL.alloc (Nat.le_refl _) _).more (by simp)
  obtain ⟨hv1, hv2, hv3⟩ := fit_parts hok
  have HI := hid (show taxesI s c l = (rts (rtK s c) c.length 301).map (tx (rtK s c) (g0 l) c.length) by unfold taxesI; rw [if_pos hok, txs_map])
  have H1 := hid hv1
  have H2 := hid hv2
  have H3 := hid hv3
  have HLL := hid (vLeft_len hv3)
  have hl1 := vShop_len hv1
  have hc8 := (vCart_iff.1 hv2).2.2
  clear hv1 hv2 hv3 hok
  go_enter Try.func17, Try.ntmps17
  go_wp2_with fail
  refine (svalidShop_any s A cap _ hA0 (by omega)).mono ?_
  rintro e w1 ⟨rfl, b1⟩
  rw [H1.out]
  have O1 := O0.below b1 (Nat.le_refl _)
  have hA1 := (hA0.below b1 (Nat.le_refl _)).more b1.size
  have hC1 := (hC0.below b1 (Nat.le_refl _)).more b1.size
  have hL1 := (hL0.below b1 (Nat.le_refl _)).more b1.size
  have D1 := hid (D0.trans (b1.mono (by simp)))
  clear b1 D0 hA0 hC0 hL0 O0
  go_wp2_with fail
  refine (svalidCart_any c Ac capc s.length cap A _ hC1 (by omega) (by omega)).mono ?_
  rintro e w2 ⟨rfl, b2⟩
  rw [H2.out]
  have O2 := O1.below b2 (Nat.le_refl _)
  have hA2 := (hA1.below b2 (Nat.le_refl _)).more b2.size
  have hC2 := (hC1.below b2 (Nat.le_refl _)).more b2.size
  have hL2 := (hL1.below b2 (Nat.le_refl _)).more b2.size
  have D2 := hid (D1.out.trans (b2.mono D1.out.size))
  clear b2 hA1 hC1 hL1 O1
  go_wp2_with fail
  refine (svalidLeft_any s c l A Ac Al cap capc capl _ hA2 hC2 hL2 H1.out H2.out hl).mono ?_
  rintro e w3 ⟨rfl, b3⟩
  rw [H3.out]
  have O3 := O2.below b3 (Nat.le_refl _)
  have hA3 := (hA2.below b3 (Nat.le_refl _)).more b3.size
  have hC3 := (hC2.below b3 (Nat.le_refl _)).more b3.size
  have hL3 := (hL2.below b3 (Nat.le_refl _)).more b3.size
  have D3 := hid (D2.out.trans (b3.mono D2.out.size))
  clear b3 hA2 hC2 hL2 O2
  go_wp2_with fail
  refine (rates_any s c A Ac cap capc _ hA3 hC3 H1.out H2.out).mono ?_
  rintro e w4 ⟨v, rfl, P4, b4⟩
  obtain ⟨Ar, cr, rfl, _, SR⟩ := P4.reads len1
  have O4 := O3.below b4 (Nat.le_refl _)
  have HZ3 := hid (show ∀ g, (Value.slice (some ⟨w.heap.size, 0, none⟩) 0 0).ownBlock = some g → g = w.heap.size ∨ w4.heap.size ≤ g from fun g hg => by cases hg; exact .inl rfl)
  have hz3 : w.heap.size < w3.heap.size := (O3.lt w.heap.size rfl).2
  have HP := hid (show ∀ b off, Ar = some ⟨b, off, none⟩ → w3.heap.size ≤ b ∧ b < w4.heap.size from fun b off he => by
    subst he
    rcases P4.form with ⟨h1, _⟩ | ⟨g, cap', h1, h2, h3, _, _⟩
    · simp at h1
    · simp at h1; omega)
  have hA4 := (hA3.below b4 (Nat.le_refl _)).more b4.size
  have hC4 := (hC3.below b4 (Nat.le_refl _)).more b4.size
  have hL4 := (hL3.below b4 (Nat.le_refl _)).more b4.size
  have D4 := hid (D3.out.trans (b4.mono D3.out.size))
  have hz4 : w.heap.size ≤ w4.heap.size := D4.out.size
  have HOW := hid O4
  have hrl := rts_len (rtK s c) c.length 301
  have HRM := hid (rts_mem (rtK s c) c.length 301)
  obtain ⟨Q, hQ⟩ : ∃ x, rts (rtK s c) c.length 301 = x := ⟨_, rfl⟩
  have HI2 := hid (show taxesI s c l = Q.map (tx (rtK s c) (g0 l) c.length) by rw [HI.out, hQ])
  rw [hQ] at SR hrl HRM
  rw [hQ]
  clear b4 hA3 hC3 hL3 O3 P4 hQ
  go_wp2_with fail
  go_loopw [7, 9] (fun v i wr => TaxesRelS w w4 (Q.map (tx (rtK s c) (g0 l) c.length)) v i wr) (fun _ i _ => Q.length - (intOf i).toNat)
  case atStart => exact ⟨0, Nat.zero_le _, rfl, O4, D4.out, only_refl, HZ3.out⟩
  case round =>
    clear O4
    obtain ⟨k, hk, rfl, ho, hb, hb4, hap⟩ := hrel
    have HAP := hid hap
    clear hap
    rw [List.length_map] at hk
    have hsz := hb.size
    have hsz4 := hb4.size
    have HB := hid hb
    have HB4 := hid hb4
    clear hb hb4
    by_cases hlt : k < Q.length
    · obtain ⟨wo, rfl⟩ : ∃ wo : World, wo = wr := ⟨_, rfl⟩
      have hAo := (hA.below HB.out (Nat.le_refl _)).more hsz
      have hCo := (hC.below HB.out (Nat.le_refl _)).more hsz
      have hLo := (hL.below HB.out (Nat.le_refl _)).more hsz
      obtain ⟨br, offr, rfl, hbr4, cR4⟩ := SR.get1 hlt
      have hbr3 := (HP.out br offr rfl).1
      have hbr : br < wo.heap.size := by omega
      have cR : wo.cell? ⟨br, offr + k, none⟩ = some (.int .i64 (g0 Q k)) := (World.cell?_of_block (HB4.out.block br hbr4 (by simp; omega))).trans cR4
      clear cR4
      have hrb := HRM.out (g0 Q k) (by rw [← g0_eq hlt]; exact List.getElem_mem hlt)
      have HTK := hid (show (Q.map (tx (rtK s c) (g0 l) c.length)).take (k + 1) = (Q.map (tx (rtK s c) (g0 l) c.length)).take k ++ [tx (rtK s c) (g0 l) c.length (g0 Q k)] by rw [List.take_succ_eq_append_getElem (by simpa using hlt), List.getElem_map, g0_eq hlt])
      obtain ⟨r, hr⟩ : ∃ x, g0 Q k = x := ⟨_, rfl⟩
      rw [hr] at cR hrb HTK
      clear hr
      obtain ⟨r0, r1⟩ := hrb
      have r2 : r ≤ 300 := by omega
      have hkq : (k : Int) < (Q.length : Int) := by omega
      have hol : ((Q.map (tx (rtK s c) (g0 l) c.length)).take k).length ≤ 301 := by rw [List.length_take, List.length_map]; omega
      obtain ⟨o, hoe⟩ : ∃ x, (Q.map (tx (rtK s c) (g0 l) c.length)).take k = x := ⟨_, rfl⟩
      have HTK2 := hid (show (Q.map (tx (rtK s c) (g0 l) c.length)).take (k + 1) = o ++ [(r, gr (rtK s c) (g0 l) r c.length, taxI (gr (rtK s c) (g0 l) r c.length) r)] by rw [HTK.out, hoe]; rfl)
      rw [hoe] at ho hol
      clear hoe HTK
      go_wp2_with fail
      go_loopw [11, 10] (fun i g wr => TaxesInS wo (rtK s c) (g0 l) r c.length i g wr) (fun i _ _ => c.length - (intOf i).toNat)
      case atStart => exact ⟨0, Nat.zero_le _, rfl, rfl, Below.refl _ _⟩
      case round =>
        obtain ⟨j, hj, rfl, rfl, hi⟩ := hrel
        have hzi := hi.size
        have hgb := gr_lim H1.out H2.out H3.out r hj
        obtain ⟨G, hG⟩ : ∃ x, gr (rtK s c) (g0 l) r j = x := ⟨_, rfl⟩
        rw [hG] at hgb
        rw [hG]
        have HG := hid hG
        clear hG
        have dR : wr.cell? ⟨br, offr + k, none⟩ = some (.int .i64 r) := (hi.cell hbr).trans cR
        have hbrw : br < wr.heap.size := by omega
        by_cases hlk : j < c.length
        · obtain ⟨b, off, rfl, hbb, c1, c2⟩ := hCo.get2 hlk
          obtain ⟨f1, f2, f3, f4, f5⟩ := fit_at H1.out H2.out hlk
          obtain ⟨b', off', rfl, hbb', _, _, c3, _⟩ := hAo.get4 f1
          obtain ⟨b2, off2, rfl, hbb2, c4⟩ := hLo.get1 (k := j) (by have := HLL.out; omega)
          have f6 := left_at H1.out H2.out H3.out hlk
          obtain ⟨a, ha⟩ : ∃ a : Nat, (g1 c j).toNat = a := ⟨_, rfl⟩
          obtain ⟨p, hp⟩ : ∃ p, q3 s a = p := ⟨_, rfl⟩
          obtain ⟨n, hn⟩ : ∃ n, g0 l j = n := ⟨_, rfl⟩
          rw [ha] at f1 f2 c3
          rw [← f2] at c1
          rw [hp] at c3
          rw [hn] at c4 f6
          have HR := hid (show rtK s c j = p by unfold rtK; rw [ha, hp])
          have HN := hid hn
          have d1 : wr.cell? ⟨b, off + j * 2, none⟩ = some (.int .i64 (a : Int)) := (hi.cell hbb).trans c1
          have d3 : wr.cell? ⟨b', off' + a * 4 + 2, none⟩ = some (.int .i64 p) := (hi.cell hbb').trans c3
          have d4 : wr.cell? ⟨b2, off2 + j, none⟩ = some (.int .i64 n) := (hi.cell hbb2).trans c4
          have hbw : b < wr.heap.size := by omega
          have hbw' : b' < wr.heap.size := by omega
          have hbw2 : b2 < wr.heap.size := by omega
          have hkl : j < l.length := by have := HLL.out; omega
          have hjc : (j : Int) < (c.length : Int) := by omega
          have has' : (a : Int) < (s.length : Int) := by omega
          have HI2 := hid hi
          clear c1 c2 c3 c4 ha hp hn f2 f3 f4 f5 hi ho
          by_cases he : p = r
          · have e1 : (p == r) = true := by rw [he]; simp
            have HE := hid he
            clear he
            have HG2 := hid (show gr (rtK s c) (g0 l) r (j + 1) = G + n by unfold gr; rw [HG.out, HR.out, HN.out, if_pos HE.out])
            go_wp2_with fail
            go_quiet (fail)
            go_wp2
            go_roundw
            case rel =>
              refine ⟨j + 1, by omega, by go_num, by rw [HG2.out], ?_⟩
              first | exact HI2.out | exact below_drewN HI2.out _ | exact HI2.out.drew
            case measure => simp [intOf]; omega
          · have e1 : (p == r) = false := beq_eq_false_iff_ne.2 he
            have HE := hid he
            clear he
            have HG2 := hid (show gr (rtK s c) (g0 l) r (j + 1) = G by unfold gr; rw [HG.out, HR.out, if_neg HE.out]; omega)
            go_wp2_with fail
            go_quiet (fail)
            go_wp2
            go_roundw
            case rel =>
              refine ⟨j + 1, by omega, by go_num, by rw [HG2.out], ?_⟩
              first | exact HI2.out | exact below_drewN HI2.out _ | exact HI2.out.drew
            case measure => simp [intOf]; omega
        · have hkc : j = c.length := by omega
          subst hkc
          have HI3 := hid (HB.out.trans (hi.mono hsz))
          have HI4 := hid (only_grown HB4.out (only_of_below hi (Nat.le_refl _) (row := none)) (by simp))
          have ho2 := ho.below hi (Nat.le_refl _)
          have HTK3 := hid (show (Q.map (tx (rtK s c) (g0 l) c.length)).take (k + 1) = o ++ [(r, G, taxI G r)] by rw [HTK2.out, HG.out])
          obtain ⟨T, hT⟩ : ∃ x, taxI G r = x := ⟨_, rfl⟩
          rw [hT] at HTK3
          have HTT := hid hT
          have hbz : w.heap.size ≤ wr.heap.size := HI3.out.size
          have hne : some br ≠ u7.ownBlock := fun he => by have := HAP.out br he.symm; omega
          clear hi ho hT HTK2
          have hwG : 0 ≤ G ∧ G ≤ 2000000 := by omega
          have hrR : 0 ≤ r ∧ r ≤ 300 := ⟨r0, r2⟩
          have HO2 := hid ho2
          go_wp2_with fail
          go_region_held3 (fun x => x.cell? ⟨br, offr + k, none⟩ = some (.int .i64 r)) (((repeat' apply And.intro) <;> first | assumption | (simp [go_sem, *]; done))) (first
            | (go_at_call 42; refine (staxIn_any G r _ hwG hrR).mono ?_; rintro e w' ⟨rfl, rfl⟩; rw [HTT.out])
            | (refine step_pushB len3 one3 (by rfl) _ _ _ (by rfl) Try.underlying29 infoTax rfl (by omega) (by omega) (by rfl) ho2 (r, G, T) (by rfl) (by rfl) (by rfl) (by omega) (by omega) ?_; intro v5 w5 ho5 hg5 hv5; have e5 : w5.cell? ⟨br, offr + k, none⟩ = some (.int .i64 r) := (World.cell?_of_block (hg5.block br (by simp; omega) hne)).trans ((World.cell?_alloc_lt _ _ _ hbrw).trans dR); have D5 := hid (below_push HI3.out hbz ho2 (Nat.le_refl _) hg5); have D6 := hid hg5; clear hg5))
          have D7 := hid (only_either (only_alloc HI4.out (.cells #[.int .i64 r, .int .i64 G, .int .i64 T] 32)) D6.out (fun g hg => (HAP.out g hg).imp (fun h => by rw [h]) id))
          have HAP2 := hid (show ∀ g, v5.ownBlock = some g → g = w.heap.size ∨ w4.heap.size ≤ g from fun g hg => by
            rcases hv5 with h | h
            · exact HAP.out g (h ▸ hg)
            · rw [h] at hg; cases hg; right; have := HI4.out.size; omega)
          clear hv5
          go_wp2
          go_roundw
          case rel => exact ⟨k + 1, by simp; omega, by go_num, by rw [HTK3.out]; exact ho5, D5.out, D7.out, HAP2.out⟩
          case measure => simp [intOf]; omega
    · have hkl : k = Q.length := by omega
      have HK := hid hkl
      clear hkl
      have HE := hid (show (Q.map (tx (rtK s c) (g0 l) c.length)).take k = taxesI s c l by rw [HI2.out, HK.out, List.take_of_length_le (by simp)])
      go_wp2
      go_ret
      refine ⟨_, rfl, ?_, HB.out⟩
      rw [← HE.out]
      exact ho

theorem staxesOf_any (s : List (Int × Int × Int × Int)) (c : List (Int × Int)) (l : List Int) (A Ac Al : Option Addr) (cap capc capl : Nat) (w : World) (hA : Sl enc4 4 w w.heap.size A s) (hC : Sl enc2 2 w w.heap.size Ac c) (hL : Sl enc1 1 w w.heap.size Al l) (hs : s.length ≤ 1048576) (hc : c.length ≤ 1048576) (hl : l.length ≤ 1048576) :
    Calls Try.prog 17 #[.slice A s.length cap, .slice Ac c.length capc, .slice Al l.length capl] w (TaxesPost w (taxesI s c l)) := by
  by_cases h : fitTax s c l = true
  · exact staxesOf_yes s c l A Ac Al cap capc capl w hA hC hL hs hc hl h
  · exact staxesOf_no s c l A Ac Al cap capc capl w hA hC hL hs hc hl (by simpa using h)

end Go.Proofs.Ytmgphagahdepfaa
