/- Contract: receipts of any arguments, as the program does it. -/
import Derived.Test.YtkgofklpogdpmaaGreatZRofS
import Derived.Test.YtkgofklpogdpmaaGreatZAppOut
import Derived.Test.YtkgofklpogdpmaaGreatZAllI
import Derived.Test.YtkgofklpogdpmaaGreatZEffI
import Derived.Test.YtkgofklpogdpmaaGreatZG
namespace Go.Proofs.YtkgofklpogdpmaaGreat
open Go.RowKit

set_option maxHeartbeats 12800000 in
set_option maxRecDepth 100000 in
theorem receiptOfI_any (s : List (Int × Int × Int × Int)) (c : List (Int × Int)) (cu : List Int) (l : List ((Int × Int × Int × Int × Int × Int × Int) × (Int × Int) × (Option Addr × Nat × List (Int × Int)) × Int)) (A Ac Al Ar : Option Addr) (cap capc capl capr : Nat) (w : World) (hA : Sl enc4 4 w w.heap.size A s) (hC : Sl enc2 2 w w.heap.size Ac c) (hP : Sl enc1 1 w w.heap.size Al cu) (hR : Sl encR 11 w w.heap.size Ar l) (hS : SpansIn w w.heap.size l) (hs : s.length ≤ 1000) (hc : c.length ≤ 1000) (hu : cu.length ≤ 1000) (hl : l.length ≤ 1000) (hcap : l.length ≤ capr) (hcm : capr ≤ 9223372036854775807) :
    Calls Tryz.prog 5 #[.slice A s.length cap, .slice Ac c.length capc, .slice Al cu.length capl, .slice Ar l.length capr] w (RofPost w s c cu l) := by
  have HOK := hid (show rcpOk s c cu l = (((vShop s && vCart s.length c) && vCpn cu) && (vRules l && clr l)) from rfl)
  have K0 := hid (Blk.new w 31 #[.slice none 0 0, .slice none 0 0])
  obtain ⟨w0, hw0⟩ : ∃ x, x = w.alloc (.cells #[.slice none 0 0, .slice none 0 0] 31) := ⟨_, rfl⟩
  rw [← hw0] at K0
  have D0 := hid (show Below w.heap.size w w0 by rw [hw0]; exact (Below.refl _ _).alloc (Nat.le_refl _) _)
  have hz0 : w0.heap.size = w.heap.size + 1 := by rw [hw0]; simp
  have HW := hid hw0
  have ZA := hid (hA.below D0.out (Nat.le_refl _))
  have ZC := hid (hC.below D0.out (Nat.le_refl _))
  have ZP := hid (hP.below D0.out (Nat.le_refl _))
  have ZR := hid (hR.below D0.out (Nat.le_refl _))
  have ZS := hid (hS.below D0.out (Nat.le_refl _))
  have A0 := ZA.out.more (show w.heap.size ≤ w0.heap.size by omega)
  have C0 := ZC.out.more (show w.heap.size ≤ w0.heap.size by omega)
  have P0 := ZP.out.more (show w.heap.size ≤ w0.heap.size by omega)
  clear hA hC hP hR hS hw0
  obtain ⟨x1, hx1⟩ : ∃ x, ((vShop s && vCart s.length c) && vCpn cu) = x := ⟨_, rfl⟩
  have X1 := hid hx1
  rw [hx1] at HOK
  clear hx1
  cases x1
  · have HNO := hid (show rcpOk s c cu l = false by rw [HOK.out]; rfl)
    go_enter Tryz.func5, Tryz.ntmps5
    go_wp2_with fail
    rw [← HW.out]
    refine (pointOf_no s c cu A Ac Al cap capc capl w0 A0 C0 P0 hs hc hu X1.out).mono ?_
    rintro e w1 ⟨rfl, b1⟩
    have K1 := hid ((K0.out.below b1 K0.out.lt).alloc (.cells #[.int .i64 0, .slice none 0 0, .slice none 0 0] 42))
    have D1 := hid ((D0.out.trans (b1.mono D0.out.size)).alloc (Nat.le_trans D0.out.size b1.size) (.cells #[.int .i64 0, .slice none 0 0, .slice none 0 0] 42))
    have z1 := b1.size
    have E1 := hid (D0.out.trans (b1.mono D0.out.size))
    have q0 := (K0.out.below b1 K0.out.lt).cell 0
    have q1 := (K0.out.below b1 K0.out.lt).cell 1
    have qf := (K0.out.below b1 K0.out.lt).frozen
    have qz := (K0.out.below b1 K0.out.lt).lt
    clear b1 A0 C0 P0
    have D9 := hid ((D1.out.setCell (p := ⟨w.heap.size, 0, none⟩) (Nat.le_refl _) (.slice none 0 0)).setCell (p := ⟨w.heap.size, 1, none⟩) (Nat.le_refl _) (.slice none 0 0))
    go_wp2
    refine bodyPost_ret (v := .tuple #[.agg #[.slice none 0 0, .slice none 0 0], .bool false]) (by simp [results, Tryz.results5, go_sem, *]) rfl (.inr ⟨HNO.out, rfl, ?_⟩)
    have := E1.out
    repeat (first | exact Below.refl _ _ | (refine Below.alloc ?_ (by (try simp) <;> omega) _) | (refine Below.setCell ?_ (by (try simp) <;> omega) _) | (refine Below.drew ?_) | (refine below_drewN ?_ _) | (refine Below.trans ?_ (Below.mono (by assumption) (by (try simp) <;> omega))))
  · have hsc := Bool.and_eq_true_iff.1 X1.out
    have hsc1 := Bool.and_eq_true_iff.1 hsc.1
    have HS := hid hsc1.1
    have HC := hid hsc1.2
    have HU := hid hsc.2
    have hs10 := vShop_len hsc1.1
    have hc8 := (vCart_iff.1 hsc1.2).2.2
    have HPT := hid (ptOk_of hsc1.1 hsc1.2 hsc.2)
    have HRO := hid (fun o => show rcpOf s c cu o = rcpL s c (tot (g0 (amts s c)) c.length) (cnts s c c.length) cu (amts s c) o from rfl)
    have HVA := hid (vLeft_amts hsc1.1 hsc1.2)
    have HAI := hid (show amtsI s c = amts s c by unfold amtsI; rw [if_pos hsc.1])
    have hpo := pointOf_yes s c cu A Ac Al cap capc capl w0 A0 C0 P0 hsc1.1 hsc1.2 hsc.2
    clear hsc hsc1 A0 C0 P0
    obtain ⟨T, hT⟩ : ∃ T, tot (g0 (amts s c)) c.length = T := ⟨_, rfl⟩
    obtain ⟨Z, hZ⟩ : ∃ Z, cnts s c c.length = Z := ⟨_, rfl⟩
    rw [hT, hZ] at HPT hpo HRO
    clear hT hZ
    go_enter Tryz.func5, Tryz.ntmps5
    go_wp2_with fail
    rw [← HW.out]
    refine hpo.mono ?_
    rintro e w1 ⟨A1, A2, capz, capu, rfl, s1, s2, b1⟩
    have z1 := b1.size
    have S1 := hid s1
    have S2 := hid s2
    have B1 := hid b1
    clear hpo s1 s2 b1
    obtain ⟨w2, hw2⟩ : ∃ x, x = w1.alloc (.cells #[.int .i64 T, .slice A1 Z.length capz, .slice A2 cu.length capu] 42) := ⟨_, rfl⟩
    have HW2 := hid hw2
    have KP := hid (Blk.new w1 42 #[.int .i64 T, .slice A1 Z.length capz, .slice A2 cu.length capu])
    rw [← hw2] at KP
    have S12 := hid (show Below w1.heap.size w1 w2 by rw [hw2]; exact (Below.refl _ _).alloc (Nat.le_refl _) _)
    have B2 := hid (B1.out.trans (S12.out.mono z1))
    have z2 := B2.out.size
    have hz2 : w2.heap.size = w1.heap.size + 1 := by rw [hw2]; simp
    have R2 := (ZR.out.below B2.out (by omega)).more (show w.heap.size ≤ w2.heap.size by omega)
    have SS2 := (ZS.out.below B2.out (by omega)).more (show w.heap.size ≤ w2.heap.size by omega)
    clear hw2
    go_wp2_with fail
    rw [← HW2.out]
    refine (isClear_any l Ar capr w2 R2 SS2 hl hcap hcm).mono ?_
    rintro e w3 ⟨rfl, b3⟩
    have B3 := hid (B2.out.trans (b3.mono z2))
    have z3 := B3.out.size
    have hz23 := b3.size
    have KP3 := hid (KP.out.below b3 KP.out.lt)
    have K3 := hid (K0.out.below B3.out K0.out.lt)
    have D3 := hid (D0.out.trans (B3.out.mono D0.out.size))
    have S13 := hid (S12.out.trans (b3.mono (by omega)))
    obtain ⟨x2, hx2⟩ : ∃ x, (vRules l && clr l) = x := ⟨_, rfl⟩
    have X2 := hid hx2
    rw [hx2] at HOK
    rw [hx2]
    clear b3 R2 SS2 hx2 B2 S12
    cases x2
    · have HNO := hid (show rcpOk s c cu l = false by rw [HOK.out]; rfl)
      have k0 := K3.out.cell 0
      have k1 := K3.out.cell 1
      have kf := K3.out.frozen
      have zz := K3.out.lt
      have D9 := hid ((D3.out.setCell (p := ⟨w.heap.size, 0, none⟩) (Nat.le_refl _) (.slice none 0 0)).setCell (p := ⟨w.heap.size, 1, none⟩) (Nat.le_refl _) (.slice none 0 0))
      go_wp2
      exact bodyPost_ret (v := .tuple #[.agg #[.slice none 0 0, .slice none 0 0], .bool false]) (by simp [results, Tryz.results5, go_sem, *]) rfl (.inr ⟨HNO.out, rfl, D9.out⟩)
    · have HYES := hid (show rcpOk s c cu l = true by rw [HOK.out]; rfl)
      have HRU := hid (Bool.and_eq_true_iff.1 X2.out).1
      have hl6 := vRules_len HRU.out
      have A3 := (ZA.out.below B3.out (by omega)).more (show w.heap.size ≤ w3.heap.size by omega)
      have C3 := (ZC.out.below B3.out (by omega)).more (show w.heap.size ≤ w3.heap.size by omega)
      have hla := lineAmounts_any s c A Ac cap capc w3 A3 C3 (by omega) (by omega)
      obtain ⟨M, hM⟩ : ∃ M, amts s c = M := ⟨_, rfl⟩
      unfold AmtsIPost at hla
      rw [HAI.out, hM] at hla
      rw [hM] at HRO HVA
      clear A3 C3 hM HAI
      go_wp2_with fail
      refine hla.mono ?_
      rintro e w4 ⟨v4, rfl, o4, b4⟩
      obtain ⟨AL, cL, rfl, _, _⟩ := o4.reads len1
      have O4 := hid o4
      have B4 := hid (B3.out.trans (b4.mono z3))
      have z4 := B4.out.size
      have hz34 := b4.size
      have S34 := hid b4
      have HLB := hid (fun (b off : Nat) i (h : AL = some ⟨b, off, i⟩) => show w3.heap.size ≤ b ∧ b < w4.heap.size by subst h; exact o4.lt b rfl)
      obtain ⟨w5, hw5⟩ : ∃ x, x = (w4.alloc (.cells #[] 58)).alloc (.cells #[.slice AL M.length cL, .slice (some ⟨w4.heap.size, 0, none⟩) 0 0] 31) := ⟨_, rfl⟩
      have HW5 := hid hw5
      have hz5 : w5.heap.size = w4.heap.size + 1 + 1 := by rw [hw5]; simp
      have S45 := hid (show Below w4.heap.size w4 w5 by rw [hw5]; exact ((Below.refl _ _).alloc (Nat.le_refl _) _).alloc (by simp) _)
      have KX5 := hid (show Blk w5 (w4.heap.size + 1) 31 #[.slice AL M.length cL, .slice (some ⟨w4.heap.size, 0, none⟩) 0 0] by rw [hw5]; have h9 := Blk.new (w4.alloc (.cells #[] 58)) 31 #[.slice AL M.length cL, .slice (some ⟨w4.heap.size, 0, none⟩) 0 0]; simpa only [World.size_alloc] using h9)
      have ON5 := hid (show Own enc3 3 58 w5 w4.heap.size (.slice (some ⟨w4.heap.size, 0, none⟩) 0 0) [] by rw [hw5]; exact (Own.lit0 enc3 3 58 w4 w4.heap.size rfl (Nat.le_refl _)).alloc _)
      have OM5 := hid (O4.out.below S45.out (Nat.le_refl _))
      have B5 := hid (B4.out.trans (S45.out.mono z4))
      have z5 := B5.out.size
      have R5 := (ZR.out.below B5.out (by omega)).more (show w.heap.size ≤ w5.heap.size by omega)
      clear hw5 o4 b4 hla
      go_wp2_with fail
      rw [← HW5.out]
      refine (ordered_any l Ar capr w5 R5 hl).mono ?_
      rintro e w6 ⟨q, Ao, co, rfl, hq, sq, b6, lo6⟩
      have HQ := hid hq
      have hq6 : q.length ≤ 6 := by rw [ord_len hq]; exact hl6
      have HQV := hid (fun k (hk : k < q.length) => ord_valid HRU.out hq hk)
      have SQ := hid sq
      have LO6 := hid lo6
      have B6 := hid (B5.out.trans (b6.mono z5))
      have z6 := B6.out.size
      have hz56 := b6.size
      have OM6 := hid (OM5.out.below b6 (Nat.le_refl _))
      have ON6 := hid (ON5.out.below b6 (Nat.le_refl _))
      have KX6 := hid (KX5.out.below b6 KX5.out.lt)
      have S36 := hid ((S34.out.trans (S45.out.mono hz34)).trans (b6.mono (by omega)))
      have KP6 := hid (KP3.out.below S36.out KP3.out.lt)
      have K6 := hid (K0.out.below B6.out K0.out.lt)
      have S16 := hid (S13.out.trans (S36.out.mono (by omega)))
      have C6 := hid (S1.out.below S16.out (Nat.le_refl _))
      have U6 := hid (S2.out.below S16.out (Nat.le_refl _))
      have A6 := hid (ZA.out.below B6.out (by omega))
      have D6 := hid (ZC.out.below B6.out (by omega))
      have Q6 := hid (ord_spans (ZS.out.below B6.out (by omega)) hq)
      have W6 := hid (D0.out.trans (B6.out.mono D0.out.size))
      have LB := hid (rcp_left (T := T) (cs := Z) (cp := cu) HS.out HC.out HVA.out HQV.out)
      have NB := hid (rcp_notes (T := T) (cs := Z) (cp := cu) HS.out HC.out HVA.out HQV.out)
      have STP := hid (fun k (hk : k < q.length) => rcpL_step s c T Z cu M q hk)
      have HST0 := hid (show rcpL s c T Z cu M (q.take 0) = (M, []) from rfl)
      have hML : M.length = c.length := vLeft_len HVA.out
      have HML := hid hML
      have hm8 : M.length ≤ 8 := by omega
      clear hq sq b6 lo6 R5 KP KP3 K3 ON5 OM5 KX5 K0 D3 B3 B4 B5 S13 S34 S45 S16 S1 S2 ZR ZP O4 hML
      go_wp2_with fail
      go_loopw [40] (fun i wr => ∃ (k : Nat) (vn : Value), k ≤ q.length ∧ i = .int .i64 k ∧ Hid (Blk wr (w4.heap.size + 1) 31 #[.slice AL M.length cL, vn]) ∧ Hid (Own enc1 1 3 wr w3.heap.size (.slice AL M.length cL) (rcpL s c T Z cu M (q.take k)).1) ∧ Hid (Own enc3 3 58 wr w4.heap.size vn (rcpL s c T Z cu M (q.take k)).2) ∧ Hid (∀ g, vn.ownBlock = some g → g = w4.heap.size ∨ w6.heap.size ≤ g) ∧ Hid (KeepOut w3.heap.size w5.heap.size w6 wr) ∧ Hid (Below w.heap.size w wr)) (fun i _ => q.length - (intOf i).toNat)
      case atStart => exact ⟨0, _, Nat.zero_le _, rfl, hid KX6.out, hid (by rw [HST0.out]; exact OM6.out), hid (by rw [HST0.out]; exact ON6.out), hid (fun g hg => .inl (Option.some.inj hg).symm), hid (KeepOut.refl _ _ _), hid W6.out⟩
      case round =>
        clear OM6 ON6 W6 KX6
        obtain ⟨k, vn, hk, rfl, HX, HOL, HON, HGN, HKO, HBW⟩ := hrel
        have hlv := LB.out k hk
        have hnl := NB.out k hk
        have HSTP := hid (fun h => STP.out k h)
        obtain ⟨⟨L, Q⟩, hst⟩ : ∃ x, rcpL s c T Z cu M (q.take k) = x := ⟨_, rfl⟩
        rw [hst] at HOL HON hlv hnl HSTP
        dsimp only at HOL HON hlv hnl
        have HLV := hid hlv
        have HST := hid hst
        have HLL := hid (vLeft_len hlv)
        obtain ⟨wo, rfl⟩ : ∃ wo : World, wo = wr := ⟨_, rfl⟩
        have hzr : w6.heap.size ≤ wo.heap.size := HKO.out.2
        have xO := HKO.out.sl_above SQ.out LO6.out (Nat.le_refl _)
        clear hst hlv
        by_cases hlt : k < q.length
        · obtain ⟨⟨⟨n, lv, rk, gp, kd, vl, cp⟩, ⟨lo, hi⟩, ⟨a, C, S⟩, cn⟩, hx⟩ : ∃ x, atR q k = x := ⟨_, rfl⟩
          have hget := atR_get hlt
          rw [hx] at hget
          obtain ⟨b, off, rfl, hbb, d0, d1, d2, d3, d4, d5, d6, d7, d8, d9, d10⟩ := xO.getR hget
          have hsp := Q6.out _ (atR_mem hlt)
          rw [hx] at hsp
          obtain ⟨hs1, hs2⟩ := hsp
          have HSP := hid hs1
          have hvr := HQV.out k hlt
          have hef := effR_bd HS.out HC.out HLV.out hvr
          have hstp := HSTP.out hlt
          unfold rcpStep at hstp
          have e1 : hldR T Z cu (atR q k) = hldB T Z cu lo hi S cn := by rw [hx]; rfl
          have e2 : effR s c (atR q k) L = effP s c gp kd vl cp L := by rw [hx]; rfl
          have e3 : numR (atR q k) = n := by rw [hx]; rfl
          dsimp only at hstp
          rw [e1, e2, e3] at hstp
          rw [e2] at hef
          have hvr2 : vRule n lv rk gp kd vl cp lo hi S cn = true := by rw [hx] at hvr; exact hvr
          have hvg : vGuard lo hi S cn = true := by have h9 := vR_guard hvr; rw [hx] at h9; exact h9
          have HSTN := hid hstp
          have HEF := hid hef
          have HVR := hid hvr2
          have HVG := hid hvg
          have hbwr : b < wo.heap.size := hbb
          have hkq : (k : Int) < (q.length : Int) := by omega
          obtain ⟨hd, hhd⟩ : ∃ x, hldB T Z cu lo hi S cn = x := ⟨_, rfl⟩
          rw [hhd] at HSTN
          have HHD := hid hhd
          obtain ⟨wa, hwa⟩ : ∃ x, x = wo.alloc (.cells #[.int .i64 n, .int .i64 lv, .int .i64 rk, .int .i64 gp, .int .i64 kd, .int .i64 vl, .int .i64 cp, .int .i64 lo, .int .i64 hi, .slice a S.length C, .int .i64 cn] 54) := ⟨_, rfl⟩
          have HWA := hid hwa
          have KB := hid (Blk.new wo 54 #[.int .i64 n, .int .i64 lv, .int .i64 rk, .int .i64 gp, .int .i64 kd, .int .i64 vl, .int .i64 cp, .int .i64 lo, .int .i64 hi, .slice a S.length C, .int .i64 cn])
          rw [← hwa] at KB
          have BA := hid (show Below wo.heap.size wo wa by rw [hwa]; exact (Below.refl _ _).alloc (Nat.le_refl _) _)
          have hza : wo.heap.size < wa.heap.size := KB.out.lt
          have KOA := hid (HKO.out.below BA.out hzr)
          have HPA := hid (KOA.out.blk KP6.out (.inl (by omega)))
          have yS := KOA.out.sl HSP.out (by omega) (by omega)
          have yC := KOA.out.sl C6.out (by omega) (by omega)
          have yU := KOA.out.sl U6.out (by omega) (by omega)
          have k0 : wa.cell? ⟨wo.heap.size, 0, none⟩ = some (.int .i64 n) := KB.out.cell 0
          have k1 : wa.cell? ⟨wo.heap.size, 1, none⟩ = some (.int .i64 lv) := KB.out.cell 1
          have k2 : wa.cell? ⟨wo.heap.size, 2, none⟩ = some (.int .i64 rk) := KB.out.cell 2
          have k3 : wa.cell? ⟨wo.heap.size, 3, none⟩ = some (.int .i64 gp) := KB.out.cell 3
          have k4 : wa.cell? ⟨wo.heap.size, 4, none⟩ = some (.int .i64 kd) := KB.out.cell 4
          have k5 : wa.cell? ⟨wo.heap.size, 5, none⟩ = some (.int .i64 vl) := KB.out.cell 5
          have k6 : wa.cell? ⟨wo.heap.size, 6, none⟩ = some (.int .i64 cp) := KB.out.cell 6
          have k7 : wa.cell? ⟨wo.heap.size, 7, none⟩ = some (.int .i64 lo) := KB.out.cell 7
          have k8 : wa.cell? ⟨wo.heap.size, 8, none⟩ = some (.int .i64 hi) := KB.out.cell 8
          have k9 : wa.cell? ⟨wo.heap.size, 9, none⟩ = some (.slice a S.length C) := KB.out.cell 9
          have k10 : wa.cell? ⟨wo.heap.size, 10, none⟩ = some (.int .i64 cn) := KB.out.cell 10
          have HPO := hid (HKO.out.blk KP6.out (.inl (by omega)))
          have p0 : wo.cell? ⟨w1.heap.size, 0, none⟩ = some (.int .i64 T) := HPO.out.cell 0
          have p1 : wo.cell? ⟨w1.heap.size, 1, none⟩ = some (.slice A1 Z.length capz) := HPO.out.cell 1
          have p2 : wo.cell? ⟨w1.heap.size, 2, none⟩ = some (.slice A2 cu.length capu) := HPO.out.cell 2
          have zp : w1.heap.size < wo.heap.size := HPO.out.lt
          clear hx hget hs1 hvr hvr2 hvg hef hstp e1 e2 e3 hhd hwa xO
          go_wp2_with fail
          rw [← HWA.out]
          refine (guardHolds_any lo hi cn a C S T Z cu A1 A2 capz capu wa yS yC yU HPT.out HVG.out).mono ?_
          rintro e w7 ⟨rfl, b7⟩
          rw [HHD.out]
          have z7 := b7.size
          have KB7 := hid (KB.out.below b7 KB.out.lt)
          have B7 := hid (BA.out.trans (b7.mono (by omega)))
          have KO7 := hid (HKO.out.below B7.out hzr)
          have W7 := hid (HBW.out.trans (B7.out.mono HBW.out.size))
          have OL7 := hid (HOL.out.below B7.out (Nat.le_refl _))
          have ON7 := hid (HON.out.below B7.out (Nat.le_refl _))
          have HX7 := hid (HX.out.below B7.out HX.out.lt)
          clear b7 yS yC yU p0 p1 p2 zp k0 d0 k1 d1 k2 d2 k3 d3 k4 d4 k5 d5 k6 d6 k7 d7 k8 d8 k9 d9 k10 d10
          cases hd
          · have HNX := hid (show rcpL s c T Z cu M (q.take (k + 1)) = (L, Q) by rw [HSTN.out]; rfl)
            go_wp2
            go_roundw
            case rel => exact ⟨k + 1, vn, by omega, by go_num, hid HX7.out, hid (by rw [HNX.out]; exact OL7.out), hid (by rw [HNX.out]; exact ON7.out), hid HGN.out, hid KO7.out, hid W7.out⟩
            case measure => simp [intOf]; omega
          · skip
            have x0 : w7.cell? ⟨w4.heap.size + 1, 0, none⟩ = some (.slice AL M.length cL) := HX7.out.cell 0
            have zx : w4.heap.size + 1 < w7.heap.size := HX7.out.lt
            have zb : wo.heap.size < w7.heap.size := KB7.out.lt
            have k0 : w7.cell? ⟨wo.heap.size, 0, none⟩ = some (.int .i64 n) := KB7.out.cell 0
            have k1 : w7.cell? ⟨wo.heap.size, 1, none⟩ = some (.int .i64 lv) := KB7.out.cell 1
            have k2 : w7.cell? ⟨wo.heap.size, 2, none⟩ = some (.int .i64 rk) := KB7.out.cell 2
            have k3 : w7.cell? ⟨wo.heap.size, 3, none⟩ = some (.int .i64 gp) := KB7.out.cell 3
            have k4 : w7.cell? ⟨wo.heap.size, 4, none⟩ = some (.int .i64 kd) := KB7.out.cell 4
            have k5 : w7.cell? ⟨wo.heap.size, 5, none⟩ = some (.int .i64 vl) := KB7.out.cell 5
            have k6 : w7.cell? ⟨wo.heap.size, 6, none⟩ = some (.int .i64 cp) := KB7.out.cell 6
            have k7 : w7.cell? ⟨wo.heap.size, 7, none⟩ = some (.int .i64 lo) := KB7.out.cell 7
            have k8 : w7.cell? ⟨wo.heap.size, 8, none⟩ = some (.int .i64 hi) := KB7.out.cell 8
            have k9 : w7.cell? ⟨wo.heap.size, 9, none⟩ = some (.slice a S.length C) := KB7.out.cell 9
            have k10 : w7.cell? ⟨wo.heap.size, 10, none⟩ = some (.int .i64 cn) := KB7.out.cell 10
            have yA := KO7.out.sl A6.out (by omega) (by omega)
            have yC := KO7.out.sl D6.out (by omega) (by omega)
            have yS := KO7.out.sl HSP.out (by omega) (by omega)
            have yL := OL7.out.sl len1
            have hcon := effectOf_any s c L A Ac AL cap capc cL n lv rk gp kd vl cp lo hi cn a C S w7 yA yC yL yS HS.out HC.out HLV.out HVR.out
            rw [show L.length = M.length by rw [HLL.out, HML.out]] at hcon
            obtain ⟨m, hm⟩ : ∃ m, effP s c gp kd vl cp L = m := ⟨_, rfl⟩
            rw [hm] at hcon HEF HSTN
            clear hm yA yC yS yL
            go_wp2_with fail
            refine hcon.mono ?_
            rintro e w8 ⟨v8, rfl, o8, b8⟩
            obtain ⟨Am, cm, rfl, _, sm⟩ := o8.reads len1
            have HMC := hid HEF.out.1
            have hmm8 : m.length ≤ 8 := by rw [HMC.out]; exact hc8
            have hz78 := b8.size
            have LOM := hid (fun (b off : Nat) i (h : Am = some ⟨b, off, i⟩) => show w7.heap.size ≤ b by subst h; exact (o8.lt b rfl).1)
            have SM := hid sm
            have B8 := hid (B7.out.trans (b8.mono (by omega)))
            have KB8 := hid (KB7.out.below b8 zb)
            have KO8 := hid (HKO.out.below B8.out hzr)
            have W8 := hid (HBW.out.trans (B8.out.mono HBW.out.size))
            have OL8 := hid (HOL.out.below B8.out (Nat.le_refl _))
            have ON8 := hid (HON.out.below B8.out (Nat.le_refl _))
            have HX8 := hid (HX.out.below B8.out HX.out.lt)
            have hgb : ∀ g, vn.ownBlock = some g → g < wo.heap.size := fun g hg => (HON.out.lt g hg).2
            have HGB := hid hgb
            clear hcon o8 b8 sm x0 hgb k0 k1 k2 k3 k4 k5 k6 k7 k8 k9 k10
            go_wp2_with fail
            go_loopw [56] (fun i wr => ∃ (j : Nat) (vn : Value), j ≤ m.length ∧ i = .int .i64 j ∧ Hid (Blk wr (w4.heap.size + 1) 31 #[.slice AL M.length cL, vn]) ∧ Hid (Own enc1 1 3 wr w3.heap.size (.slice AL M.length cL) (lessTo L m j)) ∧ Hid (Own enc3 3 58 wr w4.heap.size vn (Q ++ notesTo n m j)) ∧ Hid (∀ g, vn.ownBlock = some g → g = w4.heap.size ∨ w6.heap.size ≤ g) ∧ Hid (∀ g, vn.ownBlock = some g → g < wo.heap.size ∨ w8.heap.size ≤ g) ∧ Hid (KeepOut w3.heap.size w5.heap.size w6 wr) ∧ Hid (KeepOut 0 wo.heap.size w8 wr) ∧ Hid (Below w.heap.size w wr)) (fun i _ => m.length - (intOf i).toNat)
            case atStart => exact ⟨0, vn, Nat.zero_le _, rfl, hid HX8.out, hid (by rw [lessTo_zero]; exact OL8.out), hid (by rw [show notesTo n m 0 = [] from rfl, List.append_nil]; exact ON8.out), hid HGN.out, hid (fun g hg => .inl (HGB.out g hg)), hid KO8.out, hid (KeepOut.refl _ _ _), hid W8.out⟩
            case round =>
              clear HX HOL HON HGN HKO HBW HX8 OL8 ON8 HX7 OL7 ON7 HGB KO7 W7
              obtain ⟨j, vj, hj, rfl, HX, HOL, HON, HGN, HGB, HKO, HKI, HBW⟩ := hrel
              have hzi : w8.heap.size ≤ wr.heap.size := HKI.out.2
              have KBR := hid (HKI.out.blk KB8.out (.inr (Nat.le_refl _)))
              have k0 : wr.cell? ⟨wo.heap.size, 0, none⟩ = some (.int .i64 n) := KBR.out.cell 0
              have x0 : wr.cell? ⟨w4.heap.size + 1, 0, none⟩ = some (.slice AL M.length cL) := HX.out.cell 0
              have x1 : wr.cell? ⟨w4.heap.size + 1, 1, none⟩ = some vj := HX.out.cell 1
              have xf : ∀ o, wr.frozen? ⟨w4.heap.size + 1, o, none⟩ = false := HX.out.frozen
              have zx : w4.heap.size + 1 < wr.heap.size := HX.out.lt
              have zb : wo.heap.size < wr.heap.size := KBR.out.lt
              by_cases hlj : j < m.length
              · skip
                have xm := HKI.out.sl_above SM.out LOM.out (show wo.heap.size ≤ w7.heap.size by omega)
                obtain ⟨bm, offm, rfl, hbm, c1⟩ := xm.get1 hlj
                have hbml := LOM.out bm offm none rfl
                have hjc : j < c.length := by rw [← HMC.out]; exact hlj
                have hjL : j < L.length := by rw [HLL.out]; exact hjc
                have hyb := HEF.out.2 j hjc
                have hxb := left_at HS.out HC.out HLV.out hjc
                have hset := lessTo_set (m := m) hjL
                have hskip := fun h => lessTo_skip (m := m) hjL h
                have hget := lessTo_get (m := m) hjL
                have hlen := lessTo_len (m := m) (Nat.le_of_lt hjL)
                have HNK := hid (show ntK n m j = if 0 < g0 m j then [((j : Int), n, g0 m j)] else [] from rfl)
                have HNT := hid (show notesTo n m (j + 1) = notesTo n m j ++ ntK n m j from rfl)
                have hnt := notesTo_len n m j
                obtain ⟨y, hy⟩ : ∃ y, g0 m j = y := ⟨_, rfl⟩
                obtain ⟨x, hx⟩ : ∃ x, g0 L j = x := ⟨_, rfl⟩
                rw [hy] at c1 hyb hset hskip HNK
                rw [hx] at hyb hxb hset hget
                obtain ⟨N, hN⟩ : ∃ N, notesTo n m j = N := ⟨_, rfl⟩
                rw [hN] at HNT hnt HON
                have HSK := hid hskip
                have HSE := hid hset
                have HGT := hid hget
                have hlen2 : M.length = (lessTo L m j).length := by rw [hlen, HLL.out, HML.out]
                have HLE := hid hlen2
                have hjm : (j : Int) < (m.length : Int) := by omega
                have hjM : j < M.length := by rw [HML.out]; exact hjc
                have hjMi : (j : Int) < (M.length : Int) := by omega
                obtain ⟨y1, y2⟩ := hyb
                obtain ⟨x1', x2'⟩ := hxb
                clear hy hx hset hskip hget hlen hN hlen2
                by_cases hp : 0 < y
                · have e1 : decide (0 < y) = true := decide_eq_true hp
                  have e1' : decide (y > 0) = true := decide_eq_true hp
                  have HN1 := hid (show ntK n m j = [((j : Int), n, y)] by rw [HNK.out, if_pos hp])
                  clear hp
                  rcases HOL.out.form with ⟨_, h9⟩ | ⟨g, c9, h9, gg1, gg2, _, _⟩
                  · have h8 : M.length = 0 := by rw [HLE.out, h9]; rfl
                    omega
                  · injection h9 with h9a h9b h9c
                    subst h9a
                    clear h9b h9c
                    have hgl := HLB.out g 0 none rfl
                    obtain ⟨hg3, hg4⟩ := hgl
                    have d4 : wr.cell? ⟨g, j, none⟩ = some (.int .i64 x) := by simpa using HOL.out.cell len1 HLE.out HGT.out (j := 0) rfl
                    have df : ∀ o, wr.frozen? ⟨g, o, none⟩ = false := fun o => HOL.out.frozen HLE.out o
                    have hw1 : IntKind.i64.wrap (x - y) = x - y := IntWalk.i64_in _ (by omega)
                    have hgw : g < wr.heap.size := gg2
                    have hgx : g ≠ w4.heap.size + 1 := by omega
                    have hgx' : w4.heap.size + 1 ≠ g := by omega
                    have hgb1 : g ≠ wo.heap.size := by omega
                    have hgb2 : wo.heap.size ≠ g := by omega
                    have hgm : bm ≠ g := by omega
                    have hgm' : g ≠ bm := by omega
                    have hvg : vj.ownBlock ≠ some g := fun he => by have := (HON.out.lt g he).1; omega
                    have hvx : some (w4.heap.size + 1) ≠ vj.ownBlock := fun he => by have := HGN.out _ he.symm; omega
                    have hown := HON.out.far (p := ⟨g, j, none⟩) hvg (.int .i64 (x - y))
                    have OL1 := hid (HOL.out.store len1 HLE.out HGT.out (j := 0) (a' := x - y) (by omega) (u := .int .i64 (x - y)) rfl)
                    rw [HSE.out] at OL1
                    have OL2 := hid (show Own enc1 1 3 (wr.setCell ⟨g, j, none⟩ (.int .i64 (x - y))) w3.heap.size (.slice (some ⟨g, 0, none⟩) M.length cL) (lessTo L m (j + 1)) by simpa using OL1.out)
                    have hsz : (wr.setCell ⟨g, j, none⟩ (.int .i64 (x - y))).heap.size = wr.heap.size := by simp
                    have hqn : (Q ++ N).length ≤ 1000 := by rw [List.length_append]; omega
                    have hbs : w4.heap.size ≤ wr.heap.size := by omega
                    clear OL1
                    go_wp2_with (at_builtin; refine wpList_push len3 one3 rfl (.tmp 72) (.tmp 78) _ rfl Tryz.underlying29 infoNote rfl (by omega) (by omega) rfl hown ((j : Int), n, y) (g := wr.heap.size) (by simp) rfl rfl (by omega) (by simp; omega) ?_)
                    intro v9 w9 o9 g9 h9
                    have hv9 : ∀ g2, v9.ownBlock = some g2 → vj.ownBlock = some g2 ∨ g2 = wr.heap.size + 1 := fun g2 hg => by
                      rcases h9 with h9 | h9
                      · rw [h9] at hg; exact .inl hg
                      · rw [h9] at hg; have h2 : wr.heap.size + 1 = g2 := Option.some.inj hg; exact .inr h2.symm
                    have hX9 := (((HX.out.far (p := ⟨g, j, none⟩) hgx' (.int .i64 (x - y))).alloc (.cells #[.int .i64 (j : Int), .int .i64 n, .int .i64 y] 58)).grown g9 hvx)
                    have x9 : w9.cell? ⟨w4.heap.size + 1, 1, none⟩ = some vj := hX9.cell 1
                    have xf9 : ∀ o, w9.frozen? ⟨w4.heap.size + 1, o, none⟩ = false := hX9.frozen
                    have zx9 : w4.heap.size + 1 < w9.heap.size := hX9.lt
                    have HX9 := hid (show Blk (w9.setCell ⟨w4.heap.size + 1, 1, none⟩ v9) (w4.heap.size + 1) 31 #[.slice (some ⟨g, 0, none⟩) M.length cL, v9] from hX9.set_ 1 v9)
                    have hag : (Value.slice (some ⟨g, 0, none⟩) M.length cL).ownBlock = none ∨ (Value.slice (some ⟨g, 0, none⟩) M.length cL).ownBlock ≠ vj.ownBlock := .inr fun he => hvg he.symm
                    have OL9 := hid (((OL2.out.alloc (.cells #[.int .i64 (j : Int), .int .i64 n, .int .i64 y] 58)).grown g9 hag).far (p := ⟨w4.heap.size + 1, 1, none⟩) (fun he => hgx (Option.some.inj he)) v9)
                    have hv9x : v9.ownBlock ≠ some (w4.heap.size + 1) := fun he => by
                      rcases hv9 _ he with h8 | h8
                      · exact hvx h8.symm
                      · omega
                    have ON9 := hid (o9.far (p := ⟨w4.heap.size + 1, 1, none⟩) hv9x v9)
                    have GN9 := hid (show ∀ g, v9.ownBlock = some g → g = w4.heap.size ∨ w6.heap.size ≤ g from fun g hg => by
                      rcases hv9 g hg with h8 | h8
                      · exact HGN.out g h8
                      · exact .inr (by omega))
                    have GB9 := hid (show ∀ g, v9.ownBlock = some g → g < wo.heap.size ∨ w8.heap.size ≤ g from fun g hg => by
                      rcases hv9 g hg with h8 | h8
                      · exact HGB.out g h8
                      · exact .inr (by omega))
                    have KO9 := hid ((((HKO.out.set (p := ⟨g, j, none⟩) (.inl ⟨hg3, by show g < _; omega⟩) (.int .i64 (x - y))).alloc (.cells #[.int .i64 (j : Int), .int .i64 n, .int .i64 y] 58)).grown g9 (fun g hg => by rcases HGN.out g hg with h8 | h8; exact .inl ⟨by omega, by omega⟩; exact .inr h8)).set (p := ⟨w4.heap.size + 1, 1, none⟩) (.inl ⟨by show _ ≤ w4.heap.size + 1; omega, by show w4.heap.size + 1 < _; omega⟩) v9)
                    have KI9 := hid ((((HKI.out.set (p := ⟨g, j, none⟩) (.inl ⟨Nat.zero_le _, by show g < _; omega⟩) (.int .i64 (x - y))).alloc (.cells #[.int .i64 (j : Int), .int .i64 n, .int .i64 y] 58)).grown g9 (fun g hg => by rcases HGB.out g hg with h8 | h8; exact .inl ⟨Nat.zero_le _, h8⟩; exact .inr h8)).set (p := ⟨w4.heap.size + 1, 1, none⟩) (.inl ⟨Nat.zero_le _, by show w4.heap.size + 1 < _; omega⟩) v9)
                    have W9 := hid ((below_row ((HBW.out.setCell (p := ⟨g, j, none⟩) (by show _ ≤ g; omega) (.int .i64 (x - y))).alloc (by simp; omega) (.cells #[.int .i64 (j : Int), .int .i64 n, .int .i64 y] 58)) HON.out (by omega) (by simp; omega) g9).setCell (p := ⟨w4.heap.size + 1, 1, none⟩) (by show _ ≤ w4.heap.size + 1; omega) v9)
                    obtain ⟨A9, n9, k9, rfl⟩ : ∃ A n c, v9 = Value.slice A n c := by obtain ⟨A', c', h, _⟩ := o9.reads len3; exact ⟨_, _, _, h⟩
                    clear hown g9 h9 hX9 hag hv9 o9 hv9x x0 x1 k0 c1 d4 df xf xm
                    go_wp2
                    go_roundw
                    case rel => exact ⟨j + 1, _, by omega, by go_num, hid HX9.out, hid OL9.out, hid (by rw [HNT.out, HN1.out]; exact ON9.out), hid GN9.out, hid GB9.out, hid KO9.out, hid KI9.out, hid W9.out⟩
                    case measure => simp [intOf]; omega
                · have e1 : decide (0 < y) = false := decide_eq_false hp
                  have e1' : decide (y > 0) = false := decide_eq_false hp
                  have HN1 := hid (show ntK n m j = [] by rw [HNK.out, if_neg hp])
                  have HS1 := hid (HSK.out (by omega))
                  clear hp
                  go_wp2
                  go_roundw
                  case rel => exact ⟨j + 1, vj, by omega, by go_num, hid HX.out, hid (by rw [HS1.out]; exact HOL.out), hid (by rw [HNT.out, HN1.out, List.append_nil]; exact HON.out), hid HGN.out, hid HGB.out, hid HKO.out, hid HKI.out, hid HBW.out⟩
                  case measure => simp [intOf]; omega
              · have hjm : j = m.length := by omega
                have HNX := hid (show rcpL s c T Z cu M (q.take (k + 1)) = (lessL L m, Q ++ notesTo n m m.length) by rw [HSTN.out]; rfl)
                have HFL := hid (show lessTo L m j = lessL L m by rw [hjm, HMC.out, ← HLL.out]; exact lessTo_all)
                subst hjm
                go_wp2
                go_roundw
                case rel => exact ⟨k + 1, vj, by omega, by go_num, hid HX.out, hid (by rw [HNX.out, ← HFL.out]; exact HOL.out), hid (by rw [HNX.out]; exact HON.out), hid HGN.out, hid HKO.out, hid HBW.out⟩
                case measure => simp [intOf]; omega
        · have hkl : k = q.length := by omega
          have HRE := hid (show rcpOf s c cu q = (L, Q) by rw [HRO.out, ← HST.out, hkl, List.take_length])
          have KR := hid (HKO.out.blk K6.out (.inl (by omega)))
          have r0 : wo.cell? ⟨w.heap.size, 0, none⟩ = some (.slice none 0 0) := KR.out.cell 0
          have r1 : wo.cell? ⟨w.heap.size, 1, none⟩ = some (.slice none 0 0) := KR.out.cell 1
          have rf := KR.out.frozen
          have zr := KR.out.lt
          obtain ⟨AN, cN, rfl, _, _⟩ := HON.out.reads len3
          have x0 : wo.cell? ⟨w4.heap.size + 1, 0, none⟩ = some (.slice AL M.length cL) := HX.out.cell 0
          have x1 : wo.cell? ⟨w4.heap.size + 1, 1, none⟩ = some (.slice AN Q.length cN) := HX.out.cell 1
          have zx : w4.heap.size + 1 < wo.heap.size := HX.out.lt
          have hnx : w.heap.size ≠ w4.heap.size + 1 := by omega
          have hnx' : w4.heap.size + 1 ≠ w.heap.size := by omega
          have f1 : (Value.slice AL M.length cL).ownBlock ≠ some w.heap.size := fun he => by have := (HOL.out.lt _ he).1; omega
          have f2 : (Value.slice AN Q.length cN).ownBlock ≠ some w.heap.size := fun he => by have := (HON.out.lt _ he).1; omega
          have S7 := hid (((HOL.out.far (p := ⟨w.heap.size, 0, none⟩) f1 (.slice AL M.length cL)).far (p := ⟨w.heap.size, 1, none⟩) f1 (.slice AN Q.length cN)).less (show w.heap.size ≤ w3.heap.size by omega))
          have L7 := hid (((HON.out.far (p := ⟨w.heap.size, 0, none⟩) f2 (.slice AL M.length cL)).far (p := ⟨w.heap.size, 1, none⟩) f2 (.slice AN Q.length cN)).less (show w.heap.size ≤ w4.heap.size by omega))
          have D7 := hid ((HBW.out.setCell (p := ⟨w.heap.size, 0, none⟩) (Nat.le_refl _) (.slice AL M.length cL)).setCell (p := ⟨w.heap.size, 1, none⟩) (Nat.le_refl _) (.slice AN Q.length cN))
          have HLM := hid (show M.length = L.length by rw [HLL.out, HML.out])
          clear f1 f2 xO
          subst hkl
          go_wp2
          refine bodyPost_ret (v := .tuple #[.agg #[.slice AL M.length cL, .slice AN Q.length cN], .bool true]) (by simp [results, Tryz.results5, go_sem, *]) rfl (.inl ⟨HYES.out, _, rfl, q, AL, AN, cL, cN, HQ.out, by rw [HRE.out, HLM.out], ?_, ?_, D7.out⟩)
          · rw [HRE.out]; show Own _ _ _ _ _ (.slice AL L.length cL) L; rw [← HLM.out]; exact S7.out
          · rw [HRE.out]; exact L7.out

end Go.Proofs.YtkgofklpogdpmaaGreat
