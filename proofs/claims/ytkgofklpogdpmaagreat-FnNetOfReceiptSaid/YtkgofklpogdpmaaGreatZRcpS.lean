/- Contract: the receipt of a cart, as the paper says it. -/
import Derived.Test.YtkgofklpogdpmaaGreatZLessS
import Derived.Test.YtkgofklpogdpmaaGreatZG
import Derived.Test.YtkgofklpogdpmaaGreatZInS
import Derived.Test.YtkgofklpogdpmaaGreatZC
namespace Go.Proofs.YtkgofklpogdpmaaGreat
open Go.RowKit

/-- What is left and what is noted at the end, for rules in an order. -/
def rcpOf (s : List (Int × Int × Int × Int)) (c : List (Int × Int)) (cp : List Int) (o : List ((Int × Int × Int × Int × Int × Int × Int) × (Int × Int) × (Option Addr × Nat × List (Int × Int)) × Int)) : List Int × List (Int × Int × Int) := rcpL s c (tot (g0 (amts s c)) c.length) (cnts s c c.length) cp (amts s c) o
def RcpRes (w : World) (s : List (Int × Int × Int × Int)) (c : List (Int × Int)) (cp : List Int) (l : List ((Int × Int × Int × Int × Int × Int × Int) × (Int × Int) × (Option Addr × Nat × List (Int × Int)) × Int)) (v : Value) (w' : World) : Prop :=
  ∃ (o : List ((Int × Int × Int × Int × Int × Int × Int) × (Int × Int) × (Option Addr × Nat × List (Int × Int)) × Int)) (A1 A2 : Option Addr) (c1 c2 : Nat), OrdList l o ∧ v = .agg #[.slice A1 (rcpOf s c cp o).1.length c1, .slice A2 (rcpOf s c cp o).2.length c2] ∧ Own enc1 1 3 w' w.heap.size (.slice A1 (rcpOf s c cp o).1.length c1) (rcpOf s c cp o).1 ∧ Own enc3 3 58 w' w.heap.size (.slice A2 (rcpOf s c cp o).2.length c2) (rcpOf s c cp o).2 ∧ Below w.heap.size w w'

set_option maxHeartbeats 12800000 in
set_option maxRecDepth 100000 in
theorem receiptS_any (s : List (Int × Int × Int × Int)) (c : List (Int × Int)) (cu : List Int) (l : List ((Int × Int × Int × Int × Int × Int × Int) × (Int × Int) × (Option Addr × Nat × List (Int × Int)) × Int)) (A Ac Al Ar : Option Addr) (cap capc capl capr : Nat) (w : World) (hA : Sl enc4 4 w w.heap.size A s) (hC : Sl enc2 2 w w.heap.size Ac c) (hP : Sl enc1 1 w w.heap.size Al cu) (hR : Sl encR 11 w w.heap.size Ar l) (hS : SpansIn w w.heap.size l) (hs : vShop s = true) (hc : vCart s.length c = true) (hcp : cu.length ≤ 3) (hr : vRules l = true) :
    Calls Tryz.prog 23 #[.slice A s.length cap, .slice Ac c.length capc, .slice Al cu.length capl, .slice Ar l.length capr] w fun e w' => ∃ v, e = .returned v ∧ RcpRes w s c cu l v w' := by
  have HS := hid hs
  have HC := hid hc
  have HR := hid hr
  have hs10 := vShop_len hs
  have hc8 := (vCart_iff.1 hc).2.2
  have hl6 := vRules_len hr
  have HAB := hid (fun k (hk : k < (amts s c).length) => amt_bd hs hc hk)
  have HAL := hid (amts_len s c)
  have HVA := hid (vLeft_amts hs hc)
  have HRO := hid (fun o => show rcpOf s c cu o = rcpL s c (tot (g0 (amts s c)) c.length) (cnts s c c.length) cu (amts s c) o from rfl)
  have K0 := hid (Blk.new w 31 #[.slice none 0 0, .slice none 0 0])
  obtain ⟨w0, hw0⟩ : ∃ x, x = w.alloc (.cells #[.slice none 0 0, .slice none 0 0] 31) := ⟨_, rfl⟩
  rw [← hw0] at K0
  have D0 := hid (show Below w.heap.size w w0 by rw [hw0]; exact (Below.refl _ _).alloc (Nat.le_refl _) _)
  have hz0 : w0.heap.size = w.heap.size + 1 := by rw [hw0]; simp
  have HW := hid hw0
  have zA := hid ((hA.below D0.out (Nat.le_refl _)).more (show w.heap.size ≤ w0.heap.size by omega))
  have zC := hid ((hC.below D0.out (Nat.le_refl _)).more (show w.heap.size ≤ w0.heap.size by omega))
  have zP := hid (hP.below D0.out (Nat.le_refl _))
  have zR := hid (hR.below D0.out (Nat.le_refl _))
  have zS := hid (hS.below D0.out (Nat.le_refl _))
  clear hs hc hr hA hC hP hR hS hw0
  go_enter Tryz.func23, Tryz.ntmps23
  go_wp2_with fail
  rw [← HW.out]
  refine (slineAmounts_any s c A Ac cap capc w0 zA.out zC.out HS.out HC.out).mono ?_
  rintro e w1 ⟨v1, rfl, o1, b1⟩
  obtain ⟨M, hM⟩ : ∃ M, amts s c = M := ⟨_, rfl⟩
  rw [hM] at o1 HAB HAL HVA HRO
  obtain ⟨AM, cM, rfl, _, sM⟩ := o1.reads len1
  have O1 := hid o1
  have B1 := hid b1
  have z1 := b1.size
  have hsum := ssum_any M AM cM w1 sM (by rw [HAL.out]; omega) (fun k hk => by have := HAB.out k hk; omega)
  have hm8 : M.length ≤ 8 := by rw [HAL.out]; exact hc8
  rw [HAL.out] at hsum
  obtain ⟨T, hT⟩ : ∃ T, tot (g0 M) c.length = T := ⟨_, rfl⟩
  rw [hT] at hsum HRO
  have hsum : Calls Tryz.prog 57 #[.slice AM M.length cM] w1 fun e w' => e = .returned (.int .i64 T) ∧ w1 = w' := by rw [HAL.out]; exact hsum
  have A1s := (zA.out.below b1 (Nat.le_refl _)).more z1
  have C1s := (zC.out.below b1 (Nat.le_refl _)).more z1
  clear o1 b1 sM hT hM
  go_wp2_with fail
  refine hsum.mono ?_
  rintro e w' ⟨rfl, rfl⟩
  go_wp2_with fail
  refine (groupCountsS_any s c A Ac cap capc w1 A1s C1s HS.out HC.out).mono ?_
  rintro e w2 ⟨v2, rfl, o2, b2⟩
  have HZ3 := hid (show (cnts s c c.length).length = 3 from rfl)
  obtain ⟨Z, hZ⟩ : ∃ Z, cnts s c c.length = Z := ⟨_, rfl⟩
  rw [hZ] at o2 HZ3 HRO
  obtain ⟨A1, capz, rfl, _, _⟩ := o2.reads len1
  have O2 := hid o2
  have B2 := hid (B1.out.trans (b2.mono z1))
  have z2 := B2.out.size
  have OM2 := hid (O1.out.below b2 (Nat.le_refl _))
  clear o2 b2 hsum A1s C1s B1 O1 hZ
  obtain ⟨w3, hw3⟩ : ∃ x, x = (w2.alloc (.cells #[.int .i64 T, .slice A1 Z.length capz, .slice Al cu.length capl] 42)).alloc (.cells #[] 58) := ⟨_, rfl⟩
  have HW3 := hid hw3
  have hz3 : w3.heap.size = w2.heap.size + 1 + 1 := by rw [hw3]; simp
  have S23 := hid (show Below w2.heap.size w2 w3 by rw [hw3]; exact ((Below.refl _ _).alloc (Nat.le_refl _) _).alloc (by simp) _)
  have KP3 := hid (show Blk w3 w2.heap.size 42 #[.int .i64 T, .slice A1 Z.length capz, .slice Al cu.length capl] by rw [hw3]; exact (Blk.new w2 _ _).alloc _)
  have ON3 := hid (show Own enc3 3 58 w3 (w2.heap.size + 1) (.slice (some ⟨w2.heap.size + 1, 0, none⟩) 0 0) [] by rw [hw3]; exact Own.lit0 enc3 3 58 (w2.alloc (.cells #[.int .i64 T, .slice A1 Z.length capz, .slice Al cu.length capl] 42)) (w2.heap.size + 1) (by simp) (Nat.le_refl _))
  have B3 := hid (B2.out.trans (S23.out.mono z2))
  have HBM := hid (fun x (hv : (Value.slice AM M.length cM).ownBlock = some x) => show x < w2.heap.size from (OM2.out.lt x hv).2)
  have OM3 := hid (OM2.out.below S23.out (Nat.le_refl _))
  have HC3 := hid ((O2.out.sl len1).below S23.out (Nat.le_refl _))
  have R3 := hid ((zR.out.below B3.out (by omega)).more (show w.heap.size ≤ w3.heap.size by omega))
  clear hw3 O2 OM2 B2
  go_wp2_with fail
  rw [← HW3.out]
  refine (inOrder_any l Ar capr w3 R3.out (by omega)).mono ?_
  rintro e w4 ⟨q, Ao, co, rfl, hq, sq, b4, lo4⟩
  have HQ := hid hq
  have hq6 : q.length ≤ 6 := by rw [ord_len hq]; exact hl6
  have HQV := hid (fun k (hk : k < q.length) => ord_valid HR.out hq hk)
  have z4 := b4.size
  have SQ := hid sq
  have LO4 := hid lo4
  have B4 := hid (B3.out.trans (b4.mono (by omega)))
  have OM4 := hid (OM3.out.below b4 (Nat.le_refl _))
  have ON4 := hid (ON3.out.below b4 (Nat.le_refl _))
  have KP4 := hid (KP3.out.below b4 KP3.out.lt)
  have K4 := hid (K0.out.below B4.out K0.out.lt)
  have HC4 := hid (HC3.out.below b4 (by omega))
  have A4 := hid (zA.out.below B4.out (Nat.le_refl _))
  have D4 := hid (zC.out.below B4.out (Nat.le_refl _))
  have P4 := hid (zP.out.below B4.out (by omega))
  have Q4 := hid (ord_spans (zS.out.below B4.out (by omega)) hq)
  have W4 := hid (D0.out.trans (B4.out.mono D0.out.size))
  have LB := hid (rcp_left (T := T) (cs := Z) (cp := cu) HS.out HC.out HVA.out HQV.out)
  have NB := hid (rcp_notes (T := T) (cs := Z) (cp := cu) HS.out HC.out HVA.out HQV.out)
  have STP := hid (fun k (hk : k < q.length) => rcpL_step s c T Z cu M q hk)
  have HST0 := hid (show rcpL s c T Z cu M (q.take 0) = (M, []) from rfl)
  clear hq sq b4 lo4 R3 KP3 ON3 OM3 K0 zR zP zS HC3 B3 S23
  go_wp2_with fail
  go_loopw [9, 11, 13] (fun vl vn i wr => ∃ k : Nat, k ≤ q.length ∧ i = .int .i64 k ∧ Own enc1 1 3 wr w0.heap.size vl (rcpL s c T Z cu M (q.take k)).1 ∧ Own enc3 3 58 wr (w2.heap.size + 1) vn (rcpL s c T Z cu M (q.take k)).2 ∧ Hid (vl.ownBlock = none ∨ vl.ownBlock ≠ vn.ownBlock) ∧ Hid (∀ g, vn.ownBlock = some g → g = w2.heap.size + 1 ∨ w4.heap.size ≤ g) ∧ Hid (KeepBut (w2.heap.size + 1) w4 wr) ∧ Hid (Below w.heap.size w wr)) (fun _ _ i _ => q.length - (intOf i).toNat)
  case atStart => exact ⟨0, Nat.zero_le _, rfl, by rw [HST0.out]; exact OM4.out, by rw [HST0.out]; exact ON4.out, hid (by
    cases hv : (Value.slice AM M.length cM).ownBlock with
    | none => exact .inl rfl
    | some x => exact .inr fun he => by have h1 : x = w2.heap.size + 1 := Option.some.inj he; have h2 := (OM4.out.lt x hv); have := HBM.out x hv; omega), hid (fun g hg => .inl (Option.some.inj hg).symm), hid (KeepBut.refl _ _), hid W4.out⟩
  case round =>
    clear OM4 ON4 W4
    obtain ⟨k, hk, rfl, hol, hon, HAP, HGN, HKE, HBW⟩ := hrel
    have hlv := LB.out k hk
    have hnl := NB.out k hk
    have HSTP := hid (fun h => STP.out k h)
    obtain ⟨⟨L, Q⟩, hst⟩ : ∃ x, rcpL s c T Z cu M (q.take k) = x := ⟨_, rfl⟩
    rw [hst] at hol hon hlv hnl HSTP
    dsimp only at hol hon hlv hnl
    have HLV := hid hlv
    have HST := hid hst
    have HLL := hid (vLeft_len hlv)
    have hll8 : L.length ≤ 8 := by rw [vLeft_len hlv]; exact hc8
    obtain ⟨AL, cL, rfl, _, _⟩ := hol.reads len1
    have HOL := hid hol
    have HON := hid hon
    have hzr : w4.heap.size ≤ wr.heap.size := HKE.out.2
    have KP := hid (HKE.out.blk KP4.out (by omega))
    have p0 : wr.cell? ⟨w2.heap.size, 0, none⟩ = some (.int .i64 T) := KP.out.cell 0
    have p1 : wr.cell? ⟨w2.heap.size, 1, none⟩ = some (.slice A1 Z.length capz) := KP.out.cell 1
    have p2 : wr.cell? ⟨w2.heap.size, 2, none⟩ = some (.slice Al cu.length capl) := KP.out.cell 2
    have zzp : w2.heap.size < wr.heap.size := by omega
    have xO := HKE.out.sl_above SQ.out LO4.out (show w2.heap.size + 1 < w3.heap.size by omega)
    clear hol hst hlv
    by_cases hlt : k < q.length
    · obtain ⟨⟨⟨n, lv, rk, gp, kd, vl, cp⟩, ⟨lo, hi⟩, ⟨a, C, S⟩, cn⟩, hx⟩ : ∃ x, atR q k = x := ⟨_, rfl⟩
      have hget := atR_get hlt
      rw [hx] at hget
      obtain ⟨b, off, rfl, hbb, c0, c1, c2, c3, c4, c5, c6, c7, c8, c9, c10⟩ := xO.getR hget
      have hsp := Q4.out _ (atR_mem hlt)
      rw [hx] at hsp
      obtain ⟨hs1, hs2⟩ := hsp
      have hvr := HQV.out k hlt
      have hvg := vR_guard hvr
      have hvk := vR_kind hvr
      have hef := effR_bd HS.out HC.out HLV.out hvr
      have hstp := HSTP.out hlt
      unfold rcpStep at hstp
      have e1 : hldR T Z cu (atR q k) = hldB T Z cu lo hi S cn := by rw [hx]; rfl
      have e2 : effR s c (atR q k) L = effP s c gp kd vl cp L := by rw [hx]; rfl
      have e3 : numR (atR q k) = n := by rw [hx]; rfl
      dsimp only at hstp
      rw [e1, e2, e3] at hstp
      rw [e2] at hef
      rw [hx] at hvg hvk
      dsimp only at hvg hvk
      have HSTN := hid hstp
      have HEF := hid hef
      have HVK := hid hvk
      have hS3 := (vGuard_iff.1 hvg).2.2.1
      have hS3h := hid hS3
      have yS := hid (show Sl enc2 2 wr.drew wr.drew.heap.size a S from HKE.out.sl hs1 (by omega) (by omega))
      have yC := hid (show Sl enc1 1 wr.drew wr.drew.heap.size A1 Z from HKE.out.sl (HC4.out) (by omega) (by omega))
      have yP := hid (show Sl enc1 1 wr.drew wr.drew.heap.size Al cu from HKE.out.sl P4.out (by omega) (by omega))
      have hbwr : b < wr.heap.size := hbb
      have hkq : (k : Int) < (q.length : Int) := by omega
      obtain ⟨hd, hhd⟩ : ∃ x, hldB T Z cu lo hi S cn = x := ⟨_, rfl⟩
      rw [hhd] at HSTN
      have HHD := hid hhd
      clear hx hget hs1 hvr hvg hvk hef hstp e1 e2 e3 hhd hS3
      go_wp2_with fail
      go_region_held3 (fun x => (∀ o, x.cell? ⟨b, o, none⟩ = wr.cell? ⟨b, o, none⟩) ∧ x.cell? ⟨w2.heap.size, 0, none⟩ = some (.int .i64 T) ∧ x.cell? ⟨w2.heap.size, 1, none⟩ = some (.slice A1 Z.length capz) ∧ x.cell? ⟨w2.heap.size, 2, none⟩ = some (.slice Al cu.length capl)) ((refine ⟨?_, ?_, ?_, ?_⟩ <;> first | (intro o; first | rfl | exact ee o | (simp [go_sem, *]; done)) | assumption | (simp [go_sem, *]; done))) ((go_at_call 60; refine (holds_any lo hi cn a C S T Z cu A1 Al capz capl _ yS.out yC.out yP.out hcp hS3h.out HZ3.out).mono ?_; rintro e w5 ⟨rfl, b5⟩; rw [HHD.out]; have ee : ∀ o, w5.cell? ⟨b, o, none⟩ = wr.cell? ⟨b, o, none⟩ := fun o => b5.cell (p := ⟨b, o, none⟩) hbwr; have m0 : w5.cell? ⟨w2.heap.size, 0, none⟩ = some (.int .i64 T) := (b5.cell (p := ⟨w2.heap.size, 0, none⟩) zzp).trans p0; have m1 : w5.cell? ⟨w2.heap.size, 1, none⟩ = some (.slice A1 Z.length capz) := (b5.cell (p := ⟨w2.heap.size, 1, none⟩) zzp).trans p1; have m2 : w5.cell? ⟨w2.heap.size, 2, none⟩ = some (.slice Al cu.length capl) := (b5.cell (p := ⟨w2.heap.size, 2, none⟩) zzp).trans p2))
      have b5' : Below wr.heap.size wr w5 := ⟨b5.os, b5.tape, b5.output, b5.size, b5.block⟩
      have B5 := hid b5'
      have z5 := B5.out.size
      have KE5 := hid (HKE.out.below B5.out hzr)
      have W5 := hid (HBW.out.trans (B5.out.mono HBW.out.size))
      have OL5 := hid (HOL.out.below B5.out (Nat.le_refl _))
      have ON5 := hid (HON.out.below B5.out (Nat.le_refl _))
      clear b5 b5' ee m0 m1 m2 p0 p1 p2 yS yC yP KP zzp
      cases hd
      · have HNX := hid (show rcpL s c T Z cu M (q.take (k + 1)) = (L, Q) by rw [HSTN.out]; rfl)
        go_wp2
        go_roundw
        case rel => exact ⟨k + 1, by omega, by go_num, by rw [HNX.out]; exact OL5.out, by rw [HNX.out]; exact ON5.out, HAP, HGN, hid KE5.out, hid W5.out⟩
        case measure => simp [intOf]; omega
      · have A5 := KE5.out.sl A4.out (by omega) (by omega)
        have C5 := KE5.out.sl D4.out (by omega) (by omega)
        have L5 := OL5.out.sl len1
        have hcon := effect_any s c L A Ac AL cap capc cL n lv rk gp kd vl cp lo hi cn a C S w5 A5 C5 L5 HS.out HC.out HLV.out HVK.out.1 HVK.out.2
        obtain ⟨m, hm⟩ : ∃ m, effP s c gp kd vl cp L = m := ⟨_, rfl⟩
        rw [hm] at hcon HEF HSTN
        clear hm A5 C5 L5
        go_wp2_with fail
        refine hcon.mono ?_
        rintro e w6 ⟨v6, rfl, o6, b6⟩
        obtain ⟨Am, cm, rfl, _, sm⟩ := o6.reads len1
        have B6 := hid (B5.out.trans (b6.mono z5))
        have z6 := B6.out.size
        have SM6 := hid sm
        have L6 := (OL5.out.below b6 (Nat.le_refl _)).sl len1
        have HMC := hid HEF.out.1
        have hm8 : m.length ≤ 8 := by rw [HMC.out]; exact hc8
        have hbnd : ∀ j, j < L.length → 0 ≤ g0 m j ∧ g0 m j ≤ g0 L j ∧ g0 L j ≤ 100000 := fun j hj => by
          rw [HLL.out] at hj
          have h1 := HEF.out.2 j hj
          have h2 := left_at HS.out HC.out HLV.out hj
          exact ⟨h1.1, h1.2, h2.2⟩
        have hcon2 := less_any L m AL Am cL cm w6 L6 sm (by rw [HMC.out, HLL.out]) hll8 hbnd
        clear hbnd
        clear hcon o6 b6 sm L6
        go_wp2_with fail
        refine hcon2.mono ?_
        rintro e w7 ⟨v7, rfl, o7, b7⟩
        have B7 := hid (B6.out.trans (b7.mono z6))
        have z7 := B7.out.size
        have SM7 := (SM6.out.below b7 (Nat.le_refl _)).more b7.size
        have O7 := hid o7
        have hz67 := b7.size
        have d0 : w7.cell? ⟨b, off + k * 11, none⟩ = some (.int .i64 n) := (B7.out.cell hbwr).trans c0
        have d1 : w7.cell? ⟨b, off + k * 11 + 1, none⟩ = some (.int .i64 lv) := (B7.out.cell hbwr).trans c1
        have d2 : w7.cell? ⟨b, off + k * 11 + 2, none⟩ = some (.int .i64 rk) := (B7.out.cell hbwr).trans c2
        have d3 : w7.cell? ⟨b, off + k * 11 + 3, none⟩ = some (.int .i64 gp) := (B7.out.cell hbwr).trans c3
        have d4 : w7.cell? ⟨b, off + k * 11 + 4, none⟩ = some (.int .i64 kd) := (B7.out.cell hbwr).trans c4
        have d5 : w7.cell? ⟨b, off + k * 11 + 5, none⟩ = some (.int .i64 vl) := (B7.out.cell hbwr).trans c5
        have d6 : w7.cell? ⟨b, off + k * 11 + 6, none⟩ = some (.int .i64 cp) := (B7.out.cell hbwr).trans c6
        have d7 : w7.cell? ⟨b, off + k * 11 + 7, none⟩ = some (.int .i64 lo) := (B7.out.cell hbwr).trans c7
        have d8 : w7.cell? ⟨b, off + k * 11 + 8, none⟩ = some (.int .i64 hi) := (B7.out.cell hbwr).trans c8
        have d9 : w7.cell? ⟨b, off + k * 11 + 9, none⟩ = some (.slice a S.length C) := (B7.out.cell hbwr).trans c9
        have d10 : w7.cell? ⟨b, off + k * 11 + 10, none⟩ = some (.int .i64 cn) := (B7.out.cell hbwr).trans c10
        have hbw7 : b < w7.heap.size := by omega
        have hcon3 := notesOf_any n lv rk gp kd vl cp lo hi cn a C S m Am cm w7 SM7 hm8
        have hql := notesTo_len n m m.length
        obtain ⟨QQ, hQQ⟩ : ∃ QQ, notesTo n m m.length = QQ := ⟨_, rfl⟩
        rw [hQQ] at hcon3 hql HSTN
        clear hcon2 o7 b7 SM7 hQQ
        go_wp2_with fail
        refine hcon3.mono ?_
        rintro e w8 ⟨v8, rfl, o8, b8⟩
        obtain ⟨AQ, cQ, rfl, _, sQ⟩ := o8.reads len3
        have B8 := hid (B7.out.trans (b8.mono z7))
        have z8 := B8.out.size
        have ON8 := HON.out.below B8.out (Nat.le_refl _)
        have O78 := hid (O7.out.below b8 (Nat.le_refl _))
        have hz78 := b8.size
        clear hcon3 o8 b8 d0 d1 d2 d3 d4 d5 d6 d7 d8 d9 d10
        go_wp2_with (at_builtin; refine wpList_pushAnyB len3 one3 rfl (.tmp 52) (.tmp 58) _ rfl Tryz.underlying29 infoNote rfl (by omega) (by omega) rfl ON8 (m := QQ) rfl rfl sQ (by omega) (by omega) ?_)
        intro v9 w9 o9 g9 h9
        have hu : ∀ x, u11.ownBlock = some x → x < wr.heap.size := fun x hx => (HON.out.lt x hx).2
        have KE9 := hid ((HKE.out.below B8.out hzr).grown g9 (fun x hx => HGN.out x hx))
        have hap : v7.ownBlock = none ∨ v7.ownBlock ≠ u11.ownBlock := by
          cases hv : v7.ownBlock with
          | none => exact .inl rfl
          | some x => exact .inr fun he => by have h1 := (O7.out.lt x hv).1; have h2 := hu x he.symm; omega
        have OL9 := hid (O78.out.grown g9 hap)
        have HAP9 := hid (show v7.ownBlock = none ∨ v7.ownBlock ≠ v9.ownBlock by
          rcases h9 with h9 | h9
          · rw [h9]; exact hap
          · rw [h9]
            cases hv : v7.ownBlock with
            | none => exact .inl rfl
            | some x => exact .inr fun he => by have h1 := (O7.out.lt x hv).2; have h2 := Option.some.inj he; omega)
        have HGN9 := hid (show ∀ g, v9.ownBlock = some g → g = w2.heap.size + 1 ∨ w4.heap.size ≤ g from fun g hg => by
          rcases h9 with h9 | h9
          · rw [h9] at hg; exact HGN.out g hg
          · rw [h9] at hg; have h2 := Option.some.inj hg; exact .inr (by omega))
        have W9 := hid (below_row (HBW.out.trans (B8.out.mono HBW.out.size)) HON.out (by omega) (by omega) g9)
        have HNX := hid (show rcpL s c T Z cu M (q.take (k + 1)) = (lessL L m, Q ++ QQ) by rw [HSTN.out]; rfl)
        have O99 := hid o9
        clear g9 h9 ON8 sQ hap hu o9
        go_wp2
        go_roundw
        case rel => exact ⟨k + 1, by omega, by go_num, by rw [HNX.out]; exact OL9.out.less (by omega), by rw [HNX.out]; exact O99.out, hid HAP9.out, hid HGN9.out, hid KE9.out, hid W9.out⟩
        case measure => simp [intOf]; omega
    · have hkl : k = q.length := by omega
      have HRE := hid (show rcpOf s c cu q = (L, Q) by rw [HRO.out, ← HST.out, hkl, List.take_length])
      have KR := hid (HKE.out.blk K4.out (by omega))
      have r0 : wr.cell? ⟨w.heap.size, 0, none⟩ = some (.slice none 0 0) := KR.out.cell 0
      have r1 : wr.cell? ⟨w.heap.size, 1, none⟩ = some (.slice none 0 0) := KR.out.cell 1
      have rf := KR.out.frozen
      have zr := KR.out.lt
      obtain ⟨AN, cN, rfl, _, _⟩ := HON.out.reads len3
      have f1 : (Value.slice AL L.length cL).ownBlock ≠ some w.heap.size := fun he => by have := (HOL.out.lt _ he).1; omega
      have f2 : (Value.slice AN Q.length cN).ownBlock ≠ some w.heap.size := fun he => by have := (HON.out.lt _ he).1; omega
      have S7 := hid (((HOL.out.far (p := ⟨w.heap.size, 0, none⟩) f1 (.slice AL L.length cL)).far (p := ⟨w.heap.size, 1, none⟩) f1 (.slice AN Q.length cN)).less (show w.heap.size ≤ w0.heap.size by omega))
      have L7 := hid (((HON.out.far (p := ⟨w.heap.size, 0, none⟩) f2 (.slice AL L.length cL)).far (p := ⟨w.heap.size, 1, none⟩) f2 (.slice AN Q.length cN)).less (show w.heap.size ≤ w2.heap.size + 1 by omega))
      have D7 := hid ((HBW.out.setCell (p := ⟨w.heap.size, 0, none⟩) (Nat.le_refl _) (.slice AL L.length cL)).setCell (p := ⟨w.heap.size, 1, none⟩) (Nat.le_refl _) (.slice AN Q.length cN))
      clear f1 f2 p0 p1 p2 KP zzp xO
      subst hkl
      go_wp2
      refine bodyPost_ret (v := .agg #[.slice AL L.length cL, .slice AN Q.length cN]) (by simp [results, Tryz.results23, go_sem, *]) rfl ⟨_, rfl, q, AL, AN, cL, cN, HQ.out, by rw [HRE.out], ?_, ?_, D7.out⟩
      · rw [HRE.out]; exact S7.out
      · rw [HRE.out]; exact L7.out

end Go.Proofs.YtkgofklpogdpmaaGreat
