/- Contract: the change for an amount, as the reference reckons it. -/
import Derived.Test.YtcjcolkhhmpmjaaChangeI
import Derived.Test.YtcjcolkhhmpmjaaChangeF
namespace Go.Proofs.Ytcjcolkhhmpmjaa
open Go.RowKit

def STraceRel (wk : World) (B : Nat) (l : List (Int × Int)) (a g : Nat) (i av : Value) (wr : World) : Prop :=
  ∃ (j c : Nat) (kk : Int) (S : List Int), i = .int .i64 kk ∧ kk + 1 = j ∧ j ≤ l.length ∧ av = .int .i64 (c : Int) ∧ c ≤ a ∧ fewK l j c < noneC ∧ S.length + j = l.length ∧
    chK l j c ++ S = chg l a ∧ Own enc1 1 3 wr B (.slice (some ⟨g, 0, none⟩) l.length l.length) (List.replicate j 0 ++ S) ∧ Below B wk wr
theorem min_pos {a b : Int} (h : a ≤ b) : min a b = a := Int.min_eq_left h

set_option maxHeartbeats 6400000 in
set_option maxRecDepth 100000 in
theorem specChangeFor_any (l : List (Int × Int)) (A : Option Addr) (cap : Nat) (am : Int) (w : World) (h : Sl enc2 2 w w.heap.size A l) (hl : l.length ≤ 1048576) :
    Calls Try.prog 25 #[.slice A l.length cap, .int .i64 am] w (ChangePost w l am) := by
  by_cases hv : vTill l = true
  · by_cases hw : withinB am 0 300 = true
    · have HV := hid (vTill_iff.1 hv)
      have HVV := hid hv
      obtain ⟨a1, a2⟩ := withinB_true.1 hw
      obtain ⟨a, rfl⟩ := Int.eq_ofNat_of_zero_le a1
      have hl5 := HV.out.2.2
      have ha3 : a ≤ 300 := by omega
      have HWW := hid hw
      clear hv hw a1 a2
      obtain ⟨m, hm⟩ : ∃ m, a + 1 = m := ⟨_, rfl⟩
      have hm301 : m ≤ 301 := by omega
      have ham : a < m := by omega
      have HM := hid hm
      clear hm
      go_enter Try.func25, Try.ntmps25
      go_wp2_with fail
      refine (svalidTill_any l A cap _ h (by omega)).mono ?_
      rintro e w1 ⟨rfl, b1⟩
      rw [HVV.out]
      have h1 := (h.below b1 (Nat.le_refl _)).more b1.size
      go_wp2_with (go_at_call 45; refine (inRange_yes HWW.out _).mono ?_; rintro e w' ⟨rfl, rfl⟩)
      refine (fewest_any l A cap a _ h1 HV.out ha3).mono ?_
      rintro e w2 ⟨v, rows, rfl, hrl, hT, b2⟩
      rw [HM.out] at hT
      have HRL := hid hrl
      have hT := (show Tab w2 w.heap.size m v rows (rowS l m) from ⟨hT.1.less b1.size, hT.2⟩)
      have D2 := b1.trans (b2.mono b1.size)
      have hsz := D2.size
      have HB := hid D2
      clear hrl b1 b2 h1 D2
      obtain ⟨gv, cv, rfl, hgv1, hgv2⟩ := hT.form (by have := HRL.out; omega)
      obtain ⟨r1, r2, r3, r4⟩ := hT.read (j := l.length) rfl (by have := HRL.out; omega)
      have r5 := r2 a ham
      rw [rowS_at ham, fewK_all] at r5
      have hkr : (l.length : Int) < (rows.length : Int) := by have := HRL.out; omega
      obtain ⟨G, hG⟩ : ∃ x, rowG rows l.length = x := ⟨_, rfl⟩
      rw [hG] at r1 r3 r5
      obtain ⟨Q, hQ⟩ : ∃ x, few l.reverse (a : Int) = x := ⟨_, rfl⟩
      have hQ0 := few_nonneg l.reverse (a : Int)
      rw [hQ] at r5 hQ0
      have HQ := hid hQ
      clear r2 hG hQ
      by_cases hQn : Q < noneC
      · have HK := hid (show okC l (a : Int) = true from okC_true.2 ⟨HV.out, withinB_true.1 HWW.out, by rw [HQ.out]; exact hQn⟩)
        have HCL := hid (show chgL l (a : Int) = chg l (a : Int) by rw [chgL, HK.out, if_pos rfl])
        rw [conv_lt hQn] at r5
        have HQN := hid hQn
        clear hQn
        go_wp2_with (at_make; refine wpList_makeL len1 (by omega) rfl (.tmp 34) (.tmp 34) _ rfl Try.underlying35 intInfo (by omega) (y := 0) rfl (base := w2.heap.size) (n := l.length) rfl rfl (by omega) (Nat.le_refl _) ?_)
        intro w5 ho5 hg5
        have B5 := only_below hg5
        have hbest0 : fewK l l.length (a : Int) < noneC := by rw [fewK_all, HQ.out]; exact HQN.out
        clear hg5 r1 r5
        go_wp2_with fail
        go_loopw [9, 8] (fun i av wr' => STraceRel w2 w2.heap.size l a w2.heap.size i av wr') (fun i _ _ => (intOf i + 1).toNat)
        case atStart => exact ⟨l.length, a, _, [], rfl, by omega, Nat.le_refl _, rfl, Nat.le_refl _, hbest0, by simp, by rw [chK_all]; simp, by simpa using ho5, B5⟩
        case round =>
          clear ho5 B5 hbest0
          obtain ⟨j, c, kk, S, rfl, hkk, hj, rfl, hca, hbn, hSl, hch, ho, hb⟩ := hrel
          have hlS : l.length = (List.replicate j 0 ++ S).length := by rw [List.length_append, List.length_replicate]; omega
          have HLS := hid hlS
          have HSL := hid hSl
          have HCH := hid hch
          have hzr := hb.size
          have hgr := (ho.lt w2.heap.size rfl).2
          clear hlS hSl hch
          by_cases hj0 : j = 0
          · subst hj0
            obtain rfl : kk = -1 := by omega
            have HS := hid (show List.replicate 0 0 ++ S = chg l (a : Int) by rw [← HCH.out, chK_zero]; rfl)
            have O9 := hid (ho.less hsz)
            have D9 := hid (HB.out.trans (hb.mono hsz))
            clear ho hb hkk
            go_wp2
            go_ret2
            refine ⟨.slice (some ⟨w2.heap.size, 0, none⟩) l.length l.length, by rw [HK.out]; rfl, ?_, D9.out⟩
            rw [HCL.out, ← HS.out]
            exact O9.out
          · obtain ⟨j', rfl⟩ : ∃ j', j = j' + 1 := ⟨j - 1, by omega⟩
            obtain rfl : kk = (j' : Int) := by omega
            have hjl : j' < l.length := by omega
            have hjl' : (j' : Int) < (l.length : Int) := by omega
            obtain ⟨p1, p2, p3⟩ := pickK_fit (n := (c : Int)) HV.out hjl (by omega) hbn
            have pmx := fun t (h1 : pickK l j' (c : Int) < t) h2 => pickK_max (l := l) (k := j') (n := (c : Int)) (t := t) h1 h2
            have hcs := chK_succ (n := (c : Int)) hjl
            have hb0 := @fewK_nonneg l (j' + 1) (c : Int)
            have hcm : c < m := by omega
            have hcm' : (c : Int) < (m : Int) := by omega
            have hTz := hT.below hb (Nat.le_refl _)
            obtain ⟨q1, q2, q3, q4⟩ := hTz.read (j := j' + 1) rfl (by have := HRL.out; omega)
            have q5 := q2 c hcm
            rw [rowS_at hcm, conv_lt hbn] at q5
            obtain ⟨best, hbe⟩ : ∃ x, fewK l (j' + 1) (c : Int) = x := ⟨_, rfl⟩
            rw [hbe] at p3 hbn hb0 q5
            simp only [hbe] at pmx
            have HBE := hid hbe
            obtain ⟨pk, hpk⟩ : ∃ x, pickK l j' (c : Int) = x := ⟨_, rfl⟩
            rw [hpk] at p1 p2 p3 hcs
            simp only [hpk] at pmx
            have DW := HB.out.trans (hb.mono hsz)
            obtain ⟨b, off, rfl, hbb, x1, x2⟩ := h.get2 hjl
            have hbd := HV.out.bd hjl
            obtain ⟨X, hX⟩ : ∃ x, g1 l j' = x := ⟨_, rfl⟩
            obtain ⟨Y, hY⟩ : ∃ x, g2 l j' = x := ⟨_, rfl⟩
            rw [hX] at x1 hbd p2 p3 hcs
            rw [hY] at x2 hbd p1
            simp only [hX, hY] at pmx
            obtain ⟨⟨hX1, hX2⟩, hY1, hY2⟩ := hbd
            have d1 : wr.cell? ⟨b, off + j' * 2, none⟩ = some (.int .i64 X) := (DW.cell hbb).trans x1
            have d2 : wr.cell? ⟨b, off + j' * 2 + 1, none⟩ = some (.int .i64 Y) := (DW.cell hbb).trans x2
            have HD1 := hid d1
            have HP3 := hid p3
            have HPM := hid pmx
            have HCS := hid hcs
            have hbw : b < wr.heap.size := by have := DW.size; omega
            obtain ⟨G, hG⟩ : ∃ x, rowG rows (j' + 1) = x := ⟨_, rfl⟩
            rw [hG] at q1 q3 q5
            have hjr1 : ((j' : Int) + 1) < (rows.length : Int) := by have := HRL.out; omega
            have hbn2 : best < 1073741824 := hbn
            have hdiv0 : 0 ≤ (c : Int) / X := Int.ediv_nonneg (by omega) (by omega)
            have hdivc : (c : Int) / X ≤ c := Int.ediv_le_self _ (by omega)
            have hpd : (pk : Int) ≤ (c : Int) / X := (Int.le_ediv_iff_mul_le (by omega)).2 p2
            obtain ⟨dv, hdv⟩ : ∃ dv : Nat, (c : Int) / X = dv := ⟨((c : Int) / X).toNat, by omega⟩
            have HDV := hid hdv
            rw [hdv] at hdiv0 hdivc hpd
            clear x1 x2 hX hY p3 pmx hcs hpk q2 hG hbe
            have hmin : ∃ t0 : Nat, pk ≤ t0 ∧ (t0 : Int) ≤ Y ∧ t0 ≤ dv ∧ ((Y ≤ (dv : Int) ∧ Y = (t0 : Int)) ∨ (¬ Y ≤ (dv : Int) ∧ (dv : Int) = (t0 : Int))) := by
              by_cases hyd : Y ≤ (dv : Int)
              · exact ⟨Y.toNat, by omega, by omega, by omega, .inl ⟨hyd, by omega⟩⟩
              · exact ⟨dv, by omega, by omega, by omega, .inr ⟨hyd, rfl⟩⟩
            obtain ⟨t0, ht01, ht02, ht03, hmc⟩ := hmin
            have hkj : (j' : Int) + 1 = ((j' + 1 : Nat) : Int) := by omega
            have hx1 : (0 : Int) ≤ (j' : Int) + 1 := by omega
            have hx2 : ((j' : Int) + 1).toNat = j' + 1 := by omega
            clear hkj hkk
            rcases hmc with ⟨hm1, rfl⟩ | ⟨hm1, hm2⟩
            · skip
              go_wp2_with fail
              go_quiet (fail)
              go_wp2_with fail
              go_loopw [11] (fun i wz => ∃ t : Nat, i = .int .i64 t ∧ pk ≤ t ∧ t ≤ t0 ∧ Below wr.heap.size wr wz) (fun i _ => (intOf i).toNat)
              case atStart => exact ⟨t0, rfl, ht01, Nat.le_refl _, below_drewN (Below.refl _ _) nq⟩
              case round =>
                obtain ⟨t, rfl, ht1, ht2, hbz⟩ := hrel
                have TZ := hTz.below hbz (Nat.le_refl _)
                have OZ := ho.below hbz (Nat.le_refl _)
                have DZ := hb.trans (hbz.mono hzr)
                have hgz := (OZ.lt w2.heap.size rfl).2
                have d1z := (hbz.cell (p := ⟨b, off + j' * 2, none⟩) hbw).trans HD1.out
                have hbwz : b < wr.heap.size := by have := hbz.size; omega
                have hbg : b ≠ w2.heap.size := by have := HB.out.size; omega
                have hq1 : 0 ≤ (t : Int) * X := Int.mul_nonneg (by omega) (by omega)
                have hq2 : (t : Int) * X ≤ (c : Int) := by
                  refine (Int.le_ediv_iff_mul_le (by omega)).1 ?_
                  rw [HDV.out]; omega
                obtain ⟨P, hP⟩ : ∃ x, (t : Int) * X = x := ⟨_, rfl⟩
                rw [hP] at hq1 hq2
                have w1' : IntKind.i64.wrap ((t : Int) * X) = P := by rw [IntWalk.i64_in _ (by omega)]; exact hP
                obtain ⟨i, hi⟩ : ∃ i : Nat, (c : Int) - P = i := ⟨((c : Int) - P).toNat, by omega⟩
                have him : i < m := by have := HM.out; omega
                have him' : (i : Int) < (m : Int) := by omega
                obtain ⟨r1, r2, r3, r4⟩ := TZ.read (j := j') rfl (by have := HRL.out; omega)
                have r5 := r2 i him
                rw [rowS_at him] at r5
                obtain ⟨F, hF⟩ : ∃ x, fewK l j' (i : Int) = x := ⟨_, rfl⟩
                have hF0 := @fewK_nonneg l j' (i : Int)
                have hF1 := @fewK_none l j' (i : Int)
                rw [hF] at r5 hF0 hF1
                obtain ⟨G2, hG2⟩ : ∃ x, rowG rows j' = x := ⟨_, rfl⟩
                rw [hG2] at r1 r3 r5
                have hjr : (j' : Int) < (rows.length : Int) := by omega
                have w2' : IntKind.i64.wrap ((c : Int) - P) = (i : Int) := by rw [IntWalk.i64_in _ (by omega)]; exact hi
                have HF := hid hF
                have HI := hid hi
                have HPX := hid hP
                have hmx0 := fun h1 : pk < t => HPM.out t h1 (by omega)
                rw [HPX.out] at hmx0
                have hmx1 := fun h1 => hmx0 h1 hq2
                rw [HI.out, HF.out] at hmx1
                have HMX := hid hmx1
                have hjl2 : (j' : Int) < (l.length : Int) := hjl'
                clear r2 hF hG2 hi hP hmx0 hmx1
                by_cases htp : t = pk
                · subst htp
                  have hTF : (t : Int) + F = best := by
                    have := HP3.out
                    rw [HPX.out, HI.out, HF.out] at this
                    exact this
                  have hFn : F < noneC := by omega
                  rw [conv_lt hFn] at r5
                  have e1 : (F == best - (t : Int)) = true := by rw [beq_iff_eq]; omega
                  have HTF := hid hTF
                  have hF2 : F < 1073741824 := hFn
                  have hFnn := hid hFn
                  have e9 := OZ.cell len1 HLS.out rep_get (j := 0) rfl
                  have f9 := OZ.frozen HLS.out
                  have o9 := OZ.store len1 HLS.out rep_get (j := 0) (a' := (t : Int)) (by omega) (u := .int .i64 (t : Int)) rfl
                  rw [rep_set] at o9
                  simp only [Nat.mul_one, Nat.add_zero] at e9 o9
                  have O9 := hid o9
                  have D9 := hid (DZ.setCell (p := ⟨w2.heap.size, j', none⟩) (Nat.le_refl _) (.int .i64 (t : Int)))
                  have hct : chK l j' (i : Int) ++ (t : Int) :: S = chg l (a : Int) := by
                    rw [← HCH.out, HCS.out, HPX.out, HI.out, List.append_assoc]; rfl
                  have HCT := hid hct
                  have hSl2 : ((t : Int) :: S).length + j' = l.length := by have := HSL.out; rw [List.length_cons]; omega
                  clear hTF hFn o9 hct OZ hbz
                  go_wp2_with fail
                  go_quiet (fail)
                  go_wp2_with fail
                  go_quiet (fail)
                  clear w1' w2'
                  go_wp2
                  go_roundw
                  case rel => exact ⟨j', i, (j' : Int) - 1, (t : Int) :: S, rfl, by omega, by omega, rfl, by have := HI.out; omega, by rw [HF.out]; exact hFnn.out, hSl2, HCT.out, (O9.out.drewN _).drewN _, below_drewN (below_drewN D9.out _) _⟩
                  case measure => simp [intOf] <;> omega
                · have hmx2 := HMX.out (by omega)
                  by_cases hFn : F < noneC
                  · rw [conv_lt hFn] at r5
                    have e1 : (F == best - (t : Int)) = false := by rw [beq_eq_false_iff_ne]; omega
                    have hF2 : F < 1073741824 := hFn
                    clear hmx2 hFn
                    go_wp2_with fail
                    go_quiet (fail)
                    clear w1' w2'
                    go_wp2
                    go_roundw
                    case rel => exact ⟨t - 1, by congr 1; omega, by omega, by omega, below_drewN hbz _⟩
                    case measure => simp [intOf]; omega
                  · rw [conv_ge hFn] at r5
                    clear hmx2 hFn
                    go_wp2_with fail
                    go_quiet (fail)
                    clear w1' w2'
                    go_wp2
                    go_roundw
                    case rel => exact ⟨t - 1, by congr 1; omega, by omega, by omega, below_drewN hbz _⟩
                    case measure => simp [intOf]; omega
            · obtain rfl : t0 = dv := by omega
              go_wp2_with fail
              go_quiet (fail)
              go_wp2_with fail
              go_loopw [11] (fun i wz => ∃ t : Nat, i = .int .i64 t ∧ pk ≤ t ∧ t ≤ t0 ∧ Below wr.heap.size wr wz) (fun i _ => (intOf i).toNat)
              case atStart => exact ⟨t0, rfl, ht01, Nat.le_refl _, below_drewN (Below.refl _ _) nq⟩
              case round =>
                obtain ⟨t, rfl, ht1, ht2, hbz⟩ := hrel
                have TZ := hTz.below hbz (Nat.le_refl _)
                have OZ := ho.below hbz (Nat.le_refl _)
                have DZ := hb.trans (hbz.mono hzr)
                have hgz := (OZ.lt w2.heap.size rfl).2
                have d1z := (hbz.cell (p := ⟨b, off + j' * 2, none⟩) hbw).trans HD1.out
                have hbwz : b < wr.heap.size := by have := hbz.size; omega
                have hbg : b ≠ w2.heap.size := by have := HB.out.size; omega
                have hq1 : 0 ≤ (t : Int) * X := Int.mul_nonneg (by omega) (by omega)
                have hq2 : (t : Int) * X ≤ (c : Int) := by
                  refine (Int.le_ediv_iff_mul_le (by omega)).1 ?_
                  rw [HDV.out]; omega
                obtain ⟨P, hP⟩ : ∃ x, (t : Int) * X = x := ⟨_, rfl⟩
                rw [hP] at hq1 hq2
                have w1' : IntKind.i64.wrap ((t : Int) * X) = P := by rw [IntWalk.i64_in _ (by omega)]; exact hP
                obtain ⟨i, hi⟩ : ∃ i : Nat, (c : Int) - P = i := ⟨((c : Int) - P).toNat, by omega⟩
                have him : i < m := by have := HM.out; omega
                have him' : (i : Int) < (m : Int) := by omega
                obtain ⟨r1, r2, r3, r4⟩ := TZ.read (j := j') rfl (by have := HRL.out; omega)
                have r5 := r2 i him
                rw [rowS_at him] at r5
                obtain ⟨F, hF⟩ : ∃ x, fewK l j' (i : Int) = x := ⟨_, rfl⟩
                have hF0 := @fewK_nonneg l j' (i : Int)
                have hF1 := @fewK_none l j' (i : Int)
                rw [hF] at r5 hF0 hF1
                obtain ⟨G2, hG2⟩ : ∃ x, rowG rows j' = x := ⟨_, rfl⟩
                rw [hG2] at r1 r3 r5
                have hjr : (j' : Int) < (rows.length : Int) := by omega
                have w2' : IntKind.i64.wrap ((c : Int) - P) = (i : Int) := by rw [IntWalk.i64_in _ (by omega)]; exact hi
                have HF := hid hF
                have HI := hid hi
                have HPX := hid hP
                have hmx0 := fun h1 : pk < t => HPM.out t h1 (by omega)
                rw [HPX.out] at hmx0
                have hmx1 := fun h1 => hmx0 h1 hq2
                rw [HI.out, HF.out] at hmx1
                have HMX := hid hmx1
                have hjl2 : (j' : Int) < (l.length : Int) := hjl'
                clear r2 hF hG2 hi hP hmx0 hmx1
                by_cases htp : t = pk
                · subst htp
                  have hTF : (t : Int) + F = best := by
                    have := HP3.out
                    rw [HPX.out, HI.out, HF.out] at this
                    exact this
                  have hFn : F < noneC := by omega
                  rw [conv_lt hFn] at r5
                  have e1 : (F == best - (t : Int)) = true := by rw [beq_iff_eq]; omega
                  have HTF := hid hTF
                  have hF2 : F < 1073741824 := hFn
                  have hFnn := hid hFn
                  have e9 := OZ.cell len1 HLS.out rep_get (j := 0) rfl
                  have f9 := OZ.frozen HLS.out
                  have o9 := OZ.store len1 HLS.out rep_get (j := 0) (a' := (t : Int)) (by omega) (u := .int .i64 (t : Int)) rfl
                  rw [rep_set] at o9
                  simp only [Nat.mul_one, Nat.add_zero] at e9 o9
                  have O9 := hid o9
                  have D9 := hid (DZ.setCell (p := ⟨w2.heap.size, j', none⟩) (Nat.le_refl _) (.int .i64 (t : Int)))
                  have hct : chK l j' (i : Int) ++ (t : Int) :: S = chg l (a : Int) := by
                    rw [← HCH.out, HCS.out, HPX.out, HI.out, List.append_assoc]; rfl
                  have HCT := hid hct
                  have hSl2 : ((t : Int) :: S).length + j' = l.length := by have := HSL.out; rw [List.length_cons]; omega
                  clear hTF hFn o9 hct OZ hbz
                  go_wp2_with fail
                  go_quiet (fail)
                  go_wp2_with fail
                  go_quiet (fail)
                  clear w1' w2'
                  go_wp2
                  go_roundw
                  case rel => exact ⟨j', i, (j' : Int) - 1, (t : Int) :: S, rfl, by omega, by omega, rfl, by have := HI.out; omega, by rw [HF.out]; exact hFnn.out, hSl2, HCT.out, (O9.out.drewN _).drewN _, below_drewN (below_drewN D9.out _) _⟩
                  case measure => simp [intOf] <;> omega
                · have hmx2 := HMX.out (by omega)
                  by_cases hFn : F < noneC
                  · rw [conv_lt hFn] at r5
                    have e1 : (F == best - (t : Int)) = false := by rw [beq_eq_false_iff_ne]; omega
                    have hF2 : F < 1073741824 := hFn
                    clear hmx2 hFn
                    go_wp2_with fail
                    go_quiet (fail)
                    clear w1' w2'
                    go_wp2
                    go_roundw
                    case rel => exact ⟨t - 1, by congr 1; omega, by omega, by omega, below_drewN hbz _⟩
                    case measure => simp [intOf]; omega
                  · rw [conv_ge hFn] at r5
                    clear hmx2 hFn
                    go_wp2_with fail
                    go_quiet (fail)
                    clear w1' w2'
                    go_wp2
                    go_roundw
                    case rel => exact ⟨t - 1, by congr 1; omega, by omega, by omega, below_drewN hbz _⟩
                    case measure => simp [intOf]; omega
      · have HK := hid (show okC l (a : Int) = false by
          cases hk : okC l (a : Int)
          · rfl
          · have := (okC_true.1 hk).2.2
            rw [HQ.out] at this
            exact absurd this hQn)
        rw [conv_ge hQn] at r5
        clear hQn
        go_wp2
        go_ret2
        refine ⟨.slice none 0 0, by rw [HK.out]; rfl, ?_, HB.out⟩
        rw [chgL_no HK.out]
        exact Own.nil_ ..
    · have hw' : withinB am 0 300 = false := by simpa using hw
      have HVV := hid hv
      have HK := hid (okC_no2 (l := l) hw')
      have hl5 := (vTill_iff.1 hv).2.2
      clear hv hw
      go_enter Try.func25, Try.ntmps25
      go_wp2_with fail
      refine (svalidTill_any l A cap _ h (by omega)).mono ?_
      rintro e w1 ⟨rfl, b1⟩
      rw [HVV.out]
      have B1 := hid b1
      clear b1
      go_wp2_with (go_at_call 45; refine (inRange_no hw' _).mono ?_; rintro e w' ⟨rfl, rfl⟩)
      go_ret2
      refine ⟨.slice none 0 0, by rw [HK.out]; rfl, ?_, B1.out⟩
      rw [chgL_no HK.out]
      exact Own.nil_ ..
  · have hv' : vTill l = false := by simpa using hv
    have HVV := hid hv'
    have HK := hid (okC_no1 (n := am) hv')
    clear hv hv'
    go_enter Try.func25, Try.ntmps25
    go_wp2_with fail
    refine (svalidTill_any l A cap _ h (by omega)).mono ?_
    rintro e w1 ⟨rfl, b1⟩
    rw [HVV.out]
    have B1 := hid b1
    clear b1
    go_wp2
    go_ret2
    refine ⟨.slice none 0 0, by rw [HK.out]; rfl, ?_, B1.out⟩
    rw [chgL_no HK.out]
    exact Own.nil_ ..

end Go.Proofs.Ytcjcolkhhmpmjaa
