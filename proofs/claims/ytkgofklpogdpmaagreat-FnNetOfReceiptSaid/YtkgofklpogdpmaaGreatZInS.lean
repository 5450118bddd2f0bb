/- Contract: rules in order, as the paper says it: insertion, walked. -/
import Derived.Test.YtkgofklpogdpmaaGreatZInP
namespace Go.Proofs.YtkgofklpogdpmaaGreat
open Go.RowKit

set_option maxHeartbeats 6400000 in
set_option maxRecDepth 100000 in
theorem inOrder_any (l : List ((Int × Int × Int × Int × Int × Int × Int) × (Int × Int) × (Option Addr × Nat × List (Int × Int)) × Int)) (A : Option Addr) (cap : Nat) (w : World) (hL : Sl encR 11 w w.heap.size A l) (hl : l.length ≤ 1000) :
    Calls Tryz.prog 59 #[.slice A l.length cap] w (OrdPost w l) := by
  have O0 := Own.lit0 encR 11 54 w w.heap.size rfl (Nat.le_refl _)
  have D0 := hid ((Below.refl w.heap.size w).alloc (Nat.le_refl _) (.cells #[] 54))
  go_enter Tryz.func59, Tryz.ntmps59
  go_wp2_with fail
  go_loopw [3, 4] (fun v i wr => ∃ (k : Nat) (q : List ((Int × Int × Int × Int × Int × Int × Int) × (Int × Int) × (Option Addr × Nat × List (Int × Int)) × Int)), k ≤ l.length ∧ i = .int .i64 k ∧ q.length = k ∧ q.Perm (l.take k) ∧ Asc q ∧ Own encR 11 54 wr w.heap.size v q ∧ Below w.heap.size w wr) (fun _ i _ => l.length - (intOf i).toNat)
  case atStart => exact ⟨0, [], Nat.zero_le _, rfl, rfl, List.Perm.refl _, fun i j _ hj => by simp at hj, O0, D0.out⟩
  case round =>
    clear O0 D0
    obtain ⟨k, q, hk, rfl, hq, hperm, hasc, hown, hb⟩ := hrel
    obtain ⟨wo, rfl⟩ : ∃ wo : World, wo = wr := ⟨_, rfl⟩
    have hsz := hb.size
    have HP := hid hperm
    have HA := hid hasc
    have HB := hid hb
    have HQ := hid hq
    clear hperm hasc
    by_cases hlt : k < l.length
    · obtain ⟨⟨⟨n, lv, rk, gp, kd, vl, cp⟩, ⟨lo, hi⟩, ⟨a, C, S⟩, cn⟩, hx⟩ : ∃ x, atR l k = x := ⟨_, rfl⟩
      have hget := atR_get hlt
      rw [hx] at hget
      obtain ⟨b, off, rfl, hbb, c0, c1, c2, c3, c4, c5, c6, c7, c8, c9, c10⟩ := hL.getR hget
      have d0 : wo.cell? ⟨b, off + k * 11, none⟩ = some (.int .i64 n) := (hb.cell (by simp; omega)).trans c0
      have d1 : wo.cell? ⟨b, off + k * 11 + 1, none⟩ = some (.int .i64 lv) := (hb.cell (by simp; omega)).trans c1
      have d2 : wo.cell? ⟨b, off + k * 11 + 2, none⟩ = some (.int .i64 rk) := (hb.cell (by simp; omega)).trans c2
      have d3 : wo.cell? ⟨b, off + k * 11 + 3, none⟩ = some (.int .i64 gp) := (hb.cell (by simp; omega)).trans c3
      have d4 : wo.cell? ⟨b, off + k * 11 + 4, none⟩ = some (.int .i64 kd) := (hb.cell (by simp; omega)).trans c4
      have d5 : wo.cell? ⟨b, off + k * 11 + 5, none⟩ = some (.int .i64 vl) := (hb.cell (by simp; omega)).trans c5
      have d6 : wo.cell? ⟨b, off + k * 11 + 6, none⟩ = some (.int .i64 cp) := (hb.cell (by simp; omega)).trans c6
      have d7 : wo.cell? ⟨b, off + k * 11 + 7, none⟩ = some (.int .i64 lo) := (hb.cell (by simp; omega)).trans c7
      have d8 : wo.cell? ⟨b, off + k * 11 + 8, none⟩ = some (.int .i64 hi) := (hb.cell (by simp; omega)).trans c8
      have d9 : wo.cell? ⟨b, off + k * 11 + 9, none⟩ = some (.slice a S.length C) := (hb.cell (by simp; omega)).trans c9
      have d10 : wo.cell? ⟨b, off + k * 11 + 10, none⟩ = some (.int .i64 cn) := (hb.cell (by simp; omega)).trans c10
      have hbw : b < wo.heap.size := by omega
      have HX := hid hx
      clear c0 c1 c2 c3 c4 c5 c6 c7 c8 c9 c10 hx hget hb
      have hkl : (k : Int) < (l.length : Int) := by omega
      have hql : q.length ≤ 1000 := by omega
      obtain ⟨x, HXX⟩ : ∃ x : ((Int × Int × Int × Int × Int × Int × Int) × (Int × Int) × (Option Addr × Nat × List (Int × Int)) × Int), Hid (x = ((n, lv, rk, gp, kd, vl, cp), (lo, hi), (a, C, S), cn)) := ⟨_, hid rfl⟩
      have HE := hid (show #[.int .i64 n, .int .i64 lv, .int .i64 rk, .int .i64 gp, .int .i64 kd, .int .i64 vl, .int .i64 cp, .int .i64 lo, .int .i64 hi, .slice a S.length C, .int .i64 cn].toList = encR x by rw [HXX.out]; rfl)
      clear hq
      go_wp2_with (at_builtin; refine wpList_push lenR oneR rfl (.tmp 14) (.tmp 19) _ rfl Tryz.underlying26 infoRule rfl (by omega) (by omega) rfl hown x rfl HE.out rfl (by omega) (by omega) ?_)
      intro v1 w1 h1 hg1 _
      clear d0 d1 d2 d3 d4 d5 d6 d7 d8 d9 d10
      have D1 := hid (below_row (HB.out.alloc (by omega) _) hown (Nat.le_refl _) (by simp; omega) hg1)
      obtain ⟨Q, hQ⟩ : ∃ Q, Q = q ++ [x] := ⟨_, rfl⟩
      have hQl : Q.length = k + 1 := by rw [hQ, List.length_append, HQ.out]; rfl
      rw [← hQ] at h1
      have HQP := hid (show Q.Perm (l.take (k + 1)) by rw [hQ, List.take_add_one, atR_get hlt, HX.out, ← HXX.out]; exact HP.out.append_right _)
      have HQI := hid (show Ins Q k by rw [hQ, ← HQ.out]; exact ins_push HA.out)
      have hz1 := D1.out.size
      clear hg1 hown hQ HE HXX HX
      obtain ⟨g, cap', rfl⟩ : ∃ g cap', v1 = .slice (some ⟨g, 0, none⟩) (k + 1) cap' := by
        rcases h1.form with ⟨_, h⟩ | ⟨g, c, h, _⟩
        · rw [h] at hQl; simp at hQl
        · exact ⟨g, c, by rw [h, hQl]⟩
      have HO1 := hid h1
      clear h1
      go_wp2_with fail
      go_loopw [5] (fun j wr => ∃ (m : Nat) (q2 : List ((Int × Int × Int × Int × Int × Int × Int) × (Int × Int) × (Option Addr × Nat × List (Int × Int)) × Int)), m < k + 1 ∧ j = .int .i64 m ∧ q2.length = k + 1 ∧ q2.Perm (l.take (k + 1)) ∧ Ins q2 m ∧ Own encR 11 54 wr w.heap.size (.slice (some ⟨g, 0, none⟩) (k + 1) cap') q2 ∧ Below w.heap.size w wr) (fun j _ => (intOf j).toNat)
      case atStart => exact ⟨k, Q, by omega, by go_num, hQl, HQP.out, HQI.out, HO1.out, D1.out⟩
      case round =>
        clear HB hsz HQP HQI HO1 D1 hz1 hbw
        obtain ⟨m, q2, hm, rfl, hq2, hperm, hins, hown, hb⟩ := hrel
        obtain ⟨wp, rfl⟩ : ∃ wo : World, wo = wr := ⟨_, rfl⟩
        have hsz := hb.size
        have HP2 := hid hperm
        have HI2 := hid hins
        have HB := hid hb
        have HL2 := hid hq2
        have HO := hid hown
        have hg := hown.lt g rfl
        clear hperm hins hb
        by_cases hm0 : 0 < m
        · obtain ⟨p, hp⟩ : ∃ p, m = p + 1 := ⟨m - 1, by omega⟩
          obtain ⟨⟨⟨n', lv', rk', gp', kd', vl', cp'⟩, ⟨lo', hi'⟩, ⟨a', C', S'⟩, cn'⟩, hx'⟩ : ∃ x, atR q2 m = x := ⟨_, rfl⟩
          have hget' := atR_get (show m < q2.length by omega)
          rw [hx'] at hget'
          obtain ⟨⟨⟨n'', lv'', rk'', gp'', kd'', vl'', cp''⟩, ⟨lo'', hi''⟩, ⟨a'', C'', S''⟩, cn''⟩, hx''⟩ : ∃ x, atR q2 p = x := ⟨_, rfl⟩
          have hget'' := atR_get (show p < q2.length by omega)
          rw [hx''] at hget''
          have d'0 : wp.cell? ⟨g, m * 11, none⟩ = some (.int .i64 n') := hown.cell lenR hq2.symm hget' (j := 0) rfl
          have d'1 : wp.cell? ⟨g, m * 11 + 1, none⟩ = some (.int .i64 lv') := hown.cell lenR hq2.symm hget' (j := 1) rfl
          have d'2 : wp.cell? ⟨g, m * 11 + 2, none⟩ = some (.int .i64 rk') := hown.cell lenR hq2.symm hget' (j := 2) rfl
          have d'3 : wp.cell? ⟨g, m * 11 + 3, none⟩ = some (.int .i64 gp') := hown.cell lenR hq2.symm hget' (j := 3) rfl
          have d'4 : wp.cell? ⟨g, m * 11 + 4, none⟩ = some (.int .i64 kd') := hown.cell lenR hq2.symm hget' (j := 4) rfl
          have d'5 : wp.cell? ⟨g, m * 11 + 5, none⟩ = some (.int .i64 vl') := hown.cell lenR hq2.symm hget' (j := 5) rfl
          have d'6 : wp.cell? ⟨g, m * 11 + 6, none⟩ = some (.int .i64 cp') := hown.cell lenR hq2.symm hget' (j := 6) rfl
          have d'7 : wp.cell? ⟨g, m * 11 + 7, none⟩ = some (.int .i64 lo') := hown.cell lenR hq2.symm hget' (j := 7) rfl
          have d'8 : wp.cell? ⟨g, m * 11 + 8, none⟩ = some (.int .i64 hi') := hown.cell lenR hq2.symm hget' (j := 8) rfl
          have d'9 : wp.cell? ⟨g, m * 11 + 9, none⟩ = some (.slice a' S'.length C') := hown.cell lenR hq2.symm hget' (j := 9) rfl
          have d'10 : wp.cell? ⟨g, m * 11 + 10, none⟩ = some (.int .i64 cn') := hown.cell lenR hq2.symm hget' (j := 10) rfl
          have d''0 : wp.cell? ⟨g, p * 11, none⟩ = some (.int .i64 n'') := hown.cell lenR hq2.symm hget'' (j := 0) rfl
          have d''1 : wp.cell? ⟨g, p * 11 + 1, none⟩ = some (.int .i64 lv'') := hown.cell lenR hq2.symm hget'' (j := 1) rfl
          have d''2 : wp.cell? ⟨g, p * 11 + 2, none⟩ = some (.int .i64 rk'') := hown.cell lenR hq2.symm hget'' (j := 2) rfl
          have d''3 : wp.cell? ⟨g, p * 11 + 3, none⟩ = some (.int .i64 gp'') := hown.cell lenR hq2.symm hget'' (j := 3) rfl
          have d''4 : wp.cell? ⟨g, p * 11 + 4, none⟩ = some (.int .i64 kd'') := hown.cell lenR hq2.symm hget'' (j := 4) rfl
          have d''5 : wp.cell? ⟨g, p * 11 + 5, none⟩ = some (.int .i64 vl'') := hown.cell lenR hq2.symm hget'' (j := 5) rfl
          have d''6 : wp.cell? ⟨g, p * 11 + 6, none⟩ = some (.int .i64 cp'') := hown.cell lenR hq2.symm hget'' (j := 6) rfl
          have d''7 : wp.cell? ⟨g, p * 11 + 7, none⟩ = some (.int .i64 lo'') := hown.cell lenR hq2.symm hget'' (j := 7) rfl
          have d''8 : wp.cell? ⟨g, p * 11 + 8, none⟩ = some (.int .i64 hi'') := hown.cell lenR hq2.symm hget'' (j := 8) rfl
          have d''9 : wp.cell? ⟨g, p * 11 + 9, none⟩ = some (.slice a'' S''.length C'') := hown.cell lenR hq2.symm hget'' (j := 9) rfl
          have d''10 : wp.cell? ⟨g, p * 11 + 10, none⟩ = some (.int .i64 cn'') := hown.cell lenR hq2.symm hget'' (j := 10) rfl
          have hf : ∀ o, wp.frozen? ⟨g, o, none⟩ = false := fun o => hown.frozen hq2.symm o
          have HX1 := hid hx'
          have HX2 := hid hx''
          clear hx' hx'' hget' hget'' hown hq2
          obtain ⟨fb, hfb⟩ : ∃ f, befB lv' rk' n' lv'' rk'' n'' = f := ⟨_, rfl⟩
          have HFB := hid hfb
          clear hfb
          have hgl : g < wp.heap.size := hg.2
          have hd : decide ((m : Int) > 0) = true := decide_eq_true (by omega)
          have hmi : (m : Int) < (k : Int) + 1 := by omega
          have hmj : (p : Int) < (k : Int) + 1 := by omega
          have hm1 : (m : Int) - 1 = (p : Int) := by omega
          have hw1 : IntKind.i64.wrap (p : Int) = (p : Int) := IntWalk.i64_in _ (by omega)
          have hpk : p < k + 1 := by omega
          have HPP := hid hp
          clear hp
          go_wp2_with fail
          go_region_held3 (fun x => ∀ o, x.cell? ⟨g, o, none⟩ = wp.cell? ⟨g, o, none⟩) ((intro o; first | rfl | exact ee o | (simp [go_sem, *]; done))) (first | (go_at_call 86; refine (before_any n' lv' rk' gp' kd' vl' cp' lo' hi' cn' a' C' S' n'' lv'' rk'' gp'' kd'' vl'' cp'' lo'' hi'' cn'' a'' C'' S'' _).mono ?_; rintro e w5 ⟨rfl, b5⟩; rw [HFB.out]; have hz9 : wp.heap.size ≤ w5.heap.size := b5.size; have ee : ∀ o, w5.cell? ⟨g, o, none⟩ = wp.cell? ⟨g, o, none⟩ := fun o => b5.cell (p := ⟨g, o, none⟩) hgl))
          all_goals
            have hq : g < w5.heap.size := by omega
            have hne : g ≠ w5.heap.size := by omega
            have hne2 : w5.heap.size ≠ g := by omega
            have hf5 : ∀ o, w5.frozen? ⟨g, o, none⟩ = false := fun o => (b5.frozen (p := ⟨g, o, none⟩) hgl).trans (hf o)
            have HO5 := hid ((HO.out.drew).below b5 (by simp))
            have b5' : Below wp.heap.size wp w5 := ⟨b5.os, b5.tape, b5.output, b5.size, b5.block⟩
            have HB5 := hid (HB.out.trans (b5'.mono hsz))
            have HBF := hid (show befR (atR q2 m) (atR q2 (m - 1)) ↔ fb = true by rw [show m - 1 = p by have := HPP.out; omega, HX1.out, HX2.out]; unfold befR; rw [← befB_iff, HFB.out])
            have hsz5 := HB5.out.size
            clear b5 b5'
            cases fb
            · have HAS := hid (show Asc q2 from ins_done HI2.out (by rw [HL2.out]; exact hm) (.inr fun hc => by have := HBF.out.1 hc; cases this))
              go_wp2
              go_roundw
              case rel => exact ⟨k + 1, q2, by omega, by go_num, HL2.out, HP2.out, HAS.out, HO5.out, HB5.out⟩
              case measure => simp [intOf]; omega
            · have HST := hid (ins_step HI2.out (by have := HPP.out; omega) (by rw [HL2.out]; exact hm) (HBF.out.2 rfl))
              have HPM := hid ((swapR_perm (q := q2) (k := m) (by have := HPP.out; omega) (by rw [HL2.out]; exact hm)).trans HP2.out)
              have HOS0 := hid ((HO5.out.storeR HL2.out.symm (i := m) (by rw [HL2.out]; exact hm) n'' lv'' rk'' gp'' kd'' vl'' cp'' lo'' hi'' cn'' a'' C'' S'').storeR (by rw [List.length_set]; exact HL2.out.symm) (i := p) (by rw [List.length_set, HL2.out]; exact hpk) n' lv' rk' gp' kd' vl' cp' lo' hi' cn' a' C' S')
              have HSW := hid (show (q2.set m (atR q2 (m - 1))).set (m - 1) (atR q2 m) = swapR q2 m from rfl)
              rw [show m - 1 = p by have := HPP.out; omega, HX1.out, HX2.out] at HSW
              rw [HSW.out] at HOS0
              have HOS := hid (HOS0.out.alloc (.cells #[.int .i64 n', .int .i64 lv', .int .i64 rk', .int .i64 gp', .int .i64 kd', .int .i64 vl', .int .i64 cp', .int .i64 lo', .int .i64 hi', .slice a' S'.length C', .int .i64 cn'] 54))
              rw [show m - 1 = p by have := HPP.out; omega] at HST
              have HBW0 := hid (below_storeR (below_storeR HB5.out hg.1 m n'' lv'' rk'' gp'' kd'' vl'' cp'' lo'' hi'' cn'' a'' C'' S'') hg.1 p n' lv' rk' gp' kd' vl' cp' lo' hi' cn' a' C' S')
              have hszw := HBW0.out.size
              have HBW := hid (HBW0.out.alloc hszw (.cells #[.int .i64 n', .int .i64 lv', .int .i64 rk', .int .i64 gp', .int .i64 kd', .int .i64 vl', .int .i64 cp', .int .i64 lo', .int .i64 hi', .slice a' S'.length C', .int .i64 cn'] 54))
              clear hszw
              have HLS := hid (show (swapR q2 m).length = k + 1 by rw [swapR_len]; exact HL2.out)
              have hpm : p < m := by have := HPP.out; omega
              clear HBF
              go_wp2_with fail
              refine ⟨⟨p, swapR q2 m, hpk, rfl, HLS.out, HPM.out, HST.out, HOS.out, HBW.out⟩, ?_⟩
              show ((p : Int).toNat < (m : Int).toNat)
              omega
        · have HAS := hid (show Asc q2 from ins_done HI2.out (by rw [HL2.out]; exact hm) (.inl (by omega)))
          have hm2 : m = 0 := by omega
          subst hm2
          clear hown
          go_wp2_with fail
          go_quiet (fail)
          go_wp2
          go_roundw
          case rel => exact ⟨k + 1, q2, by omega, by go_num, HL2.out, HP2.out, HAS.out, HO.out.drewN _, below_drewN HB.out _⟩
          case measure => simp [intOf]; omega
    · have hkl : k = l.length := by omega
      have HAL := hid (show OrdList l q by have := HP.out; rw [hkl, List.take_length] at this; exact ⟨this, HA.out⟩)
      obtain ⟨A2, c2, rfl, _, hsl⟩ := hown.reads lenR
      have HSL := hid hsl
      have HLB := hid (fun (b off : Nat) i (h : A2 = some ⟨b, off, i⟩) => show w.heap.size ≤ b by subst h; exact (hown.lt b rfl).1)
      clear hsl hown hkl hq
      go_wp2
      go_ret
      exact ⟨q, A2, c2, rfl, HAL.out, HSL.out, HB.out, HLB.out⟩

end Go.Proofs.YtkgofklpogdpmaaGreat
