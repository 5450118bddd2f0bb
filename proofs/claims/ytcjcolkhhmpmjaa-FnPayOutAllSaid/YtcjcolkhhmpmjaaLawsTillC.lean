/- The walks of the laws on coins that are paid out. -/
import Derived.Test.YtcjcolkhhmpmjaaDrawChange
import Derived.Test.YtcjcolkhhmpmjaaPayS
import Derived.Test.YtcjcolkhhmpmjaaEqualCoin
import Derived.Test.YtcjcolkhhmpmjaaTillD
import Derived.Test.YtcjcolkhhmpmjaaTillVal
namespace Go.Proofs.Ytcjcolkhhmpmjaa
open Go.RowKit

theorem payI_le {l : List (Int × Int)} {n : Int} (h : l.length ≤ 6) : (payI l n).length ≤ 6 := by
  unfold payI
  split
  · rw [payL_len]; exact h
  · simp

set_option maxHeartbeats 3200000 in
set_option maxRecDepth 100000 in
theorem fnPayOut_walk (w : World) (A : Option Addr) (len cap : Nat) (h : Bytes w w.heap.size A len cap) :
    Calls Try.prog 13 #[.slice A len cap] w fun e w' => e = .returned (.bool true) ∧ Below w.heap.size w w' := by
  by_cases hl : 1048576 < len
  · clear h
    go_enter Try.func13, Try.ntmps13
    go_wp2
    go_ret
    exact ⟨rfl, Below.refl _ _⟩
  · go_enter Try.func13, Try.ntmps13
    go_wp2_with fail
    refine (drawPayOut_any _ _ _ _ h).mono ?_
    rintro e w1 ⟨l, v, am, rfl, hl6, o1, D1⟩
    clear h
    obtain ⟨A1, c1, rfl, _, q1⟩ := o1.reads len2
    clear o1
    obtain ⟨RL, hRL⟩ : ∃ x, x = payI l am := ⟨_, rfl⟩
    have hRn : RL.length ≤ 6 := by rw [hRL]; exact payI_le hl6
    have HR := hid hRL
    clear hRL
    go_wp2_with fail
    refine (payOut_any l A1 c1 am _ q1 (by omega)).mono ?_
    rintro e w2 ⟨v2, rfl, o2, b2⟩
    rw [← HR.out] at o2
    obtain ⟨A2, c2, rfl, _, s2⟩ := o2.reads len2
    have D2 := D1.trans (b2.mono D1.size)
    have q2 := (q1.below b2 (Nat.le_refl _)).more b2.size
    clear o2 b2 D1 q1
    go_wp2_with fail
    refine (specPayOut_any l A1 c1 am _ q2 (by omega)).mono ?_
    rintro e w3 ⟨v3, rfl, o3, b3⟩
    rw [← HR.out] at o3
    obtain ⟨A3, c3, rfl, _, r3⟩ := o3.reads len2
    have D3 := D2.trans (b3.mono D2.size)
    have q3 := (q2.below b3 (Nat.le_refl _)).more b3.size
    have s3 := (s2.below b3 (Nat.le_refl _)).more b3.size
    clear o3 b3 D2 q2 s2
    go_wp2_with fail
    refine (equalCoins_same RL A2 A3 c2 c3 _ s3 r3 (by omega)).mono ?_
    rintro e w4 ⟨rfl, b4⟩
    have D4 := D3.trans (b4.mono D3.size)
    have q4 := (q3.below b4 (Nat.le_refl _)).more b4.size
    have s4 := (s3.below b4 (Nat.le_refl _)).more b4.size
    have r4 := (r3.below b4 (Nat.le_refl _)).more b4.size
    clear b4 D3 q3 s3 r3
    by_cases hok : okC l am = true
    · obtain ⟨hST, hN, _⟩ := okC_true.1 hok
      have hSel := (chg_sel hok).1
      have hl5 := hST.2.2
      obtain ⟨cs, hcs⟩ : ∃ x, chg l am = x := ⟨_, rfl⟩
      rw [hcs] at hSel
      have hCL : chgL l am = cs := by rw [chgL, hok, if_pos rfl, hcs]
      have hRe : RL = payL l cs := by rw [HR.out, payI, hok, if_pos rfl, hcs]
      have hRl : RL.length = l.length := by rw [hRe, payL_len]
      have hRS : ST RL := by rw [hRe]; exact payL_ST hST hSel
      have hRv := payL_tval hSel
      rw [← hRe] at hRv
      have hcl : cs.length = l.length := hSel.len
      have htb := tval_of hST
      obtain ⟨T, hT⟩ : ∃ x, tval l = x := ⟨_, rfl⟩
      rw [hT] at hRv htb
      have HT := hid (show tvalI l = T by rw [tvalI, vTill_iff.2 hST, if_pos rfl, hT])
      have HU := hid (show tvalI RL = T - am by rw [tvalI, vTill_iff.2 hRS, if_pos rfl, hRv])
      have HV := hid (vTill_iff.2 hRS)
      have HST := hid hST
      have HSE := hid hSel
      have HCL := hid hCL
      have HRL := hid hRl
      have HRE := hid hRe
      have HCN := hid hcl
      have hcs6 : cs.length ≤ 6 := by omega
      obtain ⟨ht1, ht2⟩ := htb
      obtain ⟨hn1, hn2⟩ := hN
      have HTE := hid hT
      clear hSel hRl hRe hRS hRv hcs hCL hcl hT hST r4
      go_wp2_with fail
      refine (changeFor_any l A1 c1 am _ q4 (by omega)).mono ?_
      rintro e w5 ⟨v5, rfl, o5, b5⟩
      rw [HCL.out] at o5
      obtain ⟨A5, c5, rfl, _, z5⟩ := o5.reads len1
      clear o5
      have D5 := D4.trans (b5.mono D4.size)
      have q5 := (q4.below b5 (Nat.le_refl _)).more b5.size
      have s5 := (s4.below b5 (Nat.le_refl _)).more b5.size
      clear b5 D4 q4 s4
      go_wp2_with fail
      go_loopw [11] (fun i wr => ∃ k : Nat, k ≤ l.length ∧ i = .int .i64 k ∧ Below w5.heap.size w5 wr) (fun i _ => l.length - (intOf i).toNat)
      case atStart => exact ⟨0, Nat.zero_le _, rfl, Below.refl _ _⟩
      case round =>
        obtain ⟨k, hk, rfl, hb⟩ := hrel
        have hsz := hb.size
        by_cases hlt : k < l.length
        · obtain ⟨b, off, rfl, hbb, x1, x2⟩ := q5.get2 hlt
          obtain ⟨b', off', rfl, hbb', y1, y2⟩ := s5.get2 (k := k) (by have := HRL.out; omega)
          obtain ⟨b2, off2, rfl, hbb2, z1⟩ := z5.get1 (k := k) (by have := HCN.out; omega)
          have hpa := payL_at HCN.out hlt
          rw [← HRE.out] at hpa
          have hat := HSE.out.at_ hlt
          have hxb := HST.out.bd hlt
          obtain ⟨X, hX⟩ : ∃ x, g1 l k = x := ⟨_, rfl⟩
          obtain ⟨Y, hY⟩ : ∃ x, g2 l k = x := ⟨_, rfl⟩
          obtain ⟨Z, hZ⟩ : ∃ x, g0 cs k = x := ⟨_, rfl⟩
          rw [hX, hY, hZ] at hpa
          rw [hpa.1] at y1
          rw [hpa.2] at y2
          rw [hX] at x1
          rw [hY] at x2 hat hxb
          rw [hZ] at z1 hat
          have d1 : wr.cell? ⟨b, off + k * 2, none⟩ = some (.int .i64 X) := (hb.cell hbb).trans x1
          have d2 : wr.cell? ⟨b, off + k * 2 + 1, none⟩ = some (.int .i64 Y) := (hb.cell hbb).trans x2
          have d3 : wr.cell? ⟨b', off' + k * 2, none⟩ = some (.int .i64 X) := (hb.cell hbb').trans y1
          have d4 : wr.cell? ⟨b', off' + k * 2 + 1, none⟩ = some (.int .i64 (Y - Z)) := (hb.cell hbb').trans y2
          have d5 : wr.cell? ⟨b2, off2 + k, none⟩ = some (.int .i64 Z) := (hb.cell hbb2).trans z1
          obtain ⟨_, hx3, hx4⟩ := hxb
          obtain ⟨ha1, ha2⟩ := hat
          have w1 : IntKind.i64.wrap (Y - Z) = Y - Z := IntWalk.i64_in _ (by omega)
          have hkl : (k : Int) < (l.length : Int) := by omega
          have hkr : (k : Int) < (RL.length : Int) := by have := HRL.out; omega
          have hkc : (k : Int) < (cs.length : Int) := by have := HCN.out; omega
          have hge : decide (cs.length ≤ k) = false := decide_eq_false (by have := HCN.out; omega)
          clear x1 x2 y1 y2 z1 hpa hX hY hZ
          go_wp2_with fail
          go_quiet (fail)
          go_wp2
          go_roundw
          case rel =>
            refine ⟨k + 1, by omega, by go_num, ?_⟩
            repeat (first | exact Below.refl _ _ | (refine Below.alloc ?_ (by (try simp) <;> omega) _) | (refine Below.setCell ?_ (by (try simp) <;> omega) _) | (refine Below.drew ?_) | (refine below_drewN ?_ _) | (refine Below.trans ?_ (Below.mono (by assumption) (by (try simp) <;> omega))))
          case measure => simp [intOf]; omega
        · obtain rfl : l.length = k := by omega
          have hkr : ¬ (l.length : Int) < (RL.length : Int) := by have := HRL.out; omega
          have q6 := (q5.below hb (Nat.le_refl _)).more hb.size
          have s6 := (s5.below hb (Nat.le_refl _)).more hb.size
          have D6 := D5.trans (hb.mono D5.size)
          have hRn2 : RL.length ≤ 1048576 := by omega
          clear q5 s5 z5 D5 hb
          go_wp2_with fail
          refine (tillValue_any RL A2 c2 _ s6 hRn2).mono ?_
          rintro e w7 ⟨rfl, b7⟩
          rw [HU.out]
          have D7 := D6.trans (b7.mono D6.size)
          have q7 := (q6.below b7 (Nat.le_refl _)).more b7.size
          have s7 := (s6.below b7 (Nat.le_refl _)).more b7.size
          clear b7 D6 q6 s6
          go_wp2_with fail
          refine (tillValue_any l A1 c1 _ q7 (by omega)).mono ?_
          rintro e w8 ⟨rfl, b8⟩
          rw [HT.out]
          have D8 := D7.trans (b8.mono D7.size)
          have s8 := (s7.below b8 (Nat.le_refl _)).more b8.size
          clear q7 b8 D7 s7
          go_wp2_with fail
          refine (validTill_any RL A2 c2 _ s8 (by omega)).mono ?_
          rintro e w9 ⟨rfl, b9⟩
          rw [HV.out]
          have D9 := D8.trans (b9.mono D8.size)
          clear s8 b9 D8 
          have DD := hid D9
          clear D9
          go_wp2
          go_ret
          exact ⟨rfl, DD.out⟩
    · have hok' : okC l am = false := by simpa using hok
      clear hok
      go_wp2_with fail
      refine (equalCoins_same RL A2 A3 c2 c3 _ s4 r4 (by omega)).mono ?_
      rintro e w5 ⟨rfl, b5⟩
      have D5 := D4.trans (b5.mono D4.size)
      clear q4 s4 r4 b5 D4 
      have DD := hid D5
      clear D5
      go_wp2
      go_ret
      exact ⟨rfl, DD.out⟩

set_option maxHeartbeats 3200000 in
set_option maxRecDepth 100000 in
theorem fnPayOutAll_walk (w : World) (A : Option Addr) (len cap : Nat) (h : Bytes w w.heap.size A len cap) :
    Calls Try.prog 14 #[.slice A len cap] w fun e w' => e = .returned (.bool true) ∧ Below w.heap.size w w' := by
  by_cases hl : 1048576 < len
  · clear h
    go_enter Try.func14, Try.ntmps14
    go_wp2
    go_ret
    exact ⟨rfl, Below.refl _ _⟩
  · go_enter Try.func14, Try.ntmps14
    go_wp2_with fail
    refine (drawPayOut_any _ _ _ _ h).mono ?_
    rintro e w1 ⟨l, v, am, rfl, hl6, o1, D1⟩
    clear h
    obtain ⟨A1, c1, rfl, _, q1⟩ := o1.reads len2
    clear o1
    obtain ⟨RL, hRL⟩ : ∃ x, x = payI l am := ⟨_, rfl⟩
    have hRn : RL.length ≤ 6 := by rw [hRL]; exact payI_le hl6
    have HR := hid hRL
    clear hRL
    go_wp2_with fail
    refine (payOut_any l A1 c1 am _ q1 (by omega)).mono ?_
    rintro e w2 ⟨v2, rfl, o2, b2⟩
    rw [← HR.out] at o2
    obtain ⟨A2, c2, rfl, _, s2⟩ := o2.reads len2
    have D2 := D1.trans (b2.mono D1.size)
    have q2 := (q1.below b2 (Nat.le_refl _)).more b2.size
    clear o2 b2 D1 q1
    go_wp2_with fail
    refine (specPayOut_any l A1 c1 am _ q2 (by omega)).mono ?_
    rintro e w3 ⟨v3, rfl, o3, b3⟩
    rw [← HR.out] at o3
    obtain ⟨A3, c3, rfl, _, r3⟩ := o3.reads len2
    have D3 := D2.trans (b3.mono D2.size)
    have q3 := (q2.below b3 (Nat.le_refl _)).more b3.size
    have s3 := (s2.below b3 (Nat.le_refl _)).more b3.size
    clear o3 b3 D2 q2 s2
    go_wp2_with fail
    refine (equalCoins_same RL A2 A3 c2 c3 _ s3 r3 (by omega)).mono ?_
    rintro e w4 ⟨rfl, b4⟩
    have D4 := D3.trans (b4.mono D3.size)
    have q4 := (q3.below b4 (Nat.le_refl _)).more b4.size
    have s4 := (s3.below b4 (Nat.le_refl _)).more b4.size
    have r4 := (r3.below b4 (Nat.le_refl _)).more b4.size
    clear b4 D3 q3 s3 r3
    by_cases hv : vTill l = true
    · have HV := hid hv
      have hST := vTill_iff.1 hv
      have hl5 := hST.2.2
      have HT := hid (show tvalI l = tval l by simp [tvalI, hv])
      have htb := tval_of hST
      have hall := chg_all hST
      have hsel := fun hk : okC l (tval l) = true => (chg_sel hk).1
      obtain ⟨T, hT⟩ : ∃ x, tval l = x := ⟨_, rfl⟩
      rw [hT] at htb hall hsel
      have HT2 := hid (show tvalI l = T by rw [HT.out, hT])
      have HTT := hid hT
      obtain ⟨ht1, ht2⟩ := htb
      have HALL := hid hall
      have HSEL := hid hsel
      have HST := hid hST
      clear hv hT hall hsel r4 s4 hST
      go_wp2_with fail
      refine (validTill_any l A1 c1 _ q4 (by omega)).mono ?_
      rintro e w5 ⟨rfl, b5⟩
      rw [HV.out]
      have D5 := D4.trans (b5.mono D4.size)
      have q5 := (q4.below b5 (Nat.le_refl _)).more b5.size
      clear b5 D4 q4
      go_wp2_with fail
      refine (tillValue_any l A1 c1 _ q5 (by omega)).mono ?_
      rintro e w6 ⟨rfl, b6⟩
      rw [HT2.out]
      have D6 := D5.trans (b6.mono D5.size)
      have q6 := (q5.below b6 (Nat.le_refl _)).more b6.size
      clear b6 D5 q5
      by_cases hbig : 300 < T
      · clear q6
        have DD := hid D6
        clear D6
        go_wp2
        go_ret
        exact ⟨rfl, DD.out⟩
      · have hk := HALL.out (by omega)
        have hP : payI l T = payL l (chg l T) := by rw [payI, hk, if_pos rfl]
        have hpv : tvalI (payI l T) = 0 := by
          have hs := HSEL.out hk
          rw [hP, tvalI, vTill_iff.2 (payL_ST HST.out hs), if_pos rfl, payL_tval hs, HTT.out]; omega
        have hpl : (payI l T).length ≤ 1048576 := payI_len
        obtain ⟨PL, hPL⟩ : ∃ x, payI l T = x := ⟨_, rfl⟩
        rw [hPL] at hpv hpl
        have HPL := hid hPL
        have HPV := hid hpv
        have HK := hid hk
        clear hk hP hPL hpv
        go_wp2_with fail
        refine (payOut_any l A1 c1 T _ q6 (by omega)).mono ?_
        rintro e w7 ⟨v7, rfl, o7, b7⟩
        rw [HPL.out] at o7
        rw [HK.out]
        obtain ⟨A7, c7, rfl, _, z7⟩ := o7.reads len2
        clear o7
        have D7 := D6.trans (b7.mono D6.size)
        clear q6 b7 D6 
        go_wp2_with fail
        refine (tillValue_any PL A7 c7 _ z7 hpl).mono ?_
        rintro e w8 ⟨rfl, b8⟩
        rw [HPV.out]
        have D8 := D7.trans (b8.mono D7.size)
        clear z7 b8 D7 
        have DD := hid D8
        clear D8
        go_wp2
        go_ret
        exact ⟨rfl, DD.out⟩
    · have hv' : vTill l = false := by simpa using hv
      have HV := hid hv'
      clear hv hv'
      go_wp2_with fail
      refine (validTill_any l A1 c1 _ q4 (by omega)).mono ?_
      rintro e w5 ⟨rfl, b5⟩
      rw [HV.out]
      have D5 := D4.trans (b5.mono D4.size)
      have s5 := (s4.below b5 (Nat.le_refl _)).more b5.size
      have r5 := (r4.below b5 (Nat.le_refl _)).more b5.size
      clear q4 b5 D4 s4 r4
      go_wp2_with fail
      refine (equalCoins_same RL A2 A3 c2 c3 _ s5 r5 (by omega)).mono ?_
      rintro e w6 ⟨rfl, b6⟩
      have D6 := D5.trans (b6.mono D5.size)
      clear  s5 r5 b6 D5 
      have DD := hid D6
      clear D6
      go_wp2
      go_ret
      exact ⟨rfl, DD.out⟩

end Go.Proofs.Ytcjcolkhhmpmjaa
