/- The walk of the law that parts of change are change. -/
import Derived.Test.YtcjcolkhhmpmjaaDrawChange
import Derived.Test.YtcjcolkhhmpmjaaChangeS
import Derived.Test.YtcjcolkhhmpmjaaEqualInt
import Derived.Test.YtcjcolkhhmpmjaaTillD
import Derived.Test.YtcjcolkhhmpmjaaSumInt
import Derived.Test.YtcjcolkhhmpmjaaPayI
namespace Go.Proofs.Ytcjcolkhhmpmjaa
open Go.RowKit

theorem chgL_le {l : List (Int × Int)} {n : Int} (h : l.length ≤ 6) : (chgL l n).length ≤ 6 := by
  unfold chgL
  split
  · rw [chg_len]; exact h
  · simp

set_option maxHeartbeats 3200000 in
set_option maxRecDepth 100000 in
theorem fnChangeForParts_walk (w : World) (A : Option Addr) (len cap : Nat) (h : Bytes w w.heap.size A len cap) :
    Calls Try.prog 9 #[.slice A len cap] w fun e w' => e = .returned (.bool true) ∧ Below w.heap.size w w' := by
  by_cases hl : 1048576 < len
  · clear h
    go_enter Try.func9, Try.ntmps9
    go_wp2
    go_ret
    exact ⟨rfl, Below.refl _ _⟩
  · go_enter Try.func9, Try.ntmps9
    go_wp2_with fail
    refine (drawChangeFor_any _ _ _ _ h).mono ?_
    rintro e w1 ⟨l, v, am, rfl, hl6, o1, D1⟩
    clear h
    obtain ⟨A1, c1, rfl, _, q1⟩ := o1.reads len2
    clear o1
    obtain ⟨RL, hRL⟩ : ∃ x, x = chgL l am := ⟨_, rfl⟩
    have hRn : RL.length ≤ 6 := by rw [hRL]; exact chgL_le hl6
    have HR := hid hRL
    clear hRL
    go_wp2_with fail
    refine (changeFor_any l A1 c1 am _ q1 (by omega)).mono ?_
    rintro e w2 ⟨v2, rfl, o2, b2⟩
    rw [← HR.out] at o2
    obtain ⟨A2, c2, rfl, _, s2⟩ := o2.reads len1
    have D2 := D1.trans (b2.mono D1.size)
    have q2 := (q1.below b2 (Nat.le_refl _)).more b2.size
    clear o2 b2 D1 q1
    go_wp2_with fail
    refine (specChangeFor_any l A1 c1 am _ q2 (by omega)).mono ?_
    rintro e w3 ⟨v3, rfl, o3, b3⟩
    rw [← HR.out] at o3
    obtain ⟨A3, c3, rfl, _, r3⟩ := o3.reads len1
    have D3 := D2.trans (b3.mono D2.size)
    have q3 := (q2.below b3 (Nat.le_refl _)).more b3.size
    have s3 := (s2.below b3 (Nat.le_refl _)).more b3.size
    clear o3 b3 D2 q2 s2
    go_wp2_with fail
    refine (equalInts_same RL A2 A3 c2 c3 _ s3 r3 (by omega)).mono ?_
    rintro e w4 ⟨rfl, b4⟩
    have D4 := D3.trans (b4.mono D3.size)
    have q4 := (q3.below b4 (Nat.le_refl _)).more b4.size
    have s4 := (s3.below b4 (Nat.le_refl _)).more b4.size
    have r4 := (r3.below b4 (Nat.le_refl _)).more b4.size
    clear b4 D3 q3 s3 r3
    by_cases hok : okC l am = true
    · obtain ⟨hST, hN, _⟩ := okC_true.1 hok
      have hRe : RL = chg l am := by rw [HR.out, chgL, hok, if_pos rfl]
      have hSel := (chg_sel hok).1
      rw [← hRe] at hSel
      have hmem := hSel.mem hST.ct
      have hRl : RL.length = l.length := hSel.len
      have hl5 := hST.2.2
      have hbd := chg_bd hok
      rw [← hRe] at hbd
      have HOK := hid hok
      have HST := hid hST
      have HSE := hid hSel
      have HME := hid (show ∀ x ∈ RL, 0 ≤ x ∧ x ≤ 1000 from fun x hx => by have := hmem x hx; omega)
      have HRL := hid hRl
      have HRE := hid hRe
      obtain ⟨S, hS⟩ : ∃ x, isum RL = x := ⟨_, rfl⟩
      rw [hS] at hbd
      have HS := hid hS
      obtain ⟨hb1, hb2, hb3⟩ := hbd
      obtain ⟨hn1, hn2⟩ := hN
      have hl10 : l.length ≤ 10 := by omega
      have hRn2 : RL.length ≤ 1000 := by omega
      clear r4 hSel hmem hRl hRe hST hS
      have HD4 := hid D4
      clear D4
      go_wp2_with fail
      go_loopw [9] (fun i wr => ∃ k : Nat, k ≤ l.length ∧ i = .int .i64 k ∧ Below w4.heap.size w4 wr) (fun i _ => l.length - (intOf i).toNat)
      case atStart => exact ⟨0, Nat.zero_le _, rfl, Below.refl _ _⟩
      case round =>
        obtain ⟨k, hk, rfl, hb⟩ := hrel
        have hsz := hb.size
        by_cases hlt : k < l.length
        · have hkl : (k : Int) < (l.length : Int) := by omega
          have hkr : (k : Int) < (RL.length : Int) := by have := HRL.out; omega
          have qk := (q4.below hb (Nat.le_refl _)).more hb.size
          have sk := (s4.below hb (Nat.le_refl _)).more hb.size
          obtain ⟨b', off', rfl, hbb', y1⟩ := sk.get1 (k := k) (by have := HRL.out; omega)
          have hat := HSE.out.at_ hlt
          by_cases hz : g0 RL k = 0
          · rw [hz] at y1
            clear qk sk hat hz
            have HB := hid hb
            clear hb
            go_wp2
            go_roundw
            case rel => exact ⟨k + 1, by omega, by go_num, HB.out⟩
            case measure => simp [intOf]; omega
          · have hz' := hz
            rw [HRE.out] at hz'
            obtain ⟨hm1, hm2⟩ := chg_part HOK.out hlt hz'
            have hxb := HST.out.bd hlt
            have hgk := g12_get hlt
            obtain ⟨b, off, rfl, hbb, x1, x2⟩ := qk.get2 hlt
            obtain ⟨X, hX⟩ : ∃ x, g1 l k = x := ⟨_, rfl⟩
            obtain ⟨Y, hY⟩ : ∃ x, g2 l k = x := ⟨_, rfl⟩
            obtain ⟨Q, hQ⟩ : ∃ x, g0 RL k = x := ⟨_, rfl⟩
            rw [hX, hY] at hm1 hm2 hgk
            rw [hX] at hxb x1
            rw [hY] at hxb x2 hat
            rw [hQ] at y1 hz hat
            obtain ⟨⟨hx1, hx2⟩, hy1, hy2⟩ := hxb
            obtain ⟨ha1, ha2⟩ := hat
            have e5 : (Q == 0) = false := by simpa using hz
            have hs2 := (chg_sel hm1).1
            obtain ⟨ML, hML⟩ : ∃ x, l.set k (X, Y - 1) = x := ⟨_, rfl⟩
            rw [hML] at hm1 hm2 hs2
            obtain ⟨Z, hZ⟩ : ∃ x, chg ML (am - X) = x := ⟨_, rfl⟩
            rw [hZ] at hm2 hs2
            have hMl : ML.length = l.length := by rw [← hML, List.length_set]
            have hzl : Z.length = l.length := by rw [hs2.len, hMl]
            have hzm := hs2.mem (okC_true.1 hm1).1.ct
            rw [← HRE.out, HS.out] at hm2
            have HS' := hid hm2
            have HZM := hid (show ∀ x ∈ Z, 0 ≤ x ∧ x ≤ 1000 from fun x hx => by have := hzm x hx; omega)
            have HZL := hid (show chgL ML (am - X) = Z by rw [chgL, hm1, if_pos rfl, hZ])
            have HM1 := hid hm1
            have HML := hid hML
            have HMLN := hid hMl
            have HGK := hid hgk
            have hMn : ML.length ≤ 1048576 := by omega
            have hzn : Z.length ≤ 1000 := by omega
            have hl1 : l ≠ [] := fun he => by subst he; simp at hlt
            have HB := hid hb
            have hbw : b < wr.heap.size := hbb
            clear hgk hm1 hm2 hs2 hML hMl hzl hzm hZ hX hY hQ hz hz' hb
            have O5 := Own.lit0 enc2 2 40 wr wr.heap.size rfl (Nat.le_refl _)
            have B5 := (Below.refl wr.heap.size wr).alloc (Nat.le_refl _) (.cells #[] 40)
            go_wp2_with (at_builtin; refine wpList_pushAll len2 one2 rfl (.tmp 71) (.tmp 72) _ rfl Try.underlying25 coinInfo rfl (by omega) (by omega) rfl O5 (m := l) rfl rfl (qk.alloc (Nat.le_refl _) _) hl1 (by simp; omega) (by simp) ?_)
            intro v6 w6 ho6 hg6 _
            have D6 := below_row B5 O5 (Nat.le_refl _) (by simp) hg6
            rcases ho6.form with ⟨_, h0⟩ | ⟨g, cap', rfl, hg1, hg2, _, _⟩
            · exact absurd h0 hl1
            have e0 := ho6.cell len2 rfl HGK.out (j := 0) rfl
            have e1 := ho6.cell len2 rfl HGK.out (j := 1) rfl
            rw [Nat.add_zero] at e0
            have ef := ho6.frozen rfl
            have o7 := ho6.store len2 rfl HGK.out (j := 1) (a' := (X, Y - 1)) (by omega) (u := .int .i64 (Y - 1)) rfl
            rw [HML.out] at o7
            have O7 := hid o7
            have f1 : w6.cell? ⟨b, off + k * 2, none⟩ = some (.int .i64 X) := (D6.cell hbb).trans x1
            have hbg : b ≠ g := by omega
            have hbw6 : b < w6.heap.size := by have := D6.size; omega
            have D7 := D6.setCell (p := ⟨g, k * 2 + 1, none⟩) hg1 (.int .i64 (Y - 1))
            have s7 := (sk.below D7 (Nat.le_refl _)).more D7.size
            have z7 := O7.out.sl len2
            have HD7 := hid D7
            have HZ7 := hid z7
            have HS7 := hid s7
            clear O5 B5 D6 hg6 ho6 o7 D7 z7 s7 sk qk x1 x2
            go_wp2_with fail
            have h7 := HZ7.out
            rw [← HMLN.out]
            refine (changeFor_any ML _ _ (am - X) _ h7 hMn).mono ?_
            rintro e w8 ⟨v8, rfl, o8, b8⟩
            rw [HZL.out] at o8
            rw [HM1.out]
            obtain ⟨A8, c8, rfl, _, z8⟩ := o8.reads len1
            have s8 := (HS7.out.below b8 (Nat.le_refl _)).more b8.size
            have D8 := hid (HB.out.trans ((HD7.out.trans (b8.mono HD7.out.size)).mono HB.out.size))
            clear o8 b8
            go_wp2_with fail
            refine (sum_any Z A8 _ _ z8 hzn HZM.out).mono ?_
            rintro e w' ⟨rfl, rfl⟩
            rw [HS'.out]
            go_wp2_with fail
            refine (sum_any RL _ _ _ s8 hRn2 HME.out).mono ?_
            rintro e w' ⟨rfl, rfl⟩
            rw [HS.out]
            clear s8 z8 h7
            rw [HMLN.out]
            go_wp2
            go_roundw
            case rel => exact ⟨k + 1, by omega, by go_num, D8.out⟩
            case measure => simp [intOf]; omega
        · obtain rfl : l.length = k := by omega
          have hkr : ¬ (l.length : Int) < (RL.length : Int) := by have := HRL.out; omega
          have DD := hid (HD4.out.trans (hb.mono HD4.out.size))
          clear hb
          go_wp2
          go_ret
          exact ⟨rfl, DD.out⟩
    · have hok' : okC l am = false := by simpa using hok
      clear hok
      go_wp2_with fail
      refine (equalInts_same RL A2 A3 c2 c3 _ s4 r4 (by omega)).mono ?_
      rintro e w5 ⟨rfl, b5⟩
      have D5 := D4.trans (b5.mono D4.size)
      clear q4 s4 r4 b5 D4 
      have DD := hid D5
      clear D5
      go_wp2
      go_ret
      exact ⟨rfl, DD.out⟩

end Go.Proofs.Ytcjcolkhhmpmjaa
