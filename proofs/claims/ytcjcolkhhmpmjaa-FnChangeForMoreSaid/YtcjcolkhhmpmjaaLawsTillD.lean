/- The walk of the law that more coins do no harm. -/
import Derived.Test.YtcjcolkhhmpmjaaDrawChange
import Derived.Test.YtcjcolkhhmpmjaaChangeS
import Derived.Test.YtcjcolkhhmpmjaaEqualInt
import Derived.Test.YtcjcolkhhmpmjaaTillD
import Derived.Test.YtcjcolkhhmpmjaaSumInt
import Derived.Test.YtcjcolkhhmpmjaaPayI
namespace Go.Proofs.Ytcjcolkhhmpmjaa
open Go.RowKit

theorem chgL_le {l : List (Int × Int)} {n : Int} (h : l.length ≤ 6) : (chgL l n).length ≤ 6 := by
  unfold chgL
  split
  · rw [chg_len]; exact h
  · simp

set_option maxHeartbeats 3200000 in
set_option maxRecDepth 100000 in
theorem fnChangeForMore_walk (w : World) (A : Option Addr) (len cap : Nat) (h : Bytes w w.heap.size A len cap) :
    Calls Try.prog 8 #[.slice A len cap] w fun e w' => e = .returned (.bool true) ∧ Below w.heap.size w w' := by
  by_cases hl : 1048576 < len
  · clear h
    go_enter Try.func8, Try.ntmps8
    go_wp2
    go_ret
    exact ⟨rfl, Below.refl _ _⟩
  · go_enter Try.func8, Try.ntmps8
    go_wp2_with fail
    refine (drawChangeFor_any _ _ _ _ h).mono ?_
    rintro e w1 ⟨l, v, am, rfl, hl6, o1, D1⟩
    clear h
    obtain ⟨A1, c1, rfl, _, q1⟩ := o1.reads len2
    clear o1
    obtain ⟨RL, hRL⟩ : ∃ x, x = chgL l am := ⟨_, rfl⟩
    have hRn : RL.length ≤ 6 := by rw [hRL]; exact chgL_le hl6
    have HR := hid hRL
    clear hRL
    go_wp2_with fail
    refine (changeFor_any l A1 c1 am _ q1 (by omega)).mono ?_
    rintro e w2 ⟨v2, rfl, o2, b2⟩
    rw [← HR.out] at o2
    obtain ⟨A2, c2, rfl, _, s2⟩ := o2.reads len1
    have D2 := D1.trans (b2.mono D1.size)
    have q2 := (q1.below b2 (Nat.le_refl _)).more b2.size
    clear o2 b2 D1 q1
    go_wp2_with fail
    refine (specChangeFor_any l A1 c1 am _ q2 (by omega)).mono ?_
    rintro e w3 ⟨v3, rfl, o3, b3⟩
    rw [← HR.out] at o3
    obtain ⟨A3, c3, rfl, _, r3⟩ := o3.reads len1
    have D3 := D2.trans (b3.mono D2.size)
    have q3 := (q2.below b3 (Nat.le_refl _)).more b3.size
    have s3 := (s2.below b3 (Nat.le_refl _)).more b3.size
    clear o3 b3 D2 q2 s2
    go_wp2_with fail
    refine (equalInts_same RL A2 A3 c2 c3 _ s3 r3 (by omega)).mono ?_
    rintro e w4 ⟨rfl, b4⟩
    have D4 := D3.trans (b4.mono D3.size)
    have q4 := (q3.below b4 (Nat.le_refl _)).more b4.size
    have s4 := (s3.below b4 (Nat.le_refl _)).more b4.size
    have r4 := (r3.below b4 (Nat.le_refl _)).more b4.size
    clear b4 D3 q3 s3 r3
    by_cases hok : okC l am = true
    · by_cases h0 : l.length = 0
      · have hzi : (l.length == 0) = true := by simpa using h0
        have hzj : ((l.length : Int) == 0) = true := by simpa using h0
        clear h0
        go_wp2_with fail
        refine (equalInts_same RL A2 A3 c2 c3 _ s4 r4 (by omega)).mono ?_
        rintro e w5 ⟨rfl, b5⟩
        have D5 := D4.trans (b5.mono D4.size)
        clear q4 s4 r4 b5 D4 
        have DD := hid D5
        clear D5
        go_wp2
        go_ret
        exact ⟨rfl, DD.out⟩
      · have hzi : (l.length == 0) = false := by simpa using h0
        have hzj : ((l.length : Int) == 0) = false := by simpa using h0
        obtain ⟨hST, hN, _⟩ := okC_true.1 hok
        have hRe : RL = chg l am := by rw [HR.out, chgL, hok, if_pos rfl]
        have hSel := (chg_sel hok).1
        rw [← hRe] at hSel
        have hmem := hSel.mem hST.ct
        have hRl : RL.length = l.length := hSel.len
        have hl5 := hST.2.2
        have hbd := chg_bd hok
        rw [← hRe] at hbd
        have HOK := hid hok
        have HST := hid hST
        have HSE := hid hSel
        have HME := hid (show ∀ x ∈ RL, 0 ≤ x ∧ x ≤ 1000 from fun x hx => by have := hmem x hx; omega)
        have HRL := hid hRl
        have HRE := hid hRe
        obtain ⟨S, hS⟩ : ∃ x, isum RL = x := ⟨_, rfl⟩
        rw [hS] at hbd
        have HS := hid hS
        obtain ⟨hb1, hb2, hb3⟩ := hbd
        obtain ⟨hn1, hn2⟩ := hN
        have hk : len % l.length < l.length := Nat.mod_lt _ (by omega)
        have hki : (len : Int) % (l.length : Int) = ((len % l.length : Nat) : Int) := by simp
        obtain ⟨k, hkk⟩ : ∃ k, len % l.length = k := ⟨_, rfl⟩
        rw [hkk] at hk hki
        have HKK := hid hkk
        have HKI := hid hki
        obtain ⟨hm1, hm2⟩ := chg_more hok hk
        have hxb := hST.bd hk
        have hgk := g12_get hk
        obtain ⟨X, hX⟩ : ∃ x, g1 l k = x := ⟨_, rfl⟩
        obtain ⟨Y, hY⟩ : ∃ x, g2 l k = x := ⟨_, rfl⟩
        rw [hX, hY] at hm1 hm2 hgk
        rw [hX] at hxb
        rw [hY] at hxb
        obtain ⟨⟨hx1, hx2⟩, hy1, hy2⟩ := hxb
        have hmn : ∃ m : Int, m = min (Y + 1) 20 ∧ ((Y + 1 ≤ 20 ∧ m = Y + 1) ∨ (¬ Y + 1 ≤ 20 ∧ m = 20)) := ⟨min (Y + 1) 20, rfl, by omega⟩
        obtain ⟨y', hy', hyc⟩ := hmn
        rw [← hy'] at hm1 hm2
        have hs2 := (chg_sel hm1).1
        obtain ⟨ML, hML⟩ : ∃ x, l.set k (X, y') = x := ⟨_, rfl⟩
        rw [hML] at hm1 hm2 hs2
        obtain ⟨Z, hZ⟩ : ∃ x, chg ML am = x := ⟨_, rfl⟩
        rw [hZ] at hm2 hs2
        have hMl : ML.length = l.length := by rw [← hML, List.length_set]
        have hzl : Z.length = l.length := by rw [hs2.len, hMl]
        have hzm := hs2.mem (okC_true.1 hm1).1.ct
        rw [← hRe, hS] at hm2
        obtain ⟨S', hS'⟩ : ∃ x, isum Z = x := ⟨_, rfl⟩
        rw [hS'] at hm2
        have HS' := hid hS'
        have HZM := hid (show ∀ x ∈ Z, 0 ≤ x ∧ x ≤ 1000 from fun x hx => by have := hzm x hx; omega)
        have HZL := hid (show chgL ML am = Z by rw [chgL, hm1, if_pos rfl, hZ])
        have HM1 := hid hm1
        have HML := hid hML
        have HMLN := hid hMl
        have HGK := hid hgk
        have HLE := hid (show decide (S' ≤ S) = true by simpa using hm2)
        have hMn : ML.length ≤ 1048576 := by omega
        have hzn : Z.length ≤ 1000 := by omega
        have hRn2 : RL.length ≤ 1000 := by omega
        have hl1 : l ≠ [] := fun he => by subst he; simp at h0
        have hkl : (k : Int) < (l.length : Int) := by omega
        clear hSel hmem hRl hRe hST hS hgk hm1 hm2 hs2 hML hMl hzl hzm hZ hX hY hy' hS' h0 r4 hkk
        have O5 := Own.lit0 enc2 2 40 w4 w4.heap.size rfl (Nat.le_refl _)
        have B5 := (Below.refl w4.heap.size w4).alloc (Nat.le_refl _) (.cells #[] 40)
        have HD4 := hid D4
        go_wp2_with (at_builtin; refine wpList_pushAll len2 one2 rfl (.tmp 64) (.tmp 65) _ rfl Try.underlying25 coinInfo rfl (by omega) (by omega) rfl O5 (m := l) rfl rfl (q4.alloc (Nat.le_refl _) _) hl1 (by simp; omega) (by simp) ?_)
        intro v6 w6 ho6 hg6 _
        have D6 := below_row B5 O5 (Nat.le_refl _) (by simp) hg6
        rcases ho6.form with ⟨_, h0⟩ | ⟨g, cap', rfl, hg1, hg2, _, _⟩
        · exact absurd h0 hl1
        have e0 := ho6.cell len2 rfl HGK.out (j := 0) rfl
        have e1 := ho6.cell len2 rfl HGK.out (j := 1) rfl
        rw [Nat.add_zero] at e0
        have ef := ho6.frozen rfl
        have o7 := ho6.store len2 rfl HGK.out (j := 1) (a' := (X, y')) (by omega) (u := .int .i64 y') rfl
        rw [HML.out] at o7
        have O7 := hid o7
        have D7 := D6.setCell (p := ⟨g, k * 2 + 1, none⟩) hg1 (.int .i64 y')
        have s7 := (s4.below D7 (Nat.le_refl _)).more D7.size
        have z7 := O7.out.sl len2
        have HD7 := hid D7
        have HZ7 := hid z7
        have HS7 := hid s7
        clear O5 B5 D6 hg6 ho6 o7 D7 z7 s7 s4 q4 D4
        have hki := HKI.out
        rcases hyc with ⟨hyc, rfl⟩ | ⟨hyc, rfl⟩
        all_goals
          go_wp2_with fail
          have h7 := HZ7.out
          rw [← HMLN.out]
          refine (changeFor_any ML _ _ am _ h7 hMn).mono ?_
          rintro e w8 ⟨v8, rfl, o8, b8⟩
          rw [HZL.out] at o8
          rw [HM1.out]
          obtain ⟨A8, c8, rfl, _, z8⟩ := o8.reads len1
          have s8 := (HS7.out.below b8 (Nat.le_refl _)).more b8.size
          have D8 := hid (HD4.out.trans ((HD7.out.trans (b8.mono HD7.out.size)).mono HD4.out.size))
          clear o8 b8
          go_wp2_with fail
          refine (sum_any Z A8 _ _ z8 hzn HZM.out).mono ?_
          rintro e w' ⟨rfl, rfl⟩
          rw [HS'.out]
          go_wp2_with fail
          refine (sum_any RL A2 _ _ s8 hRn2 HME.out).mono ?_
          rintro e w' ⟨rfl, rfl⟩
          rw [HS.out]
          clear s8 z8 h7
          go_wp2
          go_ret
          exact ⟨ret_bool HLE.out, D8.out⟩
    · have hok' : okC l am = false := by simpa using hok
      clear hok
      go_wp2_with fail
      refine (equalInts_same RL A2 A3 c2 c3 _ s4 r4 (by omega)).mono ?_
      rintro e w5 ⟨rfl, b5⟩
      have D5 := D4.trans (b5.mono D4.size)
      clear q4 s4 r4 b5 D4 
      have DD := hid D5
      clear D5
      go_wp2
      go_ret
      exact ⟨rfl, DD.out⟩

end Go.Proofs.Ytcjcolkhhmpmjaa
