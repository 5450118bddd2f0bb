/- The walk of the law that nothing is no coins. -/
import Derived.Test.YtcjcolkhhmpmjaaDrawChange
import Derived.Test.YtcjcolkhhmpmjaaChangeS
import Derived.Test.YtcjcolkhhmpmjaaEqualInt
import Derived.Test.YtcjcolkhhmpmjaaTillD
import Derived.Test.YtcjcolkhhmpmjaaSumInt
import Derived.Test.YtcjcolkhhmpmjaaTillVal
namespace Go.Proofs.Ytcjcolkhhmpmjaa
open Go.RowKit

theorem chgL_le {l : List (Int × Int)} {n : Int} (h : l.length ≤ 6) : (chgL l n).length ≤ 6 := by
  unfold chgL
  split
  · rw [chg_len]; exact h
  · simp

set_option maxHeartbeats 3200000 in
set_option maxRecDepth 100000 in
theorem fnChangeForNone_walk (w : World) (A : Option Addr) (len cap : Nat) (h : Bytes w w.heap.size A len cap) :
    Calls Try.prog 10 #[.slice A len cap] w fun e w' => e = .returned (.bool true) ∧ Below w.heap.size w w' := by
  by_cases hl : 1048576 < len
  · clear h
    go_enter Try.func10, Try.ntmps10
    go_wp2
    go_ret
    exact ⟨rfl, Below.refl _ _⟩
  · go_enter Try.func10, Try.ntmps10
    go_wp2_with fail
    refine (drawChangeFor_any _ _ _ _ h).mono ?_
    rintro e w1 ⟨l, v, am, rfl, hl6, o1, D1⟩
    clear h
    obtain ⟨A1, c1, rfl, _, q1⟩ := o1.reads len2
    clear o1
    obtain ⟨RL, hRL⟩ : ∃ x, x = chgL l am := ⟨_, rfl⟩
    have hRn : RL.length ≤ 6 := by rw [hRL]; exact chgL_le hl6
    have HR := hid hRL
    clear hRL
    go_wp2_with fail
    refine (changeFor_any l A1 c1 am _ q1 (by omega)).mono ?_
    rintro e w2 ⟨v2, rfl, o2, b2⟩
    rw [← HR.out] at o2
    obtain ⟨A2, c2, rfl, _, s2⟩ := o2.reads len1
    have D2 := D1.trans (b2.mono D1.size)
    have q2 := (q1.below b2 (Nat.le_refl _)).more b2.size
    clear o2 b2 D1 q1
    go_wp2_with fail
    refine (specChangeFor_any l A1 c1 am _ q2 (by omega)).mono ?_
    rintro e w3 ⟨v3, rfl, o3, b3⟩
    rw [← HR.out] at o3
    obtain ⟨A3, c3, rfl, _, r3⟩ := o3.reads len1
    have D3 := D2.trans (b3.mono D2.size)
    have q3 := (q2.below b3 (Nat.le_refl _)).more b3.size
    have s3 := (s2.below b3 (Nat.le_refl _)).more b3.size
    clear o3 b3 D2 q2 s2
    go_wp2_with fail
    refine (equalInts_same RL A2 A3 c2 c3 _ s3 r3 (by omega)).mono ?_
    rintro e w4 ⟨rfl, b4⟩
    have D4 := D3.trans (b4.mono D3.size)
    have q4 := (q3.below b4 (Nat.le_refl _)).more b4.size
    have s4 := (s3.below b4 (Nat.le_refl _)).more b4.size
    have r4 := (r3.below b4 (Nat.le_refl _)).more b4.size
    clear b4 D3 q3 s3 r3
    by_cases hv : vTill l = true
    · have HV := hid hv
      have hST := vTill_iff.1 hv
      have hz := chg_zero hST
      have hl5 := hST.2.2
      have hsz := (chg_sel hz.1).1
      obtain ⟨Z, hZ⟩ : ∃ x, chg l 0 = x := ⟨_, rfl⟩
      have HZK := hid hz.1
      have HZL := hid (show chgL l 0 = Z by rw [chgL, hz.1, if_pos rfl, hZ])
      have HZS := hid (show isum Z = 0 by rw [← hZ]; exact hz.2)
      rw [hZ] at hsz
      have hzl : Z.length = l.length := hsz.len
      have hzn : Z.length ≤ 1000 := by omega
      have HZM := hid (show ∀ x ∈ Z, 0 ≤ x ∧ x ≤ 1000 from fun x hx => by have := hsz.mem hST.ct x hx; omega)
      have HT := hid (show tvalI l = tval l by simp [tvalI, hv])
      have hok2 : okC l am = true → am ≤ tval l := fun hk => (chg_bd hk).2.2
      have HO2 := hid hok2
      clear hv hZ hz hsz hzl hok2 r4 s4 hST
      go_wp2_with fail
      refine (validTill_any l A1 c1 _ q4 (by omega)).mono ?_
      rintro e w5 ⟨rfl, b5⟩
      rw [HV.out]
      have D5 := D4.trans (b5.mono D4.size)
      have q5 := (q4.below b5 (Nat.le_refl _)).more b5.size
      clear b5 D4 q4
      go_wp2_with fail
      refine (changeFor_any l A1 c1 0 _ q5 (by omega)).mono ?_
      rintro e w6 ⟨v6, rfl, o6, b6⟩
      rw [HZL.out] at o6
      rw [HZK.out]
      obtain ⟨A6, c6, rfl, _, z6⟩ := o6.reads len1
      clear o6
      have D6 := D5.trans (b6.mono D5.size)
      have q6 := (q5.below b6 (Nat.le_refl _)).more b6.size
      clear b6 D5 q5
      go_wp2_with fail
      refine (sum_any Z A6 _ _ z6 hzn HZM.out).mono ?_
      rintro e w' ⟨rfl, rfl⟩
      rw [HZS.out]
      by_cases hok : okC l am = true
      · have HE := hid (HO2.out hok)
        obtain ⟨T, hT⟩ : ∃ x, tval l = x := ⟨_, rfl⟩
        have HT2 := hid (show tvalI l = T by rw [HT.out, hT])
        have hle := HE.out
        rw [hT] at hle
        have HF := hid (show decide (am ≤ T) = true by simpa using hle)
        clear hT hle z6
        go_wp2_with fail
        refine (tillValue_any l A1 c1 _ q6 (by omega)).mono ?_
        rintro e w7 ⟨rfl, b7⟩
        rw [HT2.out]
        have D7 := D6.trans (b7.mono D6.size)
        clear q6 b7 D6 
        have DD := hid D7
        clear D7
        go_wp2
        go_ret
        exact ⟨ret_bool HF.out, DD.out⟩
      · have hok' : okC l am = false := by simpa using hok
        clear hok q6 z6
        have DD := hid D6
        clear D6
        go_wp2
        go_ret
        exact ⟨rfl, DD.out⟩
    · have hv' : vTill l = false := by simpa using hv
      have HV := hid hv'
      clear hv hv'
      go_wp2_with fail
      refine (validTill_any l A1 c1 _ q4 (by omega)).mono ?_
      rintro e w5 ⟨rfl, b5⟩
      rw [HV.out]
      have D5 := D4.trans (b5.mono D4.size)
      have s5 := (s4.below b5 (Nat.le_refl _)).more b5.size
      have r5 := (r4.below b5 (Nat.le_refl _)).more b5.size
      clear q4 b5 D4 s4 r4
      go_wp2_with fail
      refine (equalInts_same RL A2 A3 c2 c3 _ s5 r5 (by omega)).mono ?_
      rintro e w6 ⟨rfl, b6⟩
      have D6 := D5.trans (b6.mono D5.size)
      clear  s5 r5 b6 D5 
      have DD := hid D6
      clear D6
      go_wp2
      go_ret
      exact ⟨rfl, DD.out⟩

end Go.Proofs.Ytcjcolkhhmpmjaa
