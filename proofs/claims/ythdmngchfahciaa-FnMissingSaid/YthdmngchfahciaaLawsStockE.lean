/- The walks of the laws on missing pieces. -/
import Derived.Test.YthdmngchfahciaaDrawStock
import Derived.Test.YthdmngchfahciaaHoldCart
import Derived.Test.YthdmngchfahciaaMissS
import Derived.Test.YthdmngchfahciaaEqualLine
namespace Go.Proofs.Ythdmngchfahciaa
open Go.RowKit

theorem missL_le {l c : List (Int × Int)} (hc : c.length ≤ 9) : (missL l c).length ≤ 9 := by
  unfold missL
  split
  · have := missTo_len (l := l) (c := c); omega
  · simp
def FullRel (w5 : World) (l : List (Int × Int)) (v i : Value) (wr : World) : Prop :=
  ∃ (k : Nat) (o : List (Int × Int)), k ≤ l.length ∧ i = .int .i64 k ∧ o = fullL (l.take k) ∧ Own enc2 2 38 wr w5.heap.size v o ∧ Below w5.heap.size w5 wr

set_option maxHeartbeats 3200000 in
set_option maxRecDepth 100000 in
theorem fnMissingHold_walk (w : World) (A : Option Addr) (len cap : Nat) (h : Bytes w w.heap.size A len cap) :
    Calls Try.prog 10 #[.slice A len cap] w fun e w' => e = .returned (.bool true) ∧ Below w.heap.size w w' := by
  by_cases hl : 1048576 < len
  · clear h
    go_enter Try.func10, Try.ntmps10
    go_wp2
    go_ret
    exact ⟨rfl, Below.refl _ _⟩
  · go_enter Try.func10, Try.ntmps10
    go_wp2_with fail
    refine (drawMissing_any _ _ _ _ h).mono ?_
    rintro e w1 ⟨l, v, c, u, rfl, hl1, hl10, hc9, o1, p1, D1⟩
    clear h
    obtain ⟨A1, c1, rfl, _, q1⟩ := o1.reads len2
    obtain ⟨C1, k1, rfl, _, t1⟩ := p1.reads len2
    clear o1 p1
    obtain ⟨RL, hRL⟩ : ∃ x, x = missL l c := ⟨_, rfl⟩
    have hRn : RL.length ≤ 9 := by rw [hRL]; exact missL_le hc9
    have HR := hid hRL
    clear hRL
    go_wp2_with fail
    refine (missing_any l c A1 C1 c1 k1 _ q1 t1 (by omega) (by omega)).mono ?_
    rintro e w2 ⟨v2, rfl, o2, b2⟩
    rw [← HR.out] at o2
    obtain ⟨A2, c2, rfl, _, s2⟩ := o2.reads len2
    have D2 := D1.trans (b2.mono D1.size)
    have q2 := (q1.below b2 (Nat.le_refl _)).more b2.size
    have t2 := (t1.below b2 (Nat.le_refl _)).more b2.size
    clear o2 b2 D1 q1 t1
    go_wp2_with fail
    refine (sMissing_any l c A1 C1 c1 k1 _ q2 t2 (by omega) (by omega)).mono ?_
    rintro e w3 ⟨v3, rfl, o3, b3⟩
    rw [← HR.out] at o3
    obtain ⟨A3, c3, rfl, _, r3⟩ := o3.reads len2
    have D3 := D2.trans (b3.mono D2.size)
    have q3 := (q2.below b3 (Nat.le_refl _)).more b3.size
    have t3 := (t2.below b3 (Nat.le_refl _)).more b3.size
    have s3 := (s2.below b3 (Nat.le_refl _)).more b3.size
    clear o3 b3 D2 q2 t2 s2
    go_wp2_with fail
    refine (equalLines_same RL A2 A3 c2 c3 _ s3 r3 (by omega)).mono ?_
    rintro e w4 ⟨rfl, b4⟩
    have D4 := D3.trans (b4.mono D3.size)
    have q4 := (q3.below b4 (Nat.le_refl _)).more b4.size
    have t4 := (t3.below b4 (Nat.le_refl _)).more b4.size
    have s4 := (s3.below b4 (Nat.le_refl _)).more b4.size
    clear r3 b4 D3 q3 t3 s3
    by_cases hz : RL.length = 0
    · have HZ := hid hz
      have hzi : (RL.length == 0) = true := by simpa using hz
      have hzj : ((RL.length : Int) == 0) = true := by simpa using hz
      clear hz
      go_wp2_with fail
      refine (sMissing_any l c A1 C1 c1 k1 _ q4 t4 (by omega) (by omega)).mono ?_
      rintro e w5 ⟨v5, rfl, o5, b5⟩
      rw [← HR.out] at o5
      obtain ⟨A5, c5, rfl, _, x5⟩ := o5.reads len2
      have D5 := D4.trans (b5.mono D4.size)
      have s5 := (s4.below b5 (Nat.le_refl _)).more b5.size
      clear q4 t4 o5 b5 D4 s4
      go_wp2_with fail
      refine (equalLines_same RL A2 A5 c2 c5 _ s5 x5 (by omega)).mono ?_
      rintro e w6 ⟨rfl, b6⟩
      have D6 := D5.trans (b6.mono D5.size)
      clear s5 x5 b6 D5 
      have DD := hid D6
      clear D6
      go_wp2
      go_ret
      exact ⟨rfl, DD.out⟩
    · have hzi : (RL.length == 0) = false := by simpa using hz
      have hzj : ((RL.length : Int) == 0) = false := by simpa using hz
      have hok : okMiss l c = true := by
        cases hk : okMiss l c
        · exfalso; apply hz; rw [HR.out]; simp [missL, hk]
        · rfl
      have hne : missTo l c ≠ [] := by
        intro he
        apply hz; rw [HR.out]; simp [missL, he]
      obtain ⟨hSl, hSc⟩ := okMiss_true.1 hok
      have HSL := hid hSl
      have HSC := hid hSc
      have HKH := hid (hold_miss hne)
      have HMF := hid (show missL (fullL l) c = [] by simp only [missL, miss_full hSc, ite_self])
      clear hz hok hne hSl hSc s4
      go_wp2_with fail
      refine (holdCart_any l c A1 C1 c1 k1 _ q4 t4 (by omega) (by omega)).mono ?_
      rintro e w5 ⟨v5, rfl, o5, b5⟩
      rw [HKH.out]
      clear o5
      have D5 := D4.trans (b5.mono D4.size)
      have q5 := (q4.below b5 (Nat.le_refl _)).more b5.size
      have t5 := (t4.below b5 (Nat.le_refl _)).more b5.size
      clear b5 D4 q4 t4
      have O5 := Own.lit0 enc2 2 38 w5 w5.heap.size rfl (Nat.le_refl _)
      have B5 := (Below.refl w5.heap.size w5).alloc (Nat.le_refl _) (.cells #[] 38)
      go_wp2_with fail
      go_loopw [8, 9] (fun v i wr => FullRel w5 l v i wr) (fun _ i _ => l.length - (intOf i).toNat)
      case atStart => exact ⟨0, [], Nat.zero_le _, rfl, by simp [fullL], O5, B5⟩
      case round =>
        clear O5 B5
        obtain ⟨k, o, hk, rfl, hoe, ho, hb⟩ := hrel
        have HOE := hid hoe
        have hol : o.length ≤ 10 := by rw [hoe]; simp only [fullL, List.length_map, List.length_take]; omega
        have hsz := hb.size
        have HB := hid hb
        clear hoe
        by_cases hlt : k < l.length
        · obtain ⟨b, off, rfl, hbb, x1, x2⟩ := q5.get2 hlt
          have hft := fullL_take hlt
          obtain ⟨y, hy⟩ : ∃ y, g2 l k = y := ⟨_, rfl⟩
          rw [hy] at x2 hft
          have HFT := hid hft
          have d2 : wr.cell? ⟨b, off + k * 2 + 1, none⟩ = some (.int .i64 y) := (hb.cell hbb).trans x2
          clear x1 x2 hy hb hft
          go_wp2_with (at_builtin; refine wpList_push len2 one2 rfl (.tmp 50) (.tmp 57) _ rfl Try.underlying25 infoStockD rfl (by omega) (by omega) rfl (ho) ⟨100, y⟩ (by simp) rfl rfl (by (try simp) <;> omega) (by (try simp) <;> omega) ?_)
          intro v2 w7 ho2 hg2 _
          have D7 := hid (below_push HB.out hsz ho (Nat.le_refl _) hg2)
          clear hg2
          go_wp2
          go_roundw
          case rel =>
            refine ⟨k + 1, o ++ [(100, y)], by omega, by go_num, ?_, ho2, D7.out⟩
            rw [HFT.out, HOE.out]
          case measure => simp [intOf]; omega
        · have hkl : k = l.length := by omega
          subst hkl
          have HE := hid (show o = fullL l by rw [HOE.out, List.take_length])
          have hol2 : o.length = l.length := by rw [HE.out]; simp [fullL]
          obtain ⟨A6, c6, rfl, _, f6⟩ := ho.reads len2
          have t6 := (t5.below HB.out (Nat.le_refl _)).more HB.out.size
          have D6 := D5.trans (HB.out.mono D5.size)
          have HOM := hid (show missL o c = [] by rw [HE.out]; exact HMF.out)
          have hol3 : o.length ≤ 1048576 := by omega
          clear hol2 ho hb D5 t5 q5
          go_wp2_with fail
          refine (missing_any o c A6 C1 c6 k1 _ f6 t6 hol3 (by omega)).mono ?_
          rintro e w7 ⟨v7, rfl, o7, b7⟩
          rw [HOM.out] at o7
          obtain ⟨A7, c7, rfl, _, _⟩ := o7.reads len2
          clear o7
          have D7 := D6.trans (b7.mono D6.size)
          clear f6 t6 b7 D6 
          have DD := hid D7
          clear D7
          go_wp2
          go_ret
          exact ⟨rfl, DD.out⟩

set_option maxHeartbeats 3200000 in
set_option maxRecDepth 100000 in
theorem fnMissing_walk (w : World) (A : Option Addr) (len cap : Nat) (h : Bytes w w.heap.size A len cap) :
    Calls Try.prog 4 #[.slice A len cap] w fun e w' => e = .returned (.bool true) ∧ Below w.heap.size w w' := by
  by_cases hl : 1048576 < len
  · clear h
    go_enter Try.func4, Try.ntmps4
    go_wp2
    go_ret
    exact ⟨rfl, Below.refl _ _⟩
  · go_enter Try.func4, Try.ntmps4
    go_wp2_with fail
    refine (drawMissing_any _ _ _ _ h).mono ?_
    rintro e w1 ⟨l, v, c, u, rfl, hl1, hl10, hc9, o1, p1, D1⟩
    clear h
    obtain ⟨A1, c1, rfl, _, q1⟩ := o1.reads len2
    obtain ⟨C1, k1, rfl, _, t1⟩ := p1.reads len2
    clear o1 p1
    obtain ⟨RL, hRL⟩ : ∃ x, x = missL l c := ⟨_, rfl⟩
    have hRn : RL.length ≤ 9 := by rw [hRL]; exact missL_le hc9
    have HR := hid hRL
    clear hRL
    go_wp2_with fail
    refine (missing_any l c A1 C1 c1 k1 _ q1 t1 (by omega) (by omega)).mono ?_
    rintro e w2 ⟨v2, rfl, o2, b2⟩
    rw [← HR.out] at o2
    obtain ⟨A2, c2, rfl, _, s2⟩ := o2.reads len2
    have D2 := D1.trans (b2.mono D1.size)
    have q2 := (q1.below b2 (Nat.le_refl _)).more b2.size
    have t2 := (t1.below b2 (Nat.le_refl _)).more b2.size
    clear o2 b2 D1 q1 t1
    go_wp2_with fail
    refine (sMissing_any l c A1 C1 c1 k1 _ q2 t2 (by omega) (by omega)).mono ?_
    rintro e w3 ⟨v3, rfl, o3, b3⟩
    rw [← HR.out] at o3
    obtain ⟨A3, c3, rfl, _, r3⟩ := o3.reads len2
    have D3 := D2.trans (b3.mono D2.size)
    have q3 := (q2.below b3 (Nat.le_refl _)).more b3.size
    have t3 := (t2.below b3 (Nat.le_refl _)).more b3.size
    have s3 := (s2.below b3 (Nat.le_refl _)).more b3.size
    clear o3 b3 D2 q2 t2 s2
    go_wp2_with fail
    refine (equalLines_same RL A2 A3 c2 c3 _ s3 r3 (by omega)).mono ?_
    rintro e w4 ⟨rfl, b4⟩
    have D4 := D3.trans (b4.mono D3.size)
    have q4 := (q3.below b4 (Nat.le_refl _)).more b4.size
    have t4 := (t3.below b4 (Nat.le_refl _)).more b4.size
    have s4 := (s3.below b4 (Nat.le_refl _)).more b4.size
    clear r3 b4 D3 q3 t3 s3
    by_cases hz : RL.length = 0
    · have HZ := hid hz
      have hzi : (RL.length == 0) = true := by simpa using hz
      have hzj : ((RL.length : Int) == 0) = true := by simpa using hz
      clear hz
      go_wp2_with fail
      refine (sMissing_any l c A1 C1 c1 k1 _ q4 t4 (by omega) (by omega)).mono ?_
      rintro e w5 ⟨v5, rfl, o5, b5⟩
      rw [← HR.out] at o5
      obtain ⟨A5, c5, rfl, _, x5⟩ := o5.reads len2
      have D5 := D4.trans (b5.mono D4.size)
      have s5 := (s4.below b5 (Nat.le_refl _)).more b5.size
      clear q4 t4 o5 b5 D4 s4
      go_wp2_with fail
      refine (equalLines_same RL A2 A5 c2 c5 _ s5 x5 (by omega)).mono ?_
      rintro e w6 ⟨rfl, b6⟩
      have D6 := D5.trans (b6.mono D5.size)
      clear s5 x5 b6 D5 
      have DD := hid D6
      clear D6
      go_wp2
      go_ret
      exact ⟨rfl, DD.out⟩
    · have hzi : (RL.length == 0) = false := by simpa using hz
      have hzj : ((RL.length : Int) == 0) = false := by simpa using hz
      have hok : okMiss l c = true := by
        cases hk : okMiss l c
        · exfalso; apply hz; rw [HR.out]; simp [missL, hk]
        · rfl
      have hRe : RL = missTo l c := by rw [HR.out]; simp [missL, hok]
      obtain ⟨hSl, hSc⟩ := okMiss_true.1 hok
      have HSL := hid hSl
      have HSC := hid hSc
      have HRE := hid hRe
      clear hz hok hRe hSl hSc
      go_wp2_with fail
      go_loopw [6, 7] (fun n i wr => ∃ k : Nat, k ≤ c.length ∧ i = .int .i64 k ∧ n = .int .i64 ((missTo l (c.take k)).length : Int) ∧ Below w4.heap.size w4 wr) (fun _ i _ => c.length - (intOf i).toNat)
      case atStart => exact ⟨0, Nat.zero_le _, rfl, by simp [missTo], Below.refl _ _⟩
      case round =>
        obtain ⟨k, hk, rfl, rfl, hb⟩ := hrel
        have hsz := hb.size
        by_cases hlt : k < c.length
        · obtain ⟨b, off, rfl, hbb, x1, x2⟩ := t4.get2 hlt
          have hx := HSC.out.at_ hlt
          have hty := @missTo_yes l c k hlt
          have htn := @missTo_no l c k hlt
          have hta := @missTo_at l c k hlt
          obtain ⟨a, ha⟩ : ∃ a : Nat, g1 c k = a := ⟨(g1 c k).toNat, by omega⟩
          obtain ⟨q, hq⟩ : ∃ q, g2 c k = q := ⟨_, rfl⟩
          rw [ha, hq, Int.toNat_natCast] at hty
          rw [ha, hq, Int.toNat_natCast] at htn
          rw [ha, hq, Int.toNat_natCast] at hta
          rw [ha] at x1 hx
          rw [hq] at x2 hx
          have d1 : wr.cell? ⟨b, off + k * 2, none⟩ = some (.int .i64 (a : Int)) := (hb.cell hbb).trans x1
          have d2 : wr.cell? ⟨b, off + k * 2 + 1, none⟩ = some (.int .i64 q) := (hb.cell hbb).trans x2
          have hal : a < l.length := by omega
          obtain ⟨_, hq1, hq2⟩ := hx
          obtain ⟨b', off', rfl, hbb', x3, _⟩ := q4.get2 hal
          have hf := (HSL.out.1 a hal).1
          obtain ⟨x, hx1⟩ : ∃ x, g1 l a = x := ⟨_, rfl⟩
          obtain ⟨m, hm⟩ : ∃ m, missTo l (c.take k) = m := ⟨_, rfl⟩
          rw [hx1] at x3 hf hty htn hta
          rw [hm] at hty htn hta ⊢
          have d3 : wr.cell? ⟨b', off' + a * 2, none⟩ = some (.int .i64 x) := (hb.cell hbb').trans x3
          obtain ⟨s1, s2⟩ := hf
          have HTY := hid hty
          have HTN := hid htn
          have HTA := hid hta
          have w1 : IntKind.i64.wrap (q - x) = q - x := IntWalk.i64_in _ (by omega)
          have t1 : (a : Int) < (l.length : Int) := by omega
          have t2 : (k : Int) < (c.length : Int) := by omega
          clear x1 x2 x3 ha hq hx1 hty htn hta hm
          by_cases hpos : 0 < q - x
          · have hpos' : x < q := by omega
            have h3 := HTA.out hpos
            rw [← HRE.out] at h3
            obtain ⟨b2, off2, rfl, hbb2, z1, z2⟩ := s4.get2 h3.1
            rw [h3.2.1] at z1
            rw [h3.2.2] at z2
            have d4 : wr.cell? ⟨b2, off2 + m.length * 2, none⟩ = some (.int .i64 (a : Int)) := (hb.cell hbb2).trans z1
            have d5 : wr.cell? ⟨b2, off2 + m.length * 2 + 1, none⟩ = some (.int .i64 (q - x)) := (hb.cell hbb2).trans z2
            have t3 : (m.length : Int) < (RL.length : Int) := by omega
            have t4' : decide (RL.length ≤ m.length) = false := decide_eq_false (by omega)
            clear z1 z2 h3
            go_wp2_with fail
            go_quiet (fail)
            clear w1
            go_wp2_with fail
            go_quiet (fail)
            go_wp2
            go_roundw
            case rel =>
              refine ⟨k + 1, by omega, by go_num, ?_, ?_⟩
              · rw [HTY.out (by omega)]; simp
              · repeat (first | exact Below.refl _ _ | (refine Below.alloc ?_ (by (try simp) <;> omega) _) | (refine Below.setCell ?_ (by (try simp) <;> omega) _) | (refine Below.drew ?_) | (refine below_drewN ?_ _) | (refine Below.trans ?_ (Below.mono (by assumption) (by (try simp) <;> omega))))
            case measure => simp [intOf]; omega
          · have hpos' : q ≤ x := by omega
            have HP := hid hpos
            go_wp2_with fail
            go_quiet (fail)
            clear w1
            go_wp2
            go_roundw
            case rel =>
              refine ⟨k + 1, by omega, by go_num, ?_, ?_⟩
              · rw [HTN.out HP.out]
              · repeat (first | exact Below.refl _ _ | (refine Below.alloc ?_ (by (try simp) <;> omega) _) | (refine Below.setCell ?_ (by (try simp) <;> omega) _) | (refine Below.drew ?_) | (refine below_drewN ?_ _) | (refine Below.trans ?_ (Below.mono (by assumption) (by (try simp) <;> omega))))
            case measure => simp [intOf]; omega
        · have hkl : k = c.length := by omega
          subst hkl
          rw [List.take_length, ← HRE.out]
          have DD := hid (D4.trans (hb.mono D4.size))
          clear D4 hb
          go_wp2
          go_ret
          exact ⟨ret_bool (by simp), DD.out⟩

end Go.Proofs.Ythdmngchfahciaa
