/- The walk of the law that change is the amount. -/
import Derived.Test.YtcjcolkhhmpmjaaDrawChange
import Derived.Test.YtcjcolkhhmpmjaaChangeS
import Derived.Test.YtcjcolkhhmpmjaaEqualInt
import Derived.Test.YtcjcolkhhmpmjaaTillD
namespace Go.Proofs.Ytcjcolkhhmpmjaa
open Go.RowKit

theorem chgL_le {l : List (Int × Int)} {n : Int} (h : l.length ≤ 6) : (chgL l n).length ≤ 6 := by
  unfold chgL
  split
  · rw [chg_len]; exact h
  · simp

set_option maxHeartbeats 3200000 in
set_option maxRecDepth 100000 in
theorem fnChangeFor_walk (w : World) (A : Option Addr) (len cap : Nat) (h : Bytes w w.heap.size A len cap) :
    Calls Try.prog 6 #[.slice A len cap] w fun e w' => e = .returned (.bool true) ∧ Below w.heap.size w w' := by
  by_cases hl : 1048576 < len
  · clear h
    go_enter Try.func6, Try.ntmps6
    go_wp2
    go_ret
    exact ⟨rfl, Below.refl _ _⟩
  · go_enter Try.func6, Try.ntmps6
    go_wp2_with fail
    refine (drawChangeFor_any _ _ _ _ h).mono ?_
    rintro e w1 ⟨l, v, am, rfl, hl6, o1, D1⟩
    clear h
    obtain ⟨A1, c1, rfl, _, q1⟩ := o1.reads len2
    clear o1
    obtain ⟨RL, hRL⟩ : ∃ x, x = chgL l am := ⟨_, rfl⟩
    have hRn : RL.length ≤ 6 := by rw [hRL]; exact chgL_le hl6
    have HR := hid hRL
    clear hRL
    go_wp2_with fail
    refine (changeFor_any l A1 c1 am _ q1 (by omega)).mono ?_
    rintro e w2 ⟨v2, rfl, o2, b2⟩
    rw [← HR.out] at o2
    obtain ⟨A2, c2, rfl, _, s2⟩ := o2.reads len1
    have D2 := D1.trans (b2.mono D1.size)
    have q2 := (q1.below b2 (Nat.le_refl _)).more b2.size
    clear o2 b2 D1 q1
    go_wp2_with fail
    refine (specChangeFor_any l A1 c1 am _ q2 (by omega)).mono ?_
    rintro e w3 ⟨v3, rfl, o3, b3⟩
    rw [← HR.out] at o3
    obtain ⟨A3, c3, rfl, _, r3⟩ := o3.reads len1
    have D3 := D2.trans (b3.mono D2.size)
    have q3 := (q2.below b3 (Nat.le_refl _)).more b3.size
    have s3 := (s2.below b3 (Nat.le_refl _)).more b3.size
    clear o3 b3 D2 q2 s2
    go_wp2_with fail
    refine (equalInts_same RL A2 A3 c2 c3 _ s3 r3 (by omega)).mono ?_
    rintro e w4 ⟨rfl, b4⟩
    have D4 := D3.trans (b4.mono D3.size)
    have q4 := (q3.below b4 (Nat.le_refl _)).more b4.size
    have s4 := (s3.below b4 (Nat.le_refl _)).more b4.size
    have r4 := (r3.below b4 (Nat.le_refl _)).more b4.size
    clear b4 D3 q3 s3 r3
    by_cases hok : okC l am = true
    · obtain ⟨hST, hN, _⟩ := okC_true.1 hok
      have hRe : RL = chg l am := by rw [HR.out, chgL, hok, if_pos rfl]
      have hSel := (chg_sel hok).1
      rw [← hRe] at hSel
      have hmem := hSel.mem hST.ct
      have hRl : RL.length = l.length := hSel.len
      have hl5 := hST.2.2
      have hbd := chg_bd hok
      rw [← hRe] at hbd
      have HOK := hid hok
      have HST := hid hST
      have HSE := hid hSel
      have HME := hid (show ∀ x ∈ RL, 0 ≤ x ∧ x ≤ 1000 from fun x hx => by have := hmem x hx; omega)
      have HRL := hid hRl
      have HRE := hid hRe
      obtain ⟨S, hS⟩ : ∃ x, isum RL = x := ⟨_, rfl⟩
      rw [hS] at hbd
      have HS := hid hS
      obtain ⟨hb1, hb2, hb3⟩ := hbd
      obtain ⟨hn1, hn2⟩ := hN
      have HME2 := hid hmem
      clear hSel hmem hRl hRe hST hS
      go_wp2_with fail
      go_loopw [9, 10] (fun n i wr => ∃ k : Nat, k ≤ l.length ∧ i = .int .i64 k ∧ n = .int .i64 (dotL (l.take k) (RL.take k)) ∧ Below w4.heap.size w4 wr) (fun _ i _ => l.length - (intOf i).toNat)
      case atStart => exact ⟨0, Nat.zero_le _, rfl, by simp [dotL], Below.refl _ _⟩
      case round =>
        obtain ⟨k, hk, rfl, rfl, hb⟩ := hrel
        have hsz := hb.size
        by_cases hlt : k < l.length
        · obtain ⟨b, off, rfl, hbb, x1, x2⟩ := q4.get2 hlt
          obtain ⟨b', off', rfl, hbb', y1⟩ := s4.get1 (k := k) (by have := HRL.out; omega)
          have hat := HSE.out.at_ hlt
          have hxb := HST.out.bd hlt
          have hst := dotL_step HRL.out hlt
          have hdb := dotL_bd (l := l.take k) (cs := RL.take k) (HST.out.ct.take k) (fun c hc => HME2.out c (List.mem_of_mem_take hc))
          have hlk : (l.take k).length ≤ 5 := by rw [List.length_take]; omega
          obtain ⟨X, hX⟩ : ∃ x, g1 l k = x := ⟨_, rfl⟩
          obtain ⟨Y, hY⟩ : ∃ x, g2 l k = x := ⟨_, rfl⟩
          obtain ⟨Z, hZ⟩ : ∃ x, g0 RL k = x := ⟨_, rfl⟩
          obtain ⟨N, hN⟩ : ∃ x, dotL (l.take k) (RL.take k) = x := ⟨_, rfl⟩
          rw [hX] at x1 hxb hst
          rw [hY] at x2 hxb hat
          rw [hZ] at y1 hat hst
          rw [hN] at hst hdb ⊢
          have HSTP := hid hst
          have d1 : wr.cell? ⟨b, off + k * 2, none⟩ = some (.int .i64 X) := (hb.cell hbb).trans x1
          have d2 : wr.cell? ⟨b, off + k * 2 + 1, none⟩ = some (.int .i64 Y) := (hb.cell hbb).trans x2
          have d3 : wr.cell? ⟨b', off' + k, none⟩ = some (.int .i64 Z) := (hb.cell hbb').trans y1
          obtain ⟨⟨hx1, hx2⟩, hx3, hx4⟩ := hxb
          obtain ⟨ha1, ha2⟩ := hat
          obtain ⟨hd1, hd2⟩ := hdb
          have hd3 : N ≤ 50000 := by omega
          have p1 : 0 ≤ Z * X := Int.mul_nonneg ha1 (by omega)
          have p2 : Z * X ≤ 10000 := by
            have : Z * X ≤ 20 * 500 := Int.mul_le_mul (by omega) (by omega) (by omega) (by omega)
            omega
          have w1 : IntKind.i64.wrap (Z * X) = Z * X := IntWalk.i64_in _ (by omega)
          have w2 : IntKind.i64.wrap (N + Z * X) = N + Z * X := IntWalk.i64_in _ (by omega)
          have hkl : (k : Int) < (l.length : Int) := by omega
          have hkr : (k : Int) < (RL.length : Int) := by have := HRL.out; omega
          have hge : decide (l.length ≤ k) = false := decide_eq_false (by omega)
          have e1 : decide (Z < 0) = false := decide_eq_false (by omega)
          have e2 : decide (Y < Z) = false := decide_eq_false (by omega)
          clear x1 x2 y1 hst hX hY hZ hN
          go_wp2_with fail
          go_quiet (fail)
          go_wp2_with fail
          go_quiet (fail)
          go_wp2
          go_roundw
          case rel =>
            refine ⟨k + 1, by omega, by go_num, ?_, ?_⟩
            · rw [HSTP.out]
            · repeat (first | exact Below.refl _ _ | (refine Below.alloc ?_ (by (try simp) <;> omega) _) | (refine Below.setCell ?_ (by (try simp) <;> omega) _) | (refine Below.drew ?_) | (refine below_drewN ?_ _) | (refine Below.trans ?_ (Below.mono (by assumption) (by (try simp) <;> omega))))
          case measure => simp [intOf]; omega
        · obtain rfl : l.length = k := by omega
          have hkr : ¬ (l.length : Int) < (RL.length : Int) := by have := HRL.out; omega
          have hdt : dotL (l.take l.length) (RL.take l.length) = am := by
            rw [List.take_length, List.take_of_length_le (by rw [HRL.out]; exact Nat.le_refl _)]; exact dotL_sel HSE.out
          rw [hdt]
          have hle := HRL.out
          have DD := hid (D4.trans (hb.mono D4.size))
          clear D4 hb hdt
          go_wp2
          go_ret
          exact ⟨ret_bool (by simp), DD.out⟩
    · have hok' : okC l am = false := by simpa using hok
      clear hok
      go_wp2_with fail
      refine (equalInts_same RL A2 A3 c2 c3 _ s4 r4 (by omega)).mono ?_
      rintro e w5 ⟨rfl, b5⟩
      have D5 := D4.trans (b5.mono D4.size)
      clear q4 s4 r4 b5 D4 
      have DD := hid D5
      clear D5
      go_wp2
      go_ret
      exact ⟨rfl, DD.out⟩

end Go.Proofs.Ytcjcolkhhmpmjaa
