/- Contract of the generator of rows of valid rules. -/
import Derived.Test.YtkgofklpogdpmaaGreatZDrawRuleA
import Derived.Test.YtkgofklpogdpmaaGreatZD
import Derived.Test.YtkgofklpogdpmaaGreatZOrdI
import Derived.Test.YtkgofklpogdpmaaGreatZF
namespace Go.Proofs.YtkgofklpogdpmaaGreat
open Go.RowKit

def SomeRulesRel (w : World) (B R N : Nat) (v n : Value) (wr : World) : Prop :=
  ∃ (o : List ((Int × Int × Int × Int × Int × Int × Int) × (Int × Int) × (Option Addr × Nat × List (Int × Int)) × Int)) (k : Int), 0 ≤ k ∧ n = .int .i64 k ∧ o.length + k ≤ 6 ∧ RS w B R (N + 1 + 14 * o.length) v o wr

set_option maxHeartbeats 6400000 in

theorem someRules_any (w : World) (B R N : Nat) (h : Rdr w B R N) (hN : N ≤ 300000) :
    Calls Tryz.prog 70 #[.pointer (some ⟨R, 0, none⟩)] w (RulesPost w B R (N + 85) 6) := by
  have hR := h.lt
  have hRB := hR.1
  have hRw := hR.2
  clear hR
  have S0 := hid (RS.nil0 h)
  have h0 := h.alloc (.cells #[] 54)
  go_enter Tryz.func70, Tryz.ntmps70
  go_wp2_with fail
  refine (one_any [2, 3, 4, 1, 0, 6] _ _ _ _ _ _ _ h0 (by omega) (by simp) rfl (by simp) rfl (by simp)).mono ?_
  rintro e w2 ⟨n, rfl, hm, h2, g2⟩
  simp at hm
  have n1 : 0 ≤ n := by omega
  have n2 : n ≤ 6 := by omega
  have S2 := hid (S0.out.call hRw g2 h2)
  clear hm g2 h0 h2 h S0
  go_wp2_with fail
  go_loopw [3, 4] (fun v n wr => SomeRulesRel w B R N v n wr) (fun _ n _ => (intOf n).toNat)
  case atStart => exact ⟨[], n, n1, rfl, by simp; omega, S2.out⟩
  case round =>
    clear S2
    obtain ⟨o, k, k0, rfl, e3, hs⟩ := hrel
    have HS := hid hs
    clear hs
    have zr := HS.out.size
    have hr := HS.out.2.2.1
    by_cases hk : 0 < k
    · have hw7 : IntKind.i64.wrap (7 * k) = 7 * k := IntWalk.i64_in _ (by omega)
      go_wp2_with fail
      refine (pick_any _ _ _ _ _ hr (by omega)).mono ?_
      rintro e w3 ⟨m, rfl, m1, m2, _, h3, g3⟩
      have m3 := m2 (by omega)
      have S3 := hid (HS.out.call hRw g3 h3)
      have z3 := S3.out.size
      clear m2 g3 hr HS
      have hw8 : IntKind.i64.wrap (7 * k + m) = 7 * k + m := IntWalk.i64_in _ (by omega)
      have q1 : 0 ≤ (7 * k + m).tmod 20 ∧ (7 * k + m).tmod 20 < 20 := ⟨Int.tmod_nonneg _ (by omega), Int.tmod_lt_of_pos _ (by omega)⟩
      have hw9 : IntKind.i64.wrap ((7 * k + m).tmod 20) = (7 * k + m).tmod 20 := IntWalk.i64_in _ (by omega)
      have hw10 : IntKind.i64.wrap (1 + (7 * k + m).tmod 20) = 1 + (7 * k + m).tmod 20 := IntWalk.i64_in _ (by omega)
      go_wp2_with fail
      refine (someRule_any _ _ _ _ _ h3 (by omega)).mono ?_
      intro e w4 hp
      obtain ⟨n, lv, rk, gp, kd, vl, cp, lo, hi, cn, a, C, S, rfl, o4, sl, h4, g4⟩ := hp.parts
      have S4 := hid (S3.out.call hRw g4 h4)
      have Os4 := hid o4
      have SL := hid sl
      have z4 := S4.out.size
      clear hp o4 g4 h4 h3 sl S3
      obtain ⟨x, hx⟩ : ∃ x : ((Int × Int × Int × Int × Int × Int × Int) × (Int × Int) × (Option Addr × Nat × List (Int × Int)) × Int), x = ((n, lv, rk, gp, kd, vl, cp), (lo, hi), (a, C, S), cn) := ⟨_, rfl⟩
      have HE := hid (show (#[Value.int .i64 n, .int .i64 lv, .int .i64 rk, .int .i64 gp, .int .i64 kd, .int .i64 vl, .int .i64 cp, .int .i64 lo, .int .i64 hi, .slice a S.length C, .int .i64 cn] : Array Value).toList = encR x by rw [hx]; rfl)
      have HX1 := hid (show spV x = .slice a S.length C by rw [hx]; rfl)
      have HX2 := hid (show spnR x = S by rw [hx]; rfl)
      clear hx
      have hown := S4.out.1
      have k6 : o.length ≤ 6 := by omega
      go_wp2_with (at_builtin; refine wpList_push lenR oneR rfl (.tmp 13) (.tmp 23) _ rfl Tryz.underlying26 infoRule rfl (by omega) (by omega) rfl hown x rfl HE.out (by first | rfl | simp) (by omega) (by omega) ?_)
      intro v5 w5 ho5 hg5 _
      have S5 := hid (S4.out.push hRB hRw (x := x) (by rw [HX1.out, HX2.out]; exact Os4.out) z3 (by rw [HX2.out]; exact SL.out) ho5 hg5)
      clear hown ho5 hg5
      have hw11 : IntKind.i64.wrap (k - 1) = k - 1 := IntWalk.i64_in _ (by omega)
      go_wp2
      go_roundw
      case rel => exact ⟨o ++ [x], k - 1, by omega, rfl, by simp; omega, S5.out.more (by simp; omega)⟩
      case measure => simp [intOf]; omega
    · have hk0 : k = 0 := by omega
      subst hk0
      go_wp2
      go_ret
      exact ⟨o, _, rfl, by omega, HS.out.more (by omega)⟩

end Go.Proofs.YtkgofklpogdpmaaGreat

/- Contracts of the generators of rows of rules: clear ones, any ones. -/
namespace Go.Proofs.YtkgofklpogdpmaaGreat
open Go.RowKit

theorem RulesPost.at_ {w0 w w' : World} {B R M c : Nat} {e : Ending} (h : RulesPost w B R M c e w') (hg : w0.grownBy w (some R)) : RulesPost w0 B R M c e w' := by
  obtain ⟨l, v, h1, h2, h3⟩ := h
  exact ⟨l, v, h1, h2, h3.lift hg⟩

def ClearRel (w : World) (B R N : Nat) (A : Option Addr) (n c : Nat) (i : Value) (wr : World) : Prop :=
  ∃ (o : List ((Int × Int × Int × Int × Int × Int × Int) × (Int × Int) × (Option Addr × Nat × List (Int × Int)) × Int)) (k : Nat), k ≤ n ∧ i = .int .i64 (k : Int) ∧ o.length = n ∧ RS w B R (N + 85 + k) (.slice A n c) o wr

set_option maxHeartbeats 6400000 in
theorem clearRules_any (w : World) (B R N : Nat) (h : Rdr w B R N) (hN : N ≤ 200000) :
    Calls Tryz.prog 33 #[.pointer (some ⟨R, 0, none⟩)] w (RulesPost w B R (N + 200) 6) := by
  have hR := h.lt
  have hRB := hR.1
  have hRw := hR.2
  clear hR
  go_enter Tryz.func33, Tryz.ntmps33
  go_wp2_with fail
  refine (someRules_any _ _ _ _ h (by omega)).mono ?_
  rintro e w1 ⟨l, v, rfl, l6, hs⟩
  obtain ⟨A, c, hv, hlc, hsl⟩ := hs.1.reads lenR
  clear hlc hsl
  obtain ⟨n, hn⟩ : ∃ n, n = l.length := ⟨_, rfl⟩
  rw [← hn] at hv l6
  subst hv
  have S1 := hid hs
  have HN := hid hn
  clear hs h hn
  go_wp2_with fail
  go_loopw [4] (fun i wr => ClearRel w B R N A n c i wr) (fun i _ => (7 - intOf i).toNat)
  case atStart => exact ⟨l, 0, by omega, rfl, HN.out.symm, S1.out⟩
  case round =>
    clear S1 HN
    obtain ⟨o, k, k1, rfl, hon, hs⟩ := hrel
    have HS := hid hs
    have HO := hid hon
    clear hs hon
    have zr := HS.out.size
    by_cases hk : k < n
    · have hkl : k < o.length := by have := HO.out; omega
      obtain ⟨g, rfl, hg1, hg2⟩ : ∃ g, A = some ⟨g, 0, none⟩ ∧ w.heap.size ≤ g ∧ g < wr.heap.size := by
        rcases HS.out.1.form with ⟨h1, h2⟩ | ⟨g, cap, h1, h2, h3, _⟩
        · rw [h2] at hkl; simp at hkl
        · injection h1 with h1 _ _
          exact ⟨g, h1, h2, h3⟩
      obtain ⟨⟨⟨rn, rlv, rrk, rgp, rkd, rvl, rcp⟩, rsp, ras, rcn⟩, hx⟩ : ∃ x, x = atR o k := ⟨_, rfl⟩
      have HX := hid (show o[k]? = some ((rn, rlv, rrk, rgp, rkd, rvl, rcp), rsp, ras, rcn) by rw [hx]; exact atR_get hkl)
      clear hx
      have hc1 := HS.out.1.cell lenR HO.out.symm HX.out (j := 2) (u := .int .i64 rrk) rfl
      have hf1 := HS.out.1.frozen HO.out.symm (k * 11 + 2)
      go_wp2_with fail
      obtain ⟨w2, hw2⟩ : ∃ x, x = wr.setCell ⟨g, k * 11 + 2, none⟩ (.int .i64 (k : Int)) := ⟨_, rfl⟩
      have HW2 := hid hw2
      have S2 := hid (show RS w B R (N + 85 + k) (.slice (some ⟨g, 0, none⟩) n c) (o.set k ((rn, rlv, (k : Int), rgp, rkd, rvl, rcp), rsp, ras, rcn)) w2 by
        rw [hw2]; exact HS.out.set HO.out.symm hRB hRw HX.out (by omega) rfl rfl rfl)
      have z2 : w2.heap.size = wr.heap.size := by rw [hw2]; simp
      clear hw2 hc1 hf1 HS
      rw [← HW2.out]
      clear HW2
      refine (pick_any _ _ _ _ _ S2.out.2.2.1 (by omega)).mono ?_
      rintro e w3 ⟨m, rfl, m1, m2, _, h3, g3⟩
      have m3 := m2 (by omega)
      have S3 := hid (S2.out.call hRw g3 h3)
      have z3 := S3.out.size
      have HX3 := hid (show (o.set k ((rn, rlv, (k : Int), rgp, rkd, rvl, rcp), rsp, ras, rcn))[k]? = some ((rn, rlv, (k : Int), rgp, rkd, rvl, rcp), rsp, ras, rcn) from List.getElem?_set_self hkl)
      have HO3 := hid (show n = (o.set k ((rn, rlv, (k : Int), rgp, rkd, rvl, rcp), rsp, ras, rcn)).length by rw [List.length_set]; exact HO.out.symm)
      have hc3 : w3.cell? ⟨g, k * 11, none⟩ = some (.int .i64 rn) := S3.out.1.cell lenR HO3.out HX3.out (j := 0) (u := .int .i64 rn) rfl
      have hf3 := S3.out.1.frozen HO3.out (k * 11)
      clear m2 g3 h3 S2
      have t1 : 0 ≤ m * (n : Int) ∧ m * (n : Int) ≤ 12 := by
        have : m = 0 ∨ m = 1 := by omega
        rcases this with rfl | rfl <;> omega
      have t2 : 3 * m * (n : Int) = 3 * (m * (n : Int)) := Int.mul_assoc _ _ _
      have hw4 : IntKind.i64.wrap ((k : Int) + 1) = (k : Int) + 1 := IntWalk.i64_in _ (by omega)
      have hw5 : IntKind.i64.wrap (3 * m) = 3 * m := IntWalk.i64_in _ (by omega)
      have hw6 : IntKind.i64.wrap (3 * m * (n : Int)) = 3 * m * (n : Int) := IntWalk.i64_in _ (by omega)
      have hw7 : IntKind.i64.wrap ((k : Int) + 1 + 3 * m * (n : Int)) = (k : Int) + 1 + 3 * m * (n : Int) := IntWalk.i64_in _ (by omega)
      go_wp2
      go_roundw
      case rel => exact ⟨_, k + 1, by omega, by simp, by rw [List.length_set]; exact HO3.out.symm, (S3.out.set HO3.out hRB hRw HX3.out (j := 0) (r' := (((k : Int) + 1 + 3 * (m * (n : Int)), rlv, (k : Int), rgp, rkd, rvl, rcp), rsp, ras, rcn)) (by omega) rfl rfl rfl).more (by omega)⟩
      case measure => simp [intOf]; omega
    · have hk0 : k = n := by omega
      subst hk0
      go_wp2_with fail
      refine (pick_any _ _ _ _ _ HS.out.2.2.1 (by omega)).mono ?_
      rintro e w3 ⟨m, rfl, m1, m2, _, h3, g3⟩
      have S3 := hid (HS.out.call hRw g3 h3)
      clear m1 m2 g3 HS
      by_cases hz : m = 0
      · have y : (m == 0) = true := by rw [hz]; rfl
        clear hz
        go_wp2_with fail
        refine (someRules_any _ _ _ _ h3 (by omega)).mono ?_
        rintro e w4 ⟨l4, v4, rfl, l46, h4⟩
        have S4 := hid (h4.lift S3.out.2.2.2)
        clear h4 h3
        go_wp2
        go_ret
        exact ⟨l4, _, rfl, by omega, S4.out.more (by omega)⟩
      · have y : (m == 0) = false := beq_eq_false_iff_ne.2 hz
        clear hz
        go_wp2
        go_ret
        exact ⟨o, _, rfl, by have := HO.out; omega, S3.out.more (by omega)⟩

end Go.Proofs.YtkgofklpogdpmaaGreat

/- Contract of the generator of rows of rules, valid or not. -/
namespace Go.Proofs.YtkgofklpogdpmaaGreat
open Go.RowKit

def lenV : Value → Nat
  | .slice _ n _ => n
  | _ => 0
def AnyRulesRel (w : World) (B R N : Nat) (v : Value) (wr : World) : Prop := ∃ o : List ((Int × Int × Int × Int × Int × Int × Int) × (Int × Int) × (Option Addr × Nat × List (Int × Int)) × Int), o.length ≤ 7 ∧ RS w B R (N + 86 + 14 * o.length) v o wr

set_option maxHeartbeats 6400000 in
theorem anyRules_any (w : World) (B R N : Nat) (h : Rdr w B R N) (hN : N ≤ 200000) :
    Calls Tryz.prog 34 #[.pointer (some ⟨R, 0, none⟩)] w (RulesPost w B R (N + 200) 7) := by
  have hR := h.lt
  have hRB := hR.1
  have hRw := hR.2
  clear hR
  go_enter Tryz.func34, Tryz.ntmps34
  go_wp2_with fail
  refine (someRules_any _ _ _ _ h (by omega)).mono ?_
  rintro e w1 ⟨l, v, rfl, l6, hs⟩
  have S1 := hid hs
  have h1 := hs.2.2.1
  clear hs h
  go_wp2_with fail
  refine (pick_any _ _ _ _ _ h1 (by omega)).mono ?_
  rintro e w2 ⟨m, rfl, m1, _, _, h2, g2⟩
  have S2 := hid (S1.out.call hRw g2 h2)
  have z2 := S2.out.size
  clear g2 S1 h1 m1
  by_cases p0 : m = 0
  · have y0 : (m == 0) = true := by rw [p0]; rfl
    clear p0
    go_wp2_with fail
    refine (anyRule_any _ _ _ _ h2 (by omega)).mono ?_
    intro e w4 hp
    obtain ⟨n, lv, rk, gp, kd, vl, cp, lo, hi, cn, a, C, S, rfl, o4, sl, h4, g4⟩ := hp.parts
    have S4 := hid (S2.out.call hRw g4 h4)
    have Os4 := hid o4
    have SL := hid sl
    have z4 := S4.out.size
    clear hp o4 g4 h4 sl S2
    obtain ⟨x, hx⟩ : ∃ x : ((Int × Int × Int × Int × Int × Int × Int) × (Int × Int) × (Option Addr × Nat × List (Int × Int)) × Int), x = ((n, lv, rk, gp, kd, vl, cp), (lo, hi), (a, C, S), cn) := ⟨_, rfl⟩
    have HE := hid (show (#[Value.int .i64 n, .int .i64 lv, .int .i64 rk, .int .i64 gp, .int .i64 kd, .int .i64 vl, .int .i64 cp, .int .i64 lo, .int .i64 hi, .slice a S.length C, .int .i64 cn] : Array Value).toList = encR x by rw [hx]; rfl)
    have HX1 := hid (show spV x = .slice a S.length C by rw [hx]; rfl)
    have HX2 := hid (show spnR x = S by rw [hx]; rfl)
    clear hx
    have hown := S4.out.1
    go_wp2_with (at_builtin; refine wpList_push lenR oneR rfl (.tmp 10) (.tmp 13) _ rfl Tryz.underlying26 infoRule rfl (by omega) (by omega) rfl hown x rfl HE.out (by first | rfl | simp) (by omega) (by omega) ?_)
    intro v5 w5 ho5 hg5 _
    have S5 := hid (S4.out.push hRB hRw (x := x) (by rw [HX1.out, HX2.out]; exact Os4.out) z2 (by rw [HX2.out]; exact SL.out) ho5 hg5)
    clear hown ho5 hg5
    go_wp2
    go_ret
    exact ⟨l ++ [x], _, rfl, by simp; omega, S5.out.more (by omega)⟩
  have y0 : (m == 0) = false := beq_eq_false_iff_ne.2 p0
  clear p0
  by_cases p1 : m = 1
  · have y1 : (m == 1) = true := by rw [p1]; rfl
    clear p1
    go_wp2_with fail
    go_loopw [3] (fun v wr => AnyRulesRel w B R N v wr) (fun v _ => 7 - lenV v)
    case atStart => exact ⟨l, by omega, S2.out.more (by omega)⟩
    case round =>
      clear S2 h2 l6
      obtain ⟨o, o7, hs⟩ := hrel
      obtain ⟨A, c, rfl, hlc, hsl⟩ := hs.1.reads lenR
      have HS := hid hs
      clear hs hlc hsl
      have zr := HS.out.size
      have hr := HS.out.2.2.1
      by_cases hk : o.length < 7
      · have hw7 : IntKind.i64.wrap (30 + (o.length : Int)) = 30 + (o.length : Int) := IntWalk.i64_in _ (by omega)
        go_wp2_with fail
        refine (someRule_any _ _ _ _ _ hr (by omega)).mono ?_
        intro e w4 hp
        obtain ⟨n, lv, rk, gp, kd, vl, cp, lo, hi, cn, a, C, S, rfl, o4, sl, h4, g4⟩ := hp.parts
        have S4 := hid (HS.out.call hRw g4 h4)
        have Os4 := hid o4
        have SL := hid sl
        have z4 := S4.out.size
        clear hp o4 g4 h4 sl HS
        clear hr
        obtain ⟨x, hx⟩ : ∃ x : ((Int × Int × Int × Int × Int × Int × Int) × (Int × Int) × (Option Addr × Nat × List (Int × Int)) × Int), x = ((n, lv, rk, gp, kd, vl, cp), (lo, hi), (a, C, S), cn) := ⟨_, rfl⟩
        have HE := hid (show (#[Value.int .i64 n, .int .i64 lv, .int .i64 rk, .int .i64 gp, .int .i64 kd, .int .i64 vl, .int .i64 cp, .int .i64 lo, .int .i64 hi, .slice a S.length C, .int .i64 cn] : Array Value).toList = encR x by rw [hx]; rfl)
        have HX1 := hid (show spV x = .slice a S.length C by rw [hx]; rfl)
        have HX2 := hid (show spnR x = S by rw [hx]; rfl)
        clear hx
        have hown := S4.out.1
        go_wp2_with (at_builtin; refine wpList_push lenR oneR rfl (.tmp 20) (.tmp 26) _ rfl Tryz.underlying26 infoRule rfl (by omega) (by omega) rfl hown x rfl HE.out (by first | rfl | simp) (by omega) (by omega) ?_)
        intro v5 w5 ho5 hg5 _
        have S5 := hid (S4.out.push hRB hRw (x := x) (by rw [HX1.out, HX2.out]; exact Os4.out) zr (by rw [HX2.out]; exact SL.out) ho5 hg5)
        clear hown ho5 hg5
        go_wp2
        go_roundw
        case rel => exact ⟨o ++ [x], by simp; omega, S5.out.more (by simp; omega)⟩
        case measure => obtain ⟨A5, c5, hv5, _, _⟩ := S5.out.1.reads lenR; rw [hv5]; simp [lenV]; omega
      · go_wp2
        go_ret
        exact ⟨o, _, rfl, by omega, HS.out.more (by omega)⟩
  have y1 : (m == 1) = false := beq_eq_false_iff_ne.2 p1
  clear p1
  by_cases p2 : m = 2
  · have y2 : (m == 2) = true := by rw [p2]; rfl
    clear p2
    obtain ⟨A, c, rfl, hlc, hsl⟩ := S2.out.1.reads lenR
    clear hlc hsl
    by_cases hl : 0 < l.length
    · obtain ⟨g, rfl⟩ : ∃ g, A = some ⟨g, 0, none⟩ := by
        rcases S2.out.1.form with ⟨h1, h2⟩ | ⟨g, cap, h1, _⟩
        · rw [h2] at hl; simp at hl
        · injection h1 with h1 _ _
          exact ⟨g, h1⟩
      obtain ⟨⟨⟨n, lv, rk, gp, kd, vl, cp⟩, ⟨lo, hi⟩, ⟨a, C, S⟩, cn⟩, hx0⟩ : ∃ x, x = atR l 0 := ⟨_, rfl⟩
      have hg0 := atR_get hl
      rw [← hx0] at hg0
      have hm := atR_mem hl
      rw [← hx0] at hm
      have Os4 := hid (S2.out.2.1 _ hm).1
      have SL := hid (S2.out.2.1 _ hm).2
      clear hm hx0
      have c0 : w2.cell? ⟨g, 0, none⟩ = some (.int .i64 n) := S2.out.1.cell lenR rfl hg0 (j := 0) rfl
      have c1 : w2.cell? ⟨g, 1, none⟩ = some (.int .i64 lv) := S2.out.1.cell lenR rfl hg0 (j := 1) rfl
      have c2 : w2.cell? ⟨g, 2, none⟩ = some (.int .i64 rk) := S2.out.1.cell lenR rfl hg0 (j := 2) rfl
      have c3 : w2.cell? ⟨g, 3, none⟩ = some (.int .i64 gp) := S2.out.1.cell lenR rfl hg0 (j := 3) rfl
      have c4 : w2.cell? ⟨g, 4, none⟩ = some (.int .i64 kd) := S2.out.1.cell lenR rfl hg0 (j := 4) rfl
      have c5 : w2.cell? ⟨g, 5, none⟩ = some (.int .i64 vl) := S2.out.1.cell lenR rfl hg0 (j := 5) rfl
      have c6 : w2.cell? ⟨g, 6, none⟩ = some (.int .i64 cp) := S2.out.1.cell lenR rfl hg0 (j := 6) rfl
      have c7 : w2.cell? ⟨g, 7, none⟩ = some (.int .i64 lo) := S2.out.1.cell lenR rfl hg0 (j := 7) rfl
      have c8 : w2.cell? ⟨g, 8, none⟩ = some (.int .i64 hi) := S2.out.1.cell lenR rfl hg0 (j := 8) rfl
      have c9 : w2.cell? ⟨g, 9, none⟩ = some (.slice a S.length C) := S2.out.1.cell lenR rfl hg0 (j := 9) rfl
      have c10 : w2.cell? ⟨g, 10, none⟩ = some (.int .i64 cn) := S2.out.1.cell lenR rfl hg0 (j := 10) rfl
      clear hg0
      obtain ⟨x, hx⟩ : ∃ x : ((Int × Int × Int × Int × Int × Int × Int) × (Int × Int) × (Option Addr × Nat × List (Int × Int)) × Int), x = ((n, lv, rk, gp, kd, vl, cp), (lo, hi), (a, C, S), cn) := ⟨_, rfl⟩
      have HE := hid (show (#[Value.int .i64 n, .int .i64 lv, .int .i64 rk, .int .i64 gp, .int .i64 kd, .int .i64 vl, .int .i64 cp, .int .i64 lo, .int .i64 hi, .slice a S.length C, .int .i64 cn] : Array Value).toList = encR x by rw [hx]; rfl)
      have HX1 := hid (show spV x = .slice a S.length C by rw [hx]; rfl)
      have HX2 := hid (show spnR x = S by rw [hx]; rfl)
      clear hx
      have hown := S2.out.1
      go_wp2_with (at_builtin; refine wpList_push lenR oneR rfl (.tmp 33) (.tmp 37) _ rfl Tryz.underlying26 infoRule rfl (by omega) (by omega) rfl hown x rfl HE.out (by first | rfl | simp) (by omega) (by omega) ?_)
      intro v5 w5 ho5 hg5 _
      have S5 := hid (S2.out.push hRB hRw (x := x) (by rw [HX1.out, HX2.out]; exact Os4.out) (Nat.le_refl _) (by rw [HX2.out]; exact SL.out) ho5 hg5)
      clear hown ho5 hg5
      go_wp2
      go_ret
      exact ⟨l ++ [x], _, rfl, by simp; omega, S5.out.more (by omega)⟩
    · go_wp2
      go_ret
      exact ⟨l, _, rfl, by omega, S2.out.more (by omega)⟩
  have y2 : (m == 2) = false := beq_eq_false_iff_ne.2 p2
  clear p2
  go_wp2
  go_ret
  exact ⟨l, _, rfl, by omega, S2.out.more (by omega)⟩

end Go.Proofs.YtkgofklpogdpmaaGreat

/- Contracts of the generators of whole sales. -/
namespace Go.Proofs.YtkgofklpogdpmaaGreat
open Go.RowKit

theorem results_tmp4 {fn : Func} {t u v x : Tmp} (h : fn.results = #[.tmp t, .tmp u, .tmp v, .tmp x]) (tmps : Array Value) (P : Program) (w : World) :
    (results fn tmps).run P w = .ok (.tuple #[tmps.getD t undef, tmps.getD u undef, tmps.getD v undef, tmps.getD x undef]) w := by
  simp [results, h]

/-- A shop, a cart, coupons and rules, in memory of the call's own. -/
def SaleDraw (w : World) (R : Nat) (e : Ending) (w' : World) : Prop :=
  ∃ (s : List (Int × Int × Int × Int)) (c : List (Int × Int)) (cu : List Int) (l : List ((Int × Int × Int × Int × Int × Int × Int) × (Int × Int) × (Option Addr × Nat × List (Int × Int)) × Int)) (A Ac Al Ar : Option Addr) (cap capc capl capr : Nat),
    e = .returned (.tuple #[.slice A s.length cap, .slice Ac c.length capc, .slice Al cu.length capl, .slice Ar l.length capr]) ∧ s.length ≤ 10 ∧ c.length ≤ 9 ∧ cu.length ≤ 5 ∧ l.length ≤ 7 ∧ (l.length ≤ capr ∧ capr ≤ 9223372036854775807)
      ∧ Sl enc4 4 w' w'.heap.size A s ∧ Sl enc2 2 w' w'.heap.size Ac c ∧ Sl enc1 1 w' w'.heap.size Al cu ∧ Sl encR 11 w' w'.heap.size Ar l ∧ SpansIn w' w'.heap.size l ∧ w.grownBy w' (some R)

set_option maxHeartbeats 6400000 in
theorem anySale1_any (w : World) (B R N : Nat) (h : Rdr w B R N) (hN : N ≤ 100000) :
    Calls Tryz.prog 10 #[.pointer (some ⟨R, 0, none⟩)] w (SaleDraw w R) := by
  have hR := h.lt
  have hRB := hR.1
  have hRw := hR.2
  clear hR
  go_enter Tryz.func10, Tryz.ntmps10
  go_wp2_with fail
  refine (anyBasket_any _ _ _ _ h (by omega)).mono ?_
  rintro e w1 ⟨s, v, c, u, rfl, x1, x2, _, _, s1, k1, h1, g1⟩
  obtain ⟨A, ca, rfl, _, _⟩ := s1.reads len4
  obtain ⟨Ac, cc, rfl, _, _⟩ := k1.reads len2
  have S1 := hid s1
  have C1 := hid k1
  have G1 := hid g1
  have z1 := g1.size
  clear s1 k1 g1 h
  go_wp2_with fail
  refine (someCoupons_any _ _ _ _ h1 (by omega)).mono ?_
  rintro e w2 ⟨vu, cu, rfl, u3, o2, h2, g2⟩
  have S2 := hid (S1.out.grown g2 (S1.out.off hRw))
  have C2 := hid (C1.out.grown g2 (C1.out.off hRw))
  have G2 := hid (only_trans G1.out g2)
  have z2 := G2.out.size
  have O2 := hid (o2.less z1)
  clear o2 g2 h1
  go_wp2_with fail
  refine (pick_any _ _ _ _ _ h2 (by omega)).mono ?_
  rintro e w3 ⟨m3, rfl, _, _, _, h3, g3⟩
  have S3 := hid (S2.out.grown g3 (S2.out.off hRw))
  have C3 := hid (C2.out.grown g3 (C2.out.off hRw))
  have G3 := hid (only_trans G2.out g3)
  have z3 := G3.out.size
  have O3 := hid (O2.out.grown g3 (O2.out.off hRw))
  clear g3 h2 O2
  by_cases p0 : m3 = 0
  · have yp : (m3 == 0) = true := by rw [p0]; rfl
    clear p0
    have oc := O3.out
    go_wp2_with (at_builtin; refine wpList_push len1 one1 rfl (.tmp 21) (.tmp 22) _ rfl Tryz.underlying25 infoInt rfl (by omega) (by omega) rfl oc 9 (by simp) rfl rfl (by omega) (by omega) ?_)
    intro v4 w4 ho4 hg4 _
    have h4 := (h3.alloc (.cells #[.int .i64 9] 3)).row oc hRw (by omega) hg4
    have G4 := hid (only_row (only_alloc G3.out (.cells #[.int .i64 9] 3)) oc (Nat.le_refl _) hg4)
    have S4 := hid ((S3.out.alloc (.cells #[.int .i64 9] 3)).grown hg4 ((S3.out.alloc (.cells #[.int .i64 9] 3)).off_own (oc.alloc (.cells #[.int .i64 9] 3)) (by decide)))
    have C4 := hid ((C3.out.alloc (.cells #[.int .i64 9] 3)).grown hg4 ((C3.out.alloc (.cells #[.int .i64 9] 3)).off_own (oc.alloc (.cells #[.int .i64 9] 3)) (by decide)))
    have z4 := G4.out.size
    obtain ⟨cq, hcq⟩ : ∃ x, x = cu ++ [9] := ⟨_, rfl⟩
    rw [← hcq] at ho4
    have hcl : cq.length ≤ 4 := by rw [hcq]; simp; omega
    clear hcq
    obtain ⟨A4, c4, rfl, _, _⟩ := ho4.reads len1
    have P4 := ho4.sl len1
    clear hg4 oc O3 h3 ho4
    go_wp2_with fail
    refine (spoilO_any cq 10 A4 c4 _ _ _ _ h4 (by omega) P4 (by omega)).mono ?_
    rintro e w5 ⟨cu5, Al, cl, rfl, hm, p5, h5, g5, hal⟩
    have S5 := hid (S4.out.grown g5 (S4.out.off hRw))
    have C5 := hid (C4.out.grown g5 (C4.out.off hRw))
    have G5 := hid (only_trans G4.out g5)
    have z5 := G5.out.size
    have P5 := hid p5
    have HAl := hid (show ∀ b off i, Al = some ⟨b, off, i⟩ → w.heap.size ≤ b from fun b off i hx => Nat.le_trans z4 (hal b off i hx))
    clear p5 g5 hal h4 P4
    go_wp2_with fail
    refine (clearRules_any _ _ _ _ h5 (by omega)).mono ?_
    rintro e w6 ⟨l, vr, rfl, l6, r6⟩
    have g6 := r6.2.2.2
    have h6 := r6.2.2.1
    have R6 := hid r6
    have S6 := hid (S5.out.grown g6 (S5.out.off hRw))
    have C6 := hid (C5.out.grown g6 (C5.out.off hRw))
    have G6 := hid (only_trans G5.out g6)
    have z6 := G6.out.size
    have P6 := hid (P5.out.off HAl.out hRw g6)
    clear g6 r6 h5
    have R6w := hid (R6.out.lift G5.out)
    go_wp2_with fail
    refine (pick_any _ _ _ _ _ h6 (by omega)).mono ?_
    rintro e w7 ⟨m7, rfl, _, _, _, h7, g7⟩
    have S7 := hid (S6.out.grown g7 (S6.out.off hRw))
    have C7 := hid (C6.out.grown g7 (C6.out.off hRw))
    have G7 := hid (only_trans G6.out g7)
    have z7 := G7.out.size
    have P7 := hid (P6.out.off HAl.out hRw g7)
    have R7 := hid (R6w.out.call hRw g7 h7)
    clear g7 h6 R6 R6w
    by_cases q0 : m7 = 0
    · have yq : (m7 == 0) = true := by rw [q0]; rfl
      clear q0
      go_wp2_with fail
      refine (anyRules_any _ _ _ _ h7 (by omega)).mono ?_
      rintro e w8 ⟨l8, vr8, rfl, l86, r8⟩
      have g8 := r8.2.2.2
      have R8 := hid (r8.lift G7.out)
      have S8 := hid (S7.out.grown g8 (S7.out.off hRw))
      have C8 := hid (C7.out.grown g8 (C7.out.off hRw))
      have G8 := hid (only_trans G7.out g8)
      have z8 := G8.out.size
      have P8 := hid (P7.out.off HAl.out hRw g8)
      clear g8 r8 h7
      obtain ⟨Ar, cr, rfl, hcr, _⟩ := R8.out.1.reads lenR
      have HCR := hid hcr
      have HCM := hid (show cr ≤ 9223372036854775807 by
        rcases R8.out.1.form with ⟨h1, _⟩ | ⟨g, cap, h1, _, _, _, h2⟩
        · injection h1 with _ _ h3; omega
        · injection h1 with _ _ h3; unfold maxLen at h2; omega)
      clear hcr
      go_wp2
      ((try simp only [Exit.inBlock, Exit.then]); refine bodyPost_ret (results_tmp4 rfl _ _ _) rfl ?_)
      exact ⟨s, c, cu5, l8, _, _, _, _, _, _, _, _, rfl, x1, x2, by omega, by omega, ⟨HCR.out, HCM.out⟩, S8.out.sl len4, C8.out.sl len2, P8.out, R8.out.1.sl lenR, R8.out.2.1.ins, G8.out⟩
    have yq : (m7 == 0) = false := beq_eq_false_iff_ne.2 q0
    clear q0
    obtain ⟨Ar, cr, rfl, hcr, _⟩ := R7.out.1.reads lenR
    have HCR := hid hcr
    have HCM := hid (show cr ≤ 9223372036854775807 by
      rcases R7.out.1.form with ⟨h1, _⟩ | ⟨g, cap, h1, _, _, _, h2⟩
      · injection h1 with _ _ h3; omega
      · injection h1 with _ _ h3; unfold maxLen at h2; omega)
    clear hcr
    go_wp2
    ((try simp only [Exit.inBlock, Exit.then]); refine bodyPost_ret (results_tmp4 rfl _ _ _) rfl ?_)
    exact ⟨s, c, cu5, l, _, _, _, _, _, _, _, _, rfl, x1, x2, by omega, by omega, ⟨HCR.out, HCM.out⟩, S7.out.sl len4, C7.out.sl len2, P7.out, R7.out.1.sl lenR, R7.out.2.1.ins, G7.out⟩
  have yp : (m3 == 0) = false := beq_eq_false_iff_ne.2 p0
  clear p0
  obtain ⟨Al, cl, rfl, _, _⟩ := O3.out.reads len1
  have P3 := hid (O3.out.sl len1)
  have HAl := hid (show ∀ b off i, Al = some ⟨b, off, i⟩ → w.heap.size ≤ b from fun b off i hx => by subst hx; exact (O3.out.lt b rfl).1)
  clear O3
  go_wp2_with fail
  refine (clearRules_any _ _ _ _ h3 (by omega)).mono ?_
  rintro e w6 ⟨l, vr, rfl, l6, r6⟩
  have g6 := r6.2.2.2
  have h6 := r6.2.2.1
  have R6 := hid r6
  have S6 := hid (S3.out.grown g6 (S3.out.off hRw))
  have C6 := hid (C3.out.grown g6 (C3.out.off hRw))
  have G6 := hid (only_trans G3.out g6)
  have z6 := G6.out.size
  have P6 := hid (P3.out.off HAl.out hRw g6)
  clear g6 r6 h3
  have R6w := hid (R6.out.lift G3.out)
  go_wp2_with fail
  refine (pick_any _ _ _ _ _ h6 (by omega)).mono ?_
  rintro e w7 ⟨m7, rfl, _, _, _, h7, g7⟩
  have S7 := hid (S6.out.grown g7 (S6.out.off hRw))
  have C7 := hid (C6.out.grown g7 (C6.out.off hRw))
  have G7 := hid (only_trans G6.out g7)
  have z7 := G7.out.size
  have P7 := hid (P6.out.off HAl.out hRw g7)
  have R7 := hid (R6w.out.call hRw g7 h7)
  clear g7 h6 R6 R6w
  by_cases q0 : m7 = 0
  · have yq : (m7 == 0) = true := by rw [q0]; rfl
    clear q0
    go_wp2_with fail
    refine (anyRules_any _ _ _ _ h7 (by omega)).mono ?_
    rintro e w8 ⟨l8, vr8, rfl, l86, r8⟩
    have g8 := r8.2.2.2
    have R8 := hid (r8.lift G7.out)
    have S8 := hid (S7.out.grown g8 (S7.out.off hRw))
    have C8 := hid (C7.out.grown g8 (C7.out.off hRw))
    have G8 := hid (only_trans G7.out g8)
    have z8 := G8.out.size
    have P8 := hid (P7.out.off HAl.out hRw g8)
    clear g8 r8 h7
    obtain ⟨Ar, cr, rfl, hcr, _⟩ := R8.out.1.reads lenR
    have HCR := hid hcr
    have HCM := hid (show cr ≤ 9223372036854775807 by
      rcases R8.out.1.form with ⟨h1, _⟩ | ⟨g, cap, h1, _, _, _, h2⟩
      · injection h1 with _ _ h3; omega
      · injection h1 with _ _ h3; unfold maxLen at h2; omega)
    clear hcr
    go_wp2
    ((try simp only [Exit.inBlock, Exit.then]); refine bodyPost_ret (results_tmp4 rfl _ _ _) rfl ?_)
    exact ⟨s, c, cu, l8, _, _, _, _, _, _, _, _, rfl, x1, x2, by omega, by omega, ⟨HCR.out, HCM.out⟩, S8.out.sl len4, C8.out.sl len2, P8.out, R8.out.1.sl lenR, R8.out.2.1.ins, G8.out⟩
  have yq : (m7 == 0) = false := beq_eq_false_iff_ne.2 q0
  clear q0
  obtain ⟨Ar, cr, rfl, hcr, _⟩ := R7.out.1.reads lenR
  have HCR := hid hcr
  have HCM := hid (show cr ≤ 9223372036854775807 by
    rcases R7.out.1.form with ⟨h1, _⟩ | ⟨g, cap, h1, _, _, _, h2⟩
    · injection h1 with _ _ h3; omega
    · injection h1 with _ _ h3; unfold maxLen at h2; omega)
  clear hcr
  go_wp2
  ((try simp only [Exit.inBlock, Exit.then]); refine bodyPost_ret (results_tmp4 rfl _ _ _) rfl ?_)
  exact ⟨s, c, cu, l, _, _, _, _, _, _, _, _, rfl, x1, x2, by omega, by omega, ⟨HCR.out, HCM.out⟩, S7.out.sl len4, C7.out.sl len2, P7.out, R7.out.1.sl lenR, R7.out.2.1.ins, G7.out⟩

def RcpDraw (w : World) (e : Ending) (w' : World) : Prop :=
  ∃ (s : List (Int × Int × Int × Int)) (c : List (Int × Int)) (cu : List Int) (l : List ((Int × Int × Int × Int × Int × Int × Int) × (Int × Int) × (Option Addr × Nat × List (Int × Int)) × Int)) (A Ac Al Ar : Option Addr) (cap capc capl capr : Nat),
    e = .returned (.tuple #[.slice A s.length cap, .slice Ac c.length capc, .slice Al cu.length capl, .slice Ar l.length capr]) ∧ s.length ≤ 10 ∧ c.length ≤ 9 ∧ cu.length ≤ 5 ∧ l.length ≤ 7 ∧ (l.length ≤ capr ∧ capr ≤ 9223372036854775807)
      ∧ Sl enc4 4 w' w'.heap.size A s ∧ Sl enc2 2 w' w'.heap.size Ac c ∧ Sl enc1 1 w' w'.heap.size Al cu ∧ Sl encR 11 w' w'.heap.size Ar l ∧ SpansIn w' w'.heap.size l ∧ Below w.heap.size w w'

set_option maxHeartbeats 800000 in
theorem drawReceiptOf_any (w : World) (A : Option Addr) (len cap : Nat) (h : Bytes w w.heap.size A len cap) :
    Calls Tryz.prog 4 #[.slice A len cap] w (RcpDraw w) := by
  go_enter Tryz.func4, Tryz.ntmps4
  go_wp2_with fail
  refine (newReader_any _ _ _ _ _ h (Nat.le_refl _)).mono ?_
  rintro e w1 ⟨rfl, h1, b1⟩
  have B1 := hid b1
  clear h b1
  go_wp2_with fail
  refine (anySale1_any _ _ _ _ h1 (by omega)).mono ?_
  rintro e w2 ⟨s, c, cu, l, A, Ac, Al, Ar, cap, capc, capl, capr, rfl, hrest⟩
  have HR := hid hrest
  clear hrest h1
  go_wp2
  ((try simp only [Exit.inBlock, Exit.then]); refine bodyPost_ret (results_tmp4 rfl _ _ _) rfl ?_)
  obtain ⟨x1, x2, x3, x4, x5, x6, x7, x8, x9, x10, x11⟩ := HR.out
  exact ⟨s, c, cu, l, A, Ac, Al, Ar, cap, capc, capl, capr, rfl, x1, x2, x3, x4, x5, x6, x7, x8, x9, x10, below_of_only B1.out x11 B1.out.size (Nat.le_refl _)⟩

end Go.Proofs.YtkgofklpogdpmaaGreat
