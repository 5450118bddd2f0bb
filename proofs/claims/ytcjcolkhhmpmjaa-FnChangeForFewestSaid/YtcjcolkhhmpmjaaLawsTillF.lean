/- The walk of the law that few coins are enough. -/
import Derived.Test.YtcjcolkhhmpmjaaDrawChange
import Derived.Test.YtcjcolkhhmpmjaaChangeS
import Derived.Test.YtcjcolkhhmpmjaaEqualInt
import Derived.Test.YtcjcolkhhmpmjaaTillD
import Derived.Test.YtcjcolkhhmpmjaaSumInt
namespace Go.Proofs.Ytcjcolkhhmpmjaa
open Go.RowKit

theorem chgL_le {l : List (Int × Int)} {n : Int} (h : l.length ≤ 6) : (chgL l n).length ≤ 6 := by
  unfold chgL
  split
  · rw [chg_len]; exact h
  · simp

theorem sum_quiet {l : List Int} {A : Option Addr} {cap : Nat} {w : World} {n : Nat} {v : Int} (h : Sl enc1 1 w w.heap.size A l) (hl : l.length ≤ 1000) (hx : ∀ x ∈ l, 0 ≤ x ∧ x ≤ 1000) (hv : isum l = v) :
    Calls Try.prog 27 #[.slice A l.length cap] (w.drewN n) fun e w'' => e = .returned (.int .i64 v) ∧ ∃ m, w'' = w.drewN m := by
  have h1 : Sl enc1 1 (w.drewN n) (w.drewN n).heap.size A l := h
  refine (sum_any l A cap (w.drewN n) h1 hl hx).mono ?_
  rintro e w' ⟨rfl, rfl⟩
  exact ⟨by rw [hv], n, rfl⟩

set_option maxHeartbeats 3200000 in
set_option maxRecDepth 100000 in
theorem fnChangeForFewest_walk (w : World) (A : Option Addr) (len cap : Nat) (h : Bytes w w.heap.size A len cap) :
    Calls Try.prog 7 #[.slice A len cap] w fun e w' => e = .returned (.bool true) ∧ Below w.heap.size w w' := by
  by_cases hl : 1048576 < len
  · clear h
    go_enter Try.func7, Try.ntmps7
    go_wp2
    go_ret
    exact ⟨rfl, Below.refl _ _⟩
  · go_enter Try.func7, Try.ntmps7
    go_wp2_with fail
    refine (drawChangeFor_any _ _ _ _ h).mono ?_
    rintro e w1 ⟨l, v, am, rfl, hl6, o1, D1⟩
    clear h
    obtain ⟨A1, c1, rfl, _, q1⟩ := o1.reads len2
    clear o1
    obtain ⟨RL, hRL⟩ : ∃ x, x = chgL l am := ⟨_, rfl⟩
    have hRn : RL.length ≤ 6 := by rw [hRL]; exact chgL_le hl6
    have HR := hid hRL
    clear hRL
    go_wp2_with fail
    refine (changeFor_any l A1 c1 am _ q1 (by omega)).mono ?_
    rintro e w2 ⟨v2, rfl, o2, b2⟩
    rw [← HR.out] at o2
    obtain ⟨A2, c2, rfl, _, s2⟩ := o2.reads len1
    have D2 := D1.trans (b2.mono D1.size)
    have q2 := (q1.below b2 (Nat.le_refl _)).more b2.size
    clear o2 b2 D1 q1
    go_wp2_with fail
    refine (specChangeFor_any l A1 c1 am _ q2 (by omega)).mono ?_
    rintro e w3 ⟨v3, rfl, o3, b3⟩
    rw [← HR.out] at o3
    obtain ⟨A3, c3, rfl, _, r3⟩ := o3.reads len1
    have D3 := D2.trans (b3.mono D2.size)
    have q3 := (q2.below b3 (Nat.le_refl _)).more b3.size
    have s3 := (s2.below b3 (Nat.le_refl _)).more b3.size
    clear o3 b3 D2 q2 s2
    go_wp2_with fail
    refine (equalInts_same RL A2 A3 c2 c3 _ s3 r3 (by omega)).mono ?_
    rintro e w4 ⟨rfl, b4⟩
    have D4 := D3.trans (b4.mono D3.size)
    have q4 := (q3.below b4 (Nat.le_refl _)).more b4.size
    have s4 := (s3.below b4 (Nat.le_refl _)).more b4.size
    have r4 := (r3.below b4 (Nat.le_refl _)).more b4.size
    clear b4 D3 q3 s3 r3
    by_cases hok : okC l am = true
    · obtain ⟨hST, hN, _⟩ := okC_true.1 hok
      have hRe : RL = chg l am := by rw [HR.out, chgL, hok, if_pos rfl]
      have hSel := (chg_sel hok).1
      rw [← hRe] at hSel
      have hmem := hSel.mem hST.ct
      have hRl : RL.length = l.length := hSel.len
      have hl5 := hST.2.2
      have hbd := chg_bd hok
      rw [← hRe] at hbd
      have HOK := hid hok
      have HST := hid hST
      have HSE := hid hSel
      have HME := hid (show ∀ x ∈ RL, 0 ≤ x ∧ x ≤ 1000 from fun x hx => by have := hmem x hx; omega)
      have HRL := hid hRl
      have HRE := hid hRe
      obtain ⟨S, hS⟩ : ∃ x, isum RL = x := ⟨_, rfl⟩
      rw [hS] at hbd
      have HS := hid hS
      obtain ⟨hb1, hb2, hb3⟩ := hbd
      obtain ⟨hn1, hn2⟩ := hN
      have hRn2 : RL.length ≤ 1000 := by omega
      have hpos := chg_pos hok
      rw [← hRe, hS] at hpos
      have HPOS := hid hpos
      have hone : ∀ i, i < l.length → 0 < g2 l i → g1 l i = am → S = 1 := fun i hi h0 he => by
        subst he
        rw [← hS, hRe]; exact chg_one hok hi h0
      have htwo : ∀ i k, i < l.length → k < l.length → 0 < g2 l i → 0 < g2 l k → (i ≠ k ∨ 1 < g2 l i) → g1 l i + g1 l k = am → S ≤ 2 := fun i k hi hk h0 h1 h2 he => by
        subst he
        rw [← hS, hRe]; exact chg_two hok hi hk h0 h1 h2
      have HONE := hid hone
      have HTWO := hid htwo
      clear hpos hone htwo
      clear r4 hSel hmem hRl hRe hST hS
      go_wp2_with fail
      go_loopw [9] (fun i wr => ∃ k : Nat, k ≤ l.length ∧ i = .int .i64 k ∧ Below w4.heap.size w4 wr) (fun i _ => l.length - (intOf i).toNat)
      case atStart => exact ⟨0, Nat.zero_le _, rfl, Below.refl _ _⟩
      case round =>
        obtain ⟨i, hi, rfl, hb⟩ := hrel
        have hsz := hb.size
        have si := (s4.below hb (Nat.le_refl _)).more hb.size
        by_cases hlt : i < l.length
        · obtain ⟨b, off, hA, hbb, x1, x2⟩ := q4.get2 hlt
          subst hA
          have hxb := HST.out.bd hlt
          have h1 := HONE.out i hlt
          have h2 := fun k hk => HTWO.out i k hlt hk
          obtain ⟨X, hX⟩ : ∃ x, g1 l i = x := ⟨_, rfl⟩
          obtain ⟨Y, hY⟩ : ∃ x, g2 l i = x := ⟨_, rfl⟩
          rw [hX] at x1 hxb h1
          rw [hY] at x2 hxb h1
          simp only [hX, hY] at h2
          obtain ⟨⟨hx1, hx2⟩, hx3, hx4⟩ := hxb
          have HX := hid hX
          have HY := hid hY
          have H1 := hid h1
          have H2 := hid h2
          have d1 : wr.cell? ⟨b, off + i * 2, none⟩ = some (.int .i64 X) := (hb.cell hbb).trans x1
          have d2 : wr.cell? ⟨b, off + i * 2 + 1, none⟩ = some (.int .i64 Y) := (hb.cell hbb).trans x2
          have hil : (i : Int) < (l.length : Int) := by omega
          have hcase : ¬ 0 < Y ∨ (0 < Y ∧ X ≠ am) ∨ (0 < Y ∧ X = am) := by omega
          have HB := hid hb
          have HX1 := hid x1
          have HX2 := hid x2
          clear x1 x2 hX hY h1 h2 hb
          have mid : ∀ (Z : Prop), Z → Z := fun _ h => h
          clear mid
          rcases hcase with hc | ⟨hc, hc2⟩ | ⟨hc, hc2⟩
          · have hc' : decide (0 < Y) = false := decide_eq_false hc
            go_wp2_with fail
            go_loopw [10] (fun i wz => ∃ k : Nat, k ≤ l.length ∧ i = .int .i64 k ∧ Below w4.heap.size w4 wz) (fun i _ => l.length - (intOf i).toNat)
            case atStart => exact ⟨0, Nat.zero_le _, rfl, HB.out⟩
            case round =>
              obtain ⟨k, hk, rfl, hb⟩ := hrel
              clear d1 d2
              have hsz2 := hb.size
              have SX := hid ((s4.below hb (Nat.le_refl _)).more hb.size)
              by_cases hlk : k < l.length
              · obtain ⟨b3, off3, hA3, hbb3, y1, y2⟩ := q4.get2 hlk
                obtain ⟨rfl, rfl⟩ : b = b3 ∧ off = off3 := by simpa using hA3
                have hyb := HST.out.bd hlk
                have h2 := H2.out k hlk
                have d1 : wr.cell? ⟨b, off + i * 2, none⟩ = some (.int .i64 X) := (hb.cell hbb).trans HX1.out
                have d2 : wr.cell? ⟨b, off + i * 2 + 1, none⟩ = some (.int .i64 Y) := (hb.cell hbb).trans HX2.out
                have hkl : (k : Int) < (l.length : Int) := by omega
                have hbw : b < wr.heap.size := by omega
                clear hA3
                clear h2 y1 y2
                go_wp2_with fail
                go_quiet (fail)
                go_wp2
                go_roundw
                case rel =>
                  refine ⟨k + 1, by omega, by go_num, ?_⟩
                  repeat (first | exact Below.refl _ _ | (refine Below.alloc ?_ (by (try simp) <;> omega) _) | (refine Below.setCell ?_ (by (try simp) <;> omega) _) | (refine Below.drew ?_) | (refine below_drewN ?_ _) | (refine Below.trans ?_ (Below.mono (by assumption) (by (try simp) <;> omega))))
                case measure => simp [intOf]; omega
              · obtain rfl : l.length = k := by omega
                have HB2 := hid hb
                clear hb
                go_wp2
                go_roundw
                case rel => exact ⟨i + 1, by omega, by go_num, HB2.out⟩
                case measure => simp [intOf]; omega
          · have e1 : (X == am) = false := by simpa using hc2
            clear hc2
            go_wp2_with fail
            go_loopw [10] (fun i wz => ∃ k : Nat, k ≤ l.length ∧ i = .int .i64 k ∧ Below w4.heap.size w4 wz) (fun i _ => l.length - (intOf i).toNat)
            case atStart => exact ⟨0, Nat.zero_le _, rfl, HB.out⟩
            case round =>
              obtain ⟨k, hk, rfl, hb⟩ := hrel
              clear d1 d2
              have hsz2 := hb.size
              have SX := hid ((s4.below hb (Nat.le_refl _)).more hb.size)
              by_cases hlk : k < l.length
              · obtain ⟨b3, off3, hA3, hbb3, y1, y2⟩ := q4.get2 hlk
                obtain ⟨rfl, rfl⟩ : b = b3 ∧ off = off3 := by simpa using hA3
                have hyb := HST.out.bd hlk
                have h2 := H2.out k hlk
                have d1 : wr.cell? ⟨b, off + i * 2, none⟩ = some (.int .i64 X) := (hb.cell hbb).trans HX1.out
                have d2 : wr.cell? ⟨b, off + i * 2 + 1, none⟩ = some (.int .i64 Y) := (hb.cell hbb).trans HX2.out
                have hkl : (k : Int) < (l.length : Int) := by omega
                have hbw : b < wr.heap.size := by omega
                clear hA3
                have hv1 := HX.out
                have hv2 := HY.out
                obtain ⟨V, hV⟩ : ∃ x, g1 l k = x := ⟨_, rfl⟩
                obtain ⟨W, hW⟩ : ∃ x, g2 l k = x := ⟨_, rfl⟩
                have hsame : i = k → X = V ∧ Y = W := fun he => by subst he; exact ⟨by rw [← hv1, hV], by rw [← hv2, hW]⟩
                rw [hV] at y1 hyb h2
                rw [hW] at y2 hyb h2
                obtain ⟨⟨hy1, hy2⟩, hy3, hy4⟩ := hyb
                have d3 : wr.cell? ⟨b, off + k * 2, none⟩ = some (.int .i64 V) := (hb.cell hbb).trans y1
                have d4 : wr.cell? ⟨b, off + k * 2 + 1, none⟩ = some (.int .i64 W) := (hb.cell hbb).trans y2
                have w1 : IntKind.i64.wrap (X + V) = X + V := IntWalk.i64_in _ (by omega)
                clear y1 y2 hv1 hv2 hV hW
                by_cases hW0 : 0 < W
                · by_cases hik : i = k
                  · subst hik
                    obtain ⟨rfl, rfl⟩ := hsame rfl
                    clear d3 d4 hsame
                    have e7 : ((i : Int) != (i : Int)) = false := by simp
                    by_cases hY1 : 1 < Y
                    · by_cases hsum : X + X = am
                      · have hS2 := h2 hc hW0 (.inr hY1) hsum
                        have e8 : (X + X == am) = true := by simpa using hsum
                        have e9 : decide (2 < S) = false := decide_eq_false (by omega)
                        clear h2 hsum e7
                        go_wp2_with fail
                        go_quiet ((go_at_call 27; exact sum_quiet SX.out hRn2 HME.out HS.out))
                        go_wp2
                        go_roundw
                        case rel =>
                          refine ⟨i + 1, by omega, by go_num, ?_⟩
                          repeat (first | exact Below.refl _ _ | (refine Below.alloc ?_ (by (try simp) <;> omega) _) | (refine Below.setCell ?_ (by (try simp) <;> omega) _) | (refine Below.drew ?_) | (refine below_drewN ?_ _) | (refine Below.trans ?_ (Below.mono (by assumption) (by (try simp) <;> omega))))
                        case measure => simp [intOf]; omega
                      · have e8 : (X + X == am) = false := by simpa using hsum
                        clear h2 hsum e7
                        go_wp2_with fail
                        go_quiet (fail)
                        go_wp2
                        go_roundw
                        case rel =>
                          refine ⟨i + 1, by omega, by go_num, ?_⟩
                          repeat (first | exact Below.refl _ _ | (refine Below.alloc ?_ (by (try simp) <;> omega) _) | (refine Below.setCell ?_ (by (try simp) <;> omega) _) | (refine Below.drew ?_) | (refine below_drewN ?_ _) | (refine Below.trans ?_ (Below.mono (by assumption) (by (try simp) <;> omega))))
                        case measure => simp [intOf]; omega
                    · have hY1' : decide (1 < Y) = false := decide_eq_false hY1
                      clear h2 e7
                      go_wp2_with fail
                      go_quiet (fail)
                      go_wp2
                      go_roundw
                      case rel =>
                        refine ⟨i + 1, by omega, by go_num, ?_⟩
                        repeat (first | exact Below.refl _ _ | (refine Below.alloc ?_ (by (try simp) <;> omega) _) | (refine Below.setCell ?_ (by (try simp) <;> omega) _) | (refine Below.drew ?_) | (refine below_drewN ?_ _) | (refine Below.trans ?_ (Below.mono (by assumption) (by (try simp) <;> omega))))
                      case measure => simp [intOf]; omega
                  · have e7 : ((i : Int) != (k : Int)) = true := by rw [bne_iff_ne]; omega
                    have e7' : (i != k) = true := by rw [bne_iff_ne]; exact hik
                    by_cases hsum : X + V = am
                    · have hS2 := h2 hc hW0 (.inl hik) hsum
                      have e8 : (X + V == am) = true := by simpa using hsum
                      have e9 : decide (2 < S) = false := decide_eq_false (by omega)
                      clear h2 hsum hsame hik
                      go_wp2_with fail
                      go_quiet ((go_at_call 27; exact sum_quiet SX.out hRn2 HME.out HS.out))
                      go_wp2
                      go_roundw
                      case rel =>
                        refine ⟨k + 1, by omega, by go_num, ?_⟩
                        repeat (first | exact Below.refl _ _ | (refine Below.alloc ?_ (by (try simp) <;> omega) _) | (refine Below.setCell ?_ (by (try simp) <;> omega) _) | (refine Below.drew ?_) | (refine below_drewN ?_ _) | (refine Below.trans ?_ (Below.mono (by assumption) (by (try simp) <;> omega))))
                      case measure => simp [intOf]; omega
                    · have e8 : (X + V == am) = false := by simpa using hsum
                      clear h2 hsum hsame hik
                      go_wp2_with fail
                      go_quiet (fail)
                      go_wp2
                      go_roundw
                      case rel =>
                        refine ⟨k + 1, by omega, by go_num, ?_⟩
                        repeat (first | exact Below.refl _ _ | (refine Below.alloc ?_ (by (try simp) <;> omega) _) | (refine Below.setCell ?_ (by (try simp) <;> omega) _) | (refine Below.drew ?_) | (refine below_drewN ?_ _) | (refine Below.trans ?_ (Below.mono (by assumption) (by (try simp) <;> omega))))
                      case measure => simp [intOf]; omega
                · have hW0' : decide (0 < W) = false := decide_eq_false hW0
                  clear h2 hsame
                  go_wp2_with fail
                  go_quiet (fail)
                  go_wp2
                  go_roundw
                  case rel =>
                    refine ⟨k + 1, by omega, by go_num, ?_⟩
                    repeat (first | exact Below.refl _ _ | (refine Below.alloc ?_ (by (try simp) <;> omega) _) | (refine Below.setCell ?_ (by (try simp) <;> omega) _) | (refine Below.drew ?_) | (refine below_drewN ?_ _) | (refine Below.trans ?_ (Below.mono (by assumption) (by (try simp) <;> omega))))
                  case measure => simp [intOf]; omega
              · obtain rfl : l.length = k := by omega
                have HB2 := hid hb
                clear hb
                go_wp2
                go_roundw
                case rel => exact ⟨i + 1, by omega, by go_num, HB2.out⟩
                case measure => simp [intOf]; omega
          · have e1 : (X == am) = true := by simpa using hc2
            have hS1 := H1.out hc hc2
            clear hc2
            go_wp2_with fail
            refine (sum_any RL _ _ _ si hRn2 HME.out).mono ?_
            rintro e w' ⟨rfl, rfl⟩
            rw [HS.out, hS1]
            go_wp2_with fail
            go_loopw [10] (fun i wz => ∃ k : Nat, k ≤ l.length ∧ i = .int .i64 k ∧ Below w4.heap.size w4 wz) (fun i _ => l.length - (intOf i).toNat)
            case atStart => exact ⟨0, Nat.zero_le _, rfl, HB.out⟩
            case round =>
              obtain ⟨k, hk, rfl, hb⟩ := hrel
              clear d1 d2
              have hsz2 := hb.size
              have SX := hid ((s4.below hb (Nat.le_refl _)).more hb.size)
              by_cases hlk : k < l.length
              · obtain ⟨b3, off3, hA3, hbb3, y1, y2⟩ := q4.get2 hlk
                obtain ⟨rfl, rfl⟩ : b = b3 ∧ off = off3 := by simpa using hA3
                have hyb := HST.out.bd hlk
                have h2 := H2.out k hlk
                have d1 : wr.cell? ⟨b, off + i * 2, none⟩ = some (.int .i64 X) := (hb.cell hbb).trans HX1.out
                have d2 : wr.cell? ⟨b, off + i * 2 + 1, none⟩ = some (.int .i64 Y) := (hb.cell hbb).trans HX2.out
                have hkl : (k : Int) < (l.length : Int) := by omega
                have hbw : b < wr.heap.size := by omega
                clear hA3
                have hv1 := HX.out
                have hv2 := HY.out
                obtain ⟨V, hV⟩ : ∃ x, g1 l k = x := ⟨_, rfl⟩
                obtain ⟨W, hW⟩ : ∃ x, g2 l k = x := ⟨_, rfl⟩
                have hsame : i = k → X = V ∧ Y = W := fun he => by subst he; exact ⟨by rw [← hv1, hV], by rw [← hv2, hW]⟩
                rw [hV] at y1 hyb h2
                rw [hW] at y2 hyb h2
                obtain ⟨⟨hy1, hy2⟩, hy3, hy4⟩ := hyb
                have d3 : wr.cell? ⟨b, off + k * 2, none⟩ = some (.int .i64 V) := (hb.cell hbb).trans y1
                have d4 : wr.cell? ⟨b, off + k * 2 + 1, none⟩ = some (.int .i64 W) := (hb.cell hbb).trans y2
                have w1 : IntKind.i64.wrap (X + V) = X + V := IntWalk.i64_in _ (by omega)
                clear y1 y2 hv1 hv2 hV hW
                by_cases hW0 : 0 < W
                · by_cases hik : i = k
                  · subst hik
                    obtain ⟨rfl, rfl⟩ := hsame rfl
                    clear d3 d4 hsame
                    have e7 : ((i : Int) != (i : Int)) = false := by simp
                    by_cases hY1 : 1 < Y
                    · by_cases hsum : X + X = am
                      · have hS2 := h2 hc hW0 (.inr hY1) hsum
                        have e8 : (X + X == am) = true := by simpa using hsum
                        have e9 : decide (2 < S) = false := decide_eq_false (by omega)
                        clear h2 hsum e7
                        go_wp2_with fail
                        go_quiet ((go_at_call 27; exact sum_quiet SX.out hRn2 HME.out HS.out))
                        go_wp2
                        go_roundw
                        case rel =>
                          refine ⟨i + 1, by omega, by go_num, ?_⟩
                          repeat (first | exact Below.refl _ _ | (refine Below.alloc ?_ (by (try simp) <;> omega) _) | (refine Below.setCell ?_ (by (try simp) <;> omega) _) | (refine Below.drew ?_) | (refine below_drewN ?_ _) | (refine Below.trans ?_ (Below.mono (by assumption) (by (try simp) <;> omega))))
                        case measure => simp [intOf]; omega
                      · have e8 : (X + X == am) = false := by simpa using hsum
                        clear h2 hsum e7
                        go_wp2_with fail
                        go_quiet (fail)
                        go_wp2
                        go_roundw
                        case rel =>
                          refine ⟨i + 1, by omega, by go_num, ?_⟩
                          repeat (first | exact Below.refl _ _ | (refine Below.alloc ?_ (by (try simp) <;> omega) _) | (refine Below.setCell ?_ (by (try simp) <;> omega) _) | (refine Below.drew ?_) | (refine below_drewN ?_ _) | (refine Below.trans ?_ (Below.mono (by assumption) (by (try simp) <;> omega))))
                        case measure => simp [intOf]; omega
                    · have hY1' : decide (1 < Y) = false := decide_eq_false hY1
                      clear h2 e7
                      go_wp2_with fail
                      go_quiet (fail)
                      go_wp2
                      go_roundw
                      case rel =>
                        refine ⟨i + 1, by omega, by go_num, ?_⟩
                        repeat (first | exact Below.refl _ _ | (refine Below.alloc ?_ (by (try simp) <;> omega) _) | (refine Below.setCell ?_ (by (try simp) <;> omega) _) | (refine Below.drew ?_) | (refine below_drewN ?_ _) | (refine Below.trans ?_ (Below.mono (by assumption) (by (try simp) <;> omega))))
                      case measure => simp [intOf]; omega
                  · have e7 : ((i : Int) != (k : Int)) = true := by rw [bne_iff_ne]; omega
                    have e7' : (i != k) = true := by rw [bne_iff_ne]; exact hik
                    by_cases hsum : X + V = am
                    · have hS2 := h2 hc hW0 (.inl hik) hsum
                      have e8 : (X + V == am) = true := by simpa using hsum
                      have e9 : decide (2 < S) = false := decide_eq_false (by omega)
                      clear h2 hsum hsame hik
                      go_wp2_with fail
                      go_quiet ((go_at_call 27; exact sum_quiet SX.out hRn2 HME.out HS.out))
                      go_wp2
                      go_roundw
                      case rel =>
                        refine ⟨k + 1, by omega, by go_num, ?_⟩
                        repeat (first | exact Below.refl _ _ | (refine Below.alloc ?_ (by (try simp) <;> omega) _) | (refine Below.setCell ?_ (by (try simp) <;> omega) _) | (refine Below.drew ?_) | (refine below_drewN ?_ _) | (refine Below.trans ?_ (Below.mono (by assumption) (by (try simp) <;> omega))))
                      case measure => simp [intOf]; omega
                    · have e8 : (X + V == am) = false := by simpa using hsum
                      clear h2 hsum hsame hik
                      go_wp2_with fail
                      go_quiet (fail)
                      go_wp2
                      go_roundw
                      case rel =>
                        refine ⟨k + 1, by omega, by go_num, ?_⟩
                        repeat (first | exact Below.refl _ _ | (refine Below.alloc ?_ (by (try simp) <;> omega) _) | (refine Below.setCell ?_ (by (try simp) <;> omega) _) | (refine Below.drew ?_) | (refine below_drewN ?_ _) | (refine Below.trans ?_ (Below.mono (by assumption) (by (try simp) <;> omega))))
                      case measure => simp [intOf]; omega
                · have hW0' : decide (0 < W) = false := decide_eq_false hW0
                  clear h2 hsame
                  go_wp2_with fail
                  go_quiet (fail)
                  go_wp2
                  go_roundw
                  case rel =>
                    refine ⟨k + 1, by omega, by go_num, ?_⟩
                    repeat (first | exact Below.refl _ _ | (refine Below.alloc ?_ (by (try simp) <;> omega) _) | (refine Below.setCell ?_ (by (try simp) <;> omega) _) | (refine Below.drew ?_) | (refine below_drewN ?_ _) | (refine Below.trans ?_ (Below.mono (by assumption) (by (try simp) <;> omega))))
                  case measure => simp [intOf]; omega
              · obtain rfl : l.length = k := by omega
                have HB2 := hid hb
                clear hb
                go_wp2
                go_roundw
                case rel => exact ⟨i + 1, by omega, by go_num, HB2.out⟩
                case measure => simp [intOf]; omega
        · obtain rfl : l.length = i := by omega
          have D5 := D4.trans (hb.mono D4.size)
          have hfin : (am == 0) = (S == 0) := by
            rw [Bool.eq_iff_iff]; simpa using HPOS.out
          have HFIN := hid hfin
          clear hfin
          have DD := hid D5
          clear D5 D4 hb
          go_wp2_with fail
          refine (sum_any RL _ _ _ si hRn2 HME.out).mono ?_
          rintro e w' ⟨rfl, rfl⟩
          rw [HS.out]
          go_wp2
          go_ret
          exact ⟨ret_bool (by rw [HFIN.out]; simp), DD.out⟩
    · have hok' : okC l am = false := by simpa using hok
      clear hok
      go_wp2_with fail
      refine (equalInts_same RL A2 A3 c2 c3 _ s4 r4 (by omega)).mono ?_
      rintro e w5 ⟨rfl, b5⟩
      have D5 := D4.trans (b5.mono D4.size)
      clear q4 s4 r4 b5 D4 
      have DD := hid D5
      clear D5
      go_wp2
      go_ret
      exact ⟨rfl, DD.out⟩

end Go.Proofs.Ytcjcolkhhmpmjaa
