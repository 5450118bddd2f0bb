/- Contract: rules that are clear, as the paper says it. -/
import Derived.Test.YtkgofklpogdpmaaGreatZConfS
import Derived.Test.YtkgofklpogdpmaaGreatZC
namespace Go.Proofs.YtkgofklpogdpmaaGreat
open Go.RowKit

/-- Whether the rules at two places are in conflict; whether no two are. -/
def cfK (l : List ((Int × Int × Int × Int × Int × Int × Int) × (Int × Int) × (Option Addr × Nat × List (Int × Int)) × Int)) (k i : Nat) : Bool := cfB (atR l k).1.2.1 (atR l k).1.2.2.1 (atR l k).1.2.2.2.1 (atR l k).2.1.1 (atR l k).2.1.2 (atR l k).2.2.1.2.2 (atR l i).1.2.1 (atR l i).1.2.2.1 (atR l i).1.2.2.2.1 (atR l i).2.1.1 (atR l i).2.1.2 (atR l i).2.2.1.2.2
def clrK (l : List ((Int × Int × Int × Int × Int × Int × Int) × (Int × Int) × (Option Addr × Nat × List (Int × Int)) × Int)) (i : Nat) : Bool := (List.range i).all fun k => !cfK l k i
def clr (l : List ((Int × Int × Int × Int × Int × Int × Int) × (Int × Int) × (Option Addr × Nat × List (Int × Int)) × Int)) : Bool := (List.range l.length).all (clrK l)

set_option maxHeartbeats 6400000 in
set_option maxRecDepth 100000 in
theorem clear1_any (l : List ((Int × Int × Int × Int × Int × Int × Int) × (Int × Int) × (Option Addr × Nat × List (Int × Int)) × Int)) (A : Option Addr) (cap : Nat) (w : World) (hL : Sl encR 11 w w.heap.size A l) (hS : SpansIn w w.heap.size l) (hv : vRules l = true) :
    Calls Tryz.prog 22 #[.slice A l.length cap] w fun e w' => e = .returned (.bool (clr l)) ∧ Below w.heap.size w w' := by
  have hl := vRules_len hv
  have HV := hid (fun k (hk : k < l.length) => vRules_at hv hk)
  clear hv
  go_enter Tryz.func22, Tryz.ntmps22
  go_wp2_with fail
  go_loopw [3] (fun i wr => ∃ k : Nat, k ≤ l.length ∧ i = .int .i64 k ∧ (List.range k).all (clrK l) = true ∧ Below w.heap.size w wr) (fun i _ => l.length - (intOf i).toNat)
  case atStart => exact ⟨0, Nat.zero_le _, rfl, rfl, Below.refl _ _⟩
  case round =>
    obtain ⟨i, hi, rfl, hall, hb⟩ := hrel
    have HA := hid hall
    have hsz := hb.size
    have HB := hid hb
    clear hall hb
    by_cases hlt : i < l.length
    · obtain ⟨wz, rfl⟩ : ∃ wz : World, wz = wr := ⟨_, rfl⟩
      go_wp2_with fail
      go_loopw [4] (fun j wr => ∃ k : Nat, k ≤ i ∧ j = .int .i64 k ∧ (List.range k).all (fun k => !cfK l k i) = true ∧ Below w.heap.size w wr) (fun j _ => i - (intOf j).toNat)
      case atStart => exact ⟨0, Nat.zero_le _, rfl, rfl, HB.out⟩
      case round =>
        clear HB hsz
        obtain ⟨k, hk, rfl, hall2, hb⟩ := hrel
        obtain ⟨wo, rfl⟩ : ∃ wo : World, wo = wr := ⟨_, rfl⟩
        have HA2 := hid hall2
        have hsz := hb.size
        have HB := hid hb
        clear hall2
        by_cases hlk : k < i
        · have hkl : k < l.length := by omega
          obtain ⟨⟨⟨n, lv, rk, gp, kd, vl, cp⟩, ⟨lo, hi⟩, ⟨a, C, S⟩, cn⟩, hx⟩ : ∃ x, atR l k = x := ⟨_, rfl⟩
          have hget := atR_get hkl
          rw [hx] at hget
          obtain ⟨b, off, rfl, hbb, c0, c1, c2, c3, c4, c5, c6, c7, c8, c9, c10⟩ := hL.getR hget
          obtain ⟨⟨⟨n', lv', rk', gp', kd', vl', cp'⟩, ⟨lo', hi'⟩, ⟨a', C', S'⟩, cn'⟩, hx'⟩ : ∃ x, atR l i = x := ⟨_, rfl⟩
          have hget' := atR_get hlt
          rw [hx'] at hget'
          obtain ⟨b', off', he', hbb', c'0, c'1, c'2, c'3, c'4, c'5, c'6, c'7, c'8, c'9, c'10⟩ := hL.getR hget'
          obtain ⟨rfl, rfl⟩ : b = b' ∧ off = off' := by simpa using he'
          have hsp := hS _ (atR_mem hkl)
          rw [hx] at hsp
          obtain ⟨hs1, hs2⟩ := hsp
          have hsp' := hS _ (atR_mem hlt)
          rw [hx'] at hsp'
          obtain ⟨hs1', hs2'⟩ := hsp'
          have hv1 := HV.out k hkl
          rw [hx] at hv1
          have hv2 := HV.out i hlt
          rw [hx'] at hv2
          have HV1 := hid (show vRule n lv rk gp kd vl cp lo hi S cn = true from hv1)
          have HV2 := hid (show vRule n' lv' rk' gp' kd' vl' cp' lo' hi' S' cn' = true from hv2)
          have HCF := hid (show cfK l k i = cfB lv rk gp lo hi S lv' rk' gp' lo' hi' S' by unfold cfK; rw [hx, hx'])
          have d0 : wo.cell? ⟨b, off + k * 11, none⟩ = some (.int .i64 n) := (hb.cell (by simp; omega)).trans c0
          have d1 : wo.cell? ⟨b, off + k * 11 + 1, none⟩ = some (.int .i64 lv) := (hb.cell (by simp; omega)).trans c1
          have d2 : wo.cell? ⟨b, off + k * 11 + 2, none⟩ = some (.int .i64 rk) := (hb.cell (by simp; omega)).trans c2
          have d3 : wo.cell? ⟨b, off + k * 11 + 3, none⟩ = some (.int .i64 gp) := (hb.cell (by simp; omega)).trans c3
          have d4 : wo.cell? ⟨b, off + k * 11 + 4, none⟩ = some (.int .i64 kd) := (hb.cell (by simp; omega)).trans c4
          have d5 : wo.cell? ⟨b, off + k * 11 + 5, none⟩ = some (.int .i64 vl) := (hb.cell (by simp; omega)).trans c5
          have d6 : wo.cell? ⟨b, off + k * 11 + 6, none⟩ = some (.int .i64 cp) := (hb.cell (by simp; omega)).trans c6
          have d7 : wo.cell? ⟨b, off + k * 11 + 7, none⟩ = some (.int .i64 lo) := (hb.cell (by simp; omega)).trans c7
          have d8 : wo.cell? ⟨b, off + k * 11 + 8, none⟩ = some (.int .i64 hi) := (hb.cell (by simp; omega)).trans c8
          have d9 : wo.cell? ⟨b, off + k * 11 + 9, none⟩ = some (.slice a S.length C) := (hb.cell (by simp; omega)).trans c9
          have d10 : wo.cell? ⟨b, off + k * 11 + 10, none⟩ = some (.int .i64 cn) := (hb.cell (by simp; omega)).trans c10
          have d'0 : wo.cell? ⟨b, off + i * 11, none⟩ = some (.int .i64 n') := (hb.cell (by simp; omega)).trans c'0
          have d'1 : wo.cell? ⟨b, off + i * 11 + 1, none⟩ = some (.int .i64 lv') := (hb.cell (by simp; omega)).trans c'1
          have d'2 : wo.cell? ⟨b, off + i * 11 + 2, none⟩ = some (.int .i64 rk') := (hb.cell (by simp; omega)).trans c'2
          have d'3 : wo.cell? ⟨b, off + i * 11 + 3, none⟩ = some (.int .i64 gp') := (hb.cell (by simp; omega)).trans c'3
          have d'4 : wo.cell? ⟨b, off + i * 11 + 4, none⟩ = some (.int .i64 kd') := (hb.cell (by simp; omega)).trans c'4
          have d'5 : wo.cell? ⟨b, off + i * 11 + 5, none⟩ = some (.int .i64 vl') := (hb.cell (by simp; omega)).trans c'5
          have d'6 : wo.cell? ⟨b, off + i * 11 + 6, none⟩ = some (.int .i64 cp') := (hb.cell (by simp; omega)).trans c'6
          have d'7 : wo.cell? ⟨b, off + i * 11 + 7, none⟩ = some (.int .i64 lo') := (hb.cell (by simp; omega)).trans c'7
          have d'8 : wo.cell? ⟨b, off + i * 11 + 8, none⟩ = some (.int .i64 hi') := (hb.cell (by simp; omega)).trans c'8
          have d'9 : wo.cell? ⟨b, off + i * 11 + 9, none⟩ = some (.slice a' S'.length C') := (hb.cell (by simp; omega)).trans c'9
          have d'10 : wo.cell? ⟨b, off + i * 11 + 10, none⟩ = some (.int .i64 cn') := (hb.cell (by simp; omega)).trans c'10
          have hbw : b < wo.heap.size := by omega
          have HS1 := hid ((hs1.below hb (Nat.le_refl _)).more hsz)
          have HS2 := hid ((hs1'.below hb (Nat.le_refl _)).more hsz)
          have HS1z := hid ((HS1.out.alloc (Nat.le_refl _) (.cells #[.int .i64 0, .slice none 0 0, .slice none 0 0] 42)).more (show wo.heap.size ≤ (wo.alloc (.cells #[.int .i64 0, .slice none 0 0, .slice none 0 0] 42)).heap.size by simp))
          have HS2z := hid ((HS2.out.alloc (Nat.le_refl _) (.cells #[.int .i64 0, .slice none 0 0, .slice none 0 0] 42)).more (show wo.heap.size ≤ (wo.alloc (.cells #[.int .i64 0, .slice none 0 0, .slice none 0 0] 42)).heap.size by simp))
          have HS1d := hid (show Sl enc2 2 wo.drew wo.drew.heap.size a S from HS1.out)
          have HS2d := hid (show Sl enc2 2 wo.drew wo.drew.heap.size a' S' from HS2.out)
          have HS1y := hid (show Sl enc2 2 (wo.alloc (.cells #[.int .i64 0, .slice none 0 0, .slice none 0 0] 42)).drew (wo.alloc (.cells #[.int .i64 0, .slice none 0 0, .slice none 0 0] 42)).drew.heap.size a S from HS1z.out)
          have HS2y := hid (show Sl enc2 2 (wo.alloc (.cells #[.int .i64 0, .slice none 0 0, .slice none 0 0] 42)).drew (wo.alloc (.cells #[.int .i64 0, .slice none 0 0, .slice none 0 0] 42)).drew.heap.size a' S' from HS2z.out)
          have hki : (k : Int) < (l.length : Int) := by omega
          have hii : (i : Int) < (l.length : Int) := by omega
          clear c0 c1 c2 c3 c4 c5 c6 c7 c8 c9 c10 hx hget
          clear c'0 c'1 c'2 c'3 c'4 c'5 c'6 c'7 c'8 c'9 c'10 hx' hget' he' hb hv1 hv2 hs1 hs2 hs1' hs2'
          obtain ⟨fb, hfb⟩ : ∃ x, cfB lv rk gp lo hi S lv' rk' gp' lo' hi' S' = x := ⟨_, rfl⟩
          have HFB := hid hfb
          have HCK := hid (HCF.out.trans hfb)
          clear hfb
          go_wp2_with fail
          go_region_held3 (fun x => ∀ o, x.cell? ⟨b, o, none⟩ = wo.cell? ⟨b, o, none⟩) ((intro o; first | rfl | exact ee o | (simp [go_sem, *]; done))) (first | (go_at_call 55; refine (conflict_any n lv rk gp kd vl cp lo hi cn a C S n' lv' rk' gp' kd' vl' cp' lo' hi' cn' a' C' S' _ HS1d.out HS2d.out HV1.out HV2.out).mono ?_; rintro e w5 ⟨t5, a5, a6, n5, c5, n6, c6, rfl, b5⟩; rw [HFB.out]; have hz9 : wo.heap.size ≤ w5.heap.size := b5.size; have hq : b < w5.heap.size := (by omega); have ee : ∀ o, w5.cell? ⟨b, o, none⟩ = wo.cell? ⟨b, o, none⟩ := fun o => b5.cell (p := ⟨b, o, none⟩) hbw) | (go_at_call 55; refine (conflict_any n lv rk gp kd vl cp lo hi cn a C S n' lv' rk' gp' kd' vl' cp' lo' hi' cn' a' C' S' _ HS1y.out HS2y.out HV1.out HV2.out).mono ?_; rintro e w5 ⟨t5, a5, a6, n5, c5, n6, c6, rfl, b5⟩; rw [HFB.out]; have hz9 : wo.heap.size + 1 ≤ w5.heap.size := Nat.le_trans (Nat.le_of_eq (by simp)) b5.size; have hq : b < w5.heap.size := (by omega); have ee : ∀ o, w5.cell? ⟨b, o, none⟩ = wo.cell? ⟨b, o, none⟩ := fun o => (b5.cell (p := ⟨b, o, none⟩) (by simp; omega)).trans (World.cell?_alloc_lt _ _ _ hbw); have g0 : w5.cell? ⟨wo.heap.size, 0, none⟩ = some (.int .i64 0) := (b5.cell (p := ⟨wo.heap.size, 0, none⟩) (by (try simp) <;> omega)).trans (by simp [go_sem]); have f0 : w5.frozen? ⟨wo.heap.size, 0, none⟩ = false := (b5.frozen (p := ⟨wo.heap.size, 0, none⟩) (by (try simp) <;> omega)).trans (by simp [go_sem]); have g1 : w5.cell? ⟨wo.heap.size, 1, none⟩ = some (.slice none 0 0) := (b5.cell (p := ⟨wo.heap.size, 1, none⟩) (by (try simp) <;> omega)).trans (by simp [go_sem]); have f1 : w5.frozen? ⟨wo.heap.size, 1, none⟩ = false := (b5.frozen (p := ⟨wo.heap.size, 1, none⟩) (by (try simp) <;> omega)).trans (by simp [go_sem]); have g2 : w5.cell? ⟨wo.heap.size, 2, none⟩ = some (.slice none 0 0) := (b5.cell (p := ⟨wo.heap.size, 2, none⟩) (by (try simp) <;> omega)).trans (by simp [go_sem]); have f2 : w5.frozen? ⟨wo.heap.size, 2, none⟩ = false := (b5.frozen (p := ⟨wo.heap.size, 2, none⟩) (by (try simp) <;> omega)).trans (by simp [go_sem])))
          all_goals first
            | (have b5' : Below wo.heap.size wo w5 := ⟨b5.os, b5.tape, b5.output, b5.size, b5.block⟩
               have HB6 := hid ((HB.out.trans (b5'.mono hsz)).alloc (by omega) (.cells #[.int .i64 t5, .slice a5 n5 c5, .slice a6 n6 c6] 42))
               clear b5 b5'
               obtain ⟨w6, hw6⟩ : ∃ W9 : World, W9 = w5.alloc (.cells #[.int .i64 t5, .slice a5 n5 c5, .slice a6 n6 c6] 42) := ⟨_, rfl⟩
               rw [← hw6] at HB6
               rw [← hw6]
               clear hw6)
            | (have b5' : Below (wo.heap.size + 1) (wo.alloc (.cells #[.int .i64 0, .slice none 0 0, .slice none 0 0] 42)) w5 := ⟨b5.os, b5.tape, b5.output, b5.size, fun i hi => b5.block i (by simp; omega)⟩
               have HB6 := hid (((((HB.out.alloc hsz (.cells #[.int .i64 0, .slice none 0 0, .slice none 0 0] 42)).trans (b5'.mono (by omega))).setCell (p := ⟨wo.heap.size, 0, none⟩) (by simp; omega) (.int .i64 t5)).setCell (p := ⟨wo.heap.size, 1, none⟩) (by simp; omega) (.slice a5 n5 c5)).setCell (p := ⟨wo.heap.size, 2, none⟩) (by simp; omega) (.slice a6 n6 c6))
               clear b5 b5' g0 g1 g2 f0 f1 f2
               obtain ⟨w6, hw6⟩ : ∃ W9 : World, W9 = ((w5.setCell ⟨wo.heap.size, 0, none⟩ (.int .i64 t5)).setCell ⟨wo.heap.size, 1, none⟩ (.slice a5 n5 c5)).setCell ⟨wo.heap.size, 2, none⟩ (.slice a6 n6 c6) := ⟨_, rfl⟩
               rw [← hw6] at HB6
               rw [← hw6]
               clear hw6)
          all_goals clear ee d0 d1 d2 d3 d4 d5 d6 d7 d8 d9 d10 d'0 d'1 d'2 d'3 d'4 d'5 d'6 d'7 d'8 d'9 d'10 hq hz9
          all_goals
            cases fb
            · go_wp2
              go_roundw
              case rel => exact ⟨k + 1, by omega, by go_num, range_all_succ HA2.out (by rw [HCK.out]; rfl), HB6.out⟩
              case measure => simp [intOf]; omega
            · have HE := hid (show clr l = false by unfold clr; exact range_all_no hlt (by unfold clrK; exact range_all_no hlk (by rw [HCK.out]; rfl)))
              go_wp2
              go_ret
              exact ⟨ret_bool HE.out.symm, HB6.out⟩
        · have hki : k = i := by omega
          have HK := hid (show clrK l i = true by unfold clrK; have := HA2.out; rwa [hki] at this)
          clear hb hki
          go_wp2
          go_roundw
          case rel => exact ⟨i + 1, by omega, by go_num, range_all_succ HA.out HK.out, HB.out⟩
          case measure => simp [intOf]; omega
    · have hkl : i = l.length := by omega
      have HE := hid (show clr l = true by unfold clr; have := HA.out; rwa [hkl] at this)
      clear hkl
      go_wp2
      go_ret
      exact ⟨ret_bool HE.out.symm, HB.out⟩

end Go.Proofs.YtkgofklpogdpmaaGreat
