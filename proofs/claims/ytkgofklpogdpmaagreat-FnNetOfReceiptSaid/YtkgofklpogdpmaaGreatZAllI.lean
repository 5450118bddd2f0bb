/- Contract: rules in conflict, and clear rules, as the program does it. -/
import Derived.Test.YtkgofklpogdpmaaGreatZPairC
import Derived.Test.YtkgofklpogdpmaaGreatZConfI
import Derived.Test.YtkgofklpogdpmaaGreatZClearS
import Derived.Test.YtkgofklpogdpmaaGreatZC
namespace Go.Proofs.YtkgofklpogdpmaaGreat
open Go.RowKit

/-! ### The plain law -/
theorem tgB_symm (g g' : Int) : tgB g g' = tgB g' g := by
  unfold tgB
  rw [Bool.eq_iff_iff]
  simp only [Bool.or_eq_true, decide_eq_true_eq]
  omega
theorem mtB_symm (a b c d : Int) : mtB a b c d = mtB c d a b := by
  unfold mtB
  rw [Bool.eq_iff_iff]
  simp only [Bool.and_eq_true, decide_eq_true_eq]
  omega
theorem cfB_symm (lv rk gp lo hi : Int) (S : List (Int × Int)) (lv' rk' gp' lo' hi' : Int) (S' : List (Int × Int)) : cfB lv rk gp lo hi S lv' rk' gp' lo' hi' S' = cfB lv' rk' gp' lo' hi' S' lv rk gp lo hi S := by
  unfold cfB mtG
  rw [tgB_symm, mtB_symm, show mtK S S' = mtK S' S from funext fun k => mtB_symm _ _ _ _, show decide (lv = lv') = decide (lv' = lv) from decide_eq_decide.2 ⟨Eq.symm, Eq.symm⟩, show decide (rk = rk') = decide (rk' = rk) from decide_eq_decide.2 ⟨Eq.symm, Eq.symm⟩]
theorem cfK_symm (l : List ((Int × Int × Int × Int × Int × Int × Int) × (Int × Int) × (Option Addr × Nat × List (Int × Int)) × Int)) (i j : Nat) : cfK l i j = cfK l j i := cfB_symm _ _ _ _ _ _ _ _ _ _ _ _
/-- Two rules in conflict, the one with the smaller number first. -/
def badK (l : List ((Int × Int × Int × Int × Int × Int × Int) × (Int × Int) × (Option Addr × Nat × List (Int × Int)) × Int)) (i j : Nat) : Bool := cfK l i j && decide (nmK l i < nmK l j)
theorem clr_iff {l : List ((Int × Int × Int × Int × Int × Int × Int) × (Int × Int) × (Option Addr × Nat × List (Int × Int)) × Int)} (hv : vRules l = true) : (∀ i, i < l.length → ∀ j, j < l.length → badK l i j = false) ↔ clr l = true := by
  unfold clr clrK
  simp only [List.all_eq_true, List.mem_range, Bool.not_eq_true']
  constructor
  · intro h i hi k hk
    have hne := vRules_new hv hk hi
    have h1 := h k (by omega) i hi
    have h2 := h i hi k (by omega)
    unfold badK at h1 h2
    rw [cfK_symm l i k] at h2
    cases hc : cfK l k i with
    | false => rfl
    | true =>
      rw [hc, Bool.true_and, decide_eq_false_iff_not] at h1 h2
      omega
  · intro h i hi j hj
    unfold badK
    by_cases h1 : i < j
    · rw [h j hj i h1, Bool.false_and]
    · by_cases h2 : i = j
      · rw [h2, show decide (nmK l j < nmK l j) = false from decide_eq_false (by omega), Bool.and_false]
      · rw [cfK_symm, h i hi j (by omega), Bool.false_and]

/-- What the loops of conflicts hand on. -/
def CfRow (w wr : World) (v : Value) (ps : List (Nat × Int × Int)) : Prop := Own encP 1 25 wr w.heap.size v ps ∧ (∀ p ∈ ps, PairIn wr v p) ∧ Below w.heap.size w wr

set_option maxHeartbeats 6400000 in
set_option maxRecDepth 100000 in
theorem allConflicts_any (l : List ((Int × Int × Int × Int × Int × Int × Int) × (Int × Int) × (Option Addr × Nat × List (Int × Int)) × Int)) (A : Option Addr) (cap : Nat) (w : World) (hL : Sl encR 11 w w.heap.size A l) (hS : SpansIn w w.heap.size l) (hcap : l.length ≤ cap) (hcm : cap ≤ 9223372036854775807) (hv : vRules l = true) :
    Calls Tryz.prog 40 #[.slice A l.length cap] w fun e w' => ∃ (A' : Option Addr) (m c : Nat), e = .returned (.slice A' m c) ∧ (m = 0 ↔ clr l = true) ∧ Below w.heap.size w w' := by
  have HV := hid hv
  have hl6 := vRules_len hv
  have O0 := hid (Own.lit0 encP 1 25 w w.heap.size rfl (Nat.le_refl _))
  have D0 := hid ((Below.refl w.heap.size w).alloc (Nat.le_refl _) (.cells #[] 25))
  have zL : Sl encR 11 (w.alloc (.cells #[] 25)) (w.alloc (.cells #[] 25)).heap.size A l := (hL.alloc (Nat.le_refl _) _).more (by simp)
  have zS : SpansIn (w.alloc (.cells #[] 25)) (w.alloc (.cells #[] 25)).heap.size l := (hS.alloc (Nat.le_refl _) _).more (by simp)
  have HS := hid hS
  clear hv hS
  go_enter Tryz.func40, Tryz.ntmps40
  go_wp2_with fail
  refine (validRules_any l A cap _ zL zS (by omega) hcap hcm).mono ?_
  rintro e w1 ⟨rfl, b1⟩
  rw [HV.out]
  have O1 := hid (O0.out.below b1 (Nat.le_refl _))
  have D1 := hid (D0.out.trans (b1.mono (by simp)))
  clear b1 zL zS O0 D0
  go_wp2_with fail
  go_loopw [3, 17] (fun v i wr => ∃ (k : Nat) (ps : List (Nat × Int × Int)), k ≤ l.length ∧ i = .int .i64 k ∧ ps.length ≤ k * 6 ∧ Hid (ps = [] ↔ ∀ i, i < k → ∀ j, j < l.length → badK l i j = false) ∧ Hid (CfRow w wr v ps)) (fun _ i _ => l.length - (intOf i).toNat)
  case atStart => exact ⟨0, [], Nat.zero_le _, rfl, Nat.zero_le _, hid ⟨fun _ i hi => by omega, fun _ => rfl⟩, hid ⟨O1.out, fun p hp => by simp at hp, D1.out⟩⟩
  case round =>
    clear O1 D1
    obtain ⟨k, ps, hk, rfl, hpl, HP, HR⟩ := hrel
    obtain ⟨wo, rfl⟩ : ∃ wo : World, wo = wr := ⟨_, rfl⟩
    have hb := HR.out.2.2
    have hsz := hb.size
    by_cases hlt : k < l.length
    · obtain ⟨⟨⟨n, lv, rk, gp, kd, vl, cp⟩, ⟨lo, hi⟩, ⟨a, C, S⟩, cn⟩, hx⟩ : ∃ x, atR l k = x := ⟨_, rfl⟩
      have hget := atR_get hlt
      rw [hx] at hget
      obtain ⟨b, off, rfl, hbb, c0, c1, c2, c3, c4, c5, c6, c7, c8, c9, c10⟩ := hL.getR hget
      have d0 : wo.cell? ⟨b, off + k * 11, none⟩ = some (.int .i64 n) := (hb.cell (by simp; omega)).trans c0
      have d1 : wo.cell? ⟨b, off + k * 11 + 1, none⟩ = some (.int .i64 lv) := (hb.cell (by simp; omega)).trans c1
      have d2 : wo.cell? ⟨b, off + k * 11 + 2, none⟩ = some (.int .i64 rk) := (hb.cell (by simp; omega)).trans c2
      have d3 : wo.cell? ⟨b, off + k * 11 + 3, none⟩ = some (.int .i64 gp) := (hb.cell (by simp; omega)).trans c3
      have d4 : wo.cell? ⟨b, off + k * 11 + 4, none⟩ = some (.int .i64 kd) := (hb.cell (by simp; omega)).trans c4
      have d5 : wo.cell? ⟨b, off + k * 11 + 5, none⟩ = some (.int .i64 vl) := (hb.cell (by simp; omega)).trans c5
      have d6 : wo.cell? ⟨b, off + k * 11 + 6, none⟩ = some (.int .i64 cp) := (hb.cell (by simp; omega)).trans c6
      have d7 : wo.cell? ⟨b, off + k * 11 + 7, none⟩ = some (.int .i64 lo) := (hb.cell (by simp; omega)).trans c7
      have d8 : wo.cell? ⟨b, off + k * 11 + 8, none⟩ = some (.int .i64 hi) := (hb.cell (by simp; omega)).trans c8
      have d9 : wo.cell? ⟨b, off + k * 11 + 9, none⟩ = some (.slice a S.length C) := (hb.cell (by simp; omega)).trans c9
      have d10 : wo.cell? ⟨b, off + k * 11 + 10, none⟩ = some (.int .i64 cn) := (hb.cell (by simp; omega)).trans c10
      have hsp := HS.out _ (atR_mem hlt)
      rw [hx] at hsp
      obtain ⟨hs1, hs2⟩ := hsp
      have HX := hid hx
      have HSP := hid hs1
      have hbw : b < wo.heap.size := by omega
      clear c0 c1 c2 c3 c4 c5 c6 c7 c8 c9 c10 hx hget hs1
      have HVR := hid (show vRule n lv rk gp kd vl cp lo hi S cn = true by have h9 := vRules_at HV.out hlt; rw [HX.out] at h9; exact h9)
      have HNK := hid (show nmK l k = n by unfold nmK; rw [HX.out]; rfl)
      obtain ⟨wa, hwa⟩ : ∃ x, x = wo.alloc (.cells #[.int .i64 n, .int .i64 lv, .int .i64 rk, .int .i64 gp, .int .i64 kd, .int .i64 vl, .int .i64 cp, .int .i64 lo, .int .i64 hi, .slice a S.length C, .int .i64 cn] 54) := ⟨_, rfl⟩
      have KA := hid (Blk.new wo 54 #[.int .i64 n, .int .i64 lv, .int .i64 rk, .int .i64 gp, .int .i64 kd, .int .i64 vl, .int .i64 cp, .int .i64 lo, .int .i64 hi, .slice a S.length C, .int .i64 cn])
      rw [← hwa] at KA
      have HWA := hid hwa
      have HRA := hid (show CfRow w wa u3 ps by rw [hwa]; exact ⟨HR.out.1.alloc _, fun p hp => (HR.out.2.1 p hp).alloc _, hb.alloc hsz _⟩)
      have hoa : u3.ownBlock ≠ some wo.heap.size := fun he => by have := (HR.out.1.lt _ he).2; omega
      have hza : wo.heap.size < wa.heap.size := KA.out.lt
      clear hwa hb
      go_wp2_with fail
      rw [← HWA.out]
      clear d0 d1 d2 d3 d4 d5 d6 d7 d8 d9 d10
      go_loopw [3, 23] (fun v i wr => ∃ (m : Nat) (ps : List (Nat × Int × Int)), m ≤ l.length ∧ i = .int .i64 m ∧ ps.length ≤ k * 6 + m ∧ Hid (ps = [] ↔ (∀ i, i < k → ∀ j, j < l.length → badK l i j = false) ∧ ∀ j, j < m → badK l k j = false) ∧ Hid (CfRow w wr v ps) ∧ v.ownBlock ≠ some wo.heap.size ∧ Blk wr wo.heap.size 54 #[.int .i64 n, .int .i64 lv, .int .i64 rk, .int .i64 gp, .int .i64 kd, .int .i64 vl, .int .i64 cp, .int .i64 lo, .int .i64 hi, .slice a S.length C, .int .i64 cn]) (fun _ i _ => l.length - (intOf i).toNat)
      case atStart => exact ⟨0, ps, Nat.zero_le _, rfl, by omega, hid ⟨fun h => ⟨HP.out.1 h, fun j hj => by omega⟩, fun h => HP.out.2 h.1⟩, hid HRA.out, hoa, KA.out⟩
      case round =>
        clear HRA hoa HP HR KA hza HWA hpl
        obtain ⟨m, ps, hm, rfl, hpl, HP, HR, hov, hKA⟩ := hrel
        have KA := hid hKA
        have hb := HR.out.2.2
        have hsz2 := hb.size
        have k0 : wr.cell? ⟨wo.heap.size, 0, none⟩ = some (.int .i64 n) := hKA.cell 0
        have k1 : wr.cell? ⟨wo.heap.size, 1, none⟩ = some (.int .i64 lv) := hKA.cell 1
        have k2 : wr.cell? ⟨wo.heap.size, 2, none⟩ = some (.int .i64 rk) := hKA.cell 2
        have k3 : wr.cell? ⟨wo.heap.size, 3, none⟩ = some (.int .i64 gp) := hKA.cell 3
        have k4 : wr.cell? ⟨wo.heap.size, 4, none⟩ = some (.int .i64 kd) := hKA.cell 4
        have k5 : wr.cell? ⟨wo.heap.size, 5, none⟩ = some (.int .i64 vl) := hKA.cell 5
        have k6 : wr.cell? ⟨wo.heap.size, 6, none⟩ = some (.int .i64 cp) := hKA.cell 6
        have k7 : wr.cell? ⟨wo.heap.size, 7, none⟩ = some (.int .i64 lo) := hKA.cell 7
        have k8 : wr.cell? ⟨wo.heap.size, 8, none⟩ = some (.int .i64 hi) := hKA.cell 8
        have k9 : wr.cell? ⟨wo.heap.size, 9, none⟩ = some (.slice a S.length C) := hKA.cell 9
        have k10 : wr.cell? ⟨wo.heap.size, 10, none⟩ = some (.int .i64 cn) := hKA.cell 10
        have hzo : wo.heap.size < wr.heap.size := hKA.lt
        clear hKA
        by_cases hlm : m < l.length
        · skip
          obtain ⟨⟨⟨n', lv', rk', gp', kd', vl', cp'⟩, ⟨lo', hi'⟩, ⟨a', C', S'⟩, cn'⟩, hx'⟩ : ∃ x, atR l m = x := ⟨_, rfl⟩
          have hget' := atR_get hlm
          rw [hx'] at hget'
          obtain ⟨b', off', he', hbb', c'0, c'1, c'2, c'3, c'4, c'5, c'6, c'7, c'8, c'9, c'10⟩ := hL.getR hget'
          obtain ⟨rfl, rfl⟩ : b = b' ∧ off = off' := by simpa using he'
          have d'0 : wr.cell? ⟨b, off + m * 11, none⟩ = some (.int .i64 n') := (hb.cell (by simp; omega)).trans c'0
          have d'1 : wr.cell? ⟨b, off + m * 11 + 1, none⟩ = some (.int .i64 lv') := (hb.cell (by simp; omega)).trans c'1
          have d'2 : wr.cell? ⟨b, off + m * 11 + 2, none⟩ = some (.int .i64 rk') := (hb.cell (by simp; omega)).trans c'2
          have d'3 : wr.cell? ⟨b, off + m * 11 + 3, none⟩ = some (.int .i64 gp') := (hb.cell (by simp; omega)).trans c'3
          have d'4 : wr.cell? ⟨b, off + m * 11 + 4, none⟩ = some (.int .i64 kd') := (hb.cell (by simp; omega)).trans c'4
          have d'5 : wr.cell? ⟨b, off + m * 11 + 5, none⟩ = some (.int .i64 vl') := (hb.cell (by simp; omega)).trans c'5
          have d'6 : wr.cell? ⟨b, off + m * 11 + 6, none⟩ = some (.int .i64 cp') := (hb.cell (by simp; omega)).trans c'6
          have d'7 : wr.cell? ⟨b, off + m * 11 + 7, none⟩ = some (.int .i64 lo') := (hb.cell (by simp; omega)).trans c'7
          have d'8 : wr.cell? ⟨b, off + m * 11 + 8, none⟩ = some (.int .i64 hi') := (hb.cell (by simp; omega)).trans c'8
          have d'9 : wr.cell? ⟨b, off + m * 11 + 9, none⟩ = some (.slice a' S'.length C') := (hb.cell (by simp; omega)).trans c'9
          have d'10 : wr.cell? ⟨b, off + m * 11 + 10, none⟩ = some (.int .i64 cn') := (hb.cell (by simp; omega)).trans c'10
          have hsp' := HS.out _ (atR_mem hlm)
          rw [hx'] at hsp'
          obtain ⟨hs1', hs2'⟩ := hsp'
          have HX' := hid hx'
          have hbw2 : b < wr.heap.size := by omega
          have HVR' := hid (show vRule n' lv' rk' gp' kd' vl' cp' lo' hi' S' cn' = true by have h9 := vRules_at HV.out hlm; rw [HX'.out] at h9; exact h9)
          have HNK' := hid (show nmK l m = n' by unfold nmK; rw [HX'.out]; rfl)
          have HBAD := hid (show badK l k m = (cfB lv rk gp lo hi S lv' rk' gp' lo' hi' S' && decide (n < n')) by unfold badK cfK; rw [HNK.out, HNK'.out, HX.out, HX'.out])
          obtain ⟨wb, hwb⟩ : ∃ x, x = wr.alloc (.cells #[.int .i64 n', .int .i64 lv', .int .i64 rk', .int .i64 gp', .int .i64 kd', .int .i64 vl', .int .i64 cp', .int .i64 lo', .int .i64 hi', .slice a' S'.length C', .int .i64 cn'] 54) := ⟨_, rfl⟩
          have KB := hid (Blk.new wr 54 #[.int .i64 n', .int .i64 lv', .int .i64 rk', .int .i64 gp', .int .i64 kd', .int .i64 vl', .int .i64 cp', .int .i64 lo', .int .i64 hi', .slice a' S'.length C', .int .i64 cn'])
          rw [← hwb] at KB
          have HWB := hid hwb
          have BW := hid (show Below w.heap.size w wb by rw [hwb]; exact hb.alloc hsz2 _)
          have BR := hid (show Below wr.heap.size wr wb by rw [hwb]; exact (Below.refl _ _).alloc (Nat.le_refl _) _)
          have t1 := (HSP.out.below BW.out (Nat.le_refl _)).more BW.out.size
          have t2 := (hs1'.below BW.out (Nat.le_refl _)).more BW.out.size
          clear c'0 c'1 c'2 c'3 c'4 c'5 c'6 c'7 c'8 c'9 c'10 hx' hget' he' hwb hb hs1'
          go_wp2_with fail
          rw [← HWB.out]
          refine (rulesConflict_any n lv rk gp kd vl cp lo hi cn a C S n' lv' rk' gp' kd' vl' cp' lo' hi' cn' a' C' S' wb t1 t2 HVR.out HVR'.out).mono ?_
          rintro e w5 ⟨t, a1, a2, n1, c1, n2, c2, rfl, b5⟩
          have B5 := hid (BR.out.trans (b5.mono BR.out.size))
          have KA5 := hid ((KA.out.below B5.out hzo))
          have KB5 := hid (KB.out.below b5 KB.out.lt)
          have O5 := hid (HR.out.1.below B5.out (Nat.le_refl _))
          have P5 := hid (fun p (hp : p ∈ ps) => (HR.out.2.1 p hp).below B5.out (Nat.le_refl _))
          have W5 := hid (HR.out.2.2.trans (B5.out.mono hsz2))
          have hz5 := W5.out.size
          have j0 : w5.cell? ⟨wo.heap.size, 0, none⟩ = some (.int .i64 n) := KA5.out.cell 0
          have j1 : w5.cell? ⟨wr.heap.size, 0, none⟩ = some (.int .i64 n') := KB5.out.cell 0
          have hzo5 : wo.heap.size < w5.heap.size := KA5.out.lt
          have hzr5 : wr.heap.size < w5.heap.size := KB5.out.lt
          obtain ⟨cb, hcb⟩ : ∃ x, cfB lv rk gp lo hi S lv' rk' gp' lo' hi' S' = x := ⟨_, rfl⟩
          rw [hcb] at HBAD
          rw [hcb]
          clear b5 t1 t2 hcb KB BR BW d'0 d'1 d'2 d'3 d'4 d'5 d'6 d'7 d'8 d'9 d'10 k0 k1 k2 k3 k4 k5 k6 k7 k8 k9 k10
          by_cases hnn : n < n'
          · have e1 : decide (n < n') = true := decide_eq_true hnn
            have e2 : decide (n ≠ n') = true := decide_eq_true (by omega)
            rw [e1, Bool.and_true] at HBAD
            rw [e2, Bool.true_and]
            clear e2
            cases cb
            · skip
              have NB := hid (show badK l k m = false from HBAD.out)
              have HRN := hid (show CfRow w (w5.alloc (.cells #[.int .i64 t, .slice a1 n1 c1, .slice a2 n2 c2] 42)) u3 ps from ⟨O5.out.alloc _, fun p hp => (P5.out p hp).alloc _, W5.out.alloc hz5 _⟩)
              have KN := hid (KA5.out.alloc (.cells #[.int .i64 t, .slice a1 n1 c1, .slice a2 n2 c2] 42))
              have HPN := hid (show ps = [] ↔ (∀ i, i < k → ∀ j, j < l.length → badK l i j = false) ∧ ∀ j, j < m + 1 → badK l k j = false from ⟨fun h => ⟨(HP.out.1 h).1, fun j hj => by by_cases hjm : j = m; rw [hjm]; exact NB.out; exact (HP.out.1 h).2 j (by omega)⟩, fun h => HP.out.2 ⟨h.1, fun j hj => h.2 j (by omega)⟩⟩)
              go_wp2
              go_roundw
              case rel => exact ⟨m + 1, ps, by omega, by go_num, by omega, hid HPN.out, hid HRN.out, hov, KN.out⟩
              case measure => simp [intOf]; omega
            · skip
              have NB := hid (show badK l k m = true from HBAD.out)
              have O6 := (O5.out.alloc (.cells #[.int .i64 t, .slice a1 n1 c1, .slice a2 n2 c2] 42)).alloc (.cells #[.int .i64 n, .int .i64 n'] 3)
              have hpl2 : ps.length ≤ 1000 := by omega
              go_wp2_with (at_builtin; refine wpList_push lenP oneP rfl (.tmp 41) (.tmp 47) _ rfl Tryz.underlying80 infoPairs rfl (by omega) (by omega) rfl O6 (w5.heap.size + 1, n, n') (g := w5.heap.size + 1 + 1) (by simp) rfl rfl (by omega) (by simp; omega) ?_)
              intro v8 w8 o8 g8 h8
              have hpo : u3.ownBlock ≠ some (w5.heap.size + 1) := fun he => by have := (O5.out.lt _ he).2; omega
              have hoo : some wo.heap.size ≠ u3.ownBlock := fun he => hov he.symm
              have h8' : v8.ownBlock = u3.ownBlock ∨ ∃ k, v8.ownBlock = some k ∧ (((w5.alloc (.cells #[.int .i64 t, .slice a1 n1 c1, .slice a2 n2 c2] 42)).alloc (.cells #[.int .i64 n, .int .i64 n'] 3)).alloc (.cells #[.slice (some ⟨w5.heap.size + 1, 0, none⟩) 2 2] 25)).heap.size ≤ k := by
                rcases h8 with h8 | h8
                · exact .inl h8
                · exact .inr ⟨_, h8, by simp⟩
              have P8 := hid (show ∀ p ∈ ps ++ [(w5.heap.size + 1, n, n')], PairIn w8 v8 p by
                intro p hp
                rcases List.mem_append.1 hp with hp | hp
                · exact (((P5.out p hp).alloc _).alloc _).alloc _ |>.grown g8 h8'
                · obtain rfl : p = (w5.heap.size + 1, n, n') := by simpa using hp
                  refine PairIn.grown (v := u3) ⟨?_, ?_, ?_, hpo⟩ g8 h8'
                  · simp [go_sem]
                  · simp [go_sem]
                  · simp)
              have K8 := hid ((((KA5.out.alloc _).alloc _).alloc _).grown g8 hoo)
              have hov8 : v8.ownBlock ≠ some wo.heap.size := by
                rcases h8' with h9 | ⟨q, h9, hq⟩
                · rw [h9]; exact hov
                · rw [h9]; intro he; injection he with he; simp at hq; omega
              have D8 := hid (below_row (((W5.out.alloc hz5 _).alloc (by simp; omega) _).alloc (by simp; omega) _) O5.out (Nat.le_refl _) (by simp; omega) g8)
              have HRN := hid (show CfRow w w8 v8 (ps ++ [(w5.heap.size + 1, n, n')]) from ⟨o8, P8.out, D8.out⟩)
              have HLN : (ps ++ [(w5.heap.size + 1, n, n')]).length ≤ k * 6 + (m + 1) := by simp; omega
              have HPN := hid (show ps ++ [(w5.heap.size + 1, n, n')] = [] ↔ (∀ i, i < k → ∀ j, j < l.length → badK l i j = false) ∧ ∀ j, j < m + 1 → badK l k j = false from ⟨fun h => by simp at h, fun h => by have h9 := h.2 m (by omega); rw [NB.out] at h9; cases h9⟩)
              clear g8 h8 h8' o8 O6 hpo hoo
              go_wp2
              go_roundw
              case rel => exact ⟨m + 1, _, by omega, by go_num, HLN, hid HPN.out, hid HRN.out, hov8, K8.out⟩
              case measure => simp [intOf]; omega
          · have e1 : decide (n < n') = false := decide_eq_false hnn
            rw [e1, Bool.and_false] at HBAD
            obtain ⟨cc, hcc⟩ : ∃ x, (decide (n ≠ n') && cb) = x := ⟨_, rfl⟩
            rw [hcc]
            clear hcc
            cases cc
            · skip
              have NB := hid (show badK l k m = false from HBAD.out)
              have HRN := hid (show CfRow w (w5.alloc (.cells #[.int .i64 t, .slice a1 n1 c1, .slice a2 n2 c2] 42)) u3 ps from ⟨O5.out.alloc _, fun p hp => (P5.out p hp).alloc _, W5.out.alloc hz5 _⟩)
              have KN := hid (KA5.out.alloc (.cells #[.int .i64 t, .slice a1 n1 c1, .slice a2 n2 c2] 42))
              have HPN := hid (show ps = [] ↔ (∀ i, i < k → ∀ j, j < l.length → badK l i j = false) ∧ ∀ j, j < m + 1 → badK l k j = false from ⟨fun h => ⟨(HP.out.1 h).1, fun j hj => by by_cases hjm : j = m; rw [hjm]; exact NB.out; exact (HP.out.1 h).2 j (by omega)⟩, fun h => HP.out.2 ⟨h.1, fun j hj => h.2 j (by omega)⟩⟩)
              go_wp2
              go_roundw
              case rel => exact ⟨m + 1, ps, by omega, by go_num, by omega, hid HPN.out, hid HRN.out, hov, KN.out⟩
              case measure => simp [intOf]; omega
            · skip
              have NB := hid (show badK l k m = false from HBAD.out)
              have HRN := hid (show CfRow w (w5.alloc (.cells #[.int .i64 t, .slice a1 n1 c1, .slice a2 n2 c2] 42)) u3 ps from ⟨O5.out.alloc _, fun p hp => (P5.out p hp).alloc _, W5.out.alloc hz5 _⟩)
              have KN := hid (KA5.out.alloc (.cells #[.int .i64 t, .slice a1 n1 c1, .slice a2 n2 c2] 42))
              have HPN := hid (show ps = [] ↔ (∀ i, i < k → ∀ j, j < l.length → badK l i j = false) ∧ ∀ j, j < m + 1 → badK l k j = false from ⟨fun h => ⟨(HP.out.1 h).1, fun j hj => by by_cases hjm : j = m; rw [hjm]; exact NB.out; exact (HP.out.1 h).2 j (by omega)⟩, fun h => HP.out.2 ⟨h.1, fun j hj => h.2 j (by omega)⟩⟩)
              go_wp2
              go_roundw
              case rel => exact ⟨m + 1, ps, by omega, by go_num, by omega, hid HPN.out, hid HRN.out, hov, KN.out⟩
              case measure => simp [intOf]; omega
        · have hml : m = l.length := by omega
          have HPN := hid (show ps = [] ↔ ∀ i, i < k + 1 → ∀ j, j < l.length → badK l i j = false from ⟨fun h i hi j hj => by by_cases hik : i = k; rw [hik]; exact (HP.out.1 h).2 j (by omega); exact (HP.out.1 h).1 i (by omega) j hj, fun h => HP.out.2 ⟨fun i hi j hj => h i (by omega) j hj, fun j hj => h k (by omega) j (by omega)⟩⟩)
          have hpn : ps.length ≤ (k + 1) * 6 := by omega
          clear hb
          subst hml
          go_wp2
          go_roundw
          case rel => exact ⟨k + 1, ps, by omega, by go_num, hpn, hid HPN.out, hid HR.out⟩
          case measure => simp [intOf]; omega
    · have hkl : k = l.length := by omega
      have HC := hid (show ps.length = 0 ↔ clr l = true by rw [List.length_eq_zero_iff, HP.out, hkl]; exact clr_iff HV.out)
      have hpl2 : ps.length ≤ 1000 := by omega
      clear hb
      subst hkl
      rcases HR.out.1.form with ⟨rfl, h9⟩ | ⟨g, c9, rfl, g1, g2, _, _⟩
      · go_wp2_with (go_at_call 76; refine (sortPairs_none _ _ _).mono ?_; rintro e w' ⟨rfl, rfl⟩)
        go_ret
        exact ⟨none, 0, 0, rfl, by rw [← HC.out, h9]; simp, HR.out.2.2⟩
      · by_cases hne : ps = []
        · subst hne
          go_wp2_with (go_at_call 76; refine (sortPairs_none _ _ _).mono ?_; rintro e w' ⟨rfl, rfl⟩)
          go_ret
          exact ⟨_, 0, c9, rfl, by rw [← HC.out]; simp, HR.out.2.2⟩
        · go_wp2_with fail
          refine (sortPairs_any ps g c9 w.heap.size _ HR.out.1 HR.out.2.1 hpl2 hne).mono ?_
          rintro e w9 ⟨rfl, g9⟩
          have D9 := hid (HR.out.2.2.grown g9 hsz (fun k hk => by cases hk; exact g1))
          clear g9 hne
          go_wp2
          go_ret
          exact ⟨_, _, _, rfl, HC.out, D9.out⟩

set_option maxHeartbeats 1600000 in
theorem isClear_any (l : List ((Int × Int × Int × Int × Int × Int × Int) × (Int × Int) × (Option Addr × Nat × List (Int × Int)) × Int)) (A : Option Addr) (cap : Nat) (w : World) (hL : Sl encR 11 w w.heap.size A l) (hS : SpansIn w w.heap.size l) (hl : l.length ≤ 1000) (hcap : l.length ≤ cap) (hcm : cap ≤ 9223372036854775807) :
    Calls Tryz.prog 13 #[.slice A l.length cap] w fun e w' => e = .returned (.bool (vRules l && clr l)) ∧ Below w.heap.size w w' := by
  obtain ⟨x, hx⟩ : ∃ x, vRules l = x := ⟨_, rfl⟩
  have HX := hid hx
  rw [hx]
  clear hx
  go_enter Tryz.func13, Tryz.ntmps13
  go_wp2_with fail
  refine (validRules_any l A cap _ hL hS hl hcap hcm).mono ?_
  rintro e w1 ⟨rfl, b1⟩
  rw [HX.out]
  have hL1 := (hL.below b1 (Nat.le_refl _)).more b1.size
  have hS1 := (hS.below b1 (Nat.le_refl _)).more b1.size
  have B1 := hid b1
  clear b1 hL hS
  cases x
  · go_wp2
    go_ret
    exact ⟨rfl, B1.out⟩
  · go_wp2_with fail
    refine (allConflicts_any l A cap _ hL1 hS1 hcap hcm HX.out).mono ?_
    rintro e w2 ⟨A', m, c, rfl, hm, b2⟩
    have B2 := hid (B1.out.trans (b2.mono B1.out.size))
    obtain ⟨y, hy⟩ : ∃ y, clr l = y := ⟨_, rfl⟩
    have HY := hid hy
    rw [hy] at hm
    clear b2 hL1 hS1 hy
    cases y
    · have e1 : ((m : Int) == 0) = false := beq_eq_false_iff_ne.2 (fun h => by have := hm.1 (by omega); cases this)
      clear hm
      go_wp2
      go_ret
      exact ⟨ret_bool (by rw [HY.out]; rfl), B2.out⟩
    · have e1 : ((m : Int) == 0) = true := by have := hm.2 rfl; rw [this]; rfl
      clear hm
      go_wp2
      go_ret
      exact ⟨ret_bool (by rw [HY.out]; rfl), B2.out⟩

end Go.Proofs.YtkgofklpogdpmaaGreat
