/- Contract: an amount apportioned, as the program does it. -/
import Derived.Test.YtkgofklpogdpmaaGreatZB
import Derived.Test.YtkgofklpogdpmaaGreatZC
import Derived.Test.YtkgofklpogdpmaaGreatZE
import Derived.Deep.LoopGhost
namespace Go.Proofs.YtkgofklpogdpmaaGreat
open Go.RowKit

def ApPost (w : World) (a : Int) (ws : List Int) (e : Ending) (w' : World) : Prop :=
  ∃ v, e = .returned v ∧ Own enc1 1 3 w' w.heap.size v (apP a ws) ∧ Below w.heap.size w w'
theorem fill_step {l : List Int} {k : Nat} {x : Int} (h : k < l.length) (hx : g0 l k = x) : (l.take k ++ List.replicate (l.length - k) 0).set k x = l.take (k + 1) ++ List.replicate (l.length - (k + 1)) 0 := by
  rw [set_fill h, List.take_succ_eq_append_getElem h, g0_eq h, hx]
  simp
theorem fill_len {l : List Int} {k : Nat} (h : k ≤ l.length) : (l.take k ++ List.replicate (l.length - k) (0 : Int)).length = l.length := by
  rw [List.length_append, List.length_take, List.length_replicate]; omega
theorem apFl_len (a : Int) (ws : List Int) : (apFl a ws).length = ws.length := by simp [apFl]
theorem apRs_len (a : Int) (ws : List Int) : (apRs a ws).length = ws.length := by simp [apRs]
/-- The numbers of one share. -/
theorem share_at {a T x : Int} (ha : 0 ≤ a ∧ a ≤ 1000000) (hx : 0 ≤ x ∧ x ≤ 1000000) (hT : 0 < T) : 0 ≤ a * x ∧ a * x ≤ 1000000000000 ∧ 0 ≤ a * x / T ∧ a * x / T ≤ 1000000000000 ∧ 0 ≤ a * x % T ∧ a * x % T < T := by
  have h1 : 0 ≤ a * x := Int.mul_nonneg ha.1 hx.1
  have h2 : a * x ≤ 1000000 * 1000000 := Int.mul_le_mul ha.2 hx.2 hx.1 (by omega)
  have h3 := Int.ediv_le_self T h1
  exact ⟨h1, by omega, Int.ediv_nonneg h1 (by omega), by omega, Int.emod_nonneg _ (by omega), Int.emod_lt_of_pos _ hT⟩

set_option maxHeartbeats 6400000 in
set_option maxRecDepth 100000 in
theorem apportionI_any (a : Int) (ws : List Int) (A : Option Addr) (cap : Nat) (w : World) (hW : Sl enc1 1 w w.heap.size A ws) (ha : 0 ≤ a ∧ a ≤ 1000000) (hl : 1 ≤ ws.length ∧ ws.length ≤ 8) (hw : ∀ k, k < ws.length → 0 ≤ g0 ws k ∧ g0 ws k ≤ 1000000) (hat : a ≤ tot (g0 ws) ws.length) :
    Calls Tryz.prog 50 #[.int .i64 a, .slice A ws.length cap] w (ApPost w a ws) := by
  have HAA := hid ha
  have HAT := hid hat
  have HW := hid hw
  obtain ⟨ha1, ha2⟩ := ha
  obtain ⟨hl1, hl2⟩ := hl
  have m1 : withinB a 0 1000000 = true := withinB_true.2 ⟨ha1, ha2⟩
  have m2 : withinB (ws.length : Int) 1 8 = true := withinB_true.2 ⟨by omega, by omega⟩
  have hTb := tot_bd (lf := g0 ws) (b := 1000000) ws.length hw
  obtain ⟨T, hT⟩ : ∃ T, tot (g0 ws) ws.length = T := ⟨_, rfl⟩
  have HT := hid hT
  rw [hT] at hTb
  obtain ⟨hT1, hT2⟩ := hTb
  clear hw hat hT
  go_enter Tryz.func50, Tryz.ntmps50
  go_wp2_with (first | (go_at_call 64; (first | (refine (within_yes (by assumption) _).mono ?_) | (refine (within_no (by assumption) _).mono ?_)); rintro e w' ⟨rfl, rfl⟩) | (go_at_call 82; refine (money_yes (by assumption) _).mono ?_; rintro e w' ⟨rfl, rfl⟩))
  go_loop [26] (fun i => ∃ k : Nat, k ≤ ws.length ∧ i = .int .i64 k) (fun i => ws.length - (intOf i).toNat)
  case atStart => exact ⟨0, Nat.zero_le _, rfl⟩
  case round =>
    obtain ⟨k, hk, rfl⟩ := hrel
    by_cases hlt : k < ws.length
    · obtain ⟨b, off, rfl, hbb, c1⟩ := hW.get1 hlt
      have hb2 := HW.out k hlt
      obtain ⟨x, hx⟩ : ∃ x, g0 ws k = x := ⟨_, rfl⟩
      rw [hx] at c1 hb2
      have m3 : withinB x 0 1000000 = true := withinB_true.2 hb2
      have hkl : (k : Int) < (ws.length : Int) := by omega
      clear hx hb2
      go_wp2_with (go_at_call 82; refine (money_yes (by assumption) _).mono ?_; rintro e w' ⟨rfl, rfl⟩)
      go_round
      case rel => exact ⟨k + 1, by omega, by go_num⟩
      case measure => simp [intOf]; omega
    · have hkl : k = ws.length := by omega
      subst hkl
      clear m1 m2
      go_wp2_with (at_make; refine wpList_makeL len1 (by omega) rfl (.tmp 36) (.tmp 36) _ rfl Tryz.underlying25 infoInt (by omega) (y := 0) rfl (base := w.heap.size) (n := ws.length) rfl rfl (by omega) (by omega) ?_)
      intro w1 O1 G1
      have D1 := hid (only_below G1)
      have z1 := (O1.lt w.heap.size rfl).2
      have hW1 := (hW.below D1.out (Nat.le_refl _)).more D1.out.size
      clear G1
      go_wp2_with fail
      refine (total_any ws A cap _ hW1 (by omega) (fun k hk => by have := HW.out k hk; omega)).mono ?_
      rintro e w2 ⟨rfl, rfl⟩
      rw [HT.out]
      by_cases hT0 : T = 0
      · have e0 : (T == 0) = true := by rw [hT0]; rfl
        have HE := hid (show apP a ws = List.replicate ws.length 0 by unfold apP; rw [if_pos (by rw [HT.out, hT0])])
        clear hT0
        go_wp2
        go_ret
        exact ⟨_, rfl, by rw [HE.out]; exact O1, D1.out⟩
      · have e0 : (T == 0) = false := beq_eq_false_iff_ne.2 hT0
        have hTp : 0 < T := by omega
        have HST := hid (ap_start HAA.out.1 (fun k hk => HW.out k hk) hl2 (by have := HAT.out; exact this) (by rw [HT.out]; exact hT0))
        have HE := hid (show apP a ws = apLoop (apN a ws) (apFl a ws) (apRs a ws) by unfold apP; rw [if_neg (by rw [HT.out]; exact hT0)])
        go_wp2_with (at_make; refine wpList_makeL len1 (by omega) rfl (.tmp 44) (.tmp 44) _ rfl Tryz.underlying25 infoInt (by omega) (y := 0) rfl (base := w1.heap.size) (n := ws.length) rfl rfl (by omega) (by omega) ?_)
        intro w2 O2 G2
        have D2 := hid (D1.out.grown G2 D1.out.size (fun k hk => by cases hk))
        have O1' := O1.grown G2 (.inr (fun h => by cases h))
        have z2 := (O2.lt w1.heap.size rfl).2
        obtain ⟨F, hF⟩ : ∃ F, apFl a ws = F := ⟨_, rfl⟩
        obtain ⟨R, hR⟩ : ∃ R, apRs a ws = R := ⟨_, rfl⟩
        have HFL := hid (show F.length = ws.length by rw [← hF]; exact apFl_len a ws)
        have HRL := hid (show R.length = ws.length by rw [← hR]; exact apRs_len a ws)
        have HFA := hid (fun k (hk : k < ws.length) => show g0 F k = a * g0 ws k / T by rw [← hF, apFl_at hk, HT.out])
        have HRA := hid (fun k (hk : k < ws.length) => show g0 R k = a * g0 ws k % T by rw [← hR, apRs_at hk, HT.out])
        rw [hF, hR] at HST HE
        have OO1 := hid (show Own enc1 1 3 w2 w.heap.size (.slice (some ⟨w.heap.size, 0, none⟩) ws.length ws.length) (F.take 0 ++ List.replicate (F.length - 0) 0) by rw [HFL.out]; simpa using O1')
        have OO2 := hid (show Own enc1 1 3 w2 w1.heap.size (.slice (some ⟨w1.heap.size, 0, none⟩) ws.length ws.length) (R.take 0 ++ List.replicate (R.length - 0) 0) by rw [HRL.out]; simpa using O2)
        clear hF hR G2 O1 O1' O2 hT0
        go_wp2_with fail
        go_loopw [48] (fun i wr => ∃ k : Nat, k ≤ ws.length ∧ i = .int .i64 k ∧ Own enc1 1 3 wr w.heap.size (.slice (some ⟨w.heap.size, 0, none⟩) ws.length ws.length) (F.take k ++ List.replicate (F.length - k) 0) ∧ Own enc1 1 3 wr w1.heap.size (.slice (some ⟨w1.heap.size, 0, none⟩) ws.length ws.length) (R.take k ++ List.replicate (R.length - k) 0) ∧ Below w.heap.size w wr) (fun i _ => ws.length - (intOf i).toNat)
        case atStart => exact ⟨0, Nat.zero_le _, rfl, OO1.out, OO2.out, D2.out⟩
        case round =>
          clear OO1 OO2 D2 z2 D1 hW1
          obtain ⟨k, hk, rfl, ho1, ho2, hb⟩ := hrel
          have HB := hid hb
          have hz1 := (ho1.lt w.heap.size rfl).2
          have hz2 := (ho2.lt w1.heap.size rfl).2
          by_cases hlt : k < ws.length
          · obtain ⟨b, off, he, hbb, c1⟩ := hW.get1 hlt
            subst he
            have hb2 := HW.out k hlt
            have hfa := HFA.out k hlt
            have hra := HRA.out k hlt
            have hlf : k < F.length := by rw [HFL.out]; exact hlt
            have hlr : k < R.length := by rw [HRL.out]; exact hlt
            have hn1 : ws.length = (F.take k ++ List.replicate (F.length - k) (0 : Int)).length := by rw [fill_len (by omega), HFL.out]
            have hn2 : ws.length = (R.take k ++ List.replicate (R.length - k) (0 : Int)).length := by rw [fill_len (by omega), HRL.out]
            have e1 := ho1.cell len1 hn1 (get_fill hlf) (j := 0) rfl
            have e2 := ho2.cell len1 hn2 (get_fill hlr) (j := 0) rfl
            have f1 : ∀ o, wr.frozen? ⟨w.heap.size, o, none⟩ = false := fun o => ho1.frozen hn1 o
            have f2 : ∀ o, wr.frozen? ⟨w1.heap.size, o, none⟩ = false := fun o => ho2.frozen hn2 o
            obtain ⟨x, hx⟩ : ∃ x, g0 ws k = x := ⟨_, rfl⟩
            rw [hx] at c1 hb2 hfa hra
            obtain ⟨s1, s2, s3, s4, s5, s6⟩ := share_at HAA.out hb2 hTp
            obtain ⟨P, hP⟩ : ∃ P, a * x = P := ⟨_, rfl⟩
            rw [hP] at s1 s2 s3 s4 s5 s6 hfa hra
            obtain ⟨f, hf⟩ : ∃ f, P / T = f := ⟨_, rfl⟩
            obtain ⟨r, hr⟩ : ∃ r, P % T = r := ⟨_, rfl⟩
            have q1 : P.tdiv T = f := by rw [Int.tdiv_eq_ediv_of_nonneg s1, hf]
            have q2 : P.tmod T = r := by rw [Int.tmod_eq_emod_of_nonneg s1, hr]
            rw [hf] at s3 s4 hfa
            rw [hr] at s5 s6 hra
            have hw1 : IntKind.i64.wrap (a * x) = P := by rw [hP]; exact IntWalk.i64_in _ (by omega)
            have hw2 : IntKind.i64.wrap f = f := IntWalk.i64_in _ (by omega)
            have hw3 : IntKind.i64.wrap r = r := IntWalk.i64_in _ (by omega)
            have hTne : T ≠ 0 := by omega
            have d1 : wr.cell? ⟨b, off + k, none⟩ = some (.int .i64 x) := (hb.cell hbb).trans c1
            have hbw : b < wr.heap.size := by omega
            have hb1 : b ≠ w.heap.size := by omega
            have hb2' : b ≠ w1.heap.size := by omega
            have hne : w.heap.size ≠ w1.heap.size := by omega
            have hne' : w1.heap.size ≠ w.heap.size := by omega
            have hkl : (k : Int) < (ws.length : Int) := by omega
            have d2 : wr.cell? ⟨w.heap.size, k, none⟩ = some (.int .i64 0) := by simpa using e1
            have d3 : wr.cell? ⟨w1.heap.size, k, none⟩ = some (.int .i64 0) := by simpa using e2
            have n1 := hid ((ho1.store len1 hn1 (get_fill hlf) (j := 0) (a' := f) (by omega) (u := .int .i64 f) rfl).far (p := ⟨w1.heap.size, k, none⟩) (fun he => hne (Option.some.inj he)) (.int .i64 r))
            rw [fill_step hlf hfa] at n1
            have n2 := hid ((ho2.far (p := ⟨w.heap.size, k, none⟩) (fun he => hne' (Option.some.inj he)) (.int .i64 f)).store len1 hn2 (get_fill hlr) (j := 0) (a' := r) (by omega) (u := .int .i64 r) rfl)
            rw [fill_step hlr hra] at n2
            have n3 := hid ((hb.setCell (p := ⟨w.heap.size, k, none⟩) (Nat.le_refl _) (.int .i64 f)).setCell (p := ⟨w1.heap.size, k, none⟩) (by simp; omega) (.int .i64 r))
            clear c1 hx hb2 hfa hra hP hf hr e1 e2 hn1 hn2 ho1 ho2 hb hlf hlr
            go_wp2
            go_roundw
            case rel => exact ⟨k + 1, by omega, by go_num, by simpa using n1.out, by simpa using n2.out, n3.out⟩
            case measure => simp [intOf]; omega
          · have hkl : k = ws.length := by omega
            have ho1' := hid (show Own enc1 1 3 wr w.heap.size (.slice (some ⟨w.heap.size, 0, none⟩) ws.length ws.length) F by
              have := ho1; rw [hkl, ← HFL.out, List.take_length, Nat.sub_self, List.replicate_zero, List.append_nil, HFL.out] at this; exact this)
            have ho2' := hid (show Own enc1 1 3 wr w1.heap.size (.slice (some ⟨w1.heap.size, 0, none⟩) ws.length ws.length) R by
              have := ho2; rw [hkl, ← HRL.out, List.take_length, Nat.sub_self, List.replicate_zero, List.append_nil, HRL.out] at this; exact this)
            obtain ⟨wq, hwq⟩ : ∃ wq : World, wq = wr := ⟨_, rfl⟩
            subst hwq
            clear ho1 ho2 hb
            subst hkl
            go_wp2_with fail
            go_loopg [12] (apN a ws) (fun g _ wr => ∃ out rs : List Int, Hid (ApInv ws out rs g) ∧ Hid (tot (g0 out) ws.length + g = a) ∧ Hid (apLoop g out rs = apP a ws) ∧ Own enc1 1 3 wr w.heap.size (.slice (some ⟨w.heap.size, 0, none⟩) ws.length ws.length) out ∧ Own enc1 1 3 wr w1.heap.size (.slice (some ⟨w1.heap.size, 0, none⟩) ws.length ws.length) rs ∧ Below w.heap.size w wr)
            case atStart => exact ⟨F, R, hid HST.out.1, hid HST.out.2, hid HE.out.symm, ho1'.out, ho2'.out, HB.out⟩
            case round =>
              clear ho1' ho2' HB hz1 hz2
              obtain ⟨out, rs, HI, HTO, HLP, ho1, ho2, hb⟩ := hrel
              have HB := hid hb
              have hz1 := (ho1.lt w.heap.size rfl).2
              have hz2 := (ho2.lt w1.heap.size rfl).2
              obtain ⟨wp, rfl⟩ : ∃ wo : World, wo = wr := ⟨_, rfl⟩
              have HOL := hid HI.out.1
              have HSL := hid HI.out.2.1
              have hbt := total_any out (some ⟨w.heap.size, 0, none⟩) ws.length wp (ho1.sl len1) (by rw [HOL.out]; omega) (fun k hk => by
                rw [HOL.out] at hk
                have h1 := HI.out.2.2.1 k hk
                have h2 := (HW.out k hk).2
                refine ⟨h1.1, ?_⟩
                have h3 := h1.2
                split at h3 <;> omega)
              rw [HOL.out] at hbt
              obtain ⟨t, ht⟩ : ∃ t, tot (g0 out) ws.length = t := ⟨_, rfl⟩
              have hta := HTO.out
              rw [ht] at hbt hta
              have HT2 := hid ht
              clear ht
              go_wp2_with fail
              refine hbt.mono ?_
              rintro e w3 ⟨rfl, rfl⟩
              cases gk with
              | zero =>
                have e1 : decide (t < a) = false := decide_eq_false (by omega)
                have HLL := hid (show out = apP a ws from HLP.out)
                clear hta hbt hb ho2
                go_wp2
                go_ret
                exact ⟨_, rfl, by rw [← HLL.out]; exact ho1, HB.out⟩
              | succ g =>
                have e1 : decide (t < a) = true := decide_eq_true (by omega)
                have HO1 := hid ho1
                have HO2 := hid ho2
                clear hta hbt hb ho1 ho2
                go_wp2_with fail
                go_loopw [12, 76] (fun b i wr => ∃ k : Nat, k ≤ ws.length ∧ i = .int .i64 k ∧ b = .int .i64 (bestP (g0 rs) k) ∧ Below wp.heap.size wp wr) (fun _ i _ => ws.length - (intOf i).toNat)
                case atStart => exact ⟨0, Nat.zero_le _, rfl, rfl, Below.refl _ _⟩
                case round =>
                  obtain ⟨k, hk, rfl, rfl, hb⟩ := hrel
                  have HBB := hid hb
                  have hzr := hb.size
                  have hgt : bestP (g0 rs) k < ws.length := by
                    by_cases h0 : k = 0
                    · rw [h0]; show 0 < ws.length; omega
                    · have := bestP_lt (r := g0 rs) k (by omega); omega
                  have hbs : bestP (g0 rs) (k + 1) = if g0 rs (bestP (g0 rs) k) < g0 rs k then k else bestP (g0 rs) k := rfl
                  obtain ⟨q, hq⟩ : ∃ q, bestP (g0 rs) k = q := ⟨_, rfl⟩
                  have HQ := hid hq
                  rw [hq] at hbs hgt
                  rw [hq]
                  have HBS := hid hbs
                  clear hq hbs
                  by_cases hlt : k < ws.length
                  · have c1 := (hb.cell (p := ⟨w1.heap.size, k * 1 + 0, none⟩) hz2).trans (HO2.out.cell len1 HSL.out.symm (g0_get (show k < rs.length by rw [HSL.out]; exact hlt)) (j := 0) rfl)
                    have c2 := (hb.cell (p := ⟨w1.heap.size, q * 1 + 0, none⟩) hz2).trans (HO2.out.cell len1 HSL.out.symm (g0_get (show q < rs.length by rw [HSL.out]; exact hgt)) (j := 0) rfl)
                    obtain ⟨x, hx⟩ : ∃ x, g0 rs k = x := ⟨_, rfl⟩
                    obtain ⟨y, hy⟩ : ∃ y, g0 rs q = y := ⟨_, rfl⟩
                    rw [hx] at c1
                    rw [hy] at c2
                    have HBS2 := hid (show bestP (g0 rs) (k + 1) = if y < x then k else q by rw [HBS.out, hx, hy])
                    have d1 : wr.cell? ⟨w1.heap.size, k, none⟩ = some (.int .i64 x) := by simpa using c1
                    have d2 : wr.cell? ⟨w1.heap.size, q, none⟩ = some (.int .i64 y) := by simpa using c2
                    have hz2r : w1.heap.size < wr.heap.size := by omega
                    have hki : (k : Int) < (ws.length : Int) := by omega
                    have hqi : (q : Int) < (ws.length : Int) := by omega
                    clear c1 c2 hx hy hb
                    by_cases hlx : y < x
                    · have e2 : decide (y < x) = true := decide_eq_true hlx
                      have HBS3 := hid (show bestP (g0 rs) (k + 1) = k by rw [HBS2.out, if_pos hlx])
                      clear hlx
                      go_wp2_with fail
                      go_quiet (fail)
                      go_wp2
                      go_roundw
                      case rel => exact ⟨k + 1, by omega, by go_num, by rw [HBS3.out], below_drewN HBB.out _⟩
                      case measure => simp [intOf]; omega
                    · have e2 : decide (y < x) = false := decide_eq_false hlx
                      have HBS3 := hid (show bestP (g0 rs) (k + 1) = q by rw [HBS2.out, if_neg hlx])
                      clear hlx
                      go_wp2_with fail
                      go_quiet (fail)
                      go_wp2
                      go_roundw
                      case rel => exact ⟨k + 1, by omega, by go_num, by rw [HBS3.out], below_drewN HBB.out _⟩
                      case measure => simp [intOf]; omega
                  · have hkl : k = ws.length := by omega
                    have hqe := HQ.out
                    rw [hkl, ← HSL.out] at hqe
                    have hsn := HI.out.step
                    have htn := HI.out.tot_
                    rw [hqe] at hsn htn
                    have HLP2 := hid (show apLoop g (out.set q (g0 out q + 1)) (rs.set q (-1)) = apP a ws by rw [← HLP.out, ← hqe]; rfl)
                    have o1 := HO1.out.below HBB.out (Nat.le_refl _)
                    have o2 := HO2.out.below HBB.out (Nat.le_refl _)
                    have HB2 := hid (HB.out.trans (HBB.out.mono (by omega)))
                    have HSN := hid hsn
                    have HTN := hid (show tot (g0 (out.set q (g0 out q + 1))) ws.length + (g : Nat) = a by rw [htn]; have := HTO.out; omega)
                    have hob := HI.out.2.2.1 q hgt
                    have hwb := (HW.out q hgt).2
                    have c1 := o1.cell len1 HOL.out.symm (g0_get (show q < out.length by rw [HOL.out]; exact hgt)) (j := 0) rfl
                    have c2 := o2.cell len1 HSL.out.symm (g0_get (show q < rs.length by rw [HSL.out]; exact hgt)) (j := 0) rfl
                    have f1 : ∀ o, wr.frozen? ⟨w.heap.size, o, none⟩ = false := fun o => o1.frozen HOL.out.symm o
                    have f2 : ∀ o, wr.frozen? ⟨w1.heap.size, o, none⟩ = false := fun o => o2.frozen HSL.out.symm o
                    obtain ⟨y, hy⟩ : ∃ y, g0 out q = y := ⟨_, rfl⟩
                    obtain ⟨z, hz⟩ : ∃ z, g0 rs q = z := ⟨_, rfl⟩
                    rw [hy] at c1 hob HLP2 HSN HTN
                    rw [hz] at c2
                    have hyb : 0 ≤ y ∧ y ≤ 1000000 := by
                      refine ⟨hob.1, ?_⟩
                      have := hob.2
                      split at this <;> omega
                    obtain ⟨y1, y2⟩ := hyb
                    have d1 : wr.cell? ⟨w.heap.size, q, none⟩ = some (.int .i64 y) := by simpa using c1
                    have d2 : wr.cell? ⟨w1.heap.size, q, none⟩ = some (.int .i64 z) := by simpa using c2
                    have hzw : w.heap.size < wr.heap.size := by omega
                    have hzw1 : w1.heap.size < wr.heap.size := by omega
                    have hqi : (q : Int) < (ws.length : Int) := by omega
                    have hne : w.heap.size ≠ w1.heap.size := by omega
                    have hne' : w1.heap.size ≠ w.heap.size := by omega
                    have hw1 : IntKind.i64.wrap (y + 1) = y + 1 := IntWalk.i64_in _ (by omega)
                    have n1 := hid ((o1.store len1 HOL.out.symm (g0_get (show q < out.length by rw [HOL.out]; exact hgt)) (j := 0) (a' := y + 1) (by omega) (u := .int .i64 (y + 1)) rfl).far (p := ⟨w1.heap.size, q, none⟩) (fun he => hne (Option.some.inj he)) (.int .i64 (-1)))
                    have n2 := hid ((o2.far (p := ⟨w.heap.size, q, none⟩) (fun he => hne' (Option.some.inj he)) (.int .i64 (y + 1))).store len1 HSL.out.symm (g0_get (show q < rs.length by rw [HSL.out]; exact hgt)) (j := 0) (a' := -1) (by omega) (u := .int .i64 (-1)) rfl)
                    have n3 := hid ((HB2.out.setCell (p := ⟨w.heap.size, q, none⟩) (Nat.le_refl _) (.int .i64 (y + 1))).setCell (p := ⟨w1.heap.size, q, none⟩) (by simp; omega) (.int .i64 (-1)))
                    subst hkl
                    clear hb hqe hsn htn o1 o2 hob hwb c1 c2 hy hz
                    go_wp2
                    go_roundg g
                    case measure => omega
                    case rel => exact ⟨_, _, hid HSN.out, hid HTN.out, hid HLP2.out, by simpa using n1.out, by simpa using n2.out, by simpa using n3.out⟩

end Go.Proofs.YtkgofklpogdpmaaGreat

/- Contract: an amount apportioned, as the paper says it. -/
namespace Go.Proofs.YtkgofklpogdpmaaGreat
open Go.RowKit

set_option maxHeartbeats 6400000 in
set_option maxRecDepth 100000 in
theorem apportionS_any (a : Int) (ws : List Int) (A : Option Addr) (cap : Nat) (w : World) (hW : Sl enc1 1 w w.heap.size A ws) (ha : 0 ≤ a ∧ a ≤ 1000000) (hl : ws.length ≤ 8) (hw : ∀ k, k < ws.length → 0 ≤ g0 ws k ∧ g0 ws k ≤ 1000000) (hat : a ≤ tot (g0 ws) ws.length) :
    Calls Tryz.prog 89 #[.int .i64 a, .slice A ws.length cap] w (ApPost w a ws) := by
  have HAA := hid ha
  have HAT := hid hat
  have HW := hid hw
  obtain ⟨ha1, ha2⟩ := ha
  have hTb := tot_bd (lf := g0 ws) (b := 1000000) ws.length hw
  obtain ⟨T, hT⟩ : ∃ T, tot (g0 ws) ws.length = T := ⟨_, rfl⟩
  have HT := hid hT
  rw [hT] at hTb
  obtain ⟨hT1, hT2⟩ := hTb
  clear hw hat hT
  go_enter Tryz.func89, Tryz.ntmps89
  go_wp2_with (at_make; refine wpList_makeL len1 (by omega) rfl (.tmp 13) (.tmp 13) _ rfl Tryz.underlying25 infoInt (by omega) (y := 0) rfl (base := w.heap.size) (n := ws.length) rfl rfl (by omega) (by omega) ?_)
  intro w1 O1 G1
  have D1 := hid (only_below G1)
  have z1 := (O1.lt w.heap.size rfl).2
  clear G1
  go_wp2_with (at_make; refine wpList_makeL len1 (by omega) rfl (.tmp 16) (.tmp 16) _ rfl Tryz.underlying25 infoInt (by omega) (y := 0) rfl (base := w1.heap.size) (n := ws.length) rfl rfl (by omega) (by omega) ?_)
  intro w2 O2 G2
  have D2 := hid (D1.out.grown G2 D1.out.size (fun k hk => by cases hk))
  have O1' := O1.grown G2 (.inr (fun h => by cases h))
  have z2 := (O2.lt w1.heap.size rfl).2
  have hW2 := (hW.below D2.out (Nat.le_refl _)).more D2.out.size
  clear G2 O1
  go_wp2_with fail
  refine (ssum_any ws A cap _ hW2 (by omega) (fun k hk => by have := HW.out k hk; omega)).mono ?_
  rintro e w3 ⟨rfl, rfl⟩
  rw [HT.out]
  by_cases hT0 : T = 0
  · have e0 : (T == 0) = true := by rw [hT0]; rfl
    have HE := hid (show apP a ws = List.replicate ws.length 0 by unfold apP; rw [if_pos (by rw [HT.out, hT0])])
    clear hT0
    go_wp2
    go_ret
    exact ⟨_, rfl, by rw [HE.out]; exact O1', D2.out⟩
  · have e0 : (T == 0) = false := beq_eq_false_iff_ne.2 hT0
    have hTp : 0 < T := by omega
    have HST := hid (ap_start HAA.out.1 (fun k hk => HW.out k hk) hl (by have := HAT.out; exact this) (by rw [HT.out]; exact hT0))
    have HE := hid (show apP a ws = apLoop (apN a ws) (apFl a ws) (apRs a ws) by unfold apP; rw [if_neg (by rw [HT.out]; exact hT0)])
    obtain ⟨F, hF⟩ : ∃ F, apFl a ws = F := ⟨_, rfl⟩
    obtain ⟨R, hR⟩ : ∃ R, apRs a ws = R := ⟨_, rfl⟩
    have HFL := hid (show F.length = ws.length by rw [← hF]; exact apFl_len a ws)
    have HRL := hid (show R.length = ws.length by rw [← hR]; exact apRs_len a ws)
    have HFA := hid (fun k (hk : k < ws.length) => show g0 F k = a * g0 ws k / T by rw [← hF, apFl_at hk, HT.out])
    have HRA := hid (fun k (hk : k < ws.length) => show g0 R k = a * g0 ws k % T by rw [← hR, apRs_at hk, HT.out])
    rw [hF, hR] at HST HE
    have OO1 := hid (show Own enc1 1 3 w2 w.heap.size (.slice (some ⟨w.heap.size, 0, none⟩) ws.length ws.length) (F.take 0 ++ List.replicate (F.length - 0) 0) by rw [HFL.out]; simpa using O1')
    have OO2 := hid (show Own enc1 1 3 w2 w1.heap.size (.slice (some ⟨w1.heap.size, 0, none⟩) ws.length ws.length) (R.take 0 ++ List.replicate (R.length - 0) 0) by rw [HRL.out]; simpa using O2)
    clear hF hR O1' O2 hT0
    go_wp2_with fail
    go_loopw [8, 9] (fun l i wr => ∃ k : Nat, k ≤ ws.length ∧ i = .int .i64 k ∧ l = .int .i64 (a - tot (g0 F) k) ∧ Own enc1 1 3 wr w.heap.size (.slice (some ⟨w.heap.size, 0, none⟩) ws.length ws.length) (F.take k ++ List.replicate (F.length - k) 0) ∧ Own enc1 1 3 wr w1.heap.size (.slice (some ⟨w1.heap.size, 0, none⟩) ws.length ws.length) (R.take k ++ List.replicate (R.length - k) 0) ∧ Below w.heap.size w wr) (fun _ i _ => ws.length - (intOf i).toNat)
    case atStart => exact ⟨0, Nat.zero_le _, rfl, by simp [tot], OO1.out, OO2.out, D2.out⟩
    case round =>
      clear OO1 OO2 D2 z2 D1 hW2
      obtain ⟨k, hk, rfl, rfl, ho1, ho2, hb⟩ := hrel
      have HB := hid hb
      have hz1 := (ho1.lt w.heap.size rfl).2
      have hz2 := (ho2.lt w1.heap.size rfl).2
      have hFt : tot (g0 F) (k + 1) = tot (g0 F) k + g0 F k := rfl
      have hFb := tot_bd (lf := g0 F) (b := 1000000000000) k (fun j hj => by
        rw [HFA.out j (by omega)]
        have := share_at HAA.out (HW.out j (by omega)) hTp
        omega)
      obtain ⟨t, ht⟩ : ∃ t, tot (g0 F) k = t := ⟨_, rfl⟩
      have HTK := hid ht
      rw [ht] at hFt hFb
      rw [ht]
      have HFT := hid hFt
      obtain ⟨t1, t2⟩ := hFb
      clear ht hFt
      by_cases hlt : k < ws.length
      · obtain ⟨b, off, he, hbb, c1⟩ := hW.get1 hlt
        subst he
        have hb2 := HW.out k hlt
        have hfa := HFA.out k hlt
        have hra := HRA.out k hlt
        have hlf : k < F.length := by rw [HFL.out]; exact hlt
        have hlr : k < R.length := by rw [HRL.out]; exact hlt
        have hn1 : ws.length = (F.take k ++ List.replicate (F.length - k) (0 : Int)).length := by rw [fill_len (by omega), HFL.out]
        have hn2 : ws.length = (R.take k ++ List.replicate (R.length - k) (0 : Int)).length := by rw [fill_len (by omega), HRL.out]
        have e1 := ho1.cell len1 hn1 (get_fill hlf) (j := 0) rfl
        have e2 := ho2.cell len1 hn2 (get_fill hlr) (j := 0) rfl
        have f1 : ∀ o, wr.frozen? ⟨w.heap.size, o, none⟩ = false := fun o => ho1.frozen hn1 o
        have f2 : ∀ o, wr.frozen? ⟨w1.heap.size, o, none⟩ = false := fun o => ho2.frozen hn2 o
        obtain ⟨x, hx⟩ : ∃ x, g0 ws k = x := ⟨_, rfl⟩
        rw [hx] at c1 hb2 hfa hra
        obtain ⟨s1, s2, s3, s4, s5, s6⟩ := share_at HAA.out hb2 hTp
        obtain ⟨P, hP⟩ : ∃ P, a * x = P := ⟨_, rfl⟩
        rw [hP] at s1 s2 s3 s4 s5 s6 hfa hra
        obtain ⟨f, hf⟩ : ∃ f, P / T = f := ⟨_, rfl⟩
        obtain ⟨r, hr⟩ : ∃ r, P % T = r := ⟨_, rfl⟩
        have q1 : P.tdiv T = f := by rw [Int.tdiv_eq_ediv_of_nonneg s1, hf]
        have q2 : P.tmod T = r := by rw [Int.tmod_eq_emod_of_nonneg s1, hr]
        rw [hf] at s3 s4 hfa
        rw [hr] at s5 s6 hra
        have hw1 : IntKind.i64.wrap (a * x) = P := by rw [hP]; exact IntWalk.i64_in _ (by omega)
        have hw2 : IntKind.i64.wrap f = f := IntWalk.i64_in _ (by omega)
        have hw3 : IntKind.i64.wrap r = r := IntWalk.i64_in _ (by omega)
        obtain ⟨l, hl'⟩ : ∃ l, a - t = l := ⟨_, rfl⟩
        have hw4 : IntKind.i64.wrap (l - f) = l - f := IntWalk.i64_in _ (by omega)
        have HLF := hid (show l - f = a - tot (g0 F) (k + 1) by rw [HFT.out, hfa]; omega)
        rw [hl']
        have hTne : T ≠ 0 := by omega
        have d1 : wr.cell? ⟨b, off + k, none⟩ = some (.int .i64 x) := (hb.cell hbb).trans c1
        have hbw : b < wr.heap.size := by omega
        have hb1 : b ≠ w.heap.size := by omega
        have hb2' : b ≠ w1.heap.size := by omega
        have hne : w.heap.size ≠ w1.heap.size := by omega
        have hne' : w1.heap.size ≠ w.heap.size := by omega
        have hkl : (k : Int) < (ws.length : Int) := by omega
        have d2 : wr.cell? ⟨w.heap.size, k, none⟩ = some (.int .i64 0) := by simpa using e1
        have d3 : wr.cell? ⟨w1.heap.size, k, none⟩ = some (.int .i64 0) := by simpa using e2
        have n1 := hid ((ho1.store len1 hn1 (get_fill hlf) (j := 0) (a' := f) (by omega) (u := .int .i64 f) rfl).far (p := ⟨w1.heap.size, k, none⟩) (fun he => hne (Option.some.inj he)) (.int .i64 r))
        rw [fill_step hlf hfa] at n1
        have n2 := hid ((ho2.far (p := ⟨w.heap.size, k, none⟩) (fun he => hne' (Option.some.inj he)) (.int .i64 f)).store len1 hn2 (get_fill hlr) (j := 0) (a' := r) (by omega) (u := .int .i64 r) rfl)
        rw [fill_step hlr hra] at n2
        have n3 := hid ((hb.setCell (p := ⟨w.heap.size, k, none⟩) (Nat.le_refl _) (.int .i64 f)).setCell (p := ⟨w1.heap.size, k, none⟩) (by simp; omega) (.int .i64 r))
        clear c1 hx hb2 hfa hra hP hf hr e1 e2 hn1 hn2 ho1 ho2 hb hlf hlr hl' t1 t2
        go_wp2
        go_roundw
        case rel => exact ⟨k + 1, by omega, by go_num, by rw [HLF.out], by simpa using n1.out, by simpa using n2.out, n3.out⟩
        case measure => simp [intOf]; omega
      · have hkl : k = ws.length := by omega
        have ho1' := hid (show Own enc1 1 3 wr w.heap.size (.slice (some ⟨w.heap.size, 0, none⟩) ws.length ws.length) F by
          have := ho1; rw [hkl, ← HFL.out, List.take_length, Nat.sub_self, List.replicate_zero, List.append_nil, HFL.out] at this; exact this)
        have ho2' := hid (show Own enc1 1 3 wr w1.heap.size (.slice (some ⟨w1.heap.size, 0, none⟩) ws.length ws.length) R by
          have := ho2; rw [hkl, ← HRL.out, List.take_length, Nat.sub_self, List.replicate_zero, List.append_nil, HRL.out] at this; exact this)
        have hnn : a - t = (apN a ws : Nat) := by
          have h1 := HST.out.2
          have h2 := HTK.out
          rw [hkl] at h2
          omega
        rw [hnn]
        obtain ⟨N, hN⟩ : ∃ N, apN a ws = N := ⟨_, rfl⟩
        rw [hN] at HST HE
        rw [hN]
        have hnb : (N : Int) ≤ 1000000 := by omega
        clear ho1 ho2 hb hnn hN t1 t2
        subst hkl
        go_wp2_with fail
        go_loopw [8] (fun l wr => ∃ (g : Nat) (out rs : List Int), l = .int .i64 g ∧ g ≤ 1000000 ∧ Hid (ApInv ws out rs g) ∧ Hid (apLoop g out rs = apP a ws) ∧ Own enc1 1 3 wr w.heap.size (.slice (some ⟨w.heap.size, 0, none⟩) ws.length ws.length) out ∧ Own enc1 1 3 wr w1.heap.size (.slice (some ⟨w1.heap.size, 0, none⟩) ws.length ws.length) rs ∧ Below w.heap.size w wr) (fun l _ => (intOf l).toNat)
        case atStart => exact ⟨N, F, R, rfl, by omega, hid HST.out.1, hid HE.out.symm, ho1'.out, ho2'.out, HB.out⟩
        case round =>
          clear ho1' ho2' HB hz1 hz2
          obtain ⟨gk, out, rs, rfl, hgk, HI, HLP, ho1, ho2, hb⟩ := hrel
          have HB := hid hb
          have hz1 := (ho1.lt w.heap.size rfl).2
          have hz2 := (ho2.lt w1.heap.size rfl).2
          obtain ⟨wp, rfl⟩ : ∃ wo : World, wo = wr := ⟨_, rfl⟩
          have HOL := hid HI.out.1
          have HSL := hid HI.out.2.1
          cases gk with
          | zero =>
            have e1 : decide ((0 : Int) < ((0 : Nat) : Int)) = false := rfl
            have HLL := hid (show out = apP a ws from HLP.out)
            clear hb ho2
            go_wp2
            go_ret
            exact ⟨_, rfl, by rw [← HLL.out]; exact ho1, HB.out⟩
          | succ g =>
            have hN1 : 1 ≤ ws.length := by have := HI.out.best.1; omega
            have e1 : decide ((0 : Int) < ((g + 1 : Nat) : Int)) = true := decide_eq_true (by omega)
            have e1' : decide (((g + 1 : Nat) : Int) > 0) = true := decide_eq_true (by omega)
            have HO1 := hid ho1
            have HO2 := hid ho2
            obtain ⟨G, hG⟩ : ∃ G, g + 1 = G := ⟨_, rfl⟩
            have hG1 : ((G : Nat) : Int) - 1 = (g : Int) := by omega
            have hwG : IntKind.i64.wrap (g : Int) = (g : Int) := IntWalk.i64_in _ (by omega)
            have hG0 : 0 < G := by omega
            rw [hG] at e1 e1' hgk ⊢
            have HGG := hid hG
            clear hb ho1 ho2 hG
            go_wp2_with fail
            go_loopw [10, 11] (fun b i wr => ∃ k : Nat, k ≤ ws.length ∧ 1 ≤ k ∧ i = .int .i64 k ∧ b = .int .i64 (bestP (g0 rs) k) ∧ Below wp.heap.size wp wr) (fun _ i _ => ws.length - (intOf i).toNat)
            case atStart => exact ⟨1, hN1, Nat.le_refl _, rfl, by simp [bestP], Below.refl _ _⟩
            case round =>
              obtain ⟨k, hk, hk1, rfl, rfl, hb⟩ := hrel
              have HBB := hid hb
              have hzr := hb.size
              have hgt : bestP (g0 rs) k < ws.length := by
                have := bestP_lt (r := g0 rs) k (by omega); omega
              have hbs : bestP (g0 rs) (k + 1) = if g0 rs (bestP (g0 rs) k) < g0 rs k then k else bestP (g0 rs) k := rfl
              obtain ⟨q, hq⟩ : ∃ q, bestP (g0 rs) k = q := ⟨_, rfl⟩
              have HQ := hid hq
              rw [hq] at hbs hgt
              rw [hq]
              have HBS := hid hbs
              clear hq hbs
              by_cases hlt : k < ws.length
              · have c1 := (hb.cell (p := ⟨w1.heap.size, k * 1 + 0, none⟩) hz2).trans (HO2.out.cell len1 HSL.out.symm (g0_get (show k < rs.length by rw [HSL.out]; exact hlt)) (j := 0) rfl)
                have c2 := (hb.cell (p := ⟨w1.heap.size, q * 1 + 0, none⟩) hz2).trans (HO2.out.cell len1 HSL.out.symm (g0_get (show q < rs.length by rw [HSL.out]; exact hgt)) (j := 0) rfl)
                obtain ⟨x, hx⟩ : ∃ x, g0 rs k = x := ⟨_, rfl⟩
                obtain ⟨y, hy⟩ : ∃ y, g0 rs q = y := ⟨_, rfl⟩
                rw [hx] at c1
                rw [hy] at c2
                have HBS2 := hid (show bestP (g0 rs) (k + 1) = if y < x then k else q by rw [HBS.out, hx, hy])
                have d1 : wr.cell? ⟨w1.heap.size, k, none⟩ = some (.int .i64 x) := by simpa using c1
                have d2 : wr.cell? ⟨w1.heap.size, q, none⟩ = some (.int .i64 y) := by simpa using c2
                have hz2r : w1.heap.size < wr.heap.size := by omega
                have hki : (k : Int) < (ws.length : Int) := by omega
                have hqi : (q : Int) < (ws.length : Int) := by omega
                clear c1 c2 hx hy hb
                by_cases hlx : y < x
                · have e2 : decide (y < x) = true := decide_eq_true hlx
                  have HBS3 := hid (show bestP (g0 rs) (k + 1) = k by rw [HBS2.out, if_pos hlx])
                  clear hlx
                  go_wp2_with fail
                  go_quiet (fail)
                  go_wp2
                  go_roundw
                  case rel => exact ⟨k + 1, by omega, by omega, by go_num, by rw [HBS3.out], below_drewN HBB.out _⟩
                  case measure => simp [intOf]; omega
                · have e2 : decide (y < x) = false := decide_eq_false hlx
                  have HBS3 := hid (show bestP (g0 rs) (k + 1) = q by rw [HBS2.out, if_neg hlx])
                  clear hlx
                  go_wp2_with fail
                  go_quiet (fail)
                  go_wp2
                  go_roundw
                  case rel => exact ⟨k + 1, by omega, by omega, by go_num, by rw [HBS3.out], below_drewN HBB.out _⟩
                  case measure => simp [intOf]; omega
              · have hkl : k = ws.length := by omega
                have hqe := HQ.out
                rw [hkl, ← HSL.out] at hqe
                have hsn := HI.out.step
                rw [hqe] at hsn
                have HLP2 := hid (show apLoop g (out.set q (g0 out q + 1)) (rs.set q (-1)) = apP a ws by rw [← HLP.out, ← hqe]; rfl)
                have o1 := HO1.out.below HBB.out (Nat.le_refl _)
                have o2 := HO2.out.below HBB.out (Nat.le_refl _)
                have HB2 := hid (HB.out.trans (HBB.out.mono (by omega)))
                have HSN := hid hsn
                have hob := HI.out.2.2.1 q hgt
                have hwb := (HW.out q hgt).2
                have c1 := o1.cell len1 HOL.out.symm (g0_get (show q < out.length by rw [HOL.out]; exact hgt)) (j := 0) rfl
                have c2 := o2.cell len1 HSL.out.symm (g0_get (show q < rs.length by rw [HSL.out]; exact hgt)) (j := 0) rfl
                have f1 : ∀ o, wr.frozen? ⟨w.heap.size, o, none⟩ = false := fun o => o1.frozen HOL.out.symm o
                have f2 : ∀ o, wr.frozen? ⟨w1.heap.size, o, none⟩ = false := fun o => o2.frozen HSL.out.symm o
                obtain ⟨y, hy⟩ : ∃ y, g0 out q = y := ⟨_, rfl⟩
                obtain ⟨z, hz⟩ : ∃ z, g0 rs q = z := ⟨_, rfl⟩
                rw [hy] at c1 hob HLP2 HSN
                rw [hz] at c2
                have hyb : 0 ≤ y ∧ y ≤ 1000000 := by
                  refine ⟨hob.1, ?_⟩
                  have := hob.2
                  split at this <;> omega
                obtain ⟨y1, y2⟩ := hyb
                have d1 : wr.cell? ⟨w.heap.size, q, none⟩ = some (.int .i64 y) := by simpa using c1
                have d2 : wr.cell? ⟨w1.heap.size, q, none⟩ = some (.int .i64 z) := by simpa using c2
                have hzw : w.heap.size < wr.heap.size := by omega
                have hzw1 : w1.heap.size < wr.heap.size := by omega
                have hqi : (q : Int) < (ws.length : Int) := by omega
                have hne : w.heap.size ≠ w1.heap.size := by omega
                have hne' : w1.heap.size ≠ w.heap.size := by omega
                have hw1 : IntKind.i64.wrap (y + 1) = y + 1 := IntWalk.i64_in _ (by omega)
                have n1 := hid ((o1.store len1 HOL.out.symm (g0_get (show q < out.length by rw [HOL.out]; exact hgt)) (j := 0) (a' := y + 1) (by omega) (u := .int .i64 (y + 1)) rfl).far (p := ⟨w1.heap.size, q, none⟩) (fun he => hne (Option.some.inj he)) (.int .i64 (-1)))
                have n2 := hid ((o2.far (p := ⟨w.heap.size, q, none⟩) (fun he => hne' (Option.some.inj he)) (.int .i64 (y + 1))).store len1 HSL.out.symm (g0_get (show q < rs.length by rw [HSL.out]; exact hgt)) (j := 0) (a' := -1) (by omega) (u := .int .i64 (-1)) rfl)
                have n3 := hid ((HB2.out.setCell (p := ⟨w.heap.size, q, none⟩) (Nat.le_refl _) (.int .i64 (y + 1))).setCell (p := ⟨w1.heap.size, q, none⟩) (by simp; omega) (.int .i64 (-1)))
                have hgG : g < G := by have := HGG.out; omega
                subst hkl
                clear hb hqe hsn o1 o2 hob hwb c1 c2 hy hz
                go_wp2
                go_roundw
                case rel => exact ⟨g, _, _, rfl, by omega, hid HSN.out, hid HLP2.out, by simpa using n1.out, by simpa using n2.out, by simpa using n3.out⟩
                case measure => simp [intOf]; omega

end Go.Proofs.YtkgofklpogdpmaaGreat
