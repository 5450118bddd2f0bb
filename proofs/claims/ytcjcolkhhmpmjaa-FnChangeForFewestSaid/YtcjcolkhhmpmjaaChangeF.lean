/- Contract: the table of the fewest coins, as the reference makes it. -/
import Derived.Test.YtcjcolkhhmpmjaaTillW
import Derived.Test.YtcjcolkhhmpmjaaTabC
import Derived.Test.YtcjcolkhhmpmjaaTab
import Derived.RegionTactic
import Derived.BigRegion
namespace Go.Proofs.Ytcjcolkhhmpmjaa
open Go.RowKit

def FewPost (w : World) (l : List (Int × Int)) (m : Nat) (e : Ending) (w' : World) : Prop :=
  ∃ (v : Value) (rows : List (Nat × Nat)), e = .returned v ∧ rows.length = l.length + 1 ∧ Tab w' w.heap.size m v rows (rowS l m) ∧ Below w.heap.size w w'
def SOutRel (w : World) (l : List (Int × Int)) (m : Nat) (i v : Value) (wr : World) : Prop :=
  ∃ (k : Nat) (rows : List (Nat × Nat)), k ≤ l.length ∧ i = .int .i64 k ∧ rows.length = k + 1 ∧ Tab wr w.heap.size m v rows (rowS l m) ∧ Below w.heap.size w wr
def SFirstRel (w w2 : World) (l : List (Int × Int)) (m g : Nat) (rows : List (Nat × Nat)) (v i : Value) (wr : World) : Prop :=
  ∃ n : Nat, 1 ≤ n ∧ n ≤ m ∧ i = .int .i64 n ∧ Own enc1 1 3 wr w.heap.size (.slice (some ⟨g, 0, none⟩) m m) ((rowS l m 0).take n ++ List.replicate (m - n) 0) ∧
    Own (encR m) 1 35 wr w2.heap.size v rows ∧ Below w.heap.size w wr
def SRowRel (wk : World) (B : Nat) (T : List Int) (m : Nat) (i v : Value) (wr : World) : Prop :=
  ∃ (n : Nat) (o : List Int), n ≤ m ∧ i = .int .i64 n ∧ o = T.take n ∧ Own enc1 1 3 wr B v o ∧ Below B wk wr
def STryRel (wx : World) (n : Nat) (x : Int × Int) (f : Int → Int) (i bv : Value) (wr : World) : Prop :=
  ∃ c : Nat, c ≤ tries x n ∧ i = .int .i64 c ∧ bv = .int .i64 (conv (mTo x f n c)) ∧ Below wx.heap.size wx wr

set_option maxHeartbeats 6400000 in
set_option maxRecDepth 100000 in
theorem fewest_any (l : List (Int × Int)) (A : Option Addr) (cap a : Nat) (w : World) (h : Sl enc2 2 w w.heap.size A l) (hV : ST l) (ha : a ≤ 300) :
    Calls Try.prog 46 #[.slice A l.length cap, .int .i64 (a : Int)] w (FewPost w l (a + 1)) := by
  have HV := hid hV
  have hl5 := HV.out.2.2
  clear hV
  obtain ⟨m, hm⟩ : ∃ m, a + 1 = m := ⟨_, rfl⟩
  rw [hm]
  have hm301 : m ≤ 301 := by omega
  have hm1 : 1 ≤ m := by omega
  have HM := hid hm
  have hme : ((a : Int) + 1) = (m : Int) := by omega
  have HME := hid hme
  clear hm
  go_enter Try.func46, Try.ntmps46
  go_wp2_with (at_make; refine wpList_makeL len1 (by omega) rfl (.tmp 14) (.tmp 14) _ rfl Try.underlying35 intInfo (by omega) (y := 0) rfl (base := w.heap.size) (n := m) rfl rfl (by omega) (Nat.le_refl _) ?_)
  intro w2 ho2 hg2
  have D2 := only_below hg2
  have z2 := hg2.size
  have hw2 : w.heap.size < w2.heap.size := (ho2.lt _ rfl).2
  have hT0 : rowS l m 0 = 0 :: List.replicate (m - 1) (-1) := by
    refine List.ext_getElem? fun i => ?_
    by_cases hi : i < m
    · rw [g0_get (by rw [rowS_len]; exact hi), rowS_at hi, fewK_zero]
      cases i with
      | zero => simp [conv, noneC]
      | succ i => rw [if_neg (by omega), List.getElem?_cons_succ, List.getElem?_replicate, if_pos (by omega)]; simp [conv]
    · rw [List.getElem?_eq_none (by rw [rowS_len]; omega), List.getElem?_eq_none (by simp; omega)]
  have ho3 : Own enc1 1 3 (w2.alloc (.cells #[.slice (some ⟨w.heap.size, 0, none⟩) m m] 35)) w.heap.size (.slice (some ⟨w.heap.size, 0, none⟩) m m) ((rowS l m 0).take 1 ++ List.replicate (m - 1) 0) := by
    have h9 : (rowS l m 0).take 1 ++ List.replicate (m - 1) 0 = List.replicate m 0 := by
      rw [hT0, show m = (m - 1) + 1 by omega, List.replicate_succ]; simp
    rw [h9]; exact ho2.alloc _
  have hr3 : Own (encR m) 1 35 (w2.alloc (.cells #[.slice (some ⟨w.heap.size, 0, none⟩) m m] 35)) w2.heap.size (.slice (some ⟨w2.heap.size, 0, none⟩) 1 1) [(w.heap.size, m)] :=
    Own.lit (lenR m) rfl (Nat.le_refl _) rfl (by simp) rfl
  have D3 := D2.alloc (by omega) (.cells #[.slice (some ⟨w.heap.size, 0, none⟩) m m] 35)
  clear hg2 ho2 D2 hme hT0
  go_wp2_with fail
  go_loopw [6] (fun i wr => SFirstRel w w2 l m w.heap.size [(w.heap.size, m)] (.slice (some ⟨w2.heap.size, 0, none⟩) 1 1) i wr) (fun i _ => m - (intOf i).toNat)
  case atStart => exact ⟨1, Nat.le_refl _, by omega, rfl, ho3, hr3, D3⟩
  case round =>
    clear ho3 hr3 D3
    obtain ⟨n, n1, nm, rfl, ho, hr, hb⟩ := hrel
    have HO := hid ho
    have HR := hid hr
    have HB := hid hb
    have ef := ho.frozen (by rw [List.length_append, List.length_take, rowS_len, List.length_replicate]; omega)
    have r0 := hr.cell (lenR m) rfl (i := 0) (a := (w.heap.size, m)) rfl (j := 0) rfl
    simp only [Nat.zero_mul, Nat.zero_add] at r0
    clear ho hr hb
    by_cases hlt : n < m
    · have hna : (n : Int) ≤ (a : Int) := by have := HM.out; omega
      have hnm : (n : Int) < (m : Int) := by omega
      have e0 := HO.out.cell len1 (by rw [List.length_append, List.length_take, rowS_len, List.length_replicate]; omega) (fill_get rowS_len hlt) (j := 0) rfl
      simp only [Nat.mul_one, Nat.add_zero] at e0
      have o5 := HO.out.store len1 (by rw [List.length_append, List.length_take, rowS_len, List.length_replicate]; omega) (fill_get rowS_len hlt) (j := 0) (a' := -1) (by omega) (u := .int .i64 (-1)) rfl
      rw [fill_set rowS_len hlt, mid_done (by rw [rowS_len]; exact hlt) (by rw [rowS_at hlt, fewK_zero, if_neg (by omega)]; simp [conv])] at o5
      simp only [Nat.mul_one, Nat.add_zero] at o5
      have O5 := hid o5
      have R5 := hid (HR.out.far (p := ⟨w.heap.size, n, none⟩) (HR.out.off' hw2) (.int .i64 (-1)))
      have D5 := hid (HB.out.setCell (p := ⟨w.heap.size, n, none⟩) (Nat.le_refl _) (.int .i64 (-1)))
      clear o5
      go_wp2
      go_roundw
      case rel => exact ⟨n + 1, by omega, by omega, by go_num, O5.out, R5.out, D5.out⟩
      case measure => simp [intOf]; omega
    · obtain rfl : m = n := by omega
      have hna : ¬ (m : Int) ≤ (a : Int) := by have := HM.out; omega
      have TT : Tab wr w.heap.size m (.slice (some ⟨w2.heap.size, 0, none⟩) 1 1) [(w.heap.size, m)] (rowS l m) := by
        refine ⟨HR.out.less (by omega), fun j hj => ?_⟩
        have hj0 : j = 0 := by simpa using hj
        subst hj0
        have ho := HO.out
        rw [Nat.sub_self, List.replicate_zero, List.append_nil, List.take_of_length_le (by rw [rowS_len]; exact Nat.le_refl _)] at ho
        exact ⟨Row.of_own ho rowS_len.symm, rowS_len, HR.out.off' hw2⟩
      have HT := hid TT
      clear TT HO HR r0 ef
      go_wp2_with fail
      go_loopw [7, 5] (fun i v wr => SOutRel w l m i v wr) (fun i _ _ => l.length - (intOf i).toNat)
      case atStart => exact ⟨0, _, Nat.zero_le _, rfl, rfl, HT.out, HB.out⟩
      case round =>
        clear HT HB
        obtain ⟨k, rows, hk, rfl, hrl, hT, hb⟩ := hrel
        have HRL := hid hrl
        have hsz := hb.size
        have HB := hid hb
        clear hrl
        by_cases hlt : k < l.length
        · obtain ⟨b, off, rfl, hbb, x1, x2⟩ := h.get2 hlt
          have hbd := HV.out.bd hlt
          obtain ⟨X, hX⟩ : ∃ x, g1 l k = x := ⟨_, rfl⟩
          obtain ⟨Y, hY⟩ : ∃ x, g2 l k = x := ⟨_, rfl⟩
          have hFS := fun n : Int => fewK_succ (n := n) hlt
          rw [hX] at x1 hbd
          rw [hY] at x2 hbd
          simp only [hX, hY] at hFS
          have HFS := hid hFS
          obtain ⟨⟨hX1, hX2⟩, hY1, hY2⟩ := hbd
          have hkl : (k : Int) < (l.length : Int) := by omega
          obtain ⟨gv, cv, rfl, hgv1, hgv2⟩ := hT.form (by have := HRL.out; omega)
          have hbw : b < wr.heap.size := by omega
          have d1 : wr.cell? ⟨b, off + k * 2, none⟩ = some (.int .i64 X) := (hb.cell hbb).trans x1
          have d2 : wr.cell? ⟨b, off + k * 2 + 1, none⟩ = some (.int .i64 Y) := (hb.cell hbb).trans x2
          have HD1 := hid d1
          have HD2 := hid d2
          have HX2 := hid (show (X, Y).2 ≤ 20 by dsimp only; omega)
          have OR := Own.lit0 enc1 1 3 wr wr.heap.size rfl (Nat.le_refl _)
          have BR := (Below.refl wr.heap.size wr).alloc (Nat.le_refl _) (.cells #[] 3)
          clear x1 x2 hX hY hFS hb d1 d2
          obtain ⟨wk, hwk⟩ : ∃ x, x = wr := ⟨_, rfl⟩
          rw [← hwk] at hT HD1 HD2 HB OR BR hgv2 hbw hsz
          have HWK := hid hwk
          clear hwk
          go_wp2_with fail
          go_loopw [9, 8] (fun i v wx => SRowRel wk wk.heap.size (rowS l m (k + 1)) m i v wx) (fun i _ _ => m - (intOf i).toNat)
          case atStart => exact ⟨0, [], Nat.zero_le _, rfl, by simp, by have := HWK.out; subst this; exact OR, by have := HWK.out; subst this; exact BR⟩
          case round =>
            clear OR BR
            obtain ⟨n, o, hnm, rfl, hoe, ho, hb⟩ := hrel
            have HOE := hid hoe
            have HBx := hid hb
            have hzx := hb.size
            have hol : o.length ≤ 301 := by rw [hoe, List.length_take]; omega
            clear hoe hb
            by_cases hn : n < m
            · have hna : (n : Int) ≤ (a : Int) := by have := HM.out; omega
              have hTx := hT.below HBx.out (Nat.le_refl _)
              have d1x := (HBx.out.cell (p := ⟨b, off + k * 2, none⟩) hbw).trans HD1.out
              have d2x := (HBx.out.cell (p := ⟨b, off + k * 2 + 1, none⟩) hbw).trans HD2.out
              have HX1 := hid d1x
              have HXX2 := hid d2x
              have hbx : b < wr.heap.size := by omega
              clear d1x d2x
              go_wp2_with fail
              go_loopw [11, 10] (fun i bv wy => STryRel wr n (X, Y) (fewK l k) i bv wy) (fun i _ _ => tries (X, Y) n - (intOf i).toNat)
              case atStart => exact ⟨0, Nat.zero_le _, rfl, rfl, Below.refl _ _⟩
              case round =>
                obtain ⟨c, hct, rfl, rfl, hbz⟩ := hrel
                have htl : tries (X, Y) n ≤ 21 := tries_le HX2.out
                have d1 := (hbz.cell (p := ⟨b, off + k * 2, none⟩) hbx).trans HX1.out
                have d2 := (hbz.cell (p := ⟨b, off + k * 2 + 1, none⟩) hbx).trans HXX2.out
                have hzz := hbz.size
                have hbz' : b < wr.heap.size := by omega
                have hp1 : 0 ≤ (c : Int) * X := Int.mul_nonneg (by omega) (by omega)
                have hp2 : (c : Int) * X ≤ 10500 := by
                  have : (c : Int) * X ≤ 21 * 500 := Int.mul_le_mul (by omega) (by omega) (by omega) (by omega)
                  omega
                have hM0 := mTo_nonneg (x := (X, Y)) (n := (n : Int)) (f := fewK l k) (fun z => few_nonneg _ z) c
                have hM1 := mTo_none (x := (X, Y)) (n := (n : Int)) (f := fewK l k) c
                have hMb := conv_bd hM0
                by_cases hc : (c : Int) ≤ Y ∧ (c : Int) * X ≤ (n : Int)
                · obtain ⟨hc1, hc2⟩ := hc
                  have hclt := (tries_iff (x := (X, Y)) (n := (n : Int)) ⟨hX1, hY1⟩ (by omega)).2 ⟨hc1, hc2⟩
                  obtain ⟨P, hP⟩ : ∃ x, (c : Int) * X = x := ⟨_, rfl⟩
                  have HC2 := hid hc2
                  rw [hP] at hc2 hp1 hp2
                  obtain ⟨j, hj⟩ : ∃ j : Nat, (n : Int) - P = j := ⟨((n : Int) - P).toNat, by omega⟩
                  have hjm : j < m := by omega
                  have hTz := hTx.below hbz (Nat.le_refl _)
                  obtain ⟨r1, r2, r3, r4⟩ := hTz.read (j := k) rfl (by have := HRL.out; omega)
                  have r5 := r2 j hjm
                  rw [rowS_at hjm] at r5
                  obtain ⟨F, hF⟩ : ∃ x, fewK l k (j : Int) = x := ⟨_, rfl⟩
                  have hF0 := @fewK_nonneg l k (j : Int)
                  have hFs := fewK_small (k := k) (n := (j : Int)) HV.out (by omega)
                  rw [hF] at r5 hF0 hFs
                  have hms := @mTo_succ (X, Y) (fewK l k) (n : Int) c
                  dsimp only at hms
                  rw [hP, hj, hF] at hms
                  obtain ⟨G, hG⟩ : ∃ x, rowG rows k = x := ⟨_, rfl⟩
                  rw [hG] at r1 r3 r5
                  have w1' : IntKind.i64.wrap ((c : Int) * X) = P := by rw [IntWalk.i64_in _ (by omega)]; exact hP
                  have w2' : IntKind.i64.wrap ((n : Int) - P) = (j : Int) := by rw [IntWalk.i64_in _ (by omega)]; exact hj
                  have hkr : (k : Int) < (rows.length : Int) := by have := HRL.out; omega
                  have hjm' : (j : Int) < (m : Int) := by omega
                  obtain ⟨M, hM⟩ : ∃ x, mTo (X, Y) (fewK l k) n c = x := ⟨_, rfl⟩
                  rw [hM] at hM0 hM1 hMb hms
                  obtain ⟨Bc, hBc⟩ : ∃ x, conv M = x := ⟨_, rfl⟩
                  have HMS := hid hms
                  have HMM := hid hM
                  have HBC := hid hBc
                  have hPo : (c : Int) * X = P := hP
                  rw [hM, hBc]
                  rw [hBc] at hMb
                  obtain ⟨hMb1, hMb2⟩ := hMb
                  clear hms hM hBc hP hG r2 hTz hct hF hj
                  by_cases hFn : F < noneC
                  · have hF100 := hFs hFn
                    rw [conv_lt hFn] at r5
                    have HFN := hid hFn
                    clear hFs hFn
                    by_cases hup : Bc < 0 ∨ F + (c : Int) < Bc
                    · have HN := hid (show conv (mTo (X, Y) (fewK l k) n (c + 1)) = F + (c : Int) by
                        rw [HMS.out]; exact conv_yes hM0 hF100 (by omega) hF0 (by rw [HBC.out]; exact hup))
                      have hcase : Bc < 0 ∨ (¬ Bc < 0 ∧ F + (c : Int) < Bc) := by omega
                      clear hup
                      rcases hcase with hu | ⟨hu, hu2⟩
                      all_goals
                        go_wp2_with fail
                        go_quiet (fail)
                        clear w1' w2'
                        go_wp2
                        go_roundw
                        case rel => exact ⟨c + 1, by omega, by go_num, by rw [HN.out], below_drewN hbz nq⟩
                        case measure => simp [intOf]; omega
                    · have HN := hid (show conv (mTo (X, Y) (fewK l k) n (c + 1)) = Bc by
                        rw [HMS.out, ← HBC.out]; exact conv_keep (by rw [HBC.out]; exact hup))
                      have hu : ¬ Bc < 0 := by omega
                      have hu2 : ¬ F + (c : Int) < Bc := by omega
                      clear hup
                      go_wp2_with fail
                      go_quiet (fail)
                      clear w1' w2'
                      go_wp2
                      go_roundw
                      case rel => exact ⟨c + 1, by omega, by go_num, by rw [HN.out], below_drewN hbz nq⟩
                      case measure => simp [intOf]; omega
                  · have HN := hid (show conv (mTo (X, Y) (fewK l k) n (c + 1)) = Bc by
                      rw [HMS.out, ← HBC.out]; exact conv_no hM1 hFn)
                    rw [conv_ge hFn] at r5
                    clear hFn hFs
                    go_wp2_with fail
                    go_quiet (fail)
                    clear w1' w2'
                    go_wp2
                    go_roundw
                    case rel => exact ⟨c + 1, by omega, by go_num, by rw [HN.out], below_drewN hbz nq⟩
                    case measure => simp [intOf]; omega
                · have hcd : c = tries (X, Y) n := by
                    have := (tries_iff (x := (X, Y)) (n := (n : Int)) (c := c) ⟨hX1, hY1⟩ (by omega))
                    dsimp only at this
                    omega
                  have hval : g0 (rowS l m (k + 1)) n = conv (mTo (X, Y) (fewK l k) n c) := by rw [rowS_at hn, HFS.out, hcd]
                  obtain ⟨Bc, hBc⟩ : ∃ x, conv (mTo (X, Y) (fewK l k) n c) = x := ⟨_, rfl⟩
                  rw [hBc] at hval ⊢
                  have HVL := hid hval
                  have OX := ho.below hbz (Nat.le_refl _)
                  have DX := HBx.out.trans (hbz.mono HBx.out.size)
                  have zX := DX.size
                  have hcase : ¬ (c : Int) ≤ Y ∨ ((c : Int) ≤ Y ∧ ¬ (c : Int) * X ≤ (n : Int)) := by omega
                  clear hc hbz hcd hval hBc ho
                  rcases hcase with hc1 | ⟨hc1, hc2⟩
                  all_goals
                    go_wp2_with (at_builtin; refine wpList_push len1 one1 rfl (.tmp 90) (.tmp 92) _ rfl Try.underlying35 intInfo rfl (by omega) (by omega) rfl OX Bc (by simp) rfl rfl (by omega) zX ?_)
                    intro v9 w9 ho9 hg9 _
                    have D9 := hid (below_push DX zX OX (Nat.le_refl _) hg9)
                    clear hg9
                    go_wp2
                    go_roundw
                    case rel =>
                      refine ⟨n + 1, o ++ [Bc], by omega, by go_num, ?_, ho9, D9.out⟩
                      rw [List.take_succ_eq_append_getElem (by rw [rowS_len]; exact hn), g0_eq, HVL.out, HOE.out]
                    case measure => simp [intOf]; omega
            · obtain rfl : m = n := by omega
              have hna : ¬ (m : Int) ≤ (a : Int) := by have := HM.out; omega
              have hoT : o = rowS l m (k + 1) := by rw [HOE.out, List.take_of_length_le (by rw [rowS_len]; exact Nat.le_refl _)]
              have hom : o.length = m := by rw [hoT, rowS_len]
              rcases ho.form with ⟨_, h0⟩ | ⟨gr, cr, rfl, hgr1, hgr2, _, _⟩
              · rw [h0] at hom; simp at hom; omega
              rw [hom] at ho
              have RW := Row.of_own ho hom.symm
              rw [hoT] at RW
              have HOM := hid hom
              have TK8 := hT.below HBx.out (Nat.le_refl _)
              have DK8 := HB.out.trans (HBx.out.mono HB.out.size)
              have hne8 : (Value.slice (some ⟨gv, 0, none⟩) rows.length cv).ownBlock ≠ some gr := fun he => by
                have := (hT.1.lt _ he).2
                omega
              have HRL8 := HRL.out
              rw [← HRL8] at RW
              have hlen8 : rows.length ≤ 6 := by omega
              have z8 := DK8.size
              clear HRL8 ho hoT hom
              rw [HOM.out]
              go_wp2_with (at_builtin; refine wpList_push (lenR m) (oneR m) rfl (.tmp 94) (.tmp 96) _ rfl Try.underlying55 rowInfo rfl (by omega) (by omega) rfl TK8.1 (gr, cr) (by simp) rfl rfl (by omega) z8 ?_)
              intro v9 w9 ho9 hg9 hat9
              have T9 := hid (TK8.push ho9 hg9 hat9 RW (rowS_len) hne8)
              have D9 := hid (below_push DK8 z8 TK8.1 (Nat.le_refl _) hg9)
              clear ho9 hg9 hat9 RW TK8 DK8
              go_wp2
              go_roundw
              case rel => exact ⟨k + 1, rows ++ [(gr, cr)], by omega, by go_num, by rw [List.length_append, HRL.out]; rfl, T9.out, D9.out⟩
              case measure => simp [intOf]; omega
        · obtain rfl : l.length = k := by omega
          have HTT := hid hT
          clear hT hb
          go_wp2
          go_ret
          exact ⟨_, rows, rfl, HRL.out, HTT.out, HB.out⟩

end Go.Proofs.Ytcjcolkhhmpmjaa
