/- Contract: the change for an amount, as the program reckons it. -/
import Derived.Test.YtcjcolkhhmpmjaaTillW
import Derived.Test.YtcjcolkhhmpmjaaTabC
import Derived.Test.YtcjcolkhhmpmjaaTab
import Derived.RegionTactic
import Derived.BigRegion
namespace Go.Proofs.Ytcjcolkhhmpmjaa
open Go.RowKit

def ChangePost (w : World) (l : List (Int × Int)) (n : Int) (e : Ending) (w' : World) : Prop :=
  ∃ v, e = .returned (.tuple #[v, .bool (okC l n)]) ∧ Own enc1 1 3 w' w.heap.size v (chgL l n) ∧ Below w.heap.size w w'
theorem okC_no1 {l : List (Int × Int)} {n : Int} (h : vTill l = false) : okC l n = false := by simp [okC, h]
theorem okC_no2 {l : List (Int × Int)} {n : Int} (h : withinB n 0 300 = false) : okC l n = false := by simp [okC, h]
theorem chgL_no {l : List (Int × Int)} {n : Int} (h : okC l n = false) : chgL l n = [] := by simp [chgL, h]

/-- The rows so far. -/
def OutRel (w : World) (l : List (Int × Int)) (m : Nat) (i v : Value) (wr : World) : Prop :=
  ∃ (k : Nat) (rows : List (Nat × Nat)), k ≤ l.length ∧ i = .int .i64 k ∧ rows.length = k + 1 ∧ Tab wr w.heap.size m v rows (rowI l m) ∧ Below w.heap.size w wr
/-- The first row, while it is filled. -/
def FirstRel (w w2 : World) (l : List (Int × Int)) (m g : Nat) (rows : List (Nat × Nat)) (v i : Value) (wr : World) : Prop :=
  ∃ n : Nat, 1 ≤ n ∧ n ≤ m ∧ i = .int .i64 n ∧ Own enc1 1 3 wr w.heap.size (.slice (some ⟨g, 0, none⟩) m m) ((rowI l m 0).take n ++ List.replicate (m - n) 0) ∧
    Own (encR m) 1 35 wr w2.heap.size v rows ∧ Below w.heap.size w wr
/-- A row, while it is filled. -/
def RowRel (wk : World) (B : Nat) (T : List Int) (m g : Nat) (i : Value) (wr : World) : Prop :=
  ∃ n : Nat, n ≤ m ∧ i = .int .i64 n ∧ Own enc1 1 3 wr B (.slice (some ⟨g, 0, none⟩) m m) (T.take n ++ List.replicate (m - n) 0) ∧ Below B wk wr
/-- One amount of a row, while numbers of coins are tried. -/
def TryRel (wk : World) (B : Nat) (T : List Int) (m g n : Nat) (x : Int × Int) (f : Int → Int) (i : Value) (wr : World) : Prop :=
  ∃ c : Nat, c ≤ tries x n ∧ i = .int .i64 c ∧ Own enc1 1 3 wr B (.slice (some ⟨g, 0, none⟩) m m) (T.take n ++ mTo x f n c :: List.replicate (m - (n + 1)) 0) ∧ Below B wk wr

/-- The coins chosen so far, the last kinds first. -/
def TraceRel (wk : World) (B : Nat) (l : List (Int × Int)) (a g : Nat) (i av bv : Value) (wr : World) : Prop :=
  ∃ (j c : Nat) (kk best : Int) (S : List Int), i = .int .i64 kk ∧ kk + 1 = j ∧ j ≤ l.length ∧ av = .int .i64 (c : Int) ∧ c ≤ a ∧ bv = .int .i64 best ∧ best = fewK l j c ∧ best < noneC ∧ S.length + j = l.length ∧
    chK l j c ++ S = chg l a ∧ Own enc1 1 3 wr B (.slice (some ⟨g, 0, none⟩) l.length l.length) (List.replicate j 0 ++ S) ∧ Below B wk wr

set_option maxHeartbeats 6400000 in
set_option maxRecDepth 100000 in
theorem changeFor_any (l : List (Int × Int)) (A : Option Addr) (cap : Nat) (am : Int) (w : World) (h : Sl enc2 2 w w.heap.size A l) (hl : l.length ≤ 1048576) :
    Calls Try.prog 24 #[.slice A l.length cap, .int .i64 am] w (ChangePost w l am) := by
  by_cases hv : vTill l = true
  · by_cases hw : withinB am 0 300 = true
    · have HV := hid (vTill_iff.1 hv)
      have HVV := hid hv
      obtain ⟨a1, a2⟩ := withinB_true.1 hw
      obtain ⟨a, rfl⟩ := Int.eq_ofNat_of_zero_le a1
      have hl5 := HV.out.2.2
      have ha3 : a ≤ 300 := by omega
      have HWW := hid hw
      clear hv hw a1 a2
      obtain ⟨m, hm⟩ : ∃ m, a + 1 = m := ⟨_, rfl⟩
      have hm301 : m ≤ 301 := by omega
      have ham : a < m := by omega
      have HM := hid hm
      have hme : ((a : Int) + 1) = (m : Int) := by omega
      have HME := hid hme
      clear hm hme
      go_enter Try.func24, Try.ntmps24
      go_wp2_with fail
      refine (validTill_any l A cap _ h (by omega)).mono ?_
      rintro e w1 ⟨rfl, b1⟩
      rw [HVV.out]
      have hme := HME.out
      go_wp2_with (first | (go_at_call 39; refine (within_yes HWW.out _).mono ?_; rintro e w' ⟨rfl, rfl⟩) | (at_make; refine wpList_makeL len1 (by omega) rfl (.tmp 28) (.tmp 28) _ rfl Try.underlying35 intInfo (by omega) (y := 0) rfl (base := w.heap.size) (n := m) rfl rfl (by omega) b1.size ?_))
      intro w2 ho2 hg2
      have D2 := b1.trans (only_below hg2 |>.mono b1.size)
      have z2 := hg2.size
      have hg1 : w.heap.size ≤ w1.heap.size := b1.size
      have hw2 : w1.heap.size < w2.heap.size := (ho2.lt _ rfl).2
      have hT0 : rowI l m 0 = 0 :: List.replicate (m - 1) noneC := by
        refine List.ext_getElem? fun i => ?_
        by_cases hi : i < m
        · rw [g0_get (by rw [rowI_len]; exact hi), rowI_at hi, fewK_zero]
          cases i with
          | zero => simp
          | succ i => rw [if_neg (by omega), List.getElem?_cons_succ, List.getElem?_replicate, if_pos (by omega)]
        · rw [List.getElem?_eq_none (by rw [rowI_len]; omega), List.getElem?_eq_none (by simp; omega)]
      have HT0 := hid hT0
      have ho3 : Own enc1 1 3 (w2.alloc (.cells #[.slice (some ⟨w1.heap.size, 0, none⟩) m m] 35)) w.heap.size (.slice (some ⟨w1.heap.size, 0, none⟩) m m) ((rowI l m 0).take 1 ++ List.replicate (m - 1) 0) := by
        have h9 : (rowI l m 0).take 1 ++ List.replicate (m - 1) 0 = List.replicate m 0 := by
          rw [hT0, show m = (m - 1) + 1 by omega, List.replicate_succ]; simp
        rw [h9]; exact ho2.alloc _
      have hr3 : Own (encR m) 1 35 (w2.alloc (.cells #[.slice (some ⟨w1.heap.size, 0, none⟩) m m] 35)) w2.heap.size (.slice (some ⟨w2.heap.size, 0, none⟩) 1 1) [(w1.heap.size, m)] :=
        Own.lit (lenR m) rfl (Nat.le_refl _) rfl (by simp) rfl
      have D3 := D2.alloc (by omega) (.cells #[.slice (some ⟨w1.heap.size, 0, none⟩) m m] 35)
      clear b1 hg2 ho2 D2 hme hT0
      go_wp2_with fail
      go_loopw [7] (fun i wr => FirstRel w w2 l m w1.heap.size [(w1.heap.size, m)] (.slice (some ⟨w2.heap.size, 0, none⟩) 1 1) i wr) (fun i _ => m - (intOf i).toNat)
      case atStart => exact ⟨1, Nat.le_refl _, by omega, rfl, ho3, hr3, D3⟩
      case round =>
        clear ho3 hr3 D3
        obtain ⟨n, n1, nm, rfl, ho, hr, hb⟩ := hrel
        have HO := hid ho
        have HR := hid hr
        have HB := hid hb
        have ef := ho.frozen (by rw [List.length_append, List.length_take, rowI_len, List.length_replicate]; omega)
        have r0 := hr.cell (lenR m) rfl (i := 0) (a := (w1.heap.size, m)) rfl (j := 0) rfl
        simp only [Nat.zero_mul, Nat.zero_add] at r0
        clear ho hr hb
        by_cases hlt : n < m
        · have hna : (n : Int) ≤ (a : Int) := by have := HM.out; omega
          have hnm : (n : Int) < (m : Int) := by omega
          have e0 := HO.out.cell len1 (by rw [List.length_append, List.length_take, rowI_len, List.length_replicate]; omega) (fill_get rowI_len hlt) (j := 0) rfl
          simp only [Nat.mul_one, Nat.add_zero] at e0
          have o5 := HO.out.store len1 (by rw [List.length_append, List.length_take, rowI_len, List.length_replicate]; omega) (fill_get rowI_len hlt) (j := 0) (a' := noneC) (by omega) (u := .int .i64 1073741824) rfl
          rw [fill_set rowI_len hlt, mid_done (by rw [rowI_len]; exact hlt) (by rw [rowI_at hlt, fewK_zero, if_neg (by omega)])] at o5
          simp only [Nat.mul_one, Nat.add_zero] at o5
          have O5 := hid o5
          have R5 := hid (HR.out.far (p := ⟨w1.heap.size, n, none⟩) (HR.out.off' hw2) (.int .i64 1073741824))
          have D5 := hid (HB.out.setCell (p := ⟨w1.heap.size, n, none⟩) hg1 (.int .i64 1073741824))
          clear o5
          go_wp2
          go_roundw
          case rel => exact ⟨n + 1, by omega, by omega, by go_num, O5.out, R5.out, D5.out⟩
          case measure => simp [intOf]; omega
        · obtain rfl : m = n := by omega
          have hna : ¬ (m : Int) ≤ (a : Int) := by have := HM.out; omega
          have TT : Tab wr w.heap.size m (.slice (some ⟨w2.heap.size, 0, none⟩) 1 1) [(w1.heap.size, m)] (rowI l m) := by
            refine ⟨HR.out.less (by omega), fun j hj => ?_⟩
            have hj0 : j = 0 := by simpa using hj
            subst hj0
            have ho := HO.out
            rw [Nat.sub_self, List.replicate_zero, List.append_nil, List.take_of_length_le (by rw [rowI_len]; exact Nat.le_refl _)] at ho
            exact ⟨Row.of_own ho rowI_len.symm, rowI_len, HR.out.off' hw2⟩
          have HT := hid TT
          clear TT HO HR r0 ef
          go_wp2_with fail
          go_loopw [43, 6] (fun i v wr => OutRel w l m i v wr) (fun i _ _ => l.length - (intOf i).toNat)
          case atStart => exact ⟨0, _, Nat.zero_le _, rfl, rfl, HT.out, HB.out⟩
          case round =>
            clear HT HB
            obtain ⟨k, rows, hk, rfl, hrl, hT, hb⟩ := hrel
            have HRL := hid hrl
            have hsz := hb.size
            have HB := hid hb
            clear hrl
            by_cases hlt : k < l.length
            · obtain ⟨b, off, rfl, hbb, x1, x2⟩ := h.get2 hlt
              have hbd := HV.out.bd hlt
              obtain ⟨X, hX⟩ : ∃ x, g1 l k = x := ⟨_, rfl⟩
              obtain ⟨Y, hY⟩ : ∃ x, g2 l k = x := ⟨_, rfl⟩
              have hFS := fun n : Int => fewK_succ (n := n) hlt
              rw [hX] at x1 hbd
              rw [hY] at x2 hbd
              simp only [hX, hY] at hFS
              have HFS := hid hFS
              have d1 : wr.cell? ⟨b, off + k * 2, none⟩ = some (.int .i64 X) := (hb.cell hbb).trans x1
              have d2 : wr.cell? ⟨b, off + k * 2 + 1, none⟩ = some (.int .i64 Y) := (hb.cell hbb).trans x2
              have hbw : b < wr.heap.size := by omega
              obtain ⟨⟨hX1, hX2⟩, hY1, hY2⟩ := hbd
              obtain ⟨gv, cv, rfl, hgv1, hgv2⟩ := hT.form (by have := HRL.out; omega)
              have KC := Blk.new wr 40 #[.int .i64 X, .int .i64 Y]
              have TK := hT.alloc (.cells #[.int .i64 X, .int .i64 Y] 40)
              have DK := hb.alloc hsz (.cells #[.int .i64 X, .int .i64 Y] 40)
              have hme := HME.out
              clear x1 x2 hX hY hFS hT hb
              go_wp2_with (at_make; refine wpList_makeL len1 (by omega) rfl (.tmp 49) (.tmp 49) _ rfl Try.underlying35 intInfo (by omega) (y := 0) rfl (base := wr.heap.size + 1) (n := m) rfl rfl (by omega) (by simp) ?_)
              intro w5 ho5 hg5
              have B5 := only_below hg5
              simp only [World.size_alloc] at ho5 B5
              have hks : (wr.alloc (.cells #[.int .i64 X, .int .i64 Y] 40)).heap.size = wr.heap.size + 1 := by simp
              generalize wr.alloc (.cells #[.int .i64 X, .int .i64 Y] 40) = wk at *
              generalize wr.heap.size = gc at *
              have HKS := hid hks
              have hz5 : gc + 1 ≤ w5.heap.size := by have := B5.size; omega
              have HX2 := hid (show (X, Y).2 ≤ 20 by dsimp only; omega)
              clear hme hg5 hks
              go_wp2_with fail
              go_loopw [53] (fun i wx => RowRel wk (gc + 1) (rowI l m (k + 1)) m (gc + 1) i wx) (fun i _ => m - (intOf i).toNat)
              case atStart => exact ⟨0, Nat.zero_le _, rfl, by simpa using ho5, B5⟩
              case round =>
                clear ho5 B5 hz5
                obtain ⟨n, hnm, rfl, ho, hb⟩ := hrel
                have HO := hid ho
                have HBx := hid hb
                have hzx := hb.size
                have efx := ho.frozen (by rw [List.length_append, List.length_take, rowI_len, List.length_replicate]; omega)
                have hgx : gc + 1 < wr.heap.size := (ho.lt _ rfl).2
                clear ho hb
                by_cases hn : n < m
                · have hnm' : (n : Int) < (m : Int) := by omega
                  have e0 := HO.out.cell len1 (by rw [List.length_append, List.length_take, rowI_len, List.length_replicate]; omega) (fill_get rowI_len hn) (j := 0) rfl
                  simp only [Nat.mul_one, Nat.add_zero] at e0
                  have o6 := HO.out.store len1 (by rw [List.length_append, List.length_take, rowI_len, List.length_replicate]; omega) (fill_get rowI_len hn) (j := 0) (a' := noneC) (by omega) (u := .int .i64 1073741824) rfl
                  rw [fill_set rowI_len hn] at o6
                  simp only [Nat.mul_one, Nat.add_zero] at o6
                  have O6 := hid o6
                  have D6 := hid (HBx.out.setCell (p := ⟨gc + 1, n, none⟩) (Nat.le_refl _) (.int .i64 1073741824))
                  clear o6
                  go_wp2_with fail
                  go_loopw [12] (fun i wy => TryRel wk (gc + 1) (rowI l m (k + 1)) m (gc + 1) n (X, Y) (fewK l k) i wy) (fun i _ => tries (X, Y) n - (intOf i).toNat)
                  case atStart => exact ⟨0, Nat.zero_le _, rfl, O6.out, D6.out⟩
                  case round =>
                    clear O6 D6 HO HBx e0 efx
                    obtain ⟨c, hct, rfl, ho, hb⟩ := hrel
                    have htl : tries (X, Y) n ≤ 21 := tries_le HX2.out
                    have hzy := hb.size
                    have hly : m = ((rowI l m (k + 1)).take n ++ mTo (X, Y) (fewK l k) n c :: List.replicate (m - (n + 1)) 0).length := by
                      rw [List.length_append, List.length_take, rowI_len, List.length_cons, List.length_replicate]; omega
                    have HLY := hid hly
                    clear hly
                    have efy := ho.frozen HLY.out
                    have hgy : gc + 1 < wr.heap.size := (ho.lt _ rfl).2
                    obtain ⟨kc0, kc1, _⟩ := (KC.below hb (Nat.lt_succ_self _)).two
                    have hp1 : 0 ≤ (c : Int) * X := Int.mul_nonneg (by omega) (by omega)
                    have hp2 : (c : Int) * X ≤ 10500 := by
                      have : (c : Int) * X ≤ 21 * 500 := Int.mul_le_mul (by omega) (by omega) (by omega) (by omega)
                      omega
                    by_cases hc : (c : Int) ≤ Y ∧ (c : Int) * X ≤ (n : Int)
                    · obtain ⟨hc1, hc2⟩ := hc
                      have hclt := (tries_iff (x := (X, Y)) (n := (n : Int)) ⟨hX1, hY1⟩ (by omega)).2 ⟨hc1, hc2⟩
                      obtain ⟨j, hj⟩ : ∃ j : Nat, (n : Int) - (c : Int) * X = j := ⟨((n : Int) - (c : Int) * X).toNat, by omega⟩
                      have hjm : j < m := by omega
                      have hTb := TK.below hb (by have := HKS.out; omega)
                      obtain ⟨r1, r2, r3, r4⟩ := hTb.read (j := k) rfl (by have := HRL.out; omega)
                      have r5 := r2 j hjm
                      rw [rowI_at hjm] at r5
                      obtain ⟨F, hF⟩ : ∃ x, fewK l k (j : Int) = x := ⟨_, rfl⟩
                      have hF0 := @fewK_nonneg l k (j : Int)
                      have hF1 := @fewK_none l k (j : Int)
                      rw [hF] at r5 hF0 hF1
                      have hms := @mTo_succ (X, Y) (fewK l k) (n : Int) c
                      dsimp only at hms
                      rw [hj, hF] at hms
                      have hM0 := mTo_nonneg (x := (X, Y)) (n := (n : Int)) (f := fewK l k) (fun z => few_nonneg _ z) c
                      have hM1 := mTo_none (x := (X, Y)) (n := (n : Int)) (f := fewK l k) c
                      have e1 := ho.cell len1 HLY.out (mid_get (by rw [rowI_len]; omega)) (j := 0) rfl
                      simp only [Nat.mul_one, Nat.add_zero] at e1
                      have o7 := ho.store len1 HLY.out (mid_get (by rw [rowI_len]; omega)) (j := 0) (a' := mTo (X, Y) (fewK l k) n (c + 1)) (by omega) (u := .int .i64 (mTo (X, Y) (fewK l k) n (c + 1))) rfl
                      rw [mid_set (by rw [rowI_len]; omega)] at o7
                      simp only [Nat.mul_one, Nat.add_zero] at o7
                      obtain ⟨M, hM⟩ : ∃ x, mTo (X, Y) (fewK l k) n c = x := ⟨_, rfl⟩
                      obtain ⟨M', hM'⟩ : ∃ x, mTo (X, Y) (fewK l k) n (c + 1) = x := ⟨_, rfl⟩
                      rw [hM] at hM0 hM1 hms e1
                      rw [hM'] at hms
                      unfold noneC at hF1 hM1
                      rw [hM'] at o7
                      have D7 := hid (hb.setCell (p := ⟨gc + 1, n, none⟩) (Nat.le_refl _) (.int .i64 M'))
                      have O7 := hid o7
                      have HM' := hid hM'
                      have gn0 : rowG rows k < gc + 1 := by
                        have := (TK.2 k (by have := HRL.out; omega)).1.1
                        have := HKS.out
                        omega
                      obtain ⟨G, hG⟩ : ∃ x, rowG rows k = x := ⟨_, rfl⟩
                      rw [hG] at r1 r3 r5 gn0
                      obtain ⟨P, hP⟩ : ∃ x, (c : Int) * X = x := ⟨_, rfl⟩
                      rw [hP] at hj hc2 hp1 hp2
                      have gn1 : gc + 1 ≠ gv := by omega
                      have gn2 : gc + 1 ≠ G := by omega
                      have w1' : IntKind.i64.wrap P = P := IntWalk.i64_in _ (by omega)
                      have w2' : IntKind.i64.wrap ((n : Int) - P) = (j : Int) := by rw [IntWalk.i64_in _ (by omega)]; exact hj
                      have w3' : IntKind.i64.wrap ((c : Int) + F) = (c : Int) + F := IntWalk.i64_in _ (by omega)
                      have hwp : IntKind.i64.wrap ((c : Int) * X) = P := by rw [hP]; exact w1'
                      have hkr : (k : Int) < (rows.length : Int) := by have := HRL.out; omega
                      have hjm' : (j : Int) < (m : Int) := by omega
                      have hP2 : (c : Int) * X = P := hP
                      clear ho hb o7 hM hM' hF hG r2 hP hTb hct w1'
                      by_cases hmin : M ≤ (c : Int) + F
                      · obtain rfl : M' = M := by omega
                        clear hms
                        go_wp2_with fail
                        go_region
                        go_wp2
                        go_roundw
                        case rel =>
                          refine ⟨c + 1, by omega, by go_num, ?_, D7.out.drew⟩
                          rw [HM'.out]
                          exact O7.out.drew
                        case measure => simp [intOf]; omega
                      · obtain rfl : M' = (c : Int) + F := by omega
                        clear hms
                        go_wp2_with fail
                        go_region
                        go_wp2
                        go_roundw
                        case rel =>
                          refine ⟨c + 1, by omega, by go_num, ?_, D7.out.drew⟩
                          rw [HM'.out]
                          exact O7.out.drew
                        case measure => simp [intOf]; omega
                    · have hcd : c = tries (X, Y) n := by
                        have := (tries_iff (x := (X, Y)) (n := (n : Int)) (c := c) ⟨hX1, hY1⟩ (by omega))
                        dsimp only at this
                        omega
                      have hdone : (rowI l m (k + 1)).take n ++ mTo (X, Y) (fewK l k) n c :: List.replicate (m - (n + 1)) 0 = (rowI l m (k + 1)).take (n + 1) ++ List.replicate (m - (n + 1)) 0 :=
                        mid_done (by rw [rowI_len]; exact hn) (by rw [rowI_at hn, HFS.out, hcd])
                      rw [hdone] at ho
                      have O8 := hid ho
                      have D8 := hid hb
                      have hcase : ¬ (c : Int) ≤ Y ∨ ((c : Int) ≤ Y ∧ ¬ (c : Int) * X ≤ (n : Int)) := by omega
                      clear hc hdone ho hb hcd
                      rcases hcase with hc1 | ⟨hc1, hc2⟩
                      all_goals
                        go_wp2
                        go_roundw
                        case rel => exact ⟨n + 1, by omega, by go_num, O8.out, D8.out⟩
                        case measure => simp [intOf]; omega
                · obtain rfl : m = n := by omega
                  have ho := HO.out
                  rw [Nat.sub_self, List.replicate_zero, List.append_nil, List.take_of_length_le (by rw [rowI_len]; exact Nat.le_refl _)] at ho
                  have RW := Row.of_own ho rowI_len.symm
                  have TK8 := TK.below HBx.out (by have := HKS.out; omega)
                  have DK8 := DK.trans (HBx.out.mono (by have := DK.size; have := HKS.out; omega))
                  have hne8 : (Value.slice (some ⟨gv, 0, none⟩) rows.length cv).ownBlock ≠ some (gc + 1) := fun he => by
                    have := (TK.1.lt _ he).2
                    have := HKS.out
                    omega
                  have HRL8 := HRL.out
                  rw [← HRL8] at RW
                  have hlen8 : rows.length ≤ 6 := by omega
                  have z8 := DK8.size
                  clear HRL8 ho HO efx KC
                  go_wp2_with (at_builtin; refine wpList_push (lenR m) (oneR m) rfl (.tmp 96) (.tmp 98) _ rfl Try.underlying55 rowInfo rfl (by omega) (by omega) rfl TK8.1 (gc + 1, m) (by simp) rfl rfl (by omega) z8 ?_)
                  intro v9 w9 ho9 hg9 hat9
                  have T9 := hid (TK8.push ho9 hg9 hat9 RW (rowI_len) hne8)
                  have D9 := hid (below_push DK8 z8 TK8.1 (Nat.le_refl _) hg9)
                  clear ho9 hg9 hat9 RW TK8 DK8
                  go_wp2
                  go_roundw
                  case rel => exact ⟨k + 1, rows ++ [(gc + 1, m)], by omega, by go_num, by rw [List.length_append, HRL.out]; rfl, T9.out, D9.out⟩
                  case measure => simp [intOf]; omega
            · obtain rfl : l.length = k := by omega
              obtain ⟨gv, cv, rfl, hgv1, hgv2⟩ := hT.form (by have := HRL.out; omega)
              obtain ⟨r1, r2, r3, r4⟩ := hT.read (j := l.length) rfl (by have := HRL.out; omega)
              have r5 := r2 a ham
              rw [rowI_at ham, fewK_all] at r5
              have hkr : (l.length : Int) < (rows.length : Int) := by have := HRL.out; omega
              obtain ⟨G, hG⟩ : ∃ x, rowG rows l.length = x := ⟨_, rfl⟩
              rw [hG] at r1 r3 r5
              obtain ⟨Q, hQ⟩ : ∃ x, few l.reverse (a : Int) = x := ⟨_, rfl⟩
              have hQ0 := few_nonneg l.reverse (a : Int)
              rw [hQ] at r5 hQ0
              have HQ := hid hQ
              clear r2 hG hQ
              by_cases hQn : Q < 1073741824
              · have HK := hid (show okC l (a : Int) = true from okC_true.2 ⟨HV.out, withinB_true.1 HWW.out, by rw [HQ.out]; exact hQn⟩)
                have HCL := hid (show chgL l (a : Int) = chg l (a : Int) by rw [chgL, HK.out, if_pos rfl])
                go_wp2_with (at_make; refine wpList_makeL len1 (by omega) rfl (.tmp 113) (.tmp 113) _ rfl Try.underlying35 intInfo (by omega) (y := 0) rfl (base := wr.heap.size) (n := l.length) rfl rfl (by omega) (Nat.le_refl _) ?_)
                intro w5 ho5 hg5
                have B5 := only_below hg5
                have hTT := hT
                have HBK := hid HB.out
                generalize hgo : wr.heap.size = go at *
                have HGO := hid hgo
                have hgoge : w.heap.size ≤ go := hsz
                have hbest0 : Q = fewK l l.length (a : Int) := by rw [fewK_all, HQ.out]
                clear hgo hg5 r1 r5 hT HB
                go_wp2_with fail
                go_loopw [15, 1, 13] (fun i av bv wr' => TraceRel wr go l a go i av bv wr') (fun i _ _ _ => (intOf i + 1).toNat)
                case atStart => exact ⟨l.length, a, _, Q, [], rfl, by omega, Nat.le_refl _, rfl, Nat.le_refl _, rfl, hbest0, hQn, by simp, by rw [chK_all]; simp, by simpa using ho5, B5⟩
                case round =>
                  clear ho5 B5 hbest0
                  obtain ⟨j, c, kk, best, S, rfl, hkk, hj, rfl, hca, rfl, hbest, hbn, hSl, hch, ho, hb⟩ := hrel
                  have hlS : l.length = (List.replicate j 0 ++ S).length := by rw [List.length_append, List.length_replicate]; omega
                  have HLS := hid hlS
                  have HSL := hid hSl
                  have HCH := hid hch
                  have HBE := hid hbest
                  have hzr := hb.size
                  have hgr := (ho.lt go rfl).2
                  clear hlS hSl hch hbest
                  by_cases hj0 : j = 0
                  · subst hj0
                    obtain rfl : kk = -1 := by omega
                    have HS := hid (show List.replicate 0 0 ++ S = chg l (a : Int) by rw [← HCH.out, chK_zero]; rfl)
                    have O9 := hid (ho.less hgoge)
                    have D9 := hid (HBK.out.trans (hb.mono hgoge))
                    clear ho hb hkk
                    go_wp2
                    go_ret2
                    refine ⟨.slice (some ⟨go, 0, none⟩) l.length l.length, by rw [HK.out]; rfl, ?_, D9.out⟩
                    rw [HCL.out, ← HS.out]
                    exact O9.out
                  · obtain ⟨j', rfl⟩ : ∃ j', j = j' + 1 := ⟨j - 1, by omega⟩
                    obtain rfl : kk = (j' : Int) := by omega
                    have hjl : j' < l.length := by omega
                    have hjl' : (j' : Int) < (l.length : Int) := by omega
                    obtain ⟨p1, p2, p3⟩ := pickK_fit (n := (c : Int)) HV.out hjl (by omega) (by rw [← HBE.out]; exact hbn)
                    have pmx := fun t (h1 : pickK l j' (c : Int) < t) h2 => pickK_max (l := l) (k := j') (n := (c : Int)) (t := t) h1 h2
                    have hcs := chK_succ (n := (c : Int)) hjl
                    rw [← HBE.out] at p3
                    simp only [← HBE.out] at pmx
                    obtain ⟨pk, hpk⟩ : ∃ x, pickK l j' (c : Int) = x := ⟨_, rfl⟩
                    rw [hpk] at p1 p2 p3 hcs
                    simp only [hpk] at pmx
                    have DW := HBK.out.trans (hb.mono hgoge)
                    obtain ⟨b, off, rfl, hbb, x1, x2⟩ := h.get2 hjl
                    have hbd := HV.out.bd hjl
                    obtain ⟨X, hX⟩ : ∃ x, g1 l j' = x := ⟨_, rfl⟩
                    obtain ⟨Y, hY⟩ : ∃ x, g2 l j' = x := ⟨_, rfl⟩
                    rw [hX] at x1 hbd p2 p3 hcs
                    rw [hY] at x2 hbd p1
                    simp only [hX, hY] at pmx
                    obtain ⟨⟨hX1, hX2⟩, hY1, hY2⟩ := hbd
                    obtain ⟨y, rfl⟩ := Int.eq_ofNat_of_zero_le hY1
                    have d1 : wr.cell? ⟨b, off + j' * 2, none⟩ = some (.int .i64 X) := (DW.cell hbb).trans x1
                    have d2 : wr.cell? ⟨b, off + j' * 2 + 1, none⟩ = some (.int .i64 (y : Int)) := (DW.cell hbb).trans x2
                    have OQ0 := ho.alloc (.cells #[.int .i64 X, .int .i64 (y : Int)] 40)
                    have BQ0 := hb.alloc (by have := hb.size; have := HGO.out; omega) (.cells #[.int .i64 X, .int .i64 (y : Int)] 40)
                    have KQ0 := Blk.new wr 40 #[.int .i64 X, .int .i64 (y : Int)]
                    have HP3 := hid p3
                    have HPM := hid pmx
                    have HCS := hid hcs
                    have hbw : b < wr.heap.size := by have := DW.size; omega
                    clear x1 x2 hX hY p3 pmx hcs hpk hb ho
                    go_wp2_with fail
                    generalize wr.alloc (.cells #[.int .i64 X, .int .i64 (y : Int)] 40) = wq at *
                    generalize wr.heap.size = gq at *
                    go_loopw [17, 1, 13] (fun i av bv wz => ∃ t : Nat, i = .int .i64 t ∧ av = .int .i64 (c : Int) ∧ bv = .int .i64 best ∧ pk ≤ t ∧ t ≤ y ∧ Below wq.heap.size wq wz) (fun i _ _ _ => (intOf i).toNat)
                    case atStart => exact ⟨y, rfl, rfl, rfl, by omega, Nat.le_refl _, Below.refl _ _⟩
                    case round =>
                      obtain ⟨t, rfl, rfl, rfl, ht1, ht2, hbz⟩ := hrel
                      have TZ := (hTT.below BQ0 (by have := HGO.out; omega)).below hbz (Nat.le_refl _)
                      have OZ := OQ0.below hbz (Nat.le_refl _)
                      obtain ⟨kc0, kc1, _⟩ := (KQ0.below hbz (by have := KQ0.lt; omega)).two
                      have DZ := BQ0.trans (hbz.mono (by have := BQ0.size; have := HGO.out; omega))
                      have hgz := (OZ.lt go rfl).2
                      have hgqz : gq < wr.heap.size := by have := KQ0.lt; have := hbz.size; omega
                      have hq1 : 0 ≤ (t : Int) * X := Int.mul_nonneg (by omega) (by omega)
                      have hq2 : (t : Int) * X ≤ 10000 := by
                        have : (t : Int) * X ≤ 20 * 500 := Int.mul_le_mul (by omega) (by omega) (by omega) (by omega)
                        omega
                      obtain ⟨P, hP⟩ : ∃ x, (t : Int) * X = x := ⟨_, rfl⟩
                      rw [hP] at hq1 hq2
                      have w1' : IntKind.i64.wrap ((t : Int) * X) = P := by rw [IntWalk.i64_in _ (by omega)]; exact hP
                      by_cases hcx : P ≤ (c : Int)
                      · obtain ⟨i, hi⟩ : ∃ i : Nat, (c : Int) - P = i := ⟨((c : Int) - P).toNat, by omega⟩
                        have him : i < m := by have := HM.out; omega
                        have him' : (i : Int) < (m : Int) := by omega
                        obtain ⟨r1, r2, r3, r4⟩ := TZ.read (j := j') rfl (by have := HRL.out; omega)
                        have r5 := r2 i him
                        rw [rowI_at him] at r5
                        obtain ⟨F, hF⟩ : ∃ x, fewK l j' (i : Int) = x := ⟨_, rfl⟩
                        have hF0 := @fewK_nonneg l j' (i : Int)
                        have hF1 := @fewK_none l j' (i : Int)
                        rw [hF] at r5 hF0 hF1
                        unfold noneC at hF1
                        obtain ⟨G, hG⟩ : ∃ x, rowG rows j' = x := ⟨_, rfl⟩
                        rw [hG] at r1 r3 r5
                        have hjr : (j' : Int) < (rows.length : Int) := by have := HRL.out; omega
                        have w2' : IntKind.i64.wrap ((c : Int) - P) = (i : Int) := by rw [IntWalk.i64_in _ (by omega)]; exact hi
                        have w3' : IntKind.i64.wrap ((t : Int) + F) = (t : Int) + F := IntWalk.i64_in _ (by omega)
                        have HF := hid hF
                        have HI := hid hi
                        have HPX := hid hP
                        clear r2 hF hG hi hP
                        by_cases htp : t = pk
                        · subst htp
                          have hTF : (t : Int) + F = best := by
                            have := HP3.out
                            rw [HPX.out, HI.out, HF.out] at this
                            exact this
                          have e1 : ((t : Int) + F == best) = true := by rw [hTF]; simp
                          have HTF := hid hTF
                          clear hTF
                          go_wp2_with fail
                          go_quiet (fail)
                          clear w2' w3'
                          have e9 := (OZ.drewN nq).cell len1 HLS.out rep_get (j := 0) rfl
                          have f9 := (OZ.drewN nq).frozen HLS.out
                          have o9 := (OZ.drewN nq).store len1 HLS.out rep_get (j := 0) (a' := (t : Int)) (by omega) (u := .int .i64 (t : Int)) rfl
                          rw [rep_set] at o9
                          simp only [Nat.mul_one, Nat.add_zero] at e9 o9
                          have O9 := hid o9
                          have D9 := hid ((below_drewN DZ nq).setCell (p := ⟨go, j', none⟩) (Nat.le_refl _) (.int .i64 (t : Int)))
                          clear o9
                          have hct : chK l j' (i : Int) ++ (t : Int) :: S = chg l (a : Int) := by
                            rw [← HCH.out, HCS.out, HPX.out, HI.out, List.append_assoc]; rfl
                          have HCT := hid hct
                          have hbt : best - (t : Int) = fewK l j' (i : Int) := by have := HTF.out; rw [HF.out]; omega
                          have HBT := hid hbt
                          have hbt2 : best - (t : Int) < noneC := by omega
                          have hSl2 : ((t : Int) :: S).length + j' = l.length := by have := HSL.out; rw [List.length_cons]; omega
                          have hbb0 : 0 ≤ best := by rw [HBE.out]; exact fewK_nonneg
                          have hbb1 : best < 1073741824 := hbn
                          clear hct hbt OZ hbz
                          go_wp2
                          go_roundw
                          case rel => exact ⟨j', i, (j' : Int) - 1, best - (t : Int), (t : Int) :: S, rfl, by omega, by omega, by have := HI.out; congr 1, by have := HI.out; omega, rfl, HBT.out, hbt2, hSl2, HCT.out, O9.out, D9.out⟩
                          case measure => simp [intOf] <;> omega
                        · have hmx := HPM.out t (by omega) (by omega)
                          rw [HPX.out] at hmx
                          have hmx2 := hmx hcx
                          rw [HI.out, HF.out] at hmx2
                          have e1 : ((t : Int) + F == best) = false := by simpa using hmx2
                          clear hmx hmx2
                          go_wp2_with fail
                          go_quiet (fail)
                          clear w2' w3'
                          go_wp2
                          go_roundw
                          case rel => exact ⟨t - 1, by congr 1; omega, rfl, rfl, by omega, by omega, below_drewN hbz nq⟩
                          case measure => simp [intOf]; omega
                      · have HPX := hid hP
                        have htp : t ≠ pk := by
                          intro he
                          subst he
                          have := HPX.out
                          omega
                        have hcx' : decide (P ≤ (c : Int)) = false := decide_eq_false hcx
                        clear hP
                        go_wp2_with fail
                        go_quiet (fail)
                        go_wp2
                        go_roundw
                        case rel => exact ⟨t - 1, by congr 1; omega, rfl, rfl, by omega, by omega, below_drewN hbz nq⟩
                        case measure => simp [intOf]; omega
              · have HK := hid (show okC l (a : Int) = false by
                  cases hk : okC l (a : Int)
                  · rfl
                  · have := (okC_true.1 hk).2.2
                    rw [HQ.out] at this
                    exact absurd this hQn)
                go_wp2
                go_ret2
                refine ⟨.slice (some ⟨wr.heap.size, 0, none⟩) 0 0, by rw [HK.out]; rfl, ?_, HB.out.alloc hsz _⟩
                rw [chgL_no HK.out]
                exact Own.lit0 enc1 1 _ wr w.heap.size rfl hsz
    · have hw' : withinB am 0 300 = false := by simpa using hw
      have HVV := hid hv
      have HK := hid (okC_no2 (l := l) hw')
      have hl5 := (vTill_iff.1 hv).2.2
      clear hv hw
      go_enter Try.func24, Try.ntmps24
      go_wp2_with fail
      refine (validTill_any l A cap _ h (by omega)).mono ?_
      rintro e w1 ⟨rfl, b1⟩
      rw [HVV.out]
      have B1 := hid b1
      clear b1
      go_wp2_with (go_at_call 39; refine (within_no hw' _).mono ?_; rintro e w' ⟨rfl, rfl⟩)
      go_ret2
      refine ⟨.slice (some ⟨w1.heap.size, 0, none⟩) 0 0, by rw [HK.out]; rfl, ?_, B1.out.alloc B1.out.size _⟩
      rw [chgL_no HK.out]
      exact Own.lit0 enc1 1 _ w1 w.heap.size rfl B1.out.size
  · have hv' : vTill l = false := by simpa using hv
    have HVV := hid hv'
    have HK := hid (okC_no1 (n := am) hv')
    clear hv hv'
    go_enter Try.func24, Try.ntmps24
    go_wp2_with fail
    refine (validTill_any l A cap _ h (by omega)).mono ?_
    rintro e w1 ⟨rfl, b1⟩
    rw [HVV.out]
    have B1 := hid b1
    clear b1
    go_wp2
    go_ret2
    refine ⟨.slice (some ⟨w1.heap.size, 0, none⟩) 0 0, by rw [HK.out]; rfl, ?_, B1.out.alloc B1.out.size _⟩
    rw [chgL_no HK.out]
    exact Own.lit0 enc1 1 _ w1 w.heap.size rfl B1.out.size

end Go.Proofs.Ytcjcolkhhmpmjaa
