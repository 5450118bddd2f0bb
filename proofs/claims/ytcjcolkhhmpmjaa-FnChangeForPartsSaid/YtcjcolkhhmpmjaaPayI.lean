/- Contract: coins paid out, as the program does it. -/
import Derived.Test.YtcjcolkhhmpmjaaChangeI
import Derived.Test.YtcjcolkhhmpmjaaAppAny
import Derived.RegionTactic
import Derived.BigRegion
namespace Go.Proofs.Ytcjcolkhhmpmjaa
open Go.RowKit

theorem coinInfo : (Try.prog.info? 40).map (fun i => (i.zero, i.size, i.bytes)) = some (some (.agg #[.int .i64 0, .int .i64 0]), 2, 16) := by kernel_rfl
def PayPost (w : World) (l : List (Int × Int)) (n : Int) (e : Ending) (w' : World) : Prop :=
  ∃ v, e = .returned (.tuple #[v, .bool (okC l n)]) ∧ Own enc2 2 40 w' w.heap.size v (payI l n) ∧ Below w.heap.size w w'
def PayRel (w1 : World) (l : List (Int × Int)) (cs : List Int) (v i : Value) (wr : World) : Prop :=
  ∃ (k : Nat) (o : List (Int × Int)), k ≤ l.length ∧ i = .int .i64 k ∧ o.length = l.length ∧ (∀ j, j < l.length → g1 o j = g1 l j ∧ g2 o j = if j < k then g2 l j - g0 cs j else g2 l j) ∧
    Own enc2 2 40 wr w1.heap.size v o ∧ Below w1.heap.size w1 wr
theorem payI_no {l : List (Int × Int)} {n : Int} (h : okC l n = false) : payI l n = [] := by simp [payI, h]
theorem payI_len {l : List (Int × Int)} {n : Int} : (payI l n).length ≤ 1048576 := by
  unfold payI
  split
  · rename_i h
    have := (okC_true.1 h).1.2.2
    rw [payL_len]; omega
  · simp
theorem chgL_len {l : List (Int × Int)} {n : Int} : (chgL l n).length ≤ 1048576 := by
  unfold chgL
  split
  · rename_i h
    have := (okC_true.1 h).1.2.2
    rw [chg_len]; omega
  · simp

set_option maxHeartbeats 3200000 in
set_option maxRecDepth 100000 in
theorem payOut_any (l : List (Int × Int)) (A : Option Addr) (cap : Nat) (am : Int) (w : World) (h : Sl enc2 2 w w.heap.size A l) (hl : l.length ≤ 1048576) :
    Calls Try.prog 33 #[.slice A l.length cap, .int .i64 am] w (PayPost w l am) := by
  by_cases hok : okC l am = true
  · have HK := hid hok
    have hC := chg_sel hok
    have HC := hid hC.1
    have HCL := hid (show chgL l am = chg l am by rw [chgL, hok, if_pos rfl])
    have HPI := hid (show payI l am = payL l (chg l am) by rw [payI, hok, if_pos rfl])
    have hST := (okC_true.1 hok).1
    have HST := hid hST
    have hl5 := hST.2.2
    clear hok hC hST
    obtain ⟨cs, hcs⟩ : ∃ x, chg l am = x := ⟨_, rfl⟩
    have hcl : cs.length = l.length := by rw [← hcs]; exact chg_len
    have HCS := hid hcs
    have HCN := hid hcl
    clear hcs hcl
    go_enter Try.func33, Try.ntmps33
    go_wp2_with fail
    refine (changeFor_any l A cap am _ h hl).mono ?_
    rintro e w1 ⟨v1, rfl, o1, b1⟩
    rw [HK.out]
    rw [HCL.out, HCS.out] at o1
    obtain ⟨A1, c1, rfl, _, q1⟩ := o1.reads len1
    have z1 := b1.size
    have h1 := (h.below b1 (Nat.le_refl _)).more z1
    have O2 := Own.lit0 enc2 2 40 w1 w1.heap.size rfl (Nat.le_refl _)
    have D2 := (Below.refl w1.heap.size w1).alloc (Nat.le_refl _) (.cells #[] 40)
    have HB1 := hid b1
    clear b1 o1
    go_wp2_with (at_builtin; refine wpList_pushAny len2 one2 rfl (.tmp 20) (.tmp 21) _ rfl Try.underlying25 coinInfo rfl (by omega) (by omega) rfl O2 (m := l) rfl rfl (h1.alloc (Nat.le_refl _) _) (by simp; omega) (by simp) ?_)
    intro v3 w3 ho3 hg3
    have D3 := below_row D2 O2 (Nat.le_refl _) (by simp) hg3
    obtain ⟨A3, c3, rfl, _, _⟩ := ho3.reads len2
    clear D2 O2 hg3 h1
    go_wp2_with fail
    go_loopw [25] (fun i wr => PayRel w1 l cs (.slice A3 l.length c3) i wr) (fun i _ => l.length - (intOf i).toNat)
    case atStart => exact ⟨0, l, Nat.zero_le _, rfl, rfl, fun j _ => ⟨rfl, by simp⟩, ho3, D3⟩
    case round =>
      clear ho3 D3
      obtain ⟨k, o, hk, rfl, hol, hat, ho, hb⟩ := hrel
      have HOL := hid hol
      have HAT := hid hat
      have HBZ := hid hb
      clear hol hat
      have hcn : (cs.length : Int) = (l.length : Int) := by have := HCN.out; omega
      by_cases hlt : k < l.length
      · rcases ho.form with ⟨_, h0⟩ | ⟨g, cap', hv, hg1, hg2, _, _⟩
        · exfalso; have := HOL.out; rw [h0] at this; simp at this; omega
        injection hv with hA3 hlen3 hc3
        clear hlen3
        subst hA3
        subst hc3
        obtain ⟨b, off, rfl, hbb, x1⟩ := q1.get1 (k := k) (by have := HCN.out; omega)
        have hbd := HST.out.bd hlt
        have hsl := HC.out
        rw [HCS.out] at hsl
        have hsa := hsl.at_ hlt
        have hak := HAT.out k hlt
        rw [if_neg (Nat.lt_irrefl k)] at hak
        have hgk : o[k]? = some (g1 l k, g2 l k) := by rw [g12_get (by have := HOL.out; omega), hak.1, hak.2]
        obtain ⟨x, hx⟩ : ∃ x, g1 l k = x := ⟨_, rfl⟩
        obtain ⟨y, hy⟩ : ∃ x, g2 l k = x := ⟨_, rfl⟩
        obtain ⟨q, hq⟩ : ∃ x, g0 cs k = x := ⟨_, rfl⟩
        rw [hq] at x1 hsa
        rw [hy] at hsa hbd hgk
        rw [hx] at hbd hgk
        obtain ⟨_, hb3, hb4⟩ := hbd
        obtain ⟨hs1, hs2⟩ := hsa
        have d1 : wr.cell? ⟨b, off + k, none⟩ = some (.int .i64 q) := (hb.cell hbb).trans x1
        have hbw : b < wr.heap.size := by have := hb.size; omega
        have hbg : b ≠ g := by omega
        have hkc : (k : Int) < (cs.length : Int) := by omega
        have hkl : (k : Int) < (l.length : Int) := by omega
        have hklo : k < o.length := by have := HOL.out; omega
        have e0 := ho.cell len2 HOL.out.symm hgk (j := 0) rfl
        have e1 := ho.cell len2 HOL.out.symm hgk (j := 1) rfl
        rw [Nat.add_zero] at e0
        have ef := ho.frozen HOL.out.symm
        have o7 := ho.store len2 HOL.out.symm hgk (j := 1) (a' := (x, y - q)) (by omega) (u := .int .i64 (y - q)) rfl
        have O7 := hid o7
        have D7 := hid (hb.setCell (p := ⟨g, k * 2 + 1, none⟩) hg1 (.int .i64 (y - q)))
        have w1' : IntKind.i64.wrap (y - q) = y - q := IntWalk.i64_in _ (by omega)
        have hat2 : ∀ j, j < l.length → g1 (o.set k (x, y - q)) j = g1 l j ∧ g2 (o.set k (x, y - q)) j = if j < k + 1 then g2 l j - g0 cs j else g2 l j := fun j hj => by
          have h9 := HAT.out j hj
          rw [g1_set hklo, g2_set hklo]
          by_cases he : k = j
          · subst he
            rw [if_pos rfl, if_pos rfl, if_pos (Nat.lt_succ_self k), hx, hy, hq]
            exact ⟨rfl, rfl⟩
          · rw [if_neg he, if_neg he, h9.1, h9.2]
            refine ⟨rfl, ?_⟩
            by_cases hjk : j < k
            · rw [if_pos hjk, if_pos (by omega)]
            · rw [if_neg hjk, if_neg (by omega)]
        have HAT2 := hid hat2
        clear o7 hgk hak hat2 hx hy hq x1 ho hb hsl hcn
        go_wp2
        go_roundw
        case rel => exact ⟨k + 1, o.set k (x, y - q), by omega, by go_num, by rw [List.length_set]; exact HOL.out, HAT2.out, O7.out, D7.out⟩
        case measure => simp [intOf]; omega
      · have hkl : k = l.length := by omega
        subst hkl
        have HE := hid (show o = payL l cs from ext12 (by rw [HOL.out, payL_len]) fun j hj => by
          have hj' : j < l.length := by have := HOL.out; omega
          have h8 := HAT.out j hj'
          have h9 := payL_at (l := l) (cs := cs) (i := j) HCN.out hj'
          rw [h8.1, h8.2, h9.1, h9.2, if_pos hj']
          exact ⟨rfl, rfl⟩)
        have OF := hid (ho.less z1)
        have DF := hid (HB1.out.trans (hb.mono z1))
        clear ho hb
        go_wp2
        go_ret2
        refine ⟨.slice A3 l.length c3, by rw [HK.out]; rfl, ?_, DF.out⟩
        rw [HPI.out, HCS.out, ← HE.out]
        exact OF.out
  · have hok' : okC l am = false := by simpa using hok
    have HK := hid hok'
    clear hok hok'
    go_enter Try.func33, Try.ntmps33
    go_wp2_with fail
    refine (changeFor_any l A cap am _ h hl).mono ?_
    rintro e w1 ⟨v1, rfl, o1, b1⟩
    rw [HK.out]
    rw [chgL_no HK.out] at o1
    obtain ⟨A1, c1, rfl, _, _⟩ := o1.reads len1
    have B1 := hid b1
    clear o1 b1
    go_wp2
    go_ret2
    refine ⟨.slice (some ⟨w1.heap.size, 0, none⟩) 0 0, by rw [HK.out]; rfl, ?_, B1.out.alloc B1.out.size _⟩
    rw [payI_no HK.out]
    exact Own.lit0 enc2 2 _ w1 w.heap.size rfl B1.out.size

end Go.Proofs.Ytcjcolkhhmpmjaa
