/- The pieces of each group of a cart: the plain law, and the contract of the paper's function. -/
import Derived.Test.YtkgofklpogdpmaaGreatZB
import Derived.Test.YtkgofklpogdpmaaGreatZC
import Derived.Test.YtkgofklpogdpmaaGreatZE
import Derived.RegionTactic
import Derived.BigRegion
namespace Go.Proofs.YtkgofklpogdpmaaGreat
open Go.RowKit

/-- The pieces of a group in the first lines of a cart. -/
def cntG (s : List (Int × Int × Int × Int)) (c : List (Int × Int)) (g : Int) : Nat → Int
  | 0 => 0
  | k + 1 => cntG s c g k + (if q2 s (g1 c k).toNat = g then g2 c k else 0)
def cnts (s : List (Int × Int × Int × Int)) (c : List (Int × Int)) (n : Nat) : List Int := [cntG s c 0 n, cntG s c 1 n, cntG s c 2 n]
theorem cnts_step {s : List (Int × Int × Int × Int)} {c : List (Int × Int)} {k gi : Nat} (h : q2 s (g1 c k).toNat = (gi : Int)) (hg : gi < 3) : (cnts s c k).set gi (g0 (cnts s c k) gi + g2 c k) = cnts s c (k + 1) := by
  unfold cnts
  simp only [cntG, h]
  match gi, hg with
  | 0, _ => simp [g0]
  | 1, _ => simp [g0]
  | 2, _ => simp [g0]
theorem cntG_bd {s : List (Int × Int × Int × Int)} {c : List (Int × Int)} {g : Int} : ∀ n, (∀ k, k < n → 1 ≤ g2 c k ∧ g2 c k ≤ 20) → 0 ≤ cntG s c g n ∧ cntG s c g n ≤ 20 * n
  | 0, _ => by simp [cntG]
  | n + 1, h => by
    have h1 := cntG_bd (s := s) (g := g) n (fun k hk => h k (by omega))
    have h2 := h n (by omega)
    simp only [cntG]
    split <;> omega
theorem cnts_bd {s : List (Int × Int × Int × Int)} {c : List (Int × Int)} {n : Nat} (h : ∀ k, k < n → 1 ≤ g2 c k ∧ g2 c k ≤ 20) (i : Nat) : 0 ≤ g0 (cnts s c n) i ∧ g0 (cnts s c n) i ≤ 20 * n := by
  match i with
  | 0 => exact cntG_bd n h
  | 1 => exact cntG_bd n h
  | 2 => exact cntG_bd n h
  | i + 3 => simp [cnts, g0]; omega
def CntRel (w : World) (g B : Nat) (s : List (Int × Int × Int × Int)) (c : List (Int × Int)) (i : Value) (wr : World) : Prop :=
  ∃ k : Nat, k ≤ c.length ∧ i = .int .i64 k ∧ Own enc1 1 3 wr w.heap.size (.slice (some ⟨g, 0, none⟩) 3 3) (cnts s c k) ∧ Below w.heap.size w wr ∧ B ≤ wr.heap.size
def CntPost (w : World) (s : List (Int × Int × Int × Int)) (c : List (Int × Int)) (e : Ending) (w' : World) : Prop :=
  ∃ v, e = .returned v ∧ Own enc1 1 3 w' w.heap.size v (cnts s c c.length) ∧ Below w.heap.size w w'

set_option maxHeartbeats 3200000 in
set_option maxRecDepth 100000 in
theorem groupCountsS_any (s : List (Int × Int × Int × Int)) (c : List (Int × Int)) (A Ac : Option Addr) (cap capc : Nat) (w : World) (hA : Sl enc4 4 w w.heap.size A s) (hC : Sl enc2 2 w w.heap.size Ac c) (hs : vShop s = true) (hc : vCart s.length c = true) :
    Calls Tryz.prog 58 #[.slice A s.length cap, .slice Ac c.length capc] w (CntPost w s c) := by
  have HS := hid hs
  have HC := hid hc
  have hl1 := vShop_len hs
  have hc8 := (vCart_iff.1 hc).2.2
  clear hs hc
  go_enter Tryz.func58, Tryz.ntmps58
  go_wp2_with (at_make; refine wpList_makeL len1 (by omega) rfl (.const (.int .i64 3)) (.const (.int .i64 3)) _ rfl Tryz.underlying25 infoInt (by omega) (y := 0) rfl (base := w.heap.size) (n := 3) rfl rfl (by omega) (by omega) ?_)
  intro w1 O1 G1
  have D1 := only_below G1
  have z1 := (O1.lt w.heap.size rfl).2
  clear G1
  go_wp2_with fail
  go_loopw [6] (fun i wr => CntRel w w.heap.size 0 s c i wr) (fun i _ => c.length - (intOf i).toNat)
  case atStart => exact ⟨0, Nat.zero_le _, rfl, O1, D1, Nat.zero_le _⟩
  case round =>
    clear O1 D1 z1
    skip
    obtain ⟨k, hk, rfl, ho, hb, hB⟩ := hrel
    have hsz := hb.size
    by_cases hlt : k < c.length
    · obtain ⟨b, off, rfl, hbb, c1, c2⟩ := hC.get2 hlt
      obtain ⟨f1, f2, f3, f4, _⟩ := fit_at HS.out HC.out hlt
      obtain ⟨a, ha⟩ : ∃ a : Nat, (g1 c k).toNat = a := ⟨_, rfl⟩
      obtain ⟨q, hq⟩ : ∃ q, g2 c k = q := ⟨_, rfl⟩
      have hart := (vShop_at HS.out f1).2.1
      obtain ⟨gi, hgi⟩ : ∃ gi : Nat, (gi : Int) = q2 s (g1 c k).toNat := ⟨(q2 s (g1 c k).toNat).toNat, by omega⟩
      have hg3 : gi < 3 := by omega
      have HST := hid (cnts_step (s := s) (c := c) (k := k) (gi := gi) hgi.symm hg3)
      have hbd := cnts_bd (s := s) (c := c) (n := k) (fun j hj => (fit_at HS.out HC.out (show j < c.length by omega)).2.2.1) gi
      rw [← f2] at c1
      obtain ⟨b', off', rfl, hbb', _, c3, _⟩ := hA.get4 f1
      rw [← hgi] at c3
      rw [ha] at c1 c3 f1
      rw [hq] at c2 f3 HST
      have d1 : wr.cell? ⟨b, off + k * 2, none⟩ = some (.int .i64 (a : Int)) := (hb.cell hbb).trans c1
      have d2 : wr.cell? ⟨b, off + k * 2 + 1, none⟩ = some (.int .i64 q) := (hb.cell hbb).trans c2
      have d3 : wr.cell? ⟨b', off' + a * 4 + 1, none⟩ = some (.int .i64 (gi : Int)) := (hb.cell hbb').trans c3
      have hbw : b < wr.heap.size := by omega
      have hbw' : b' < wr.heap.size := by omega
      have hbg : b ≠ w.heap.size := by omega
      have hbg' : b' ≠ w.heap.size := by omega
      have hgw := (ho.lt w.heap.size rfl).2
      obtain ⟨y, hy⟩ : ∃ y, g0 (cnts s c k) gi = y := ⟨_, rfl⟩
      have hget : (cnts s c k)[gi]? = some y := by rw [← hy]; exact g0_get (by simpa [cnts] using hg3)
      rw [hy] at HST hbd
      have d4 : wr.cell? ⟨w.heap.size, gi, none⟩ = some (.int .i64 y) := by
        have := ho.cell len1 (show 3 = (cnts s c k).length from rfl) hget (j := 0) rfl
        simpa using this
      have hfz : ∀ o, wr.frozen? ⟨w.heap.size, o, none⟩ = false := fun o => ho.frozen (show 3 = (cnts s c k).length from rfl) o
      obtain ⟨u, hu⟩ : ∃ u, y + q = u := ⟨_, rfl⟩
      have hw1 : IntKind.i64.wrap (y + q) = u := by rw [hu]; exact IntWalk.i64_in _ (by omega)
      rw [hu] at HST
      have hkl : (k : Int) < (c.length : Int) := by omega
      have hal : (a : Int) < (s.length : Int) := by omega
      have hgl : (gi : Int) < 3 := by omega
      have HO := hid (ho.store len1 (show 3 = (cnts s c k).length from rfl) hget (j := 0) (a' := u) (by omega) (u := .int .i64 u) rfl)
      rw [HST.out] at HO
      have HD := hid (hb.setCell (p := ⟨w.heap.size, gi * 1 + 0, none⟩) (Nat.le_refl _) (.int .i64 u))
      clear c1 c2 c3 ha hq hu hb f2 f3 f4 HST ho hy hget hgi hart hbd hB
      go_wp2_with fail
      go_region
      go_wp2
      go_roundw
      case rel => exact ⟨k + 1, by omega, by go_num, by simpa using HO.out.drew, by simpa using HD.out.drew, Nat.zero_le _⟩
      case measure => simp [intOf]; omega
    · have hkl : k = c.length := by omega
      subst hkl
      go_wp2
      go_ret
      exact ⟨_, rfl, ho, hb⟩

end Go.Proofs.YtkgofklpogdpmaaGreat

/- Contracts: the pieces of each group of a cart, as the program counts them, and its total. -/
namespace Go.Proofs.YtkgofklpogdpmaaGreat
open Go.RowKit

set_option maxHeartbeats 3200000 in
set_option maxRecDepth 100000 in
theorem groupCountsI_any (s : List (Int × Int × Int × Int)) (c : List (Int × Int)) (A Ac : Option Addr) (cap capc : Nat) (w : World) (hA : Sl enc4 4 w w.heap.size A s) (hC : Sl enc2 2 w w.heap.size Ac c) (hs : vShop s = true) (hc : vCart s.length c = true) :
    Calls Tryz.prog 38 #[.slice A s.length cap, .slice Ac c.length capc] w (CntPost w s c) := by
  have HS := hid hs
  have HC := hid hc
  have hl1 := vShop_len hs
  have hc8 := (vCart_iff.1 hc).2.2
  have HOK := hid (show (vShop s && vCart s.length c) = true by rw [hs, hc]; rfl)
  clear hs hc
  go_enter Tryz.func38, Tryz.ntmps38
  go_wp2_with fail
  refine (validCartI_any s c A Ac cap capc _ hA hC (by omega) (by omega)).mono ?_
  rintro e w1 ⟨rfl, b1⟩
  rw [HOK.out]
  have zz := b1.size
  go_wp2_with (at_make; refine wpList_makeL len1 (by omega) rfl (.const (.int .i64 3)) (.const (.int .i64 3)) _ rfl Tryz.underlying25 infoInt (by omega) (y := 0) rfl (base := w.heap.size) (n := 3) rfl rfl (by omega) zz ?_)
  intro w2 O1 G1
  have D1 := b1.grown G1 zz (fun k hk => by cases hk)
  have z1 := (O1.lt w1.heap.size rfl).2
  clear G1 b1
  go_wp2_with fail
  go_loopw [16] (fun i wr => CntRel w w1.heap.size 0 s c i wr) (fun i _ => c.length - (intOf i).toNat)
  case atStart => exact ⟨0, Nat.zero_le _, rfl, O1, D1, Nat.zero_le _⟩
  case round =>
    clear O1 D1 z1
    skip
    obtain ⟨k, hk, rfl, ho, hb, hB⟩ := hrel
    have hsz := hb.size
    by_cases hlt : k < c.length
    · obtain ⟨b, off, rfl, hbb, c1, c2⟩ := hC.get2 hlt
      obtain ⟨f1, f2, f3, f4, _⟩ := fit_at HS.out HC.out hlt
      obtain ⟨a, ha⟩ : ∃ a : Nat, (g1 c k).toNat = a := ⟨_, rfl⟩
      obtain ⟨q, hq⟩ : ∃ q, g2 c k = q := ⟨_, rfl⟩
      have hart := (vShop_at HS.out f1).2.1
      obtain ⟨gi, hgi⟩ : ∃ gi : Nat, (gi : Int) = q2 s (g1 c k).toNat := ⟨(q2 s (g1 c k).toNat).toNat, by omega⟩
      have hg3 : gi < 3 := by omega
      have HST := hid (cnts_step (s := s) (c := c) (k := k) (gi := gi) hgi.symm hg3)
      have hbd := cnts_bd (s := s) (c := c) (n := k) (fun j hj => (fit_at HS.out HC.out (show j < c.length by omega)).2.2.1) gi
      rw [← f2] at c1
      obtain ⟨b', off', rfl, hbb', _, c3, _⟩ := hA.get4 f1
      rw [← hgi] at c3
      rw [ha] at c1 c3 f1
      rw [hq] at c2 f3 HST
      have d1 : wr.cell? ⟨b, off + k * 2, none⟩ = some (.int .i64 (a : Int)) := (hb.cell hbb).trans c1
      have d2 : wr.cell? ⟨b, off + k * 2 + 1, none⟩ = some (.int .i64 q) := (hb.cell hbb).trans c2
      have d3 : wr.cell? ⟨b', off' + a * 4 + 1, none⟩ = some (.int .i64 (gi : Int)) := (hb.cell hbb').trans c3
      have hbw : b < wr.heap.size := by omega
      have hbw' : b' < wr.heap.size := by omega
      have hbg : b ≠ w1.heap.size := by omega
      have hbg' : b' ≠ w1.heap.size := by omega
      have hgw := (ho.lt w1.heap.size rfl).2
      obtain ⟨y, hy⟩ : ∃ y, g0 (cnts s c k) gi = y := ⟨_, rfl⟩
      have hget : (cnts s c k)[gi]? = some y := by rw [← hy]; exact g0_get (by simpa [cnts] using hg3)
      rw [hy] at HST hbd
      have d4 : wr.cell? ⟨w1.heap.size, gi, none⟩ = some (.int .i64 y) := by
        have := ho.cell len1 (show 3 = (cnts s c k).length from rfl) hget (j := 0) rfl
        simpa using this
      have hfz : ∀ o, wr.frozen? ⟨w1.heap.size, o, none⟩ = false := fun o => ho.frozen (show 3 = (cnts s c k).length from rfl) o
      obtain ⟨u, hu⟩ : ∃ u, y + q = u := ⟨_, rfl⟩
      have hw1 : IntKind.i64.wrap (y + q) = u := by rw [hu]; exact IntWalk.i64_in _ (by omega)
      rw [hu] at HST
      have hkl : (k : Int) < (c.length : Int) := by omega
      have hal : (a : Int) < (s.length : Int) := by omega
      have hgl : (gi : Int) < 3 := by omega
      have HO := hid ((ho.store len1 (show 3 = (cnts s c k).length from rfl) hget (j := 0) (a' := u) (by omega) (u := .int .i64 u) rfl).alloc (.cells #[.int .i64 (a : Int), .int .i64 q] 83))
      rw [HST.out] at HO
      have HD := hid ((hb.setCell (p := ⟨w1.heap.size, gi * 1 + 0, none⟩) zz (.int .i64 u)).alloc (by simp; omega) (.cells #[.int .i64 (a : Int), .int .i64 q] 83))
      have hne : wr.heap.size ≠ w1.heap.size := by omega
      clear c1 c2 c3 ha hq hu hb f2 f3 f4 HST ho hy hget hgi hart hbd hB
      go_wp2_with fail
      go_region
      go_wp2
      go_roundw
      case rel => exact ⟨k + 1, by omega, by go_num, by simpa using HO.out.drew, by simpa using HD.out.drew, Nat.zero_le _⟩
      case measure => simp [intOf]; omega
    · have hkl : k = c.length := by omega
      subst hkl
      go_wp2
      go_ret
      exact ⟨_, rfl, ho, hb⟩

theorem amt_bd {s : List (Int × Int × Int × Int)} {c : List (Int × Int)} (hs : vShop s = true) (hc : vCart s.length c = true) {k : Nat} (hk : k < (amts s c).length) : 0 ≤ g0 (amts s c) k ∧ g0 (amts s c) k ≤ 100000 := by
  rw [amts_len] at hk
  rw [amts_at hk]
  have := (fit_at hs hc hk).2.2.2.1
  omega
set_option maxHeartbeats 1600000 in
set_option maxRecDepth 100000 in
theorem totalOf_any (s : List (Int × Int × Int × Int)) (c : List (Int × Int)) (A Ac : Option Addr) (cap capc : Nat) (w : World) (hA : Sl enc4 4 w w.heap.size A s) (hC : Sl enc2 2 w w.heap.size Ac c) (hs : vShop s = true) (hc : vCart s.length c = true) :
    Calls Tryz.prog 37 #[.slice A s.length cap, .slice Ac c.length capc] w fun e w' => e = .returned (.int .i64 (tot (g0 (amts s c)) c.length)) ∧ Below w.heap.size w w' := by
  have HB := hid (fun k (hk : k < (amts s c).length) => amt_bd hs hc hk)
  have hl1 := vShop_len hs
  have hc8 := (vCart_iff.1 hc).2.2
  have HOK := hid (show (vShop s && vCart s.length c) = true by rw [hs, hc]; rfl)
  have HI := hid (show amtsI s c = amts s c by unfold amtsI; rw [if_pos HOK.out])
  clear hs hc
  go_enter Tryz.func37, Tryz.ntmps37
  go_wp2_with fail
  refine (validCartI_any s c A Ac cap capc _ hA hC (by omega) (by omega)).mono ?_
  rintro e w1 ⟨rfl, b1⟩
  rw [HOK.out]
  have hA1 := (hA.below b1 (Nat.le_refl _)).more b1.size
  have hC1 := (hC.below b1 (Nat.le_refl _)).more b1.size
  have B1 := hid b1
  clear b1 hA hC
  go_wp2_with fail
  refine (lineAmounts_any s c A Ac cap capc _ hA1 hC1 (by omega) (by omega)).mono ?_
  rintro e w2 ⟨v, rfl, o1, b2⟩
  rw [HI.out] at o1
  obtain ⟨Aa, ca, rfl, _, SA⟩ := o1.reads len1
  have B2 := hid (B1.out.trans (b2.mono B1.out.size))
  have hml := amts_len s c
  obtain ⟨m, hm⟩ : ∃ m, amts s c = m := ⟨_, rfl⟩
  rw [hm] at hml HB SA
  rw [hm]
  have HM := hid hm
  have HML := hid hml
  have hm8 : m.length ≤ 8 := by omega
  clear b2 hA1 hC1 o1 hm HI hml
  go_wp2_with fail
  refine (total_any m Aa ca _ SA (by omega) (fun k hk => by have := HB.out k hk; omega)).mono ?_
  rintro e w3 ⟨rfl, rfl⟩
  rw [HML.out]
  go_wp2
  go_ret
  exact ⟨ret_int (by rw [HM.out]), B2.out⟩

end Go.Proofs.YtkgofklpogdpmaaGreat

/- Contract: the point of a cart, as the program does it. -/
namespace Go.Proofs.YtkgofklpogdpmaaGreat
open Go.RowKit

def PtPost (w : World) (T : Int) (cs cp : List Int) (e : Ending) (w' : World) : Prop :=
  ∃ (A1 A2 : Option Addr) (c1 c2 : Nat), e = .returned (.tuple #[.agg #[.int .i64 T, .slice A1 cs.length c1, .slice A2 cp.length c2], .bool true]) ∧ Sl enc1 1 w' w'.heap.size A1 cs ∧ Sl enc1 1 w' w'.heap.size A2 cp ∧ Below w.heap.size w w'

set_option maxHeartbeats 3200000 in
set_option maxRecDepth 100000 in
theorem pointOf_yes (s : List (Int × Int × Int × Int)) (c : List (Int × Int)) (l : List Int) (A Ac Al : Option Addr) (cap capc capl : Nat) (w : World) (hA : Sl enc4 4 w w.heap.size A s) (hC : Sl enc2 2 w w.heap.size Ac c) (hL : Sl enc1 1 w w.heap.size Al l) (hs : vShop s = true) (hc : vCart s.length c = true) (hl : vCpn l = true) :
    Calls Tryz.prog 12 #[.slice A s.length cap, .slice Ac c.length capc, .slice Al l.length capl] w (PtPost w (tot (g0 (amts s c)) c.length) (cnts s c c.length) l) := by
  have hl1 := vShop_len hs
  have hc8 := (vCart_iff.1 hc).2.2
  have hl3 : l.length ≤ 3 := by unfold vCpn at hl; rw [Bool.and_eq_true, decide_eq_true_eq] at hl; exact hl.2
  have HOK := hid (show (vShop s && vCart s.length c) = true by rw [hs, hc]; rfl)
  have HS := hid hs
  have HC := hid hc
  have HL := hid hl
  have D0 := hid ((Below.refl w.heap.size w).alloc (Nat.le_refl _) (.cells #[.int .i64 0, .slice none 0 0, .slice none 0 0] 42))
  have K0 := hid (Blk.new w 42 #[.int .i64 0, .slice none 0 0, .slice none 0 0])
  have hA0 : Sl enc4 4 (w.alloc (.cells #[.int .i64 0, .slice none 0 0, .slice none 0 0] 42)) (w.alloc (.cells #[.int .i64 0, .slice none 0 0, .slice none 0 0] 42)).heap.size A s := (hA.alloc (Nat.le_refl _) _).more (by simp)
  have hC0 : Sl enc2 2 (w.alloc (.cells #[.int .i64 0, .slice none 0 0, .slice none 0 0] 42)) (w.alloc (.cells #[.int .i64 0, .slice none 0 0, .slice none 0 0] 42)).heap.size Ac c := (hC.alloc (Nat.le_refl _) _).more (by simp)
  have hL0 : Sl enc1 1 (w.alloc (.cells #[.int .i64 0, .slice none 0 0, .slice none 0 0] 42)) (w.alloc (.cells #[.int .i64 0, .slice none 0 0, .slice none 0 0] 42)).heap.size Al l := (hL.alloc (Nat.le_refl _) _).more (by simp)
  clear hs hc hl hA hC hL
  go_enter Tryz.func12, Tryz.ntmps12
  go_wp2_with fail
  refine (validCartI_any s c A Ac cap capc _ hA0 hC0 (by omega) (by omega)).mono ?_
  rintro e w1 ⟨rfl, b1⟩
  rw [HOK.out]
  have hA1 := (hA0.below b1 (Nat.le_refl _)).more b1.size
  have hC1 := (hC0.below b1 (Nat.le_refl _)).more b1.size
  have hL1 := (hL0.below b1 (Nat.le_refl _)).more b1.size
  have D1 := hid (D0.out.trans (b1.mono (by simp)))
  have K1 := hid (K0.out.below b1 (by simp))
  clear b1 hA0 hC0 hL0 D0 K0
  go_wp2_with fail
  refine (couponsOk_any l Al capl _ hL1 (by omega)).mono ?_
  rintro e w2 ⟨rfl, b2⟩
  rw [HL.out]
  have hA2 := (hA1.below b2 (Nat.le_refl _)).more b2.size
  have hC2 := (hC1.below b2 (Nat.le_refl _)).more b2.size
  have hL2 := (hL1.below b2 (Nat.le_refl _)).more b2.size
  have D2 := hid (D1.out.trans (b2.mono D1.out.size))
  have K2 := hid (K1.out.below b2 K1.out.lt)
  clear b2 hA1 hC1 hL1 D1 K1
  go_wp2_with fail
  refine (totalOf_any s c A Ac cap capc _ hA2 hC2 HS.out HC.out).mono ?_
  rintro e w3 ⟨rfl, b3⟩
  have hA3 := (hA2.below b3 (Nat.le_refl _)).more b3.size
  have hC3 := (hC2.below b3 (Nat.le_refl _)).more b3.size
  have hL3 := (hL2.below b3 (Nat.le_refl _)).more b3.size
  have D3 := hid (D2.out.trans (b3.mono D2.out.size))
  have K3 := hid (K2.out.below b3 K2.out.lt)
  obtain ⟨T, hT⟩ : ∃ T, tot (g0 (amts s c)) c.length = T := ⟨_, rfl⟩
  have HT := hid hT
  rw [hT]
  clear b3 hA2 hC2 hL2 D2 K2 hT
  go_wp2_with fail
  refine (groupCountsI_any s c A Ac cap capc _ hA3 hC3 HS.out HC.out).mono ?_
  rintro e w4 ⟨v, rfl, o4, b4⟩
  have hL4 := (hL3.below b4 (Nat.le_refl _)).more b4.size
  have D4 := hid (D3.out.trans (b4.mono D3.out.size))
  have K4 := hid (K3.out.below b4 K3.out.lt)
  obtain ⟨m, hm⟩ : ∃ m, cnts s c c.length = m := ⟨_, rfl⟩
  have HM := hid hm
  rw [hm] at o4
  obtain ⟨A1, c1, rfl, _, _⟩ := o4.reads len1
  have S5 := hid (o4.alloc (.cells #[] 3))
  have z3 := K3.out.lt
  have L5 := hid (hL4.alloc (Nat.le_refl _) (.cells #[] 3))
  have O5 := Own.lit0 enc1 1 3 w4 w4.heap.size rfl (Nat.le_refl _)
  have z4 := K4.out.lt
  have z5 := D4.out.size
  clear hL4 hL3 b4 hA3 hC3 D3 K3 hm
  go_wp2_with (at_builtin; refine wpList_pushAny len1 one1 rfl (.tmp 24) (.tmp 25) _ rfl Tryz.underlying25 infoInt rfl (by omega) (by omega) rfl O5 (m := l) rfl rfl L5.out (by simp; omega) (by simp) ?_)
  intro v6 w6 h6 hg6
  have O6 : Own enc1 1 3 w6 w4.heap.size v6 l := by simpa using h6
  have D5 := hid (D4.out.alloc z5 (.cells #[] 3))
  have D6 := hid (below_row D5.out O5 z5 (by simp; omega) hg6)
  have K5 := hid ((K4.out.alloc (.cells #[] 3)))
  have hne : some w.heap.size ≠ some w4.heap.size := fun he => by injection he; omega
  have K6 := hid (K5.out.grown hg6 hne)
  have hz6 : w4.heap.size ≤ w6.heap.size := by have := hg6.size; simp at this; omega
  have ap : (Value.slice A1 m.length c1).ownBlock = none ∨ (Value.slice A1 m.length c1).ownBlock ≠ some w4.heap.size := by
    cases hv : (Value.slice A1 m.length c1).ownBlock with
    | none => exact .inl rfl
    | some k => exact .inr fun he => by injection he with he; have := (o4.lt k hv).2; omega
  have S6 := S5.out.grown hg6 ap
  have f1 : (Value.slice A1 m.length c1).ownBlock ≠ some w.heap.size := fun he => by have := (S6.lt _ he).1; omega
  obtain ⟨A2, c2, rfl, _, _⟩ := O6.reads len1
  have f2 : (Value.slice A2 l.length c2).ownBlock ≠ some w.heap.size := fun he => by have := (O6.lt _ he).1; omega
  have S7 := hid ((((S6.far (p := ⟨w.heap.size, 0, none⟩) f1 (.int .i64 T)).far (p := ⟨w.heap.size, 1, none⟩) f1 (.slice A1 m.length c1)).far (p := ⟨w.heap.size, 2, none⟩) f1 (.slice A2 l.length c2)).sl len1)
  have L7 := hid ((((O6.far (p := ⟨w.heap.size, 0, none⟩) f2 (.int .i64 T)).far (p := ⟨w.heap.size, 1, none⟩) f2 (.slice A1 m.length c1)).far (p := ⟨w.heap.size, 2, none⟩) f2 (.slice A2 l.length c2)).sl len1)
  have k0 := K6.out.cell 0
  have k1 := K6.out.cell 1
  have k2 := K6.out.cell 2
  have kf := K6.out.frozen
  have zz := K6.out.lt
  have D7 := hid (((D6.out.setCell (p := ⟨w.heap.size, 0, none⟩) (Nat.le_refl _) (.int .i64 T)).setCell (p := ⟨w.heap.size, 1, none⟩) (Nat.le_refl _) (.slice A1 m.length c1)).setCell (p := ⟨w.heap.size, 2, none⟩) (Nat.le_refl _) (.slice A2 l.length c2))
  have HML := hid (show m.length = 3 by rw [← HM.out]; rfl)
  clear hg6 h6 O5 O6 hne ap S6 f1 f2 o4
  go_wp2
  refine bodyPost_ret (v := .tuple #[.agg #[.int .i64 T, .slice A1 m.length c1, .slice A2 l.length c2], .bool true]) (by simp [results, Tryz.results12, go_sem, *]) rfl ⟨A1, A2, c1, c2, by rw [HT.out, HM.out], ?_, L7.out, D7.out⟩
  rw [HM.out]
  exact S7.out

set_option maxHeartbeats 3200000 in
set_option maxRecDepth 100000 in
theorem pointOf_no (s : List (Int × Int × Int × Int)) (c : List (Int × Int)) (l : List Int) (A Ac Al : Option Addr) (cap capc capl : Nat) (w : World) (hA : Sl enc4 4 w w.heap.size A s) (hC : Sl enc2 2 w w.heap.size Ac c) (hL : Sl enc1 1 w w.heap.size Al l) (hs : s.length ≤ 1000) (hc : c.length ≤ 1000) (hl : l.length ≤ 1000) (hno : ((vShop s && vCart s.length c) && vCpn l) = false) :
    Calls Tryz.prog 12 #[.slice A s.length cap, .slice Ac c.length capc, .slice Al l.length capl] w fun e w' => e = .returned (.tuple #[.agg #[.int .i64 0, .slice none 0 0, .slice none 0 0], .bool false]) ∧ Below w.heap.size w w' := by
  have D0 := hid ((Below.refl w.heap.size w).alloc (Nat.le_refl _) (.cells #[.int .i64 0, .slice none 0 0, .slice none 0 0] 42))
  have K0 := hid (Blk.new w 42 #[.int .i64 0, .slice none 0 0, .slice none 0 0])
  have hA0 : Sl enc4 4 (w.alloc (.cells #[.int .i64 0, .slice none 0 0, .slice none 0 0] 42)) (w.alloc (.cells #[.int .i64 0, .slice none 0 0, .slice none 0 0] 42)).heap.size A s := (hA.alloc (Nat.le_refl _) _).more (by simp)
  have hC0 : Sl enc2 2 (w.alloc (.cells #[.int .i64 0, .slice none 0 0, .slice none 0 0] 42)) (w.alloc (.cells #[.int .i64 0, .slice none 0 0, .slice none 0 0] 42)).heap.size Ac c := (hC.alloc (Nat.le_refl _) _).more (by simp)
  have hL0 : Sl enc1 1 (w.alloc (.cells #[.int .i64 0, .slice none 0 0, .slice none 0 0] 42)) (w.alloc (.cells #[.int .i64 0, .slice none 0 0, .slice none 0 0] 42)).heap.size Al l := (hL.alloc (Nat.le_refl _) _).more (by simp)
  obtain ⟨x, hx⟩ : ∃ x, (vShop s && vCart s.length c) = x := ⟨_, rfl⟩
  have HX := hid hx
  rw [hx] at hno
  clear hA hC hL hx
  go_enter Tryz.func12, Tryz.ntmps12
  go_wp2_with fail
  refine (validCartI_any s c A Ac cap capc _ hA0 hC0 (by omega) (by omega)).mono ?_
  rintro e w1 ⟨rfl, b1⟩
  rw [HX.out]
  have hL1 := (hL0.below b1 (Nat.le_refl _)).more b1.size
  have D1 := hid (D0.out.trans (b1.mono (by simp)))
  have K1 := hid (K0.out.below b1 (by simp))
  clear b1 hA0 hC0 hL0 D0 K0
  cases x
  · have k0 := K1.out.cell 0
    have k1 := K1.out.cell 1
    have k2 := K1.out.cell 2
    have kf := K1.out.frozen
    have zz := K1.out.lt
    have D7 := hid (((D1.out.setCell (p := ⟨w.heap.size, 0, none⟩) (Nat.le_refl _) (.int .i64 0)).setCell (p := ⟨w.heap.size, 1, none⟩) (Nat.le_refl _) (.slice none 0 0)).setCell (p := ⟨w.heap.size, 2, none⟩) (Nat.le_refl _) (.slice none 0 0))
    clear hno
    go_wp2
    exact bodyPost_ret (v := .tuple #[.agg #[.int .i64 0, .slice none 0 0, .slice none 0 0], .bool false]) (by simp [results, Tryz.results12, go_sem, *]) rfl ⟨rfl, D7.out⟩
  · have HN := hid (show vCpn l = false by simpa using hno)
    clear hno
    go_wp2_with fail
    refine (couponsOk_any l Al capl _ hL1 (by omega)).mono ?_
    rintro e w2 ⟨rfl, b2⟩
    rw [HN.out]
    have K2 := hid (K1.out.below b2 K1.out.lt)
    have k0 := K2.out.cell 0
    have k1 := K2.out.cell 1
    have k2 := K2.out.cell 2
    have kf := K2.out.frozen
    have zz := K2.out.lt
    have D2 := hid (D1.out.trans (b2.mono D1.out.size))
    have D7 := hid (((D2.out.setCell (p := ⟨w.heap.size, 0, none⟩) (Nat.le_refl _) (.int .i64 0)).setCell (p := ⟨w.heap.size, 1, none⟩) (Nat.le_refl _) (.slice none 0 0)).setCell (p := ⟨w.heap.size, 2, none⟩) (Nat.le_refl _) (.slice none 0 0))
    clear b2 hL1
    go_wp2
    exact bodyPost_ret (v := .tuple #[.agg #[.int .i64 0, .slice none 0 0, .slice none 0 0], .bool false]) (by simp [results, Tryz.results12, go_sem, *]) rfl ⟨rfl, D7.out⟩

end Go.Proofs.YtkgofklpogdpmaaGreat

/- Contracts: valid points, numbers in spans, guards that hold, as the program does it. -/
namespace Go.Proofs.YtkgofklpogdpmaaGreat
open Go.RowKit

/-- A point that is valid. -/
def PtOk (T : Int) (cs cp : List Int) : Prop := withinB T 0 1000000 = true ∧ cs.length = 3 ∧ (∀ k, k < 3 → withinB (g0 cs k) 0 1000000 = true) ∧ vCpn cp = true ∧ cp.length ≤ 3
/-- A guard holds at a point. -/
def hldK (cs : List Int) (S : List (Int × Int)) (k : Nat) : Bool := withinB (g0 cs k) (g1 S k) (g2 S k)
def hldB (T : Int) (cs cp : List Int) (lo hi : Int) (S : List (Int × Int)) (cn : Int) : Bool := (List.range S.length).all (hldK cs S) && (withinB T lo hi && (decide (cn = 0) || hasN cp cn))

set_option maxHeartbeats 1600000 in
set_option maxRecDepth 100000 in
theorem pointOk_yes (T : Int) (cs cp : List Int) (A1 A2 : Option Addr) (c1 c2 : Nat) (w : World) (h1 : Sl enc1 1 w w.heap.size A1 cs) (h2 : Sl enc1 1 w w.heap.size A2 cp) (hp : PtOk T cs cp) :
    Calls Tryz.prog 46 #[.agg #[.int .i64 T, .slice A1 cs.length c1, .slice A2 cp.length c2]] w fun e w' => e = .returned (.bool true) ∧ Below w.heap.size w w' := by
  obtain ⟨hT, hcs, hck, hcp, hcl⟩ := hp
  have HCP := hid hcp
  have HCK := hid hck
  have HCS := hid hcs
  have hcs3 : cs.length ≤ 3 := by omega
  have D0 := hid ((Below.refl w.heap.size w).alloc (Nat.le_refl _) (.cells #[.int .i64 T, .slice A1 cs.length c1, .slice A2 cp.length c2] 42))
  have K0 := hid (Blk.new w 42 #[.int .i64 T, .slice A1 cs.length c1, .slice A2 cp.length c2])
  clear hcp hck hcs
  go_enter Tryz.func46, Tryz.ntmps46
  go_wp2_with fail
  go_loopw [8] (fun i wr => ∃ k : Nat, k ≤ cs.length ∧ i = .int .i64 k ∧ Below w.heap.size w wr ∧ Blk wr w.heap.size 42 #[.int .i64 T, .slice A1 cs.length c1, .slice A2 cp.length c2]) (fun i _ => cs.length - (intOf i).toNat)
  case atStart => exact ⟨0, Nat.zero_le _, rfl, D0.out, K0.out⟩
  case round =>
    clear D0 K0
    obtain ⟨k, hk, rfl, hb, hK⟩ := hrel
    have HB := hid hb
    have HK := hid hK
    have k0 := hK.cell 0
    have k1 := hK.cell 1
    have k2 := hK.cell 2
    have zz := hK.lt
    have k0' : wr.cell? ⟨w.heap.size, 0, none⟩ = some (.int .i64 T) := k0
    have k1' : wr.cell? ⟨w.heap.size, 1, none⟩ = some (.slice A1 cs.length c1) := k1
    have k2' : wr.cell? ⟨w.heap.size, 2, none⟩ = some (.slice A2 cp.length c2) := k2
    clear k0 k1 k2
    by_cases hlt : k < cs.length
    · obtain ⟨b, off, rfl, hbb, e1⟩ := h1.get1 hlt
      have d1 : wr.cell? ⟨b, off + k, none⟩ = some (.int .i64 (g0 cs k)) := (hb.cell hbb).trans e1
      have hbw : b < wr.heap.size := by omega
      have hy := HCK.out k (by omega)
      clear e1 hb hK
      go_wp2_with (go_at_call 82; refine (money_yes (by assumption) _).mono ?_; rintro e w' ⟨rfl, rfl⟩)
      go_roundw
      case rel => exact ⟨k + 1, by omega, by go_num, HB.out, HK.out⟩
      case measure => simp [intOf]; omega
    · have hkl : k = cs.length := by omega
      have e3 : ((cs.length : Int) == 3) = true := by rw [HCS.out]; rfl
      have h2' := (h2.below hb (Nat.le_refl _)).more hb.size
      clear hb hK
      subst hkl
      go_wp2_with (go_at_call 82; refine (money_yes (by assumption) _).mono ?_; rintro e w' ⟨rfl, rfl⟩)
      refine (couponsOk_any cp A2 c2 _ h2' (by omega)).mono ?_
      rintro e w2 ⟨rfl, b2⟩
      rw [HCP.out]
      have D2 := hid (HB.out.trans (b2.mono HB.out.size))
      clear b2
      go_wp2
      go_ret
      exact ⟨rfl, D2.out⟩

set_option maxHeartbeats 800000 in
theorem inSpan_any (lo hi n : Int) (w : World) (hv : vSpan lo hi = true) :
    Calls Tryz.prog 47 #[.agg #[.int .i64 lo, .int .i64 hi], .int .i64 n] w fun e w' => e = .returned (.bool (withinB n lo hi)) ∧ Below w.heap.size w w' := by
  have HV := hid hv
  have D0 := hid ((Below.refl w.heap.size w).alloc (Nat.le_refl _) (.cells #[.int .i64 lo, .int .i64 hi] 49))
  have K0 := hid (Blk.new w 49 #[.int .i64 lo, .int .i64 hi])
  clear hv
  go_enter Tryz.func47, Tryz.ntmps47
  go_wp2_with fail
  refine (validSpan_any lo hi _).mono ?_
  rintro e w1 ⟨rfl, b1⟩
  rw [HV.out]
  have K1 := K0.out.below b1 (by simp)
  have k0 : w1.cell? ⟨w.heap.size, 0, none⟩ = some (.int .i64 lo) := K1.cell 0
  have k1 : w1.cell? ⟨w.heap.size, 1, none⟩ = some (.int .i64 hi) := K1.cell 1
  have zz := K1.lt
  have D1 := hid (D0.out.trans (b1.mono (by simp)))
  clear b1 K1 K0 D0
  go_wp2_with (go_at_call 64; refine (within_any _ _ _ _).mono ?_; rintro e w' ⟨rfl, rfl⟩)
  go_ret
  exact ⟨rfl, D1.out⟩

set_option maxHeartbeats 3200000 in
set_option maxRecDepth 100000 in
theorem guardHolds_any (lo hi cn : Int) (a : Option Addr) (C : Nat) (S : List (Int × Int)) (T : Int) (cs cp : List Int) (A1 A2 : Option Addr) (c1 c2 : Nat) (w : World) (hS : Sl enc2 2 w w.heap.size a S) (h1 : Sl enc1 1 w w.heap.size A1 cs) (h2 : Sl enc1 1 w w.heap.size A2 cp) (hp : PtOk T cs cp) (hv : vGuard lo hi S cn = true) :
    Calls Tryz.prog 16 #[.agg #[.int .i64 lo, .int .i64 hi, .slice a S.length C, .int .i64 cn], .agg #[.int .i64 T, .slice A1 cs.length c1, .slice A2 cp.length c2]] w fun e w' => e = .returned (.bool (hldB T cs cp lo hi S cn)) ∧ Below w.heap.size w w' := by
  obtain ⟨v1, v2, v3, v4, v5⟩ := vGuard_iff.1 hv
  have HV := hid hv
  have HP := hid hp
  have HV1 := hid v1
  have hS3 : S.length ≤ 3 := by omega
  have hcl := hp.2.2.2.2
  have HCS := hid (show S.length = cs.length by rw [hp.2.1, v3])
  have HKG := hid (Blk.new w 52 #[.int .i64 lo, .int .i64 hi, .slice a S.length C, .int .i64 cn])
  have HKP := hid (Blk.new (w.alloc (.cells #[.int .i64 lo, .int .i64 hi, .slice a S.length C, .int .i64 cn] 52)) 42 #[.int .i64 T, .slice A1 cs.length c1, .slice A2 cp.length c2])
  obtain ⟨w0, hw0⟩ : ∃ x, x = (w.alloc (.cells #[.int .i64 lo, .int .i64 hi, .slice a S.length C, .int .i64 cn] 52)).alloc (.cells #[.int .i64 T, .slice A1 cs.length c1, .slice A2 cp.length c2] 42) := ⟨_, rfl⟩
  have KG0 := hid (show Blk w0 w.heap.size 52 #[.int .i64 lo, .int .i64 hi, .slice a S.length C, .int .i64 cn] by rw [hw0]; exact HKG.out.alloc _)
  have KP0 := hid (show Blk w0 (w.heap.size + 1) 42 #[.int .i64 T, .slice A1 cs.length c1, .slice A2 cp.length c2] by rw [hw0]; have := HKP.out; simpa only [World.size_alloc] using this)
  have D0 := hid (show Below w.heap.size w w0 by rw [hw0]; repeat (first | exact Below.refl _ _ | (refine Below.alloc ?_ (by (try simp) <;> omega) _) | (refine Below.setCell ?_ (by (try simp) <;> omega) _) | (refine Below.drew ?_) | (refine below_drewN ?_ _) | (refine Below.trans ?_ (Below.mono (by assumption) (by (try simp) <;> omega)))))
  have hz0 : w0.heap.size = w.heap.size + 1 + 1 := by rw [hw0]; simp
  have s0 := hid ((hS.below D0.out (Nat.le_refl _)).more (show w.heap.size ≤ w0.heap.size by omega))
  have p0 := hid ((h1.below D0.out (Nat.le_refl _)).more (show w.heap.size ≤ w0.heap.size by omega))
  have q0 := hid ((h2.below D0.out (Nat.le_refl _)).more (show w.heap.size ≤ w0.heap.size by omega))
  have HW := hid hw0
  have hzz : w.heap.size + 1 < w0.heap.size := by omega
  clear HKG HKP v1 v3 v4 v5 hp hv hS h1 h2 hw0 hz0
  go_enter Tryz.func16, Tryz.ntmps16
  go_wp2_with fail
  rw [← HW.out]
  refine (validGuard_any lo hi cn a C S _ s0.out (by omega)).mono ?_
  rintro e w1 ⟨rfl, b1⟩
  rw [HV.out]
  have KG1 := hid (KG0.out.below b1 KG0.out.lt)
  have KP1 := hid (KP0.out.below b1 KP0.out.lt)
  have s1 := hid ((s0.out.below b1 (Nat.le_refl _)).more b1.size)
  have p1 := hid ((p0.out.below b1 (Nat.le_refl _)).more b1.size)
  have q1 := hid ((q0.out.below b1 (Nat.le_refl _)).more b1.size)
  have D1 := hid (D0.out.trans (b1.mono (by omega)))
  have k0 : w1.cell? ⟨w.heap.size + 1, 0, none⟩ = some (.int .i64 T) := KP1.out.cell 0
  have k1 : w1.cell? ⟨w.heap.size + 1, 1, none⟩ = some (.slice A1 cs.length c1) := KP1.out.cell 1
  have k2 : w1.cell? ⟨w.heap.size + 1, 2, none⟩ = some (.slice A2 cp.length c2) := KP1.out.cell 2
  have zz : w.heap.size + 1 < w1.heap.size := KP1.out.lt
  clear b1 s0 p0 q0 KG0 KP0 D0 HW hzz
  go_wp2_with fail
  refine (pointOk_yes T cs cp A1 A2 c1 c2 _ p1.out q1.out HP.out).mono ?_
  rintro e w2 ⟨rfl, b2⟩
  have KG2 := hid (KG1.out.below b2 KG1.out.lt)
  have KP2 := hid (KP1.out.below b2 KP1.out.lt)
  have s2 := hid ((s1.out.below b2 (Nat.le_refl _)).more b2.size)
  have p2 := hid ((p1.out.below b2 (Nat.le_refl _)).more b2.size)
  have q2 := hid ((q1.out.below b2 (Nat.le_refl _)).more b2.size)
  have D2 := hid (D1.out.trans (b2.mono (by omega)))
  clear k0 k1 k2 zz
  have k0 : w2.cell? ⟨w.heap.size + 1, 0, none⟩ = some (.int .i64 T) := KP2.out.cell 0
  have g0' : w2.cell? ⟨w.heap.size, 0, none⟩ = some (.int .i64 lo) := KG2.out.cell 0
  have g1' : w2.cell? ⟨w.heap.size, 1, none⟩ = some (.int .i64 hi) := KG2.out.cell 1
  have zz : w.heap.size + 1 < w2.heap.size := KP2.out.lt
  clear b2 s1 p1 q1 KG1 KP1 D1
  go_wp2_with fail
  refine (inSpan_any lo hi T _ v2).mono ?_
  rintro e w3 ⟨rfl, b3⟩
  have KG3 := hid (KG2.out.below b3 KG2.out.lt)
  have KP3 := hid (KP2.out.below b3 KP2.out.lt)
  have s3 := hid ((s2.out.below b3 (Nat.le_refl _)).more b3.size)
  have p3 := hid ((p2.out.below b3 (Nat.le_refl _)).more b3.size)
  have q3 := hid ((q2.out.below b3 (Nat.le_refl _)).more b3.size)
  have D3 := hid (D2.out.trans (b3.mono (by omega)))
  have z3 : w.heap.size + 1 < w3.heap.size := KP3.out.lt
  clear k0 g0' g1' zz b3 s2 p2 q2 KG2 KP2 D2
  have k2 : w3.cell? ⟨w.heap.size, 2, none⟩ = some (.slice a S.length C) := KG3.out.cell 2
  obtain ⟨x, hx⟩ : ∃ x, withinB T lo hi = x := ⟨_, rfl⟩
  have HX := hid hx
  rw [hx]
  clear hx
  cases x
  · have HE := hid (show hldB T cs cp lo hi S cn = false by unfold hldB; rw [HX.out, Bool.false_and, Bool.and_false])
    go_wp2
    go_ret
    exact ⟨ret_bool HE.out.symm, D3.out⟩
  · go_wp2_with fail
    go_loopw [26] (fun i wr => ∃ k : Nat, k ≤ S.length ∧ i = .int .i64 k ∧ (List.range k).all (hldK cs S) = true ∧ Below w3.heap.size w3 wr) (fun i _ => S.length - (intOf i).toNat)
    case atStart => exact ⟨0, Nat.zero_le _, rfl, rfl, Below.refl _ _⟩
    case round =>
      obtain ⟨k, hk, rfl, hall, hb⟩ := hrel
      have HA := hid hall
      have HB := hid (D3.out.trans (hb.mono D3.out.size))
      have HBW := hid hb
      have KGR := hid (KG3.out.below hb KG3.out.lt)
      have KPR := hid (KP3.out.below hb KP3.out.lt)
      have k0 : wr.cell? ⟨w.heap.size + 1, 1, none⟩ = some (.slice A1 cs.length c1) := KPR.out.cell 1
      have k3 : wr.cell? ⟨w.heap.size + 1, 2, none⟩ = some (.slice A2 cp.length c2) := KPR.out.cell 2
      have k4 : wr.cell? ⟨w.heap.size, 3, none⟩ = some (.int .i64 cn) := KGR.out.cell 3
      have zz : w.heap.size + 1 < wr.heap.size := KPR.out.lt
      clear hall
      by_cases hlt : k < S.length
      · obtain ⟨b, off, rfl, hbb, e1, e2⟩ := s3.out.get2 hlt
        have hlt2 : k < cs.length := by have := HCS.out; omega
        obtain ⟨b', off', rfl, hbb', e3⟩ := p3.out.get1 hlt2
        have hvs := HV1.out k hlt
        obtain ⟨lk, hlk⟩ : ∃ x, g1 S k = x := ⟨_, rfl⟩
        obtain ⟨hk', hhk⟩ : ∃ x, g2 S k = x := ⟨_, rfl⟩
        obtain ⟨n, hn⟩ : ∃ x, g0 cs k = x := ⟨_, rfl⟩
        rw [hlk, hhk] at hvs
        have d1 : wr.cell? ⟨b, off + k * 2, none⟩ = some (.int .i64 lk) := (hb.cell hbb).trans (by rw [e1, hlk])
        have d2 : wr.cell? ⟨b, off + k * 2 + 1, none⟩ = some (.int .i64 hk') := (hb.cell hbb).trans (by rw [e2, hhk])
        have d3 : wr.cell? ⟨b', off' + k, none⟩ = some (.int .i64 n) := (hb.cell hbb').trans (by rw [e3, hn])
        have hbw : b < wr.heap.size := by have := hb.size; omega
        have hbw' : b' < wr.heap.size := by have := hb.size; omega
        have HHK := hid (show hldK cs S k = withinB n lk hk' by unfold hldK; rw [hlk, hhk, hn])
        have DA := hid (HBW.out.alloc HBW.out.size (.cells #[.int .i64 lk, .int .i64 hk'] 49))
        have DB := hid (HB.out.alloc HB.out.size (.cells #[.int .i64 lk, .int .i64 hk'] 49))
        have hsw := HBW.out.size
        have hkc : (k : Int) < (cs.length : Int) := by omega
        have hkz : (k : Int) < (S.length : Int) := by omega
        obtain ⟨y, hy⟩ : ∃ y, withinB n lk hk' = y := ⟨_, rfl⟩
        rw [hy] at HHK
        have HY := hid hy
        have n0 : (wr.alloc (.cells #[.int .i64 lk, .int .i64 hk'] 49)).cell? ⟨wr.heap.size, 0, none⟩ = some (.int .i64 lk) := by simp [go_sem]
        have n1 : (wr.alloc (.cells #[.int .i64 lk, .int .i64 hk'] 49)).cell? ⟨wr.heap.size, 1, none⟩ = some (.int .i64 hk') := by simp [go_sem]
        have n2 : (wr.alloc (.cells #[.int .i64 lk, .int .i64 hk'] 49)).cell? ⟨w.heap.size + 1, 1, none⟩ = some (.slice (some ⟨b', off', none⟩) cs.length c1) := (World.cell?_alloc_lt _ _ _ zz).trans k0
        have n3 : (wr.alloc (.cells #[.int .i64 lk, .int .i64 hk'] 49)).cell? ⟨b', off' + k, none⟩ = some (.int .i64 n) := (World.cell?_alloc_lt _ _ _ hbw').trans d3
        have q0 : wr.heap.size < (wr.alloc (.cells #[.int .i64 lk, .int .i64 hk'] 49)).heap.size := by simp
        have q1 : w.heap.size + 1 < (wr.alloc (.cells #[.int .i64 lk, .int .i64 hk'] 49)).heap.size := by simp; omega
        have q2 : b' < (wr.alloc (.cells #[.int .i64 lk, .int .i64 hk'] 49)).heap.size := by simp; omega
        clear e1 e2 e3 hlk hhk hn hy hb
        go_wp2_with fail
        go_region_held3 (fun x => x.cell? ⟨wr.heap.size, 0, none⟩ = some (.int .i64 lk) ∧ x.cell? ⟨wr.heap.size, 1, none⟩ = some (.int .i64 hk') ∧ x.cell? ⟨w.heap.size + 1, 1, none⟩ = some (.slice (some ⟨b', off', none⟩) cs.length c1) ∧ x.cell? ⟨b', off' + k, none⟩ = some (.int .i64 n)) (((repeat' apply And.intro) <;> first | assumption | (simp [go_sem, *]; done))) ((go_at_call 47; refine (inSpan_any lk hk' n _ hvs).mono ?_; rintro e w5 ⟨rfl, b5⟩; rw [HY.out]; have m0 : w5.cell? ⟨wr.heap.size, 0, none⟩ = some (.int .i64 lk) := (b5.cell (p := ⟨wr.heap.size, 0, none⟩) q0).trans n0; have m1 : w5.cell? ⟨wr.heap.size, 1, none⟩ = some (.int .i64 hk') := (b5.cell (p := ⟨wr.heap.size, 1, none⟩) q0).trans n1; have m2 : w5.cell? ⟨w.heap.size + 1, 1, none⟩ = some (.slice (some ⟨b', off', none⟩) cs.length c1) := (b5.cell (p := ⟨w.heap.size + 1, 1, none⟩) q1).trans n2; have m3 : w5.cell? ⟨b', off' + k, none⟩ = some (.int .i64 n) := (b5.cell (p := ⟨b', off' + k, none⟩) q2).trans n3))
        have b5' : Below (wr.alloc (.cells #[.int .i64 lk, .int .i64 hk'] 49)).heap.size (wr.alloc (.cells #[.int .i64 lk, .int .i64 hk'] 49)) w5 := ⟨b5.os, b5.tape, b5.output, b5.size, b5.block⟩
        have DA5 := hid (DA.out.trans (b5'.mono DA.out.size))
        have DB5 := hid (DB.out.trans (b5'.mono DB.out.size))
        clear b5 b5'
        cases y
        · have HE := hid (show hldB T cs cp lo hi S cn = false by unfold hldB; rw [range_all_no hlt HHK.out, Bool.false_and])
          go_wp2
          go_ret
          exact ⟨ret_bool HE.out.symm, DB5.out⟩
        · go_wp2
          go_roundw
          case rel => exact ⟨k + 1, by omega, by go_num, range_all_succ HA.out HHK.out, DA5.out⟩
          case measure => simp [intOf]; omega
      · have hkl : k = S.length := by omega
        have HR := hid (show hldB T cs cp lo hi S cn = (decide (cn = 0) || hasN cp cn) by
          unfold hldB; rw [← hkl, HA.out, HX.out]; rfl)
        have qr := (q3.out.below hb (Nat.le_refl _)).more hb.size
        subst hkl
        clear hb k0
        by_cases hz : cn = 0
        · have e1 : (cn == 0) = true := by rw [hz]; rfl
          have HE := hid (show hldB T cs cp lo hi S cn = true by rw [HR.out, decide_eq_true hz]; rfl)
          clear hz
          go_wp2
          go_ret
          exact ⟨ret_bool HE.out.symm, HB.out⟩
        · have e1 : (cn == 0) = false := beq_eq_false_iff_ne.2 hz
          have HE := hid (show hldB T cs cp lo hi S cn = hasN cp cn by rw [HR.out, decide_eq_false hz]; rfl)
          clear hz
          go_wp2_with fail
          refine (hasNumber_any cp cn A2 c2 _ qr (by omega)).mono ?_
          rintro e w5 ⟨rfl, b5⟩
          have DB5 := hid (HB.out.trans (b5.mono HB.out.size))
          clear b5 qr
          go_wp2
          go_ret
          exact ⟨ret_bool HE.out.symm, DB5.out⟩

end Go.Proofs.YtkgofklpogdpmaaGreat

/- Contract: guards that hold, as the paper says it. -/
namespace Go.Proofs.YtkgofklpogdpmaaGreat
open Go.RowKit

set_option maxHeartbeats 3200000 in
set_option maxRecDepth 100000 in
theorem holds_any (lo hi cn : Int) (a : Option Addr) (C : Nat) (S : List (Int × Int)) (T : Int) (cs cp : List Int) (A1 A2 : Option Addr) (c1 c2 : Nat) (w : World) (hS : Sl enc2 2 w w.heap.size a S) (h1 : Sl enc1 1 w w.heap.size A1 cs) (h2 : Sl enc1 1 w w.heap.size A2 cp) (hcl : cp.length ≤ 3) (hl : S.length = 3) (hcs : cs.length = 3) :
    Calls Tryz.prog 60 #[.agg #[.int .i64 lo, .int .i64 hi, .slice a S.length C, .int .i64 cn], .agg #[.int .i64 T, .slice A1 cs.length c1, .slice A2 cp.length c2]] w fun e w' => e = .returned (.bool (hldB T cs cp lo hi S cn)) ∧ Below w.heap.size w w' := by
  have hS3 : S.length ≤ 3 := by omega
  have HCS := hid (show S.length = cs.length by omega)
  have HKG := hid (Blk.new w 52 #[.int .i64 lo, .int .i64 hi, .slice a S.length C, .int .i64 cn])
  have HKP := hid (Blk.new (w.alloc (.cells #[.int .i64 lo, .int .i64 hi, .slice a S.length C, .int .i64 cn] 52)) 42 #[.int .i64 T, .slice A1 cs.length c1, .slice A2 cp.length c2])
  obtain ⟨w0, hw0⟩ : ∃ x, x = (w.alloc (.cells #[.int .i64 lo, .int .i64 hi, .slice a S.length C, .int .i64 cn] 52)).alloc (.cells #[.int .i64 T, .slice A1 cs.length c1, .slice A2 cp.length c2] 42) := ⟨_, rfl⟩
  have KG0 := hid (show Blk w0 w.heap.size 52 #[.int .i64 lo, .int .i64 hi, .slice a S.length C, .int .i64 cn] by rw [hw0]; exact HKG.out.alloc _)
  have KP0 := hid (show Blk w0 (w.heap.size + 1) 42 #[.int .i64 T, .slice A1 cs.length c1, .slice A2 cp.length c2] by rw [hw0]; have := HKP.out; simpa only [World.size_alloc] using this)
  have D0 := hid (show Below w.heap.size w w0 by rw [hw0]; repeat (first | exact Below.refl _ _ | (refine Below.alloc ?_ (by (try simp) <;> omega) _) | (refine Below.setCell ?_ (by (try simp) <;> omega) _) | (refine Below.drew ?_) | (refine below_drewN ?_ _) | (refine Below.trans ?_ (Below.mono (by assumption) (by (try simp) <;> omega)))))
  have hz0 : w0.heap.size = w.heap.size + 1 + 1 := by rw [hw0]; simp
  have s0 := hid ((hS.below D0.out (Nat.le_refl _)).more (show w.heap.size ≤ w0.heap.size by omega))
  have p0 := hid ((h1.below D0.out (Nat.le_refl _)).more (show w.heap.size ≤ w0.heap.size by omega))
  have q0 := hid ((h2.below D0.out (Nat.le_refl _)).more (show w.heap.size ≤ w0.heap.size by omega))
  have HW := hid hw0
  have hzz : w.heap.size + 1 < w0.heap.size := by omega
  clear HKG HKP hS h1 h2 hw0 hz0 hl hcs
  go_enter Tryz.func60, Tryz.ntmps60
  go_wp2_with fail
  rw [← HW.out]
  go_loopw [5] (fun i wr => ∃ k : Nat, k ≤ S.length ∧ i = .int .i64 k ∧ (List.range k).all (hldK cs S) = true ∧ Below w0.heap.size w0 wr) (fun i _ => S.length - (intOf i).toNat)
  case atStart => exact ⟨0, Nat.zero_le _, rfl, rfl, Below.refl _ _⟩
  case round =>
    obtain ⟨k, hk, rfl, hall, hb⟩ := hrel
    have HA := hid hall
    have HB := hid (D0.out.trans (hb.mono D0.out.size))
    have HBW := hid hb
    have KGR := hid (KG0.out.below hb KG0.out.lt)
    have KPR := hid (KP0.out.below hb KP0.out.lt)
    have k1 : wr.cell? ⟨w.heap.size + 1, 0, none⟩ = some (.int .i64 T) := KPR.out.cell 0
    have k0 : wr.cell? ⟨w.heap.size + 1, 1, none⟩ = some (.slice A1 cs.length c1) := KPR.out.cell 1
    have k3 : wr.cell? ⟨w.heap.size + 1, 2, none⟩ = some (.slice A2 cp.length c2) := KPR.out.cell 2
    have g0' : wr.cell? ⟨w.heap.size, 0, none⟩ = some (.int .i64 lo) := KGR.out.cell 0
    have g1' : wr.cell? ⟨w.heap.size, 1, none⟩ = some (.int .i64 hi) := KGR.out.cell 1
    have g2' : wr.cell? ⟨w.heap.size, 2, none⟩ = some (.slice a S.length C) := KGR.out.cell 2
    have k4 : wr.cell? ⟨w.heap.size, 3, none⟩ = some (.int .i64 cn) := KGR.out.cell 3
    have zz : w.heap.size + 1 < wr.heap.size := KPR.out.lt
    have zz' : w.heap.size < wr.heap.size := by omega
    clear hall
    by_cases hlt : k < S.length
    · obtain ⟨b, off, rfl, hbb, e1, e2⟩ := s0.out.get2 hlt
      have hlt2 : k < cs.length := by have := HCS.out; omega
      obtain ⟨b', off', rfl, hbb', e3⟩ := p0.out.get1 hlt2
      obtain ⟨lk, hlk⟩ : ∃ x, g1 S k = x := ⟨_, rfl⟩
      obtain ⟨hk', hhk⟩ : ∃ x, g2 S k = x := ⟨_, rfl⟩
      obtain ⟨n, hn⟩ : ∃ x, g0 cs k = x := ⟨_, rfl⟩
      have d1 : wr.cell? ⟨b, off + k * 2, none⟩ = some (.int .i64 lk) := (hb.cell hbb).trans (by rw [e1, hlk])
      have d2 : wr.cell? ⟨b, off + k * 2 + 1, none⟩ = some (.int .i64 hk') := (hb.cell hbb).trans (by rw [e2, hhk])
      have d3 : wr.cell? ⟨b', off' + k, none⟩ = some (.int .i64 n) := (hb.cell hbb').trans (by rw [e3, hn])
      have hbw : b < wr.heap.size := by have := hb.size; omega
      have hbw' : b' < wr.heap.size := by have := hb.size; omega
      have HHK := hid (show hldK cs S k = withinB n lk hk' by unfold hldK; rw [hlk, hhk, hn])
      have hkc : (k : Int) < (cs.length : Int) := by omega
      have hkz : (k : Int) < (S.length : Int) := by omega
      clear e1 e2 e3 hlk hhk hn hb
      by_cases hy : withinB n lk hk' = true
      · have HY := hid hy
        go_wp2_with fail
        go_quiet ((go_at_call 51; first | exact quiet_same (inRange_yes (by assumption) _) | exact quiet_same (inRange_no (by assumption) _)))
        go_wp2
        go_roundw
        case rel => exact ⟨k + 1, by omega, by go_num, range_all_succ HA.out (HHK.out.trans HY.out), below_drewN HBW.out _⟩
        case measure => simp [intOf]; omega
      · have hy' : withinB n lk hk' = false := by simpa using hy
        have HE := hid (show hldB T cs cp lo hi S cn = false by unfold hldB; rw [range_all_no hlt (HHK.out.trans hy'), Bool.false_and])
        clear hy
        go_wp2_with fail
        go_quiet ((go_at_call 51; first | exact quiet_same (inRange_yes (by assumption) _) | exact quiet_same (inRange_no (by assumption) _)))
        go_wp2
        go_ret
        exact ⟨ret_bool HE.out.symm, below_drewN HB.out _⟩
    · have hkl : k = S.length := by omega
      have HR := hid (show hldB T cs cp lo hi S cn = (withinB T lo hi && (decide (cn = 0) || hasN cp cn)) by
        unfold hldB; rw [← hkl, HA.out]; rfl)
      have qr := (q0.out.below hb (Nat.le_refl _)).more hb.size
      subst hkl
      clear hb k0
      by_cases hx : withinB T lo hi = true
      · by_cases hz : cn = 0
        · have e1 : (cn == 0) = true := by rw [hz]; rfl
          have HE := hid (show hldB T cs cp lo hi S cn = true by rw [HR.out, decide_eq_true hz, hx]; rfl)
          clear hz
          go_wp2_with (go_at_call 51; (first | (refine (inRange_yes (by assumption) _).mono ?_) | (refine (inRange_no (by assumption) _).mono ?_)); rintro e w' ⟨rfl, rfl⟩)
          go_ret
          exact ⟨ret_bool HE.out.symm, HB.out⟩
        · have e1 : (cn == 0) = false := beq_eq_false_iff_ne.2 hz
          have HE := hid (show hldB T cs cp lo hi S cn = hasN cp cn by rw [HR.out, decide_eq_false hz, hx]; rfl)
          clear hz
          go_wp2_with (go_at_call 51; (first | (refine (inRange_yes (by assumption) _).mono ?_) | (refine (inRange_no (by assumption) _).mono ?_)); rintro e w' ⟨rfl, rfl⟩)
          refine (isIn_any cp cn A2 c2 _ qr (by omega)).mono ?_
          rintro e w5 ⟨rfl, b5⟩
          have DB5 := hid (HB.out.trans (b5.mono HB.out.size))
          clear b5 qr
          go_wp2
          go_ret
          exact ⟨ret_bool HE.out.symm, DB5.out⟩
      · have hx' : withinB T lo hi = false := by simpa using hx
        have HE := hid (show hldB T cs cp lo hi S cn = false by rw [HR.out, hx']; rfl)
        clear hx
        go_wp2_with (go_at_call 51; (first | (refine (inRange_yes (by assumption) _).mono ?_) | (refine (inRange_no (by assumption) _).mono ?_)); rintro e w' ⟨rfl, rfl⟩)
        go_ret
        exact ⟨ret_bool HE.out.symm, HB.out⟩

end Go.Proofs.YtkgofklpogdpmaaGreat
