/- Contracts: receipts compared, and what is paid for a receipt. -/
import Derived.Test.YtkgofklpogdpmaaGreatZRofI
import Derived.Test.YtkgofklpogdpmaaGreatZE
import Derived.Test.YtkgofklpogdpmaaGreatZB
namespace Go.Proofs.YtkgofklpogdpmaaGreat
open Go.RowKit

set_option maxHeartbeats 1600000 in
theorem equalNotes_same (l : List (Int × Int × Int)) (A A' : Option Addr) (cap cap' : Nat) (w : World) (h : Sl enc3 3 w w.heap.size A l) (h' : Sl enc3 3 w w.heap.size A' l) (hl : l.length ≤ 1048576) :
    Calls Tryz.prog 25 #[.slice A l.length cap, .slice A' l.length cap'] w fun e w' => e = .returned (.bool true) ∧ Below w.heap.size w w' := by
  go_enter Tryz.func25, Tryz.ntmps25
  go_wp2_with fail
  go_loopw [5] (fun i wr => ∃ k : Nat, k ≤ l.length ∧ i = .int .i64 k ∧ Below w.heap.size w wr) (fun i _ => l.length - (intOf i).toNat)
  case atStart => exact ⟨0, Nat.zero_le _, rfl, Below.refl _ _⟩
  case round =>
    obtain ⟨k, hk, rfl, hb⟩ := hrel
    by_cases hlt : k < l.length
    · obtain ⟨b, off, rfl, hbb, c0, c1, c2⟩ := h.get3 hlt
      obtain ⟨b', off', rfl, hbb', u0, u1, u2⟩ := h'.get3 hlt
      have d0 : wr.cell? ⟨b, off + k * 3, none⟩ = some (.int .i64 (t1 l k)) := (hb.cell hbb).trans c0
      have d1 : wr.cell? ⟨b, off + k * 3 + 1, none⟩ = some (.int .i64 (t2 l k)) := (hb.cell hbb).trans c1
      have d2 : wr.cell? ⟨b, off + k * 3 + 2, none⟩ = some (.int .i64 (t3 l k)) := (hb.cell hbb).trans c2
      have v0 : wr.cell? ⟨b', off' + k * 3, none⟩ = some (.int .i64 (t1 l k)) := (hb.cell hbb').trans u0
      have v1 : wr.cell? ⟨b', off' + k * 3 + 1, none⟩ = some (.int .i64 (t2 l k)) := (hb.cell hbb').trans u1
      have v2 : wr.cell? ⟨b', off' + k * 3 + 2, none⟩ = some (.int .i64 (t3 l k)) := (hb.cell hbb').trans u2
      have hkl : (k : Int) < (l.length : Int) := by omega
      clear c0 c1 c2 u0 u1 u2
      go_wp2_with fail
      go_quiet (fail)
      go_wp2
      go_roundw
      case rel =>
        refine ⟨k + 1, by omega, by go_num, ?_⟩
        repeat (first | exact Below.refl _ _ | (refine Below.alloc ?_ (by (try simp) <;> omega) _) | (refine Below.setCell ?_ (by (try simp) <;> omega) _) | (refine Below.drew ?_) | (refine below_drewN ?_ _) | (refine Below.trans ?_ (Below.mono (by assumption) (by (try simp) <;> omega))))
      case measure => simp [intOf]; omega
    · have hkl : k = l.length := by omega
      subst hkl
      go_wp2
      go_ret
      exact ⟨rfl, hb⟩


set_option maxHeartbeats 1600000 in
set_option maxRecDepth 100000 in
theorem equalReceipt_same (l : List Int) (q : List (Int × Int × Int)) (A1 A2 B1 B2 : Option Addr) (c1 c2 d1 d2 : Nat) (w : World) (h1 : Sl enc1 1 w w.heap.size A1 l) (h2 : Sl enc3 3 w w.heap.size A2 q) (k1 : Sl enc1 1 w w.heap.size B1 l) (k2 : Sl enc3 3 w w.heap.size B2 q) (hl : l.length ≤ 1048576) (hq : q.length ≤ 1048576) :
    Calls Tryz.prog 7 #[.agg #[.slice A1 l.length c1, .slice A2 q.length c2], .agg #[.slice B1 l.length d1, .slice B2 q.length d2]] w fun e w' => e = .returned (.bool true) ∧ Below w.heap.size w w' := by
  have HKG := hid (Blk.new w 31 #[.slice A1 l.length c1, .slice A2 q.length c2])
  have HKP := hid (Blk.new (w.alloc (.cells #[.slice A1 l.length c1, .slice A2 q.length c2] 31)) 31 #[.slice B1 l.length d1, .slice B2 q.length d2])
  obtain ⟨w0, hw0⟩ : ∃ x, x = (w.alloc (.cells #[.slice A1 l.length c1, .slice A2 q.length c2] 31)).alloc (.cells #[.slice B1 l.length d1, .slice B2 q.length d2] 31) := ⟨_, rfl⟩
  have KG0 := hid (show Blk w0 w.heap.size 31 #[.slice A1 l.length c1, .slice A2 q.length c2] by rw [hw0]; exact HKG.out.alloc _)
  have KP0 := hid (show Blk w0 (w.heap.size + 1) 31 #[.slice B1 l.length d1, .slice B2 q.length d2] by rw [hw0]; have := HKP.out; simpa only [World.size_alloc] using this)
  have D0 := hid (show Below w.heap.size w w0 by rw [hw0]; repeat (first | exact Below.refl _ _ | (refine Below.alloc ?_ (by (try simp) <;> omega) _) | (refine Below.setCell ?_ (by (try simp) <;> omega) _) | (refine Below.drew ?_) | (refine below_drewN ?_ _) | (refine Below.trans ?_ (Below.mono (by assumption) (by (try simp) <;> omega)))))
  have hz0 : w0.heap.size = w.heap.size + 1 + 1 := by rw [hw0]; simp
  have HW := hid hw0
  have m1 := (h1.below D0.out (Nat.le_refl _)).more (show w.heap.size ≤ w0.heap.size by omega)
  have m2 := (h2.below D0.out (Nat.le_refl _)).more (show w.heap.size ≤ w0.heap.size by omega)
  have n1 := (k1.below D0.out (Nat.le_refl _)).more (show w.heap.size ≤ w0.heap.size by omega)
  have n2 := (k2.below D0.out (Nat.le_refl _)).more (show w.heap.size ≤ w0.heap.size by omega)
  clear HKG HKP h1 h2 k1 k2 hw0
  go_enter Tryz.func7, Tryz.ntmps7
  go_wp2_with fail
  rw [← HW.out]
  refine (equalInts_same l A1 B1 c1 d1 w0 m1 n1 hl).mono ?_
  rintro e w1 ⟨rfl, b1⟩
  have KG1 := hid (KG0.out.below b1 KG0.out.lt)
  have KP1 := hid (KP0.out.below b1 KP0.out.lt)
  have r1 : w1.cell? ⟨w.heap.size, 1, none⟩ = some (.slice A2 q.length c2) := KG1.out.cell 1
  have r2 : w1.cell? ⟨w.heap.size + 1, 1, none⟩ = some (.slice B2 q.length d2) := KP1.out.cell 1
  have zz : w.heap.size + 1 < w1.heap.size := KP1.out.lt
  have D1 := hid (D0.out.trans (b1.mono D0.out.size))
  have x2 := (m2.below b1 (Nat.le_refl _)).more b1.size
  have y2 := (n2.below b1 (Nat.le_refl _)).more b1.size
  clear b1 m1 m2 n1 n2
  go_wp2_with fail
  refine (equalNotes_same q A2 B2 c2 d2 w1 x2 y2 hq).mono ?_
  rintro e w2 ⟨rfl, b2⟩
  have D2 := hid (D1.out.trans (b2.mono D1.out.size))
  clear b2 x2 y2 r1 r2
  go_wp2
  go_ret
  exact ⟨rfl, D2.out⟩

/-- What is left of a receipt lies in a small range. -/
theorem rcp_ok {s : List (Int × Int × Int × Int)} {c : List (Int × Int)} {cu : List Int} {l o : List ((Int × Int × Int × Int × Int × Int × Int) × (Int × Int) × (Option Addr × Nat × List (Int × Int)) × Int)} (hok : rcpOk s c cu l = true) (ho : OrdList l o) : fitTax s c (rcpOf s c cu o).1 = true ∧ (rcpOf s c cu o).1.length = c.length ∧ c.length ≤ 8 ∧ (rcpOf s c cu o).2.length ≤ 48 ∧ ∀ k, k < c.length → 0 ≤ g0 (rcpOf s c cu o).1 k ∧ g0 (rcpOf s c cu o).1 k ≤ 100000 := by
  unfold rcpOk at hok
  simp only [Bool.and_eq_true] at hok
  obtain ⟨⟨⟨hs, hc⟩, hu⟩, hr, hclr⟩ := hok
  have hv := fun k (hk : k < o.length) => ord_valid hr ho hk
  have hl := rcp_left (T := tot (g0 (amts s c)) c.length) (cs := cnts s c c.length) (cp := cu) hs hc (vLeft_amts hs hc) hv o.length (Nat.le_refl _)
  have hn := rcp_notes (T := tot (g0 (amts s c)) c.length) (cs := cnts s c c.length) (cp := cu) hs hc (vLeft_amts hs hc) hv o.length (Nat.le_refl _)
  rw [List.take_length] at hl hn
  have hol := ord_len ho
  have hl6 := vRules_len hr
  refine ⟨?_, vLeft_len hl, (vCart_iff.1 hc).2.2, ?_, fun k hk => left_at hs hc hl hk⟩
  · unfold fitTax; rw [hs, hc]; exact hl
  · show (rcpL _ _ _ _ _ _ o).2.length ≤ 48
    omega

set_option maxHeartbeats 1600000 in
set_option maxRecDepth 100000 in
theorem payOf_yes (s : List (Int × Int × Int × Int)) (c : List (Int × Int)) (cu : List Int) (l : List ((Int × Int × Int × Int × Int × Int × Int) × (Int × Int) × (Option Addr × Nat × List (Int × Int)) × Int)) (A Ac Al Ar : Option Addr) (cap capc capl capr : Nat) (w : World) (hA : Sl enc4 4 w w.heap.size A s) (hC : Sl enc2 2 w w.heap.size Ac c) (hP : Sl enc1 1 w w.heap.size Al cu) (hR : Sl encR 11 w w.heap.size Ar l) (hS : SpansIn w w.heap.size l) (hs : s.length ≤ 1000) (hc : c.length ≤ 1000) (hu : cu.length ≤ 1000) (hl : l.length ≤ 1000) (hcap : l.length ≤ capr) (hcm : capr ≤ 9223372036854775807) (hok : rcpOk s c cu l = true) :
    Calls Tryz.prog 9 #[.slice A s.length cap, .slice Ac c.length capc, .slice Al cu.length capl, .slice Ar l.length capr] w fun e w' => ∃ o, OrdList l o ∧ e = .returned (.int .i64 (tot (g0 (rcpOf s c cu o).1) (rcpOf s c cu o).1.length)) ∧ Below w.heap.size w w' := by
  have HOK := hid hok
  have hcon := receiptOfI_any s c cu l A Ac Al Ar cap capc capl capr w hA hC hP hR hS hs hc hu hl hcap hcm
  clear hok hA hC hP hR hS
  go_enter Tryz.func9, Tryz.ntmps9
  go_wp2_with fail
  refine hcon.mono ?_
  rintro e w1 (⟨_, v, rfl, q, A1, A2, c1, c2, hq, rfl, o1, o2, b1⟩ | ⟨hno, _, _⟩)
  · have HQ := hid hq
    have HB := hid (rcp_ok HOK.out hq)
    obtain ⟨L, hL⟩ : ∃ L, (rcpOf s c cu q).1 = L := ⟨_, rfl⟩
    obtain ⟨Q, hQ⟩ : ∃ Q, (rcpOf s c cu q).2 = Q := ⟨_, rfl⟩
    have HL := hid hL
    rw [hL] at o1 HB
    rw [hL, hQ]
    have sL := (o1.sl len1).alloc (Nat.le_refl _) (.cells #[.slice A1 L.length c1, .slice A2 Q.length c2] 31)
    have sL2 := sL.more (show w1.heap.size ≤ (w1.alloc (.cells #[.slice A1 L.length c1, .slice A2 Q.length c2] 31)).heap.size by simp)
    have D1 := hid (b1.alloc b1.size (.cells #[.slice A1 L.length c1, .slice A2 Q.length c2] 31))
    have hl8 : L.length ≤ 1000 := by have := HB.out; omega
    have hbd := hid (fun k (hk : k < L.length) => show 0 ≤ g0 L k ∧ g0 L k ≤ 1000000000 by have h1 := HB.out.2.2.2.2 k (by have := HB.out.2.1; omega); omega)
    clear b1 o1 o2 hL hQ hq hcon sL
    go_wp2_with fail
    refine (total_any L A1 c1 _ sL2 hl8 hbd.out).mono ?_
    rintro e w2 ⟨rfl, rfl⟩
    go_wp2
    go_ret
    exact ⟨q, HQ.out, ret_int (by rw [HL.out]), D1.out⟩
  · rw [HOK.out] at hno; cases hno

end Go.Proofs.YtkgofklpogdpmaaGreat
