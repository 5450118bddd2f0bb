/- The walk of the law that values add up. -/
import Derived.Test.YtcjcolkhhmpmjaaDrawChange
import Derived.Test.YtcjcolkhhmpmjaaTillValS
import Derived.Deep.RegionHeld3
namespace Go.Proofs.Ytcjcolkhhmpmjaa
open Go.RowKit

theorem tv_at {m : List (Int × Int)} {n : Nat} (hn : n = m.length) {A : Option Addr} {cap : Nat} {w : World} (h : Sl enc2 2 w w.heap.size A m) (hl : m.length ≤ 1048576) {v : Int} (hv : tvalI m = v) :
    Calls Try.prog 21 #[.slice A n cap] w fun e w' => e = .returned (.int .i64 v) ∧ Below w.heap.size w w' := by
  subst hn; subst hv; exact tillValue_any m A cap w h hl

set_option maxHeartbeats 400000 in
set_option maxRecDepth 100000 in
theorem fnTillValue_walk (w : World) (A : Option Addr) (len cap : Nat) (h : Bytes w w.heap.size A len cap) :
    Calls Try.prog 4 #[.slice A len cap] w fun e w' => e = .returned (.bool true) ∧ Below w.heap.size w w' := by
  by_cases hl : 1048576 < len
  · clear h
    go_enter Try.func4, Try.ntmps4
    go_wp2
    go_ret
    exact ⟨rfl, Below.refl _ _⟩
  · go_enter Try.func4, Try.ntmps4
    go_wp2_with fail
    refine (drawTillValue_any _ _ _ _ h).mono ?_
    rintro e w1 ⟨l, v, rfl, l6, o1, D1⟩
    clear h
    obtain ⟨A1, c1, rfl, hlc, q1⟩ := o1.reads len2
    clear o1
    by_cases hv : vTill l = true
    · have hST := vTill_iff.1 hv
      obtain ⟨k, hk⟩ : ∃ k : Nat, l.length / 2 = k := ⟨_, rfl⟩
      have hkl : k ≤ l.length := by omega
      have hki : (l.length : Int) / 2 = (k : Int) := by omega
      have HKI := hid hki
      have hb := tval_of hST
      have h1 := tval_of (hST.sub (List.take_sublist k l))
      have h2 := tval_of (hST.sub (List.drop_sublist k l))
      have hs : tval l = tval (l.take k) + tval (l.drop k) := by rw [← tval_append, List.take_append_drop]
      obtain ⟨X, hX⟩ : ∃ x, tval (l.take k) = x := ⟨_, rfl⟩
      obtain ⟨Y, hY⟩ : ∃ x, tval (l.drop k) = x := ⟨_, rfl⟩
      obtain ⟨T, hT⟩ : ∃ x, tval l = x := ⟨_, rfl⟩
      rw [hX] at h1 hs
      rw [hY] at h2 hs
      rw [hT] at hb hs
      have HT := hid (show tvalI l = T by rw [tvalI, hv, if_pos rfl, hT])
      have HX := hid (show tvalI (l.take k) = X by rw [tvalI, vTill_iff.2 (hST.sub (List.take_sublist k l)), if_pos rfl, hX])
      have HY := hid (show tvalI (l.drop k) = Y by rw [tvalI, vTill_iff.2 (hST.sub (List.drop_sublist k l)), if_pos rfl, hY])
      have HL1 := hid (show k = (l.take k).length by rw [List.length_take]; omega)
      have HL2 := hid (show l.length - k = (l.drop k).length by rw [List.length_drop])
      obtain ⟨hb1, hb2⟩ := hb
      obtain ⟨hx1, hx2⟩ := h1
      obtain ⟨hy1, hy2⟩ := h2
      have HS := hid hs
      clear hX hY hT hs hST hv hki hk
      go_wp2_with fail
      refine (tillValue_any l A1 c1 _ q1 (by omega)).mono ?_
      rintro e w2 ⟨rfl, b2⟩
      rw [HT.out]
      have D2 := D1.trans (b2.mono D1.size)
      have q2 := (q1.below b2 (Nat.le_refl _)).more b2.size
      clear b2 D1 q1
      go_wp2_with fail
      refine (specTillValue_any l A1 c1 _ q2 (by omega)).mono ?_
      rintro e w3 ⟨rfl, b3⟩
      rw [HT.out]
      have D3 := D2.trans (b3.mono D2.size)
      have q3 := (q2.below b3 (Nat.le_refl _)).more b3.size
      have hB3 : w3.heap.size ≤ w3.heap.size := Nat.le_refl _
      clear b3 D2 q2
      have q3d : Sl enc2 2 w3.drew w3.heap.size A1 l := q3
      have hB3d : w3.heap.size ≤ w3.drew.heap.size := Nat.le_refl _
      have hki := HKI.out
      have w1 : IntKind.i64.wrap (X + Y) = X + Y := IntWalk.i64_in _ (by omega)
      have e1 : (X + Y == T) = true := by rw [HS.out]; simp
      have hk0 : (0 : Int) ≤ (k : Int) := by omega
      have hkl' : (k : Int) ≤ (l.length : Int) := by omega
      have hkc : (k : Int) ≤ (c1 : Int) := by omega
      have hdr := fun (x : World) (hx : Sl enc2 2 x w3.heap.size A1 l) => hx.drop hlc hkl
      by_cases hck : c1 = k
      · simp only [if_pos hck] at hdr
        have HDR := hid hdr
        clear hdr
        go_wp2_with fail
        clear hki
        go_region_held3 (fun x => Sl enc2 2 x w3.heap.size A1 l) ((first | exact q3d | exact q5 | exact q6))
          ((first
            | (go_at_call 21; (with_reducible refine Calls.mono (tv_at (w := w3.drew) HL1.out ((q3d.take k).more hB3d) (by have := HL1.out; omega) HX.out) ?_); rintro e w5 ⟨rfl, b5⟩; have q5 : Sl enc2 2 w5 w3.heap.size A1 l := q3d.below b5 hB3d; have z5 : w3.heap.size ≤ w5.heap.size := Nat.le_trans hB3d b5.size)
            | (go_at_call 21; (with_reducible refine Calls.mono (tv_at (w := w5) HL2.out ((HDR.out _ q5).more z5) (by have := HL2.out; omega) HY.out) ?_); rintro e w6 ⟨rfl, b6⟩; have q6 : Sl enc2 2 w6 w3.heap.size A1 l := q5.below b6 z5)))
        have DD := hid (D3.drew.trans ((b5.trans (b6.mono b5.size)).mono D3.size))
        clear q3 q3d q5 q6 D3 b5 b6
        go_wp2
        go_ret
        exact ⟨rfl, DD.out⟩
      · simp only [if_neg hck] at hdr
        have HDR := hid hdr
        clear hdr
        go_wp2_with fail
        clear hki
        go_region_held3 (fun x => Sl enc2 2 x w3.heap.size A1 l) ((first | exact q3d | exact q5 | exact q6))
          ((first
            | (go_at_call 21; (with_reducible refine Calls.mono (tv_at (w := w3.drew) HL1.out ((q3d.take k).more hB3d) (by have := HL1.out; omega) HX.out) ?_); rintro e w5 ⟨rfl, b5⟩; have q5 : Sl enc2 2 w5 w3.heap.size A1 l := q3d.below b5 hB3d; have z5 : w3.heap.size ≤ w5.heap.size := Nat.le_trans hB3d b5.size)
            | (go_at_call 21; (with_reducible refine Calls.mono (tv_at (w := w5) HL2.out ((HDR.out _ q5).more z5) (by have := HL2.out; omega) HY.out) ?_); rintro e w6 ⟨rfl, b6⟩; have q6 : Sl enc2 2 w6 w3.heap.size A1 l := q5.below b6 z5)))
        have DD := hid (D3.drew.trans ((b5.trans (b6.mono b5.size)).mono D3.size))
        clear q3 q3d q5 q6 D3 b5 b6
        go_wp2
        go_ret
        exact ⟨rfl, DD.out⟩
    · have hv' : vTill l = false := by simpa using hv
      have HT := hid (show tvalI l = -1 by simp [tvalI, hv'])
      clear hv hv' hlc
      go_wp2_with fail
      refine (tillValue_any l A1 c1 _ q1 (by omega)).mono ?_
      rintro e w2 ⟨rfl, b2⟩
      rw [HT.out]
      have D2 := D1.trans (b2.mono D1.size)
      have q2 := (q1.below b2 (Nat.le_refl _)).more b2.size
      clear b2 D1 q1
      go_wp2_with fail
      refine (specTillValue_any l A1 c1 _ q2 (by omega)).mono ?_
      rintro e w3 ⟨rfl, b3⟩
      rw [HT.out]
      have D3 := D2.trans (b3.mono D2.size)
      have q3 := (q2.below b3 (Nat.le_refl _)).more b3.size
      clear b3 D2 q2
      go_wp2_with fail
      refine (specTillValue_any l A1 c1 _ q3 (by omega)).mono ?_
      rintro e w4 ⟨rfl, b4⟩
      rw [HT.out]
      have DD := hid (D3.trans (b4.mono D3.size))
      clear b4 D3 q3
      go_wp2
      go_ret
      exact ⟨rfl, DD.out⟩

end Go.Proofs.Ytcjcolkhhmpmjaa
