/- The walk of the law that lots can be left out. -/
import Derived.Test.YtmlmjapmhdbcpaaDrawLotA
import Derived.Test.YtmlmjapmhdbcpaaLotsV
import Derived.Test.YtmlmjapmhdbcpaaLotsL
import Derived.Test.YtmlmjapmhdbcpaaAppAny
import Derived.Deep.RegionHeld3
namespace Go.Proofs.Ytmlmjapmhdbcpaa
open Go.RowKit

set_option maxHeartbeats 400000 in
set_option maxRecDepth 100000 in
theorem fnValidLots_walk (w : World) (A : Option Addr) (len cap : Nat) (h : Bytes w w.heap.size A len cap) :
    Calls Try.prog 5 #[.slice A len cap] w fun e w' => e = .returned (.bool true) ∧ Below w.heap.size w w' := by
  by_cases hl : 1048576 < len
  · clear h
    go_enter Try.func5, Try.ntmps5
    go_wp2
    go_ret
    exact ⟨rfl, Below.refl _ _⟩
  · go_enter Try.func5, Try.ntmps5
    go_wp2_with fail
    refine (drawValidLots_any _ _ _ _ h).mono ?_
    rintro e w1 ⟨l, v, rfl, hll, o1, D1⟩
    clear h
    obtain ⟨A1, c1, rfl, hlc, q1⟩ := o1.reads len2
    clear o1
    go_wp2_with fail
    refine (validLots_any l A1 c1 _ q1 (by omega)).mono ?_
    rintro e w2 ⟨rfl, b2⟩
    have D2 := D1.trans (b2.mono D1.size)
    have q2 := (q1.below b2 (Nat.le_refl _)).more b2.size
    clear b2 D1 q1
    go_wp2_with fail
    refine (specValidLots_any l A1 c1 _ q2 (by omega)).mono ?_
    rintro e w3 ⟨rfl, b3⟩
    have D3 := D2.trans (b3.mono D2.size)
    have q3 := (q2.below b3 (Nat.le_refl _)).more b3.size
    clear b3 D2 q2
    by_cases hv : vLots l = true
    · by_cases h0 : l.length = 0
      · have hzi : (l.length == 0) = true := by simpa using h0
        have hzj : ((l.length : Int) == 0) = true := by simpa using h0
        clear hlc h0
        go_wp2_with fail
        refine (specValidLots_any l A1 c1 _ q3 (by omega)).mono ?_
        rintro e w4 ⟨rfl, b4⟩
        have D4 := hid (D3.trans (b4.mono D3.size))
        clear b4 D3 q3
        go_wp2
        go_ret
        exact ⟨ret_bool (by simp), D4.out⟩
      · have hzi : (l.length == 0) = false := by simpa using h0
        have hzj : ((l.length : Int) == 0) = false := by simpa using h0
        have hk : len % l.length < l.length := Nat.mod_lt _ (by omega)
        have hki : (len : Int) % (l.length : Int) = ((len % l.length : Nat) : Int) := by simp
        obtain ⟨k, hkk⟩ : ∃ k, len % l.length = k := ⟨_, rfl⟩
        rw [hkk] at hk hki
        have hver := vLots_erase (k := k) hv
        obtain ⟨M, hM⟩ : ∃ x, l.take k ++ l.drop (k + 1) = x := ⟨_, rfl⟩
        rw [hM] at hver
        have HV := hid hver
        have hMl : M.length ≤ 9 := by rw [← hM, List.length_append, List.length_take, List.length_drop]; omega
        have HL1 := hid (show k = (l.take k).length by rw [List.length_take]; omega)
        obtain ⟨k', hk'⟩ : ∃ k', k + 1 = k' := ⟨_, rfl⟩
        rw [hk'] at hM
        have HL2 := hid (show l.length - k' = (l.drop k').length by rw [List.length_drop])
        have hk0 : (0 : Int) ≤ (k : Int) := by omega
        have hkc : (k : Int) ≤ (c1 : Int) := by omega
        have hk1 : (0 : Int) ≤ (k' : Int) := by omega
        have hk1l : (k' : Int) ≤ (l.length : Int) := by omega
        have wk1 : IntKind.i64.wrap ((k : Int) + 1) = (k' : Int) := by rw [IntWalk.i64_in _ (by omega)]; omega
        have hkk1 : (k : Int) + 1 = (k' : Int) := by omega
        have wk3 : IntKind.i64.wrap (k' : Int) = (k' : Int) := IntWalk.i64_in _ (by omega)
        have hkk2 : (k : Int) ≤ (k' : Int) := by omega
        have hdr := q3.drop (k := k') hlc (by omega)
        have HM := hid hM
        have q3t := q3.take k
        have z3 := D3.size
        have hln1 : ([] : List (Int × Int)).length + (l.take k).length ≤ 1000000000 := by simp; omega
        have hln2 : (([] : List (Int × Int)) ++ l.take k).length + (l.drop k').length ≤ 1000000000 := by simp; omega
        clear hkk h0 hver hM hk'
        have hM63 : M.length ≤ 9223372036854775807 := by omega
        by_cases hck : c1 = k'
        · rw [if_pos hck] at hdr
          have O1 := (Own.lit0 enc2 2 41 w3 w3.heap.size rfl (Nat.le_refl _)).drew
          have B1 := ((Below.refl w3.heap.size w3).alloc (Nat.le_refl _) (.cells #[] 41)).drew
          have q3d : Sl enc2 2 (w3.alloc (.cells #[] 41)).drew w3.heap.size A1 (l.take k) := q3t.alloc (Nat.le_refl _) _
          have hz3d : w3.heap.size ≤ (w3.alloc (.cells #[] 41)).drew.heap.size := B1.size
          go_wp2_with fail
          go_region_held3 (fun _ => True) (trivial)
            ((first
              | (go_at_call 16; (with_reducible refine Calls.mono (validLots_any M A5 c5 _ r5 hM63) ?_); rintro e w6 ⟨rfl, b6⟩; rw [HV.out])
              | (refine step_pushAny len2 one2 (by rfl) _ _ _ (by rfl) Try.underlying27 infoLotD rfl (by omega) (by omega) (by rfl) O1 HL1.out (by rfl) q3d hln1 hz3d ?_; intro v4 w4 ho4 hg4; have B4 := below_row B1 O1 (Nat.le_refl _) hz3d hg4; have q4 := hdr.below B4 (Nat.le_refl _); have z4 := B4.size; clear hg4)
              | (refine step_pushAny len2 one2 (by rfl) _ _ _ (by rfl) Try.underlying27 infoLotD rfl (by omega) (by omega) (by rfl) ho4 HL2.out (by rfl) q4 hln2 z4 ?_; intro v5 w5 ho5 hg5; have B5 := below_row B4 ho4 (Nat.le_refl _) z4 hg5; have ho6 : Own enc2 2 41 w5 w3.heap.size v5 M := (by rw [← HM.out]; exact ho5); obtain ⟨A5, c5, rfl, _, r5⟩ := ho6.reads len2; clear hg5 ho5 ho6)))
          have DD := hid (D3.trans ((B5.trans (b6.mono B5.size)).mono D3.size))
          clear D3 B5 b6 B4 B1 q3 q3t q3d r5 q4 hdr
          go_wp2
          go_ret
          exact ⟨rfl, DD.out⟩
        · rw [if_neg hck] at hdr
          have O1 := (Own.lit0 enc2 2 41 w3 w3.heap.size rfl (Nat.le_refl _)).drew
          have B1 := ((Below.refl w3.heap.size w3).alloc (Nat.le_refl _) (.cells #[] 41)).drew
          have q3d : Sl enc2 2 (w3.alloc (.cells #[] 41)).drew w3.heap.size A1 (l.take k) := q3t.alloc (Nat.le_refl _) _
          have hz3d : w3.heap.size ≤ (w3.alloc (.cells #[] 41)).drew.heap.size := B1.size
          go_wp2_with fail
          go_region_held3 (fun _ => True) (trivial)
            ((first
              | (go_at_call 16; (with_reducible refine Calls.mono (validLots_any M A5 c5 _ r5 hM63) ?_); rintro e w6 ⟨rfl, b6⟩; rw [HV.out])
              | (refine step_pushAny len2 one2 (by rfl) _ _ _ (by rfl) Try.underlying27 infoLotD rfl (by omega) (by omega) (by rfl) O1 HL1.out (by rfl) q3d hln1 hz3d ?_; intro v4 w4 ho4 hg4; have B4 := below_row B1 O1 (Nat.le_refl _) hz3d hg4; have q4 := hdr.below B4 (Nat.le_refl _); have z4 := B4.size; clear hg4)
              | (refine step_pushAny len2 one2 (by rfl) _ _ _ (by rfl) Try.underlying27 infoLotD rfl (by omega) (by omega) (by rfl) ho4 HL2.out (by rfl) q4 hln2 z4 ?_; intro v5 w5 ho5 hg5; have B5 := below_row B4 ho4 (Nat.le_refl _) z4 hg5; have ho6 : Own enc2 2 41 w5 w3.heap.size v5 M := (by rw [← HM.out]; exact ho5); obtain ⟨A5, c5, rfl, _, r5⟩ := ho6.reads len2; clear hg5 ho5 ho6)))
          have DD := hid (D3.trans ((B5.trans (b6.mono B5.size)).mono D3.size))
          clear D3 B5 b6 B4 B1 q3 q3t q3d r5 q4 hdr
          go_wp2
          go_ret
          exact ⟨rfl, DD.out⟩
    · have hv' : vLots l = false := by simpa using hv
      clear hv hlc
      go_wp2_with fail
      refine (specValidLots_any l A1 c1 _ q3 (by omega)).mono ?_
      rintro e w4 ⟨rfl, b4⟩
      have D4 := hid (D3.trans (b4.mono D3.size))
      clear b4 D3 q3
      go_wp2
      go_ret
      exact ⟨ret_bool (by simp), D4.out⟩

end Go.Proofs.Ytmlmjapmhdbcpaa
