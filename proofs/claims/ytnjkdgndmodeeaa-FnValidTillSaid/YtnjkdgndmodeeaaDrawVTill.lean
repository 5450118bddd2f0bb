/- The walk of the law on valid tills. -/
import Derived.Test.YtnjkdgndmodeeaaDrawTill
import Derived.Test.YtnjkdgndmodeeaaTillV
namespace Go.Proofs.Ytnjkdgndmodeeaa
open Go.RowKit

def TillDraw0 (w : World) (e : Ending) (w' : World) : Prop :=
  ∃ (l : List (Int × Int)) (v : Value), e = .returned v ∧ l.length ≤ 6 ∧ Own enc2 2 38 w' w.heap.size v l ∧ Below w.heap.size w w'
set_option maxHeartbeats 400000 in
theorem drawValidTill_any (w : World) (A : Option Addr) (len cap : Nat) (h : Bytes w w.heap.size A len cap) :
    Calls Try.prog 8 #[.slice A len cap] w (TillDraw0 w) := by
  go_enter Try.func8, Try.ntmps8
  go_wp2_with fail
  refine (newReader_any _ _ _ _ _ h (Nat.le_refl _)).mono ?_
  rintro e w1 ⟨rfl, h1, b1⟩
  have z1 := b1.size
  go_wp2_with fail
  refine (anyTill_any _ _ _ _ h1 (by omega)).mono ?_
  rintro e w2 ⟨l, v, rfl, l6, O2, h2, g2⟩
  have G2 := hid (below_of_only b1 g2 z1 (Nat.le_refl _))
  have O3 := O2.less z1
  clear O2 h1 h2 b1 g2 h
  go_wp2
  go_ret
  exact ⟨l, v, rfl, l6, O3, G2.out⟩

set_option maxHeartbeats 1600000 in
theorem fnValidTill_walk (w : World) (A : Option Addr) (len cap : Nat) (h : Bytes w w.heap.size A len cap) :
    Calls Try.prog 4 #[.slice A len cap] w fun e w' => e = .returned (.bool true) ∧ Below w.heap.size w w' := by
  by_cases hl : 1048576 < len
  · clear h
    go_enter Try.func4, Try.ntmps4
    go_wp2
    go_ret
    exact ⟨rfl, Below.refl _ _⟩
  · go_enter Try.func4, Try.ntmps4
    go_wp2_with fail
    refine (drawValidTill_any _ _ _ _ h).mono ?_
    rintro e w1 ⟨l, v, rfl, l6, o1, D1⟩
    clear h
    obtain ⟨A1, c1, rfl, hlc, q1⟩ := o1.reads len2
    clear o1
    go_wp2_with fail
    refine (validTill_any l A1 c1 _ q1 (by omega)).mono ?_
    rintro e w2 ⟨rfl, b2⟩
    have D2 := D1.trans (b2.mono D1.size)
    have q2 := (q1.below b2 (Nat.le_refl _)).more b2.size
    clear b2 D1 q1
    go_wp2_with fail
    refine (specValidTill_any l A1 c1 _ q2 (by omega)).mono ?_
    rintro e w3 ⟨rfl, b3⟩
    have D3 := D2.trans (b3.mono D2.size)
    have q3 := (q2.below b3 (Nat.le_refl _)).more b3.size
    clear b3 D2 q2
    by_cases hv : vTill l = true
    · by_cases h0 : l.length = 0
      · have hzi : (l.length == 0) = true := by simpa using h0
        have hzj : ((l.length : Int) == 0) = true := by simpa using h0
        clear hlc h0
        go_wp2_with fail
        refine (specValidTill_any l A1 c1 _ q3 (by omega)).mono ?_
        rintro e w4 ⟨rfl, b4⟩
        have D4 := hid (D3.trans (b4.mono D3.size))
        clear b4 D3 q3
        go_wp2
        go_ret
        exact ⟨ret_bool (by simp), D4.out⟩
      · have hzi : (l.length == 0) = false := by simpa using h0
        have hzj : ((l.length : Int) == 0) = false := by simpa using h0
        have hl1 : 1 ≤ l.length := by omega
        have HT := hid (vTill_iff.2 ((vTill_iff.1 hv).sub (List.take_sublist (l.length - 1) l)))
        have HL := hid (show (l.take (l.length - 1)).length = l.length - 1 by rw [List.length_take]; omega)
        have r3 := q3.take (l.length - 1)
        have hcall := validTill_any (l.take (l.length - 1)) A1 c1 _ r3 (by rw [HL.out]; omega)
        rw [HL.out] at hcall
        have HC := hid hcall
        clear hcall h0
        go_wp2_with fail
        refine HC.out.mono ?_
        rintro e w4 ⟨rfl, b4⟩
        rw [HT.out]
        have D4 := hid (D3.trans (b4.mono D3.size))
        clear b4 D3 q3 r3
        go_wp2
        go_ret
        exact ⟨rfl, D4.out⟩
    · have hv' : vTill l = false := by simpa using hv
      clear hv hlc
      go_wp2_with fail
      refine (specValidTill_any l A1 c1 _ q3 (by omega)).mono ?_
      rintro e w4 ⟨rfl, b4⟩
      have D4 := hid (D3.trans (b4.mono D3.size))
      clear b4 D3 q3
      go_wp2
      go_ret
      exact ⟨ret_bool (by simp), D4.out⟩

end Go.Proofs.Ytnjkdgndmodeeaa
