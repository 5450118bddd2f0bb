/- Contracts: the value of a till. -/
import Derived.Test.YtcjcolkhhmpmjaaTillW
namespace Go.Proofs.Ytcjcolkhhmpmjaa
open Go.RowKit

def tvalI (l : List (Int × Int)) : Int := if vTill l then tval l else -1

set_option maxHeartbeats 1600000 in
theorem tillValue_any (l : List (Int × Int)) (A : Option Addr) (cap : Nat) (w : World) (h : Sl enc2 2 w w.heap.size A l) (hl : l.length ≤ 1048576) :
    Calls Try.prog 21 #[.slice A l.length cap] w fun e w' => e = .returned (.int .i64 (tvalI l)) ∧ Below w.heap.size w w' := by
  by_cases hv : vTill l = true
  · have HV := hid (vTill_iff.1 hv)
    have HVV := hid hv
    have HT := hid (show tvalI l = tval l by simp [tvalI, hv])
    clear hv
    go_enter Try.func21, Try.ntmps21
    go_wp2_with fail
    refine (validTill_any l A cap _ h (by omega)).mono ?_
    rintro e w1 ⟨rfl, b1⟩
    rw [HVV.out]
    go_wp2_with fail
    go_loopw [3, 11] (fun n i wr => ∃ k : Nat, k ≤ l.length ∧ i = .int .i64 k ∧ n = .int .i64 (tval (l.take k)) ∧ Below w.heap.size w wr) (fun _ i _ => l.length - (intOf i).toNat)
    case atStart => exact ⟨0, Nat.zero_le _, rfl, rfl, b1⟩
    case round =>
      clear b1
      obtain ⟨k, hk, rfl, rfl, hb⟩ := hrel
      have hsz := hb.size
      by_cases hlt : k < l.length
      · obtain ⟨b, off, rfl, hbb, x1, x2⟩ := h.get2 hlt
        have hbd := HV.out.bd hlt
        have hst := tval_step hlt
        have ht := tval_take HV.out k
        have hm := mul_bd hbd
        obtain ⟨x, hx⟩ : ∃ x, g1 l k = x := ⟨_, rfl⟩
        obtain ⟨y, hy⟩ : ∃ x, g2 l k = x := ⟨_, rfl⟩
        obtain ⟨T, hT⟩ : ∃ x, tval (l.take k) = x := ⟨_, rfl⟩
        rw [hx] at x1 hbd hst hm
        rw [hy] at x2 hbd hst hm
        rw [hT] at hst ht ⊢
        have HST := hid hst
        have d1 : wr.cell? ⟨b, off + k * 2, none⟩ = some (.int .i64 x) := (hb.cell hbb).trans x1
        have d2 : wr.cell? ⟨b, off + k * 2 + 1, none⟩ = some (.int .i64 y) := (hb.cell hbb).trans x2
        obtain ⟨⟨b1, b2⟩, b3, b4⟩ := hbd
        obtain ⟨t1, t2⟩ := ht
        obtain ⟨m1, m2⟩ := hm
        have w1 : IntKind.i64.wrap (x * y) = x * y := IntWalk.i64_in _ (by omega)
        have w2 : IntKind.i64.wrap (T + x * y) = T + x * y := IntWalk.i64_in _ (by omega)
        have hkl : (k : Int) < (l.length : Int) := by omega
        have hbw : b < wr.heap.size := by omega
        clear x1 x2 hst hx hy hT
        go_wp2
        go_roundw
        case rel =>
          refine ⟨k + 1, by omega, by go_num, ?_, ?_⟩
          · rw [HST.out]
          · repeat (first | exact Below.refl _ _ | (refine Below.alloc ?_ (by (try simp) <;> omega) _) | (refine Below.setCell ?_ (by (try simp) <;> omega) _) | (refine Below.drew ?_) | (refine below_drewN ?_ _) | (refine Below.trans ?_ (Below.mono (by assumption) (by (try simp) <;> omega))))
        case measure => simp [intOf]; omega
      · have hkl : k = l.length := by omega
        subst hkl
        rw [List.take_length]
        go_wp2
        go_ret
        exact ⟨ret_int HT.out.symm, hb⟩
  · have hv' : vTill l = false := by simpa using hv
    have HVV := hid hv'
    have HT := hid (show tvalI l = -1 by simp [tvalI, hv'])
    clear hv hv'
    go_enter Try.func21, Try.ntmps21
    go_wp2_with fail
    refine (validTill_any l A cap _ h (by omega)).mono ?_
    rintro e w1 ⟨rfl, b1⟩
    rw [HVV.out]
    have B1 := hid b1
    clear b1
    go_wp2
    go_ret
    exact ⟨ret_int HT.out.symm, B1.out⟩

end Go.Proofs.Ytcjcolkhhmpmjaa
