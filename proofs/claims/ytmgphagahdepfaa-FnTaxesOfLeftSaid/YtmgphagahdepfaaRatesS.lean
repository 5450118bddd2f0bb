/- Contracts: whether a list has a number, and the rates of a cart, as the paper says it. -/
import Derived.Test.YtmgphagahdepfaaLeftS
import Derived.Test.YtmgphagahdepfaaTaxN
namespace Go.Proofs.Ytmgphagahdepfaa
open Go.RowKit

def inL (l : List Int) (n : Int) : Bool := decide (n ∈ l)
theorem mem_take_succ {l : List Int} {n : Int} {k : Nat} (h : k < l.length) : n ∈ l.take (k + 1) ↔ n ∈ l.take k ∨ g0 l k = n := by
  rw [List.take_succ_eq_append_getElem h, g0_eq h, List.mem_append]
  simp [eq_comm]

set_option maxHeartbeats 1600000 in
theorem isIn_any (l : List Int) (n : Int) (A : Option Addr) (cap : Nat) (w : World) (hA : Sl enc1 1 w w.heap.size A l) (hl : l.length ≤ 1048576) :
    Calls Try.prog 60 #[.slice A l.length cap, .int .i64 n] w fun e w' => e = .returned (.bool (inL l n)) ∧ w = w' := by
  go_enter Try.func60, Try.ntmps60
  go_wp2_with fail
  go_loop [5] (fun i => ∃ k : Nat, k ≤ l.length ∧ i = .int .i64 k ∧ n ∉ l.take k) (fun i => l.length - (intOf i).toNat)
  case atStart => exact ⟨0, Nat.zero_le _, rfl, by simp⟩
  case round =>
    obtain ⟨k, hk, rfl, hno⟩ := hrel
    have HNO := hid hno
    clear hno
    by_cases hlt : k < l.length
    · obtain ⟨b, off, rfl, hbb, c1⟩ := hA.get1 hlt
      have hs := mem_take_succ (n := n) hlt
      obtain ⟨x, hx⟩ : ∃ x, g0 l k = x := ⟨_, rfl⟩
      rw [hx] at c1 hs
      have HS := hid hs
      clear hs hx
      by_cases he : x = n
      · have e1 : (x == n) = true := by rw [he]; simp
        have HE := hid (show inL l n = true from decide_eq_true (List.mem_of_mem_take (HS.out.2 (.inr he))))
        clear he
        go_wp2
        go_ret
        exact ⟨ret_bool HE.out.symm, rfl⟩
      · have e1 : (x == n) = false := beq_eq_false_iff_ne.2 he
        have HE := hid he
        clear he
        go_wp2
        go_round
        case rel => exact ⟨k + 1, by omega, by go_num, fun hm => (HS.out.1 hm).elim HNO.out HE.out⟩
        case measure => simp [intOf]; omega
    · have hkl : k = l.length := by omega
      subst hkl
      have HE := hid (show inL l n = false from decide_eq_false (by have := HNO.out; rwa [List.take_length] at this))
      go_wp2
      go_ret
      exact ⟨ret_bool HE.out.symm, rfl⟩

def RatesPost (w : World) (L : List Int) (e : Ending) (w' : World) : Prop :=
  ∃ v, e = .returned v ∧ Own enc1 1 3 w' w.heap.size v L ∧ Below w.heap.size w w'
def RatesRel (w : World) (rt : Nat → Int) (n : Nat) (v r : Value) (wr : World) : Prop :=
  ∃ (R : Nat) (o : List Int), R ≤ 301 ∧ r = .int .i64 R ∧ o = rts rt n R ∧ Own enc1 1 3 wr w.heap.size v o ∧ Below w.heap.size w wr
def RatesIn (w : World) (rt : Nat → Int) (n R : Nat) (v i : Value) (wr : World) : Prop :=
  ∃ (k : Nat) (o : List Int), k ≤ n ∧ i = .int .i64 k ∧ o = rts rt n R ++ (if has rt R k = true then [(R : Int)] else []) ∧ Own enc1 1 3 wr w.heap.size v o ∧ Below w.heap.size w wr
theorem inL_rts (rt : Nat → Int) (n R k : Nat) : inL (rts rt n R ++ (if has rt R k = true then [(R : Int)] else [])) (R : Int) = has rt R k := by
  have h := rts_mem rt n R
  unfold inL
  by_cases hh : has rt R k = true
  · rw [if_pos hh, hh]; simp
  · rw [if_neg hh, show has rt (R : Int) k = false by simpa using hh]
    refine decide_eq_false fun hm => ?_
    rw [List.append_nil] at hm
    have := h _ hm
    omega

set_option maxHeartbeats 3200000 in
set_option maxRecDepth 100000 in
theorem rates_any (s : List (Int × Int × Int × Int)) (c : List (Int × Int)) (A Ac : Option Addr) (cap capc : Nat) (w : World) (hA : Sl enc4 4 w w.heap.size A s) (hC : Sl enc2 2 w w.heap.size Ac c) (hs : vShop s = true) (hc : vCart s.length c = true) :
    Calls Try.prog 41 #[.slice A s.length cap, .slice Ac c.length capc] w (RatesPost w (rts (rtK s c) c.length 301)) := by
  have O0 := Own.lit0 enc1 1 3 w w.heap.size rfl (Nat.le_refl _)
  have D0 := (Below.refl w.heap.size w).alloc (Nat.le_refl _) (.cells #[] 3)
  have HS := hid hs
  have HC := hid hc
  have hl1 := vShop_len hs
  have hc8 := (vCart_iff.1 hc).2.2
  clear hs hc
  go_enter Try.func41, Try.ntmps41
  go_wp2_with fail
  go_loopw [5, 6] (fun v r wr => RatesRel w (rtK s c) c.length v r wr) (fun _ r _ => 301 - (intOf r).toNat)
  case atStart => exact ⟨0, [], by omega, rfl, rfl, O0, D0⟩
  case round =>
    clear O0 D0
    obtain ⟨R, o, hR, rfl, hoe, ho, hb⟩ := hrel
    have HOE := hid hoe
    have HB := hid hb
    have hsz := hb.size
    clear hb hoe
    by_cases hlt : R ≤ 300
    · have hd : decide ((R : Int) ≤ 300) = true := by simp; omega
      go_wp2_with fail
      clear hd
      go_loopw [5, 7] (fun v i wr => RatesIn w (rtK s c) c.length R v i wr) (fun _ i _ => c.length - (intOf i).toNat)
      case atStart => exact ⟨0, o, Nat.zero_le _, rfl, by rw [HOE.out]; simp [has], ho, HB.out⟩
      case round =>
        clear ho HOE HB hsz o
        obtain ⟨k, o, hk, rfl, hoe, ho, hb⟩ := hrel
        have HOE := hid hoe
        have HB := hid hb
        have hsz := hb.size
        have hol : o.length ≤ 400 := by
          have := rts_len (rtK s c) c.length R
          rw [hoe, List.length_append]
          split <;> simp <;> omega
        have hin := inL_rts (rtK s c) c.length R k
        rw [← hoe] at hin
        have HIN := hid hin
        clear hb hoe hin
        by_cases hlk : k < c.length
        · obtain ⟨b, off, rfl, hbb, c1, c2⟩ := hC.get2 hlk
          obtain ⟨f1, f2, f3, f4, f5⟩ := fit_at HS.out HC.out hlk
          obtain ⟨b', off', rfl, hbb', _, _, c3, _⟩ := hA.get4 f1
          obtain ⟨a, ha⟩ : ∃ a : Nat, (g1 c k).toNat = a := ⟨_, rfl⟩
          obtain ⟨p, hp⟩ : ∃ p, q3 s a = p := ⟨_, rfl⟩
          rw [ha] at f1 f2 c3
          rw [← f2] at c1
          rw [hp] at c3
          have HR := hid (show rtK s c k = p by unfold rtK; rw [ha, hp])
          have d1 : wr.cell? ⟨b, off + k * 2, none⟩ = some (.int .i64 (a : Int)) := (HB.out.cell hbb).trans c1
          have d3 : wr.cell? ⟨b', off' + a * 4 + 2, none⟩ = some (.int .i64 p) := (HB.out.cell hbb').trans c3
          have hbw : b < wr.heap.size := by omega
          have hbw' : b' < wr.heap.size := by omega
          clear c1 c2 c3 ha hp f2 f3 f4 f5
          by_cases he : p = (R : Int)
          · have e1 : (p == (R : Int)) = true := by rw [he]; simp
            have HE := hid he
            have HH2 := hid (show has (rtK s c) (R : Int) (k + 1) = true by unfold has; rw [HR.out, HE.out]; simp)
            clear he
            obtain ⟨Ao, co, rfl, _, So⟩ := ho.reads len1
            by_cases hh : has (rtK s c) (R : Int) k = true
            · have HHH := hid hh
              have HI := hid (HIN.out.trans hh)
              clear hh
              go_wp2_with (go_at_call 60; refine (isIn_any o (R : Int) _ _ _ So (by omega)).mono ?_; rintro e w' ⟨rfl, rfl⟩; rw [HI.out])
              go_roundw
              case rel => exact ⟨k + 1, o, by omega, by go_num, by rw [HOE.out, HH2.out, HHH.out], ho, HB.out⟩
              case measure => simp [intOf]; omega
            · have HHH := hid (show has (rtK s c) (R : Int) k = false by simpa using hh)
              have HI := hid (HIN.out.trans HHH.out)
              clear hh
              go_wp2_with (first | (go_at_call 60; refine (isIn_any o (R : Int) _ _ _ So (by omega)).mono ?_; rintro e w' ⟨rfl, rfl⟩; rw [HI.out]) | (at_builtin; refine wpList_push len1 one1 rfl (.tmp 36) (.tmp 38) _ rfl Try.underlying25 infoInt rfl (by omega) (by omega) rfl ho (R : Int) (by simp) rfl rfl (by omega) (by omega) ?_))
              intro v2 w2 ho2 hg2 _
              have D2 := hid (below_push HB.out hsz ho (Nat.le_refl _) hg2)
              clear hg2
              go_wp2
              go_roundw
              case rel => exact ⟨k + 1, o ++ [(R : Int)], by omega, by go_num, by rw [HOE.out, HH2.out, HHH.out]; simp, ho2, D2.out⟩
              case measure => simp [intOf]; omega
          · have e1 : (p == (R : Int)) = false := beq_eq_false_iff_ne.2 he
            have HH2 := hid (show has (rtK s c) (R : Int) (k + 1) = has (rtK s c) (R : Int) k by show (has (rtK s c) (R : Int) k || (rtK s c k == (R : Int))) = _; rw [HR.out, e1, Bool.or_false])
            clear he
            go_wp2
            go_roundw
            case rel => exact ⟨k + 1, o, by omega, by go_num, by rw [HOE.out, HH2.out], ho, HB.out⟩
            case measure => simp [intOf]; omega
        · have hkc : k = c.length := by omega
          have HK := hid hkc
          clear hkc
          go_wp2
          go_roundw
          case rel => exact ⟨R + 1, o, by omega, by go_num, by rw [HOE.out, HK.out]; rfl, ho, HB.out⟩
          case measure => simp [intOf]; omega
    · have hR1 : R = 301 := by omega
      subst hR1
      have HE := hid (show o = rts (rtK s c) c.length 301 from HOE.out)
      go_wp2
      go_ret
      refine ⟨_, rfl, ?_, HB.out⟩
      rw [← HE.out]
      exact ho

end Go.Proofs.Ytmgphagahdepfaa
