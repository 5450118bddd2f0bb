/- Contracts of the generator's reader: a pick of n numbers is one of them, and only the reader's position moves. -/
import Derived.Test.YtmgphagahdepfaaNum
import Derived.Test.YtmgphagahdepfaaSl
import Derived.Test.YtmgphagahdepfaaByt
import Derived.Laws.BitsAllLaws
namespace Go.Proofs.Ytmgphagahdepfaa
open Go.RowKit

/-- A reader in block R, at a position up to N; its bytes lie below block B. -/
def Rdr (w : World) (B R N : Nat) : Prop :=
  B ≤ R ∧ ∃ (A : Option Addr) (len cap q : Nat), w.heap[R]? = some (.cells #[.slice A len cap, .int .i64 (q : Int)] 80 (0, 0)) ∧ q ≤ N ∧ len ≤ 2000 ∧
    (0 < len → ∃ (b off : Nat) (u : Nat → Int), A = some ⟨b, off, none⟩ ∧ b < B ∧ ∀ i, i < len → w.cell? ⟨b, off + i, none⟩ = some (.int .u8 (u i)) ∧ 0 ≤ u i ∧ u i ≤ 255)

theorem Rdr.more {w : World} {B R N M : Nat} (h : Rdr w B R N) (hN : N ≤ M) : Rdr w B R M := by
  obtain ⟨h1, A, len, cap, q, h2, h3, h4, h5⟩ := h
  exact ⟨h1, A, len, cap, q, h2, by omega, h4, h5⟩
theorem Rdr.lt {w : World} {B R N : Nat} (h : Rdr w B R N) : B ≤ R ∧ R < w.heap.size := by
  obtain ⟨h1, A, len, cap, q, h2, h3, h4, h5⟩ := h
  exact ⟨h1, lt_of_block h2⟩
/-- It stays a reader while other blocks from B on are written. -/
theorem Rdr.keep {w w' : World} {B R N : Nat} (h : Rdr w B R N) (hb : ∀ k, k < B ∨ k = R → w'.heap[k]? = w.heap[k]?) : Rdr w' B R N := by
  obtain ⟨h1, A, len, cap, q, h2, h3, h4, h5⟩ := h
  refine ⟨h1, A, len, cap, q, (hb R (.inr rfl)).trans h2, h3, h4, fun hl => ?_⟩
  obtain ⟨b, off, u, h6, h7, h8⟩ := h5 hl
  exact ⟨b, off, u, h6, h7, fun i hi => ⟨(World.cell?_of_block (hb b (.inl h7))).trans (h8 i hi).1, (h8 i hi).2⟩⟩
theorem Rdr.below {w w' : World} {B R N : Nat} {n : Nat} (h : Rdr w B R N) (hb : Below n w w') (hn : R < n) : Rdr w' B R N :=
  h.keep fun k hk => hb.block k (by have := h.lt; omega)
theorem Rdr.alloc {w : World} {B R N : Nat} (h : Rdr w B R N) (o : Obj) : Rdr (w.alloc o) B R N :=
  h.keep fun k hk => Below.heap_alloc w o k (by have := h.lt; omega)
theorem Rdr.setCell {w : World} {B R N : Nat} (h : Rdr w B R N) {p : Addr} (h1 : B ≤ p.block) (h2 : p.block ≠ R) (u : Value) : Rdr (w.setCell p u) B R N :=
  h.keep fun k hk => Below.heap_setCell w p u k (by omega)
theorem Rdr.drewN {w : World} {B R N : Nat} (h : Rdr w B R N) (n : Nat) : Rdr (w.drewN n) B R N := h
theorem Rdr.grown {w w' : World} {B R N : Nat} {row : Option Nat} (h : Rdr w B R N) (hg : w.grownBy w' row) (hr : ∀ g, row = some g → B ≤ g ∧ g ≠ R) : Rdr w' B R N :=
  h.keep fun k hk => hg.block k (by have := h.lt; omega) (fun e => by have := hr _ e.symm; omega)

def PickPost (w : World) (B R N : Nat) (n : Int) (e : Ending) (w' : World) : Prop :=
  ∃ m : Int, e = .returned (.int .i64 m) ∧ 0 ≤ m ∧ (1 ≤ n → m < n) ∧ m ≤ 9223372036854775807 ∧ Rdr w' B R (N + 1) ∧ w.grownBy w' (some R)

/-- The reader behind a pick. -/
theorem Rdr.step {w : World} {B R N : Nat} {A : Option Addr} {len cap q : Nat} (hBR : B ≤ R) (h2 : w.heap[R]? = some (.cells #[.slice A len cap, .int .i64 (q : Int)] 80 (0, 0))) (h3 : q ≤ N) (h4 : len ≤ 2000)
    (h5 : 0 < len → ∃ (b off : Nat) (u : Nat → Int), A = some ⟨b, off, none⟩ ∧ b < B ∧ ∀ i, i < len → w.cell? ⟨b, off + i, none⟩ = some (.int .u8 (u i)) ∧ 0 ≤ u i ∧ u i ≤ 255) (k : Nat) :
    Rdr ((w.setCell ⟨R, 1, none⟩ (.int .i64 ((q : Int) + 1))).drewN k) B R (N + 1) ∧ w.grownBy ((w.setCell ⟨R, 1, none⟩ (.int .i64 ((q : Int) + 1))).drewN k) (some R) := by
  have hlt := lt_of_block h2
  refine ⟨⟨hBR, A, len, cap, q + 1, ?_, by omega, h4, fun hl => ?_⟩, only_drewN (only_setCell only_refl (.inl rfl) _) _⟩
  · have h' : w.heap[R] = .cells #[.slice A len cap, .int .i64 (q : Int)] 80 (0, 0) := by simpa [Array.getElem?_eq_getElem hlt] using h2
    show (w.heap.modify R _)[R]? = _
    rw [Array.getElem?_eq_getElem (by simpa using hlt), Array.getElem_modify_self, h']
    simp
  · obtain ⟨b, off, u, h6, h7, h8⟩ := h5 hl
    exact ⟨b, off, u, h6, h7, fun i hi => ⟨(World.cell?_of_block (Below.heap_setCell w _ _ b (by simp; omega))).trans (h8 i hi).1, (h8 i hi).2⟩⟩

theorem ofInt_i64 (a : Nat) (ha : a < 9223372036854775808) : (BitVec.ofInt 64 (a : Int)).toNat = a := by
  rw [BitVec.ofInt_natCast, BitVec.toNat_ofNat]; exact Nat.mod_eq_of_lt (by omega)
theorem i64_xor_nat (a b : Nat) (ha : a < 9223372036854775808) (hb : b < 9223372036854775808) : bits .xor .i64 (a : Int) (b : Int) = ((a ^^^ b : Nat) : Int) := by
  have hx : a ^^^ b < 2 ^ 63 := Nat.xor_lt_two_pow (by omega) (by omega)
  show IntKind.i64.wrap ((BitVec.ofInt 64 (a : Int) ^^^ BitVec.ofInt 64 (b : Int)).toNat : Int) = _
  rw [BitVec.toNat_xor, ofInt_i64 a ha, ofInt_i64 b hb, IntKind.wrap_i64]
  omega
theorem xor_lo (x y : Int) (h1 : 0 ≤ x) (h2 : x ≤ 9223372036854775807) (h3 : 0 ≤ y) (h4 : y ≤ 9223372036854775807) : 0 ≤ bits .xor .i64 x y ∧ bits .xor .i64 x y ≤ 9223372036854775807 := by
  obtain ⟨a, rfl⟩ := Int.eq_ofNat_of_zero_le h1
  obtain ⟨b, rfl⟩ := Int.eq_ofNat_of_zero_le h3
  rw [i64_xor_nat a b (by omega) (by omega)]
  have hx : a ^^^ b < 2 ^ 63 := Nat.xor_lt_two_pow (by omega) (by omega)
  omega
theorem rem_lo (x n : Int) (h1 : 0 ≤ x) (h2 : x ≤ 9223372036854775807) (h3 : 1 ≤ n) : 0 ≤ x.tmod n ∧ x.tmod n < n ∧ x.tmod n ≤ 9223372036854775807 := by
  have h4 := Int.tmod_lt_of_pos x (show 0 < n by omega)
  have h5 := Int.tmod_nonneg n h1
  have h6 : x.tmod n ≤ x := by
    rw [Int.tmod_eq_emod_of_nonneg h1, Int.emod_def]
    have h7 := Int.mul_nonneg (show 0 ≤ n by omega) (Int.ediv_nonneg h1 (show 0 ≤ n by omega))
    omega
  omega

set_option pp.deepTerms true in
set_option pp.maxSteps 1000000 in
set_option maxHeartbeats 800000 in
theorem pick_any (n : Int) (w : World) (B R N : Nat) (h : Rdr w B R N) (hN : N ≤ 1000000) :
    Calls Try.prog 50 #[.pointer (some ⟨R, 0, none⟩), .int .i64 n] w (PickPost w B R N n) := by
  obtain ⟨hBR, A, len, cap, q, hR, hq, hlen, hbytes⟩ := h
  have hstep := fun k => Rdr.step hBR hR hq hlen hbytes k
  have HS := hid hstep
  clear hstep
  have c0 : w.cell? ⟨R, 0, none⟩ = some (.slice A len cap) := by simp [World.cell?, hR]
  have c1 : w.cell? ⟨R, 1, none⟩ = some (.int .i64 (q : Int)) := by simp [World.cell?, hR]
  have f1 : w.frozen? ⟨R, 1, none⟩ = false := by simp [World.frozen?, hR]
  clear hR
  by_cases hn : n < 1
  · clear hbytes
    go_enter Try.func50, Try.ntmps50
    go_wp2
    go_ret
    exact ⟨0, rfl, by omega, by omega, by omega, HS.out 0⟩
  · by_cases hl : len = 0
    · subst hl
      clear hbytes
      go_enter Try.func50, Try.ntmps50
      go_wp2
      go_ret
      exact ⟨0, rfl, by omega, by omega, by omega, HS.out 0⟩
    · obtain ⟨b, off, u, rfl, hb, hu⟩ := hbytes (by omega)
      have hl0 : ((len : Int) == 0) = false := by simp; omega
      have hbR : b ≠ R := by omega
      by_cases hql : q < len
      · obtain ⟨g1, g2, g3⟩ := hu q hql
        clear hu
        go_enter Try.func50, Try.ntmps50
        go_wp2
        go_ret
        refine ⟨_, rfl, ?_⟩
        have r := rem_lo (u q) n (by omega) (by omega) (by omega)
        rw [Int.tmod_eq_emod_of_nonneg (by omega)] at r
        exact ⟨r.1, fun _ => r.2.1, r.2.2, HS.out 0⟩
      · have hkl : ¬ (q : Int) < (len : Int) := by omega
        obtain ⟨g1, g2, g3⟩ := hu (q % len) (Nat.mod_lt _ (by omega))
        obtain ⟨g4, g5, g6⟩ := hu ((q * 7 + 3) % len) (Nat.mod_lt _ (by omega))
        have i1 : q % len < len := Nat.mod_lt _ (by omega)
        have i2 : (q * 7 + 3) % len < len := Nat.mod_lt _ (by omega)
        have i3 : 0 ≤ ((q : Int) * 7 + 3) % (len : Int) := Int.emod_nonneg _ (by omega)
        have i4 : ((q : Int) * 7 + 3) % (len : Int) < (len : Int) := Int.emod_lt_of_pos _ (by omega)
        have i5 : (((q : Int) * 7 + 3) % (len : Int)).toNat = (q * 7 + 3) % len := by
          have : ((q : Int) * 7 + 3) % (len : Int) = (((q * 7 + 3) % len : Nat) : Int) := by simp
          rw [this]; exact Int.toNat_natCast _
        have i6 : 0 ≤ (q : Int) / (len : Int) := Int.ediv_nonneg (by omega) (by omega)
        have i7 : (q : Int) / (len : Int) ≤ (q : Int) := Int.ediv_le_self _ (by omega)
        clear hu
        go_enter Try.func50, Try.ntmps50
        go_wp2
        go_quiet (fail)
        go_wp2
        go_ret
        refine ⟨_, rfl, ?_⟩
        generalize hX : u (q % len) * 131 + u ((q * 7 + 3) % len) * 1117 + (q : Int) * 29 + (q : Int) / (len : Int) * 53 = X
        have x1 : 0 ≤ X := by omega
        have x2 : X ≤ 9223372036854775807 := by omega
        have x3 := xor_lo X (X / 64) x1 x2 (by omega) (by omega)
        have r := rem_lo (bits .xor .i64 X (X / 64)) n x3.1 x3.2 (by omega)
        exact ⟨r.1, fun _ => r.2.1, r.2.2, HS.out nq⟩

/-- What one of some numbers comes to. -/
def OnePost (w : World) (B R N : Nat) (l : List Int) (e : Ending) (w' : World) : Prop :=
  ∃ m : Int, e = .returned (.int .i64 m) ∧ m ∈ l ∧ Rdr w' B R (N + 1) ∧ w.grownBy w' (some R)

set_option maxHeartbeats 400000 in
/-- One of some numbers, which the caller has just laid in a block of their own. -/
theorem one_any (l : List Int) (cs : Array Value) (n g : Nat) (w : World) (B R N : Nat) (h : Rdr w B R N) (hN : N ≤ 1000000) (hg0 : g = w.heap.size) (hn : n = l.length) (h0' : 0 < l.length) (hcs : cs = (l.map (Value.int .i64)).toArray) (hl' : l.length ≤ 1000000) :
    Calls Try.prog 49 #[.pointer (some ⟨R, 0, none⟩), .slice (some ⟨g, 0, none⟩) n n] (w.alloc (.cells cs 3)) (OnePost w B R N l) := by
  have hR := h.lt
  subst hg0
  have h0 : 0 < n := by omega
  have hl : n ≤ 1000000 := by omega
  clear h0' hl'
  have h1 := h.alloc (.cells cs 3)
  have HN := hid hn
  have HC := hid hcs
  clear h hn hcs
  go_enter Try.func49, Try.ntmps49
  go_wp2_with fail
  refine (pick_any _ _ _ _ _ h1 hN).mono ?_
  rintro e w1 ⟨m, rfl, m1, m2, m3, h2, hg⟩
  have m4 := m2 (by omega)
  clear m2
  have hq : m.toNat < l.length := by have := HN.out; omega
  have hc : w1.cell? ⟨w.heap.size, m.toNat, none⟩ = some (.int .i64 (g0 l m.toNat)) := by
    rw [(gcell hg).1 w.heap.size m.toNat (by simp) (by omega), World.cell?_alloc_new, HC.out]
    simp [g0, List.getD, hq]
  have G := hid (only_trans (only_alloc (only_refl (w := w) (row := some R)) _) hg)
  clear hg
  go_wp2
  go_ret
  refine ⟨_, rfl, ?_, h2, G.out⟩
  simp [g0, List.getD, hq]

/-- The same behind a draw. -/
theorem one_drew (l : List Int) (cs : Array Value) (n g : Nat) (w : World) (B R N : Nat) (h : Rdr w B R N) (hN : N ≤ 1000000) (hg0 : g = w.heap.size) (hn : n = l.length) (h0' : 0 < l.length) (hcs : cs = (l.map (Value.int .i64)).toArray) (hl' : l.length ≤ 1000000) :
    Calls Try.prog 49 #[.pointer (some ⟨R, 0, none⟩), .slice (some ⟨g, 0, none⟩) n n] (w.alloc (.cells cs 3)).drew (OnePost w B R N l) :=
  (one_any l cs n g w.drew B R N h hN hg0 hn h0' hcs hl').mono fun _ _ ⟨m, h1, h2, h3, h4⟩ => ⟨m, h1, h2, h3, ⟨h4.os, h4.tape, h4.output, h4.size, h4.block⟩⟩

/-- What a new reader is. -/
def NewPost (w : World) (B : Nat) (e : Ending) (w' : World) : Prop :=
  e = .returned (.pointer (some ⟨w.heap.size, 0, none⟩)) ∧ Rdr w' B w.heap.size 0 ∧ Below w.heap.size w w'

theorem rdr_new {w : World} {B : Nat} {A : Option Addr} {len cap n : Nat} (h : Bytes w B A len cap) (hB : B ≤ w.heap.size) (hn : n ≤ len) (hn2 : n ≤ 2000) :
    Rdr (w.alloc (.cells #[.slice A n cap, .int .i64 0] 80)) B w.heap.size 0 := by
  refine ⟨hB, A, n, cap, 0, heap_alloc_new w _, Nat.le_refl _, hn2, fun hl => ?_⟩
  obtain ⟨b, off, u, h6, h7, h8⟩ := (h.alloc hB (.cells #[.slice A n cap, .int .i64 0] 80)).2.2 (by omega)
  exact ⟨b, off, u, h6, h7, fun i hi => h8 i (by omega)⟩

set_option maxHeartbeats 400000 in
theorem newReader_any (w : World) (B : Nat) (A : Option Addr) (len cap : Nat) (h : Bytes w B A len cap) (hB : B ≤ w.heap.size) :
    Calls Try.prog 48 #[.slice A len cap] w (NewPost w B) := by
  have h1 := h.1
  have h2 := h.2.1
  unfold maxLen at h2
  have H := hid h
  clear h
  by_cases hl : 2000 < len
  · go_enter Try.func48, Try.ntmps48
    go_wp2
    go_ret
    refine ⟨rfl, ?_, ?_⟩
    · have := rdr_new (n := 2000) H.out hB (by omega) (by omega)
      exact this
    · repeat (first | exact Below.refl _ _ | (refine Below.alloc ?_ (by (try simp) <;> omega) _) | (refine Below.setCell ?_ (by (try simp) <;> omega) _) | (refine Below.drew ?_) | (refine below_drewN ?_ _) | (refine Below.trans ?_ (Below.mono (by assumption) (by (try simp) <;> omega))))
  · go_enter Try.func48, Try.ntmps48
    go_wp2
    go_ret
    refine ⟨rfl, ?_, ?_⟩
    · have := rdr_new (n := len) H.out hB (by omega) (by omega)
      exact this
    · repeat (first | exact Below.refl _ _ | (refine Below.alloc ?_ (by (try simp) <;> omega) _) | (refine Below.setCell ?_ (by (try simp) <;> omega) _) | (refine Below.drew ?_) | (refine below_drewN ?_ _) | (refine Below.trans ?_ (Below.mono (by assumption) (by (try simp) <;> omega))))

end Go.Proofs.Ytmgphagahdepfaa
