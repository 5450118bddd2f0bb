/- Contracts of the generator's reader: a pick of n numbers is one of them, and only the reader's position moves. -/
import Derived.Test.YtkgofklpogdpmaaGreatZA
import Derived.Test.YtkgofklpogdpmaaGreatZB
import Derived.Laws.BitsAllLaws
import Derived.Test.YtkgofklpogdpmaaGreatZC
namespace Go.Proofs.YtkgofklpogdpmaaGreat
open Go.RowKit

/-- A reader in block R, at a position up to N; its bytes lie below block B. -/
def Rdr (w : World) (B R N : Nat) : Prop :=
  B ≤ R ∧ ∃ (A : Option Addr) (len cap q : Nat), w.heap[R]? = some (.cells #[.slice A len cap, .int .i64 (q : Int)] 78 (0, 0)) ∧ q ≤ N ∧ len ≤ 2000 ∧
    (0 < len → ∃ (b off : Nat) (u : Nat → Int), A = some ⟨b, off, none⟩ ∧ b < B ∧ ∀ i, i < len → w.cell? ⟨b, off + i, none⟩ = some (.int .u8 (u i)) ∧ 0 ≤ u i ∧ u i ≤ 255)

theorem Rdr.more {w : World} {B R N M : Nat} (h : Rdr w B R N) (hN : N ≤ M) : Rdr w B R M := by
  obtain ⟨h1, A, len, cap, q, h2, h3, h4, h5⟩ := h
  exact ⟨h1, A, len, cap, q, h2, by omega, h4, h5⟩
theorem Rdr.lt {w : World} {B R N : Nat} (h : Rdr w B R N) : B ≤ R ∧ R < w.heap.size := by
  obtain ⟨h1, A, len, cap, q, h2, h3, h4, h5⟩ := h
  exact ⟨h1, lt_of_block h2⟩
/-- It stays a reader while other blocks from B on are written. -/
theorem Rdr.keep {w w' : World} {B R N : Nat} (h : Rdr w B R N) (hb : ∀ k, k < B ∨ k = R → w'.heap[k]? = w.heap[k]?) : Rdr w' B R N := by
  obtain ⟨h1, A, len, cap, q, h2, h3, h4, h5⟩ := h
  refine ⟨h1, A, len, cap, q, (hb R (.inr rfl)).trans h2, h3, h4, fun hl => ?_⟩
  obtain ⟨b, off, u, h6, h7, h8⟩ := h5 hl
  exact ⟨b, off, u, h6, h7, fun i hi => ⟨(World.cell?_of_block (hb b (.inl h7))).trans (h8 i hi).1, (h8 i hi).2⟩⟩
theorem Rdr.below {w w' : World} {B R N : Nat} {n : Nat} (h : Rdr w B R N) (hb : Below n w w') (hn : R < n) : Rdr w' B R N :=
  h.keep fun k hk => hb.block k (by have := h.lt; omega)
theorem Rdr.alloc {w : World} {B R N : Nat} (h : Rdr w B R N) (o : Obj) : Rdr (w.alloc o) B R N :=
  h.keep fun k hk => Below.heap_alloc w o k (by have := h.lt; omega)
theorem Rdr.setCell {w : World} {B R N : Nat} (h : Rdr w B R N) {p : Addr} (h1 : B ≤ p.block) (h2 : p.block ≠ R) (u : Value) : Rdr (w.setCell p u) B R N :=
  h.keep fun k hk => Below.heap_setCell w p u k (by omega)
theorem Rdr.drewN {w : World} {B R N : Nat} (h : Rdr w B R N) (n : Nat) : Rdr (w.drewN n) B R N := h
theorem Rdr.grown {w w' : World} {B R N : Nat} {row : Option Nat} (h : Rdr w B R N) (hg : w.grownBy w' row) (hr : ∀ g, row = some g → B ≤ g ∧ g ≠ R) : Rdr w' B R N :=
  h.keep fun k hk => hg.block k (by have := h.lt; omega) (fun e => by have := hr _ e.symm; omega)

def PickPost (w : World) (B R N : Nat) (n : Int) (e : Ending) (w' : World) : Prop :=
  ∃ m : Int, e = .returned (.int .i64 m) ∧ 0 ≤ m ∧ (1 ≤ n → m < n) ∧ m ≤ 9223372036854775807 ∧ Rdr w' B R (N + 1) ∧ w.grownBy w' (some R)

/-- The reader behind a pick. -/
theorem Rdr.step {w : World} {B R N : Nat} {A : Option Addr} {len cap q : Nat} (hBR : B ≤ R) (h2 : w.heap[R]? = some (.cells #[.slice A len cap, .int .i64 (q : Int)] 78 (0, 0))) (h3 : q ≤ N) (h4 : len ≤ 2000)
    (h5 : 0 < len → ∃ (b off : Nat) (u : Nat → Int), A = some ⟨b, off, none⟩ ∧ b < B ∧ ∀ i, i < len → w.cell? ⟨b, off + i, none⟩ = some (.int .u8 (u i)) ∧ 0 ≤ u i ∧ u i ≤ 255) (k : Nat) :
    Rdr ((w.setCell ⟨R, 1, none⟩ (.int .i64 ((q : Int) + 1))).drewN k) B R (N + 1) ∧ w.grownBy ((w.setCell ⟨R, 1, none⟩ (.int .i64 ((q : Int) + 1))).drewN k) (some R) := by
  have hlt := lt_of_block h2
  refine ⟨⟨hBR, A, len, cap, q + 1, ?_, by omega, h4, fun hl => ?_⟩, only_drewN (only_setCell only_refl (.inl rfl) _) _⟩
  · have h' : w.heap[R] = .cells #[.slice A len cap, .int .i64 (q : Int)] 78 (0, 0) := by simpa [Array.getElem?_eq_getElem hlt] using h2
    show (w.heap.modify R _)[R]? = _
    rw [Array.getElem?_eq_getElem (by simpa using hlt), Array.getElem_modify_self, h']
    simp
  · obtain ⟨b, off, u, h6, h7, h8⟩ := h5 hl
    exact ⟨b, off, u, h6, h7, fun i hi => ⟨(World.cell?_of_block (Below.heap_setCell w _ _ b (by simp; omega))).trans (h8 i hi).1, (h8 i hi).2⟩⟩

theorem ofInt_i64 (a : Nat) (ha : a < 9223372036854775808) : (BitVec.ofInt 64 (a : Int)).toNat = a := by
  rw [BitVec.ofInt_natCast, BitVec.toNat_ofNat]; exact Nat.mod_eq_of_lt (by omega)
theorem i64_xor_nat (a b : Nat) (ha : a < 9223372036854775808) (hb : b < 9223372036854775808) : bits .xor .i64 (a : Int) (b : Int) = ((a ^^^ b : Nat) : Int) := by
  have hx : a ^^^ b < 2 ^ 63 := Nat.xor_lt_two_pow (by omega) (by omega)
  show IntKind.i64.wrap ((BitVec.ofInt 64 (a : Int) ^^^ BitVec.ofInt 64 (b : Int)).toNat : Int) = _
  rw [BitVec.toNat_xor, ofInt_i64 a ha, ofInt_i64 b hb, IntKind.wrap_i64]
  omega
theorem xor_lo (x y : Int) (h1 : 0 ≤ x) (h2 : x ≤ 9223372036854775807) (h3 : 0 ≤ y) (h4 : y ≤ 9223372036854775807) : 0 ≤ bits .xor .i64 x y ∧ bits .xor .i64 x y ≤ 9223372036854775807 := by
  obtain ⟨a, rfl⟩ := Int.eq_ofNat_of_zero_le h1
  obtain ⟨b, rfl⟩ := Int.eq_ofNat_of_zero_le h3
  rw [i64_xor_nat a b (by omega) (by omega)]
  have hx : a ^^^ b < 2 ^ 63 := Nat.xor_lt_two_pow (by omega) (by omega)
  omega
theorem rem_lo (x n : Int) (h1 : 0 ≤ x) (h2 : x ≤ 9223372036854775807) (h3 : 1 ≤ n) : 0 ≤ x.tmod n ∧ x.tmod n < n ∧ x.tmod n ≤ 9223372036854775807 := by
  have h4 := Int.tmod_lt_of_pos x (show 0 < n by omega)
  have h5 := Int.tmod_nonneg n h1
  have h6 : x.tmod n ≤ x := by
    rw [Int.tmod_eq_emod_of_nonneg h1, Int.emod_def]
    have h7 := Int.mul_nonneg (show 0 ≤ n by omega) (Int.ediv_nonneg h1 (show 0 ≤ n by omega))
    omega
  omega

set_option pp.deepTerms true in
set_option pp.maxSteps 1000000 in
set_option maxHeartbeats 800000 in
theorem pick_any (n : Int) (w : World) (B R N : Nat) (h : Rdr w B R N) (hN : N ≤ 1000000) :
    Calls Tryz.prog 31 #[.pointer (some ⟨R, 0, none⟩), .int .i64 n] w (PickPost w B R N n) := by
  obtain ⟨hBR, A, len, cap, q, hR, hq, hlen, hbytes⟩ := h
  have hstep := fun k => Rdr.step hBR hR hq hlen hbytes k
  have HS := hid hstep
  clear hstep
  have c0 : w.cell? ⟨R, 0, none⟩ = some (.slice A len cap) := by simp [World.cell?, hR]
  have c1 : w.cell? ⟨R, 1, none⟩ = some (.int .i64 (q : Int)) := by simp [World.cell?, hR]
  have f1 : w.frozen? ⟨R, 1, none⟩ = false := by simp [World.frozen?, hR]
  clear hR
  by_cases hn : n < 1
  · clear hbytes
    go_enter Tryz.func31, Tryz.ntmps31
    go_wp2
    go_ret
    exact ⟨0, rfl, by omega, by omega, by omega, HS.out 0⟩
  · by_cases hl : len = 0
    · subst hl
      clear hbytes
      go_enter Tryz.func31, Tryz.ntmps31
      go_wp2
      go_ret
      exact ⟨0, rfl, by omega, by omega, by omega, HS.out 0⟩
    · obtain ⟨b, off, u, rfl, hb, hu⟩ := hbytes (by omega)
      have hl0 : ((len : Int) == 0) = false := by simp; omega
      have hbR : b ≠ R := by omega
      by_cases hql : q < len
      · obtain ⟨g1, g2, g3⟩ := hu q hql
        clear hu
        go_enter Tryz.func31, Tryz.ntmps31
        go_wp2
        go_ret
        refine ⟨_, rfl, ?_⟩
        have r := rem_lo (u q) n (by omega) (by omega) (by omega)
        rw [Int.tmod_eq_emod_of_nonneg (by omega)] at r
        exact ⟨r.1, fun _ => r.2.1, r.2.2, HS.out 0⟩
      · have hkl : ¬ (q : Int) < (len : Int) := by omega
        obtain ⟨g1, g2, g3⟩ := hu (q % len) (Nat.mod_lt _ (by omega))
        obtain ⟨g4, g5, g6⟩ := hu ((q * 7 + 3) % len) (Nat.mod_lt _ (by omega))
        have i1 : q % len < len := Nat.mod_lt _ (by omega)
        have i2 : (q * 7 + 3) % len < len := Nat.mod_lt _ (by omega)
        have i3 : 0 ≤ ((q : Int) * 7 + 3) % (len : Int) := Int.emod_nonneg _ (by omega)
        have i4 : ((q : Int) * 7 + 3) % (len : Int) < (len : Int) := Int.emod_lt_of_pos _ (by omega)
        have i5 : (((q : Int) * 7 + 3) % (len : Int)).toNat = (q * 7 + 3) % len := by
          have : ((q : Int) * 7 + 3) % (len : Int) = (((q * 7 + 3) % len : Nat) : Int) := by simp
          rw [this]; exact Int.toNat_natCast _
        have i6 : 0 ≤ (q : Int) / (len : Int) := Int.ediv_nonneg (by omega) (by omega)
        have i7 : (q : Int) / (len : Int) ≤ (q : Int) := Int.ediv_le_self _ (by omega)
        clear hu
        go_enter Tryz.func31, Tryz.ntmps31
        go_wp2
        go_quiet (fail)
        go_wp2
        go_ret
        refine ⟨_, rfl, ?_⟩
        generalize hX : u (q % len) * 131 + u ((q * 7 + 3) % len) * 1117 + (q : Int) * 29 + (q : Int) / (len : Int) * 53 = X
        have x1 : 0 ≤ X := by omega
        have x2 : X ≤ 9223372036854775807 := by omega
        have x3 := xor_lo X (X / 64) x1 x2 (by omega) (by omega)
        have r := rem_lo (bits .xor .i64 X (X / 64)) n x3.1 x3.2 (by omega)
        exact ⟨r.1, fun _ => r.2.1, r.2.2, HS.out nq⟩

/-- What one of some numbers comes to. -/
def OnePost (w : World) (B R N : Nat) (l : List Int) (e : Ending) (w' : World) : Prop :=
  ∃ m : Int, e = .returned (.int .i64 m) ∧ m ∈ l ∧ Rdr w' B R (N + 1) ∧ w.grownBy w' (some R)

set_option maxHeartbeats 400000 in
/-- One of some numbers, which the caller has just laid in a block of their own. -/
theorem one_any (l : List Int) (cs : Array Value) (n g : Nat) (w : World) (B R N : Nat) (h : Rdr w B R N) (hN : N ≤ 1000000) (hg0 : g = w.heap.size) (hn : n = l.length) (h0' : 0 < l.length) (hcs : cs = (l.map (Value.int .i64)).toArray) (hl' : l.length ≤ 1000000) :
    Calls Tryz.prog 68 #[.pointer (some ⟨R, 0, none⟩), .slice (some ⟨g, 0, none⟩) n n] (w.alloc (.cells cs 3)) (OnePost w B R N l) := by
  have hR := h.lt
  subst hg0
  have h0 : 0 < n := by omega
  have hl : n ≤ 1000000 := by omega
  clear h0' hl'
  have h1 := h.alloc (.cells cs 3)
  have HN := hid hn
  have HC := hid hcs
  clear h hn hcs
  go_enter Tryz.func68, Tryz.ntmps68
  go_wp2_with fail
  refine (pick_any _ _ _ _ _ h1 hN).mono ?_
  rintro e w1 ⟨m, rfl, m1, m2, m3, h2, hg⟩
  have m4 := m2 (by omega)
  clear m2
  have hq : m.toNat < l.length := by have := HN.out; omega
  have hc : w1.cell? ⟨w.heap.size, m.toNat, none⟩ = some (.int .i64 (g0 l m.toNat)) := by
    rw [(gcell hg).1 w.heap.size m.toNat (by simp) (by omega), World.cell?_alloc_new, HC.out]
    simp [g0, List.getD, hq]
  have G := hid (only_trans (only_alloc (only_refl (w := w) (row := some R)) _) hg)
  clear hg
  go_wp2
  go_ret
  refine ⟨_, rfl, ?_, h2, G.out⟩
  simp [g0, List.getD, hq]

/-- The same behind a draw. -/
theorem one_drew (l : List Int) (cs : Array Value) (n g : Nat) (w : World) (B R N : Nat) (h : Rdr w B R N) (hN : N ≤ 1000000) (hg0 : g = w.heap.size) (hn : n = l.length) (h0' : 0 < l.length) (hcs : cs = (l.map (Value.int .i64)).toArray) (hl' : l.length ≤ 1000000) :
    Calls Tryz.prog 68 #[.pointer (some ⟨R, 0, none⟩), .slice (some ⟨g, 0, none⟩) n n] (w.alloc (.cells cs 3)).drew (OnePost w B R N l) :=
  (one_any l cs n g w.drew B R N h hN hg0 hn h0' hcs hl').mono fun _ _ ⟨m, h1, h2, h3, h4⟩ => ⟨m, h1, h2, h3, ⟨h4.os, h4.tape, h4.output, h4.size, h4.block⟩⟩

/-- What a new reader is. -/
def NewPost (w : World) (B : Nat) (e : Ending) (w' : World) : Prop :=
  e = .returned (.pointer (some ⟨w.heap.size, 0, none⟩)) ∧ Rdr w' B w.heap.size 0 ∧ Below w.heap.size w w'

theorem rdr_new {w : World} {B : Nat} {A : Option Addr} {len cap n : Nat} (h : Bytes w B A len cap) (hB : B ≤ w.heap.size) (hn : n ≤ len) (hn2 : n ≤ 2000) :
    Rdr (w.alloc (.cells #[.slice A n cap, .int .i64 0] 78)) B w.heap.size 0 := by
  refine ⟨hB, A, n, cap, 0, heap_alloc_new w _, Nat.le_refl _, hn2, fun hl => ?_⟩
  obtain ⟨b, off, u, h6, h7, h8⟩ := (h.alloc hB (.cells #[.slice A n cap, .int .i64 0] 78)).2.2 (by omega)
  exact ⟨b, off, u, h6, h7, fun i hi => h8 i (by omega)⟩

set_option maxHeartbeats 400000 in
theorem newReader_any (w : World) (B : Nat) (A : Option Addr) (len cap : Nat) (h : Bytes w B A len cap) (hB : B ≤ w.heap.size) :
    Calls Tryz.prog 11 #[.slice A len cap] w (NewPost w B) := by
  have h1 := h.1
  have h2 := h.2.1
  unfold maxLen at h2
  have H := hid h
  clear h
  by_cases hl : 2000 < len
  · go_enter Tryz.func11, Tryz.ntmps11
    go_wp2
    go_ret
    refine ⟨rfl, ?_, ?_⟩
    · have := rdr_new (n := 2000) H.out hB (by omega) (by omega)
      exact this
    · repeat (first | exact Below.refl _ _ | (refine Below.alloc ?_ (by (try simp) <;> omega) _) | (refine Below.setCell ?_ (by (try simp) <;> omega) _) | (refine Below.drew ?_) | (refine below_drewN ?_ _) | (refine Below.trans ?_ (Below.mono (by assumption) (by (try simp) <;> omega))))
  · go_enter Tryz.func11, Tryz.ntmps11
    go_wp2
    go_ret
    refine ⟨rfl, ?_, ?_⟩
    · have := rdr_new (n := len) H.out hB (by omega) (by omega)
      exact this
    · repeat (first | exact Below.refl _ _ | (refine Below.alloc ?_ (by (try simp) <;> omega) _) | (refine Below.setCell ?_ (by (try simp) <;> omega) _) | (refine Below.drew ?_) | (refine below_drewN ?_ _) | (refine Below.trans ?_ (Below.mono (by assumption) (by (try simp) <;> omega))))

end Go.Proofs.YtkgofklpogdpmaaGreat

/- Words on readers and rows of a call's own. -/
namespace Go.Proofs.YtkgofklpogdpmaaGreat
open Go.RowKit

/-- The reader stays one while a row of the call's own grows. -/
theorem Rdr.row {α : Type} {enc : α → List Value} {sz : Nat} {e : TypeId} {base : Nat} {w w' W : World} {v : Value} {l : List α} {B R N : Nat} (h : Rdr w B R N) (ho : Own enc sz e W base v l) (hR : R < base) (hB : B ≤ base) (hg : w.grownBy w' v.ownBlock) : Rdr w' B R N :=
  h.grown hg fun g hv => by have := (ho.lt g hv).1; omega

end Go.Proofs.YtkgofklpogdpmaaGreat

/- Contracts of the generators of spans. -/
namespace Go.Proofs.YtkgofklpogdpmaaGreat
open Go.RowKit

/-- Some number, and the reader behind it. -/
def SomePost (w : World) (B R N : Nat) (e : Ending) (w' : World) : Prop := ∃ m : Int, e = .returned (.int .i64 m) ∧ Rdr w' B R (N + 1) ∧ w.grownBy w' (some R)
def SpanPost (w : World) (B R M : Nat) (e : Ending) (w' : World) : Prop :=
  ∃ x y : Int, e = .returned (.agg #[.int .i64 x, .int .i64 y]) ∧ Rdr w' B R M ∧ w.grownBy w' (some R)

set_option maxHeartbeats 1600000 in
theorem someSpan_any (w : World) (B R N : Nat) (h : Rdr w B R N) (hN : N ≤ 900000) :
    Calls Tryz.prog 110 #[.pointer (some ⟨R, 0, none⟩)] w (SpanPost w B R (N + 2)) := by
  have hR := h.lt
  have hRB := hR.1
  have hRw := hR.2
  clear hR
  have hi0 := h.alloc (.cells #[.int .i64 0, .int .i64 0] 49)
  have G0 := hid (only_alloc (only_refl (w := w) (row := some R)) (.cells #[.int .i64 0, .int .i64 0] 49))
  have K0 := hid (Blk.new w 49 #[.int .i64 0, .int .i64 0])
  have z0 : w.heap.size < (w.alloc (.cells #[.int .i64 0, .int .i64 0] 49)).heap.size := by simp
  clear h
  have h0 := hi0
  clear hi0
  go_enter Tryz.func110, Tryz.ntmps110
  go_wp2_with fail
  refine (one_any [0, 1, 2, 10, 100, 1000, 5] _ _ _ _ _ _ _ h0 (by omega) (by simp) rfl (by simp) rfl (by simp)).mono ?_
  rintro e w1 ⟨m1, rfl, hm1, h1, g1⟩
  simp at hm1
  have HM1 := hid (show 0 ≤ m1 ∧ m1 ≤ 1000 by omega)
  have G1 := hid (only_trans G0.out g1)
  have z1 := G1.out.size
  have K1 := hid (K0.out.grown g1 (by simp; omega))
  clear g1
  clear hm1
  go_wp2_with fail
  refine (one_any [0, 1, 5, 100, 900, 20000] _ _ _ _ _ _ _ h1 (by omega) (by simp) rfl (by simp) rfl (by simp)).mono ?_
  rintro e w2 ⟨m2, rfl, hm2, h2, g2⟩
  simp at hm2
  have HM2 := hid (show 0 ≤ m2 ∧ m2 ≤ 20000 by omega)
  have G2 := hid (only_trans G1.out g2)
  have z2 := G2.out.size
  have K2 := hid (K1.out.grown g2 (by simp; omega))
  clear g2
  clear hm2
  have hb1 := HM1.out
  have hb2 := HM2.out
  obtain ⟨hb3, hb4⟩ := hb1
  obtain ⟨hb5, hb6⟩ := hb2
  have hw1 : IntKind.i64.wrap (m1 + m2) = m1 + m2 := IntWalk.i64_in _ (by omega)
  have k0 := K2.out.cell 0
  have k1 := K2.out.cell 1
  have kf := K2.out.frozen
  have zz := K2.out.lt
  have GG := hid (only_setCell (only_setCell G2.out (p := ⟨w.heap.size, 0, none⟩) (.inr (Nat.le_refl _)) (.int .i64 (m1))) (p := ⟨w.heap.size, 1, none⟩) (.inr (Nat.le_refl _)) (.int .i64 (m1 + m2)))
  have HH := hid ((h2.setCell (p := ⟨w.heap.size, 0, none⟩) (by show _ ≤ w.heap.size; omega) (by show w.heap.size ≠ R; omega) (.int .i64 (m1))).setCell (p := ⟨w.heap.size, 1, none⟩) (by show _ ≤ w.heap.size; omega) (by show w.heap.size ≠ R; omega) (.int .i64 (m1 + m2)))
  go_wp2
  exact bodyPost_ret (v := .agg #[.int .i64 (m1), .int .i64 (m1 + m2)]) (by simp [results, Tryz.results110, go_sem, *]) rfl ⟨_, _, rfl, HH.out.more (by omega), GG.out⟩

set_option maxHeartbeats 1600000 in
theorem anySpan_any (w : World) (B R N : Nat) (h : Rdr w B R N) (hN : N ≤ 800000) :
    Calls Tryz.prog 108 #[.pointer (some ⟨R, 0, none⟩)] w (SpanPost w B R (N + 3)) := by
  have hR := h.lt
  have hRB := hR.1
  have hRw := hR.2
  clear hR
  have hi0 := h.alloc (.cells #[.int .i64 0, .int .i64 0] 49)
  have G0 := hid (only_alloc (only_refl (w := w) (row := some R)) (.cells #[.int .i64 0, .int .i64 0] 49))
  have K0 := hid (Blk.new w 49 #[.int .i64 0, .int .i64 0])
  have z0 : w.heap.size < (w.alloc (.cells #[.int .i64 0, .int .i64 0] 49)).heap.size := by simp
  clear h
  have h0 := hi0
  clear hi0
  go_enter Tryz.func108, Tryz.ntmps108
  go_wp2_with fail
  refine (pick_any _ _ _ _ _ h0 (by omega)).mono ?_
  rintro e w1 ⟨m1, rfl, a1, b1, c1, h1, g1⟩
  have u1 := b1 (by omega)
  clear b1
  have G1 := hid (only_trans G0.out g1)
  have z1 := G1.out.size
  have K1 := hid (K0.out.grown g1 (by simp; omega))
  clear g1
  by_cases hz : m1 = 0
  · subst hz
    clear a1 u1 c1
    go_wp2_with fail
    refine (one_any [-1, 5, 1000000] _ _ _ _ _ _ _ h1 (by omega) (by simp) rfl (by simp) rfl (by simp)).mono ?_
    rintro e w2 ⟨m2, rfl, hm2, h2, g2⟩
    have G2 := hid (only_trans G1.out g2)
    have z2 := G2.out.size
    have K2 := hid (K1.out.grown g2 (by simp; omega))
    clear g2
    clear hm2
    go_wp2_with fail
    refine (one_any [1000000, 1000001, 4] _ _ _ _ _ _ _ h2 (by omega) (by simp) rfl (by simp) rfl (by simp)).mono ?_
    rintro e w3 ⟨m3, rfl, hm3, h3, g3⟩
    have G3 := hid (only_trans G2.out g3)
    have z3 := G3.out.size
    have K3 := hid (K2.out.grown g3 (by simp; omega))
    clear g3
    clear hm3
    have k0 := K3.out.cell 0
    have k1 := K3.out.cell 1
    have kf := K3.out.frozen
    have zz := K3.out.lt
    have GG := hid (only_setCell (only_setCell G3.out (p := ⟨w.heap.size, 0, none⟩) (.inr (Nat.le_refl _)) (.int .i64 (m2))) (p := ⟨w.heap.size, 1, none⟩) (.inr (Nat.le_refl _)) (.int .i64 (m3)))
    have HH := hid ((h3.setCell (p := ⟨w.heap.size, 0, none⟩) (by show _ ≤ w.heap.size; omega) (by show w.heap.size ≠ R; omega) (.int .i64 (m2))).setCell (p := ⟨w.heap.size, 1, none⟩) (by show _ ≤ w.heap.size; omega) (by show w.heap.size ≠ R; omega) (.int .i64 (m3)))
    go_wp2
    exact bodyPost_ret (v := .agg #[.int .i64 (m2), .int .i64 (m3)]) (by simp [results, Tryz.results108, go_sem, *]) rfl ⟨_, _, rfl, HH.out.more (by omega), GG.out⟩
  · have e1 : (m1 == 0) = false := beq_eq_false_iff_ne.2 hz
    clear hz
    go_wp2_with fail
    refine (someSpan_any _ _ _ _ h1 (by omega)).mono ?_
    rintro e w2 ⟨x, y, rfl, h2, g2⟩
    have G2 := hid (only_trans G1.out g2)
    have z2 := G2.out.size
    have K2 := hid (K1.out.grown g2 (by simp; omega))
    clear g2
    have k0 := K2.out.cell 0
    have k1 := K2.out.cell 1
    have kf := K2.out.frozen
    have zz := K2.out.lt
    have GG := hid (only_setCell (only_setCell G2.out (p := ⟨w.heap.size, 0, none⟩) (.inr (Nat.le_refl _)) (.int .i64 (x))) (p := ⟨w.heap.size, 1, none⟩) (.inr (Nat.le_refl _)) (.int .i64 (y)))
    have HH := hid ((h2.setCell (p := ⟨w.heap.size, 0, none⟩) (by show _ ≤ w.heap.size; omega) (by show w.heap.size ≠ R; omega) (.int .i64 (x))).setCell (p := ⟨w.heap.size, 1, none⟩) (by show _ ≤ w.heap.size; omega) (by show w.heap.size ≠ R; omega) (.int .i64 (y)))
    go_wp2
    exact bodyPost_ret (v := .agg #[.int .i64 (x), .int .i64 (y)]) (by simp [results, Tryz.results108, go_sem, *]) rfl ⟨_, _, rfl, HH.out.more (by omega), GG.out⟩

set_option maxHeartbeats 1600000 in
theorem all_any (w : World) : Calls Tryz.prog 109 #[] w fun e w' => e = .returned (.agg #[.int .i64 0, .int .i64 1000000]) ∧ Below w.heap.size w w' := by
  go_enter Tryz.func109, Tryz.ntmps109
  go_wp2
  refine bodyPost_ret (v := .agg #[.int .i64 0, .int .i64 1000000]) (by simp [results, Tryz.results109, go_sem]) rfl ⟨rfl, ?_⟩
  repeat (first | exact Below.refl _ _ | (refine Below.alloc ?_ (by (try simp) <;> omega) _) | (refine Below.setCell ?_ (by (try simp) <;> omega) _) | (refine Below.drew ?_) | (refine below_drewN ?_ _) | (refine Below.trans ?_ (Below.mono (by assumption) (by (try simp) <;> omega))))

end Go.Proofs.YtkgofklpogdpmaaGreat

/- Rules whose spans lie in rows of the call's own. -/
namespace Go.Proofs.YtkgofklpogdpmaaGreat
open Go.RowKit

/-- A row of the call's own is no row of another type. -/
theorem Own.off_own {α β : Type} {enc : α → List Value} {enc' : β → List Value} {sz sz' : Nat} {e e' : TypeId} {b b' : Nat} {w : World} {v v' : Value} {l : List α} {l' : List β}
    (h : Own enc sz e w b v l) (h' : Own enc' sz' e' w b' v' l') (ht : e ≠ e') : v.ownBlock = none ∨ v.ownBlock ≠ v'.ownBlock := by
  rcases h.2 with ⟨h1, _⟩ | ⟨k, cap, cur, h1, h2, h3, h4, h5, h6, h7⟩
  · subst h1; exact .inl rfl
  · rcases h'.2 with ⟨k1, _⟩ | ⟨k', cap', cur', k1, k2, k3, k4, k5, k6, k7⟩
    · subst h1; subst k1; exact .inr (fun he => by cases he)
    · right; intro he
      subst h1; subst k1
      have h8 : k = k' := Option.some.inj he
      subst h8
      rw [h3] at k3
      injection k3 with k3
      injection k3 with _ h9
      exact ht h9

def spV (r : ((Int × Int × Int × Int × Int × Int × Int) × (Int × Int) × (Option Addr × Nat × List (Int × Int)) × Int)) : Value := .slice r.2.2.1.1 r.2.2.1.2.2.length r.2.2.1.2.1
/-- The spans of rules, each in a row of the call's own. -/
def SpOwn (w : World) (base : Nat) (l : List ((Int × Int × Int × Int × Int × Int × Int) × (Int × Int) × (Option Addr × Nat × List (Int × Int)) × Int)) : Prop := ∀ r ∈ l, Own enc2 2 49 w base (spV r) (spnR r) ∧ (1 ≤ (spnR r).length ∧ (spnR r).length ≤ 4)
theorem SpOwn.nil (w : World) (base : Nat) : SpOwn w base [] := fun _ h => by cases h
theorem SpOwn.grown {w w' : World} {base R : Nat} {l : List ((Int × Int × Int × Int × Int × Int × Int) × (Int × Int) × (Option Addr × Nat × List (Int × Int)) × Int)} (h : SpOwn w base l) (hg : w.grownBy w' (some R)) (hR : R < base) : SpOwn w' base l := fun r hr => ⟨(h r hr).1.grown hg ((h r hr).1.off hR), (h r hr).2⟩
theorem SpOwn.alloc {w : World} {base : Nat} {l : List ((Int × Int × Int × Int × Int × Int × Int) × (Int × Int) × (Option Addr × Nat × List (Int × Int)) × Int)} (h : SpOwn w base l) (o : Obj) : SpOwn (w.alloc o) base l := fun r hr => ⟨(h r hr).1.alloc o, (h r hr).2⟩
theorem SpOwn.less {w : World} {base b' : Nat} {l : List ((Int × Int × Int × Int × Int × Int × Int) × (Int × Int) × (Option Addr × Nat × List (Int × Int)) × Int)} (h : SpOwn w base l) (hb : b' ≤ base) : SpOwn w b' l := fun r hr => ⟨(h r hr).1.less hb, (h r hr).2⟩
theorem SpOwn.app {w : World} {base : Nat} {l m : List ((Int × Int × Int × Int × Int × Int × Int) × (Int × Int) × (Option Addr × Nat × List (Int × Int)) × Int)} (h : SpOwn w base l) (k : SpOwn w base m) : SpOwn w base (l ++ m) := fun r hr => (List.mem_append.1 hr).elim (h r) (k r)
theorem SpOwn.row {α : Type} {enc : α → List Value} {sz : Nat} {e : TypeId} {w w' : World} {base b : Nat} {l : List ((Int × Int × Int × Int × Int × Int × Int) × (Int × Int) × (Option Addr × Nat × List (Int × Int)) × Int)} {v : Value} {m : List α} (h : SpOwn w base l) (ho : Own enc sz e w b v m) (he : 49 ≠ e) (hg : w.grownBy w' v.ownBlock) : SpOwn w' base l :=
  fun r hr => ⟨(h r hr).1.grown hg ((h r hr).1.off_own ho he), (h r hr).2⟩
theorem SpOwn.far {α : Type} {enc : α → List Value} {sz : Nat} {e : TypeId} {w : World} {base b : Nat} {l : List ((Int × Int × Int × Int × Int × Int × Int) × (Int × Int) × (Option Addr × Nat × List (Int × Int)) × Int)} {v : Value} {m : List α} (h : SpOwn w base l) (ho : Own enc sz e w b v m) (he : 49 ≠ e) {p : Addr} (hp : v.ownBlock = some p.block) (u : Value) : SpOwn (w.setCell p u) base l :=
  fun r hr => ⟨(h r hr).1.far (by rcases (h r hr).1.off_own ho he with h1 | h1 <;> rw [← hp] <;> first | exact h1 | (rw [h1]; intro hc; rw [hp] at hc; cases hc)) u, (h r hr).2⟩
/-- Changed rules with the spans of old ones. -/
theorem SpOwn.set {w : World} {base : Nat} {l : List ((Int × Int × Int × Int × Int × Int × Int) × (Int × Int) × (Option Addr × Nat × List (Int × Int)) × Int)} {k : Nat} {r r' : ((Int × Int × Int × Int × Int × Int × Int) × (Int × Int) × (Option Addr × Nat × List (Int × Int)) × Int)} (h : SpOwn w base l) (hr : l[k]? = some r) (h1 : spV r' = spV r) (h2 : spnR r' = spnR r) : SpOwn w base (l.set k r') := fun x hx => by
  rcases List.mem_or_eq_of_mem_set hx with hx | rfl
  · exact h x hx
  · rw [h1, h2]; exact h r (List.mem_of_getElem? hr)
theorem SpOwn.ins {w : World} {base : Nat} {l : List ((Int × Int × Int × Int × Int × Int × Int) × (Int × Int) × (Option Addr × Nat × List (Int × Int)) × Int)} (h : SpOwn w base l) : SpansIn w w.heap.size l := fun r hr => ⟨(h r hr).1.sl len2, (h r hr).2.2⟩

end Go.Proofs.YtkgofklpogdpmaaGreat

/- A row of rules of the call's own, with the spans of each and the reader beside it. -/
namespace Go.Proofs.YtkgofklpogdpmaaGreat
open Go.RowKit

def RS (w0 : World) (B R M : Nat) (v : Value) (l : List ((Int × Int × Int × Int × Int × Int × Int) × (Int × Int) × (Option Addr × Nat × List (Int × Int)) × Int)) (w : World) : Prop :=
  Own encR 11 54 w w0.heap.size v l ∧ SpOwn w w0.heap.size l ∧ Rdr w B R M ∧ w0.grownBy w (some R)
section
variable {w0 w w' : World} {B R M : Nat} {v : Value} {l : List ((Int × Int × Int × Int × Int × Int × Int) × (Int × Int) × (Option Addr × Nat × List (Int × Int)) × Int)}
theorem RS.size (h : RS w0 B R M v l w) : w0.heap.size ≤ w.heap.size := h.2.2.2.size
theorem RS.call (h : RS w0 B R M v l w) (hR : R < w0.heap.size) (hg : w.grownBy w' (some R)) {M' : Nat} (hr : Rdr w' B R M') : RS w0 B R M' v l w' :=
  ⟨h.1.grown hg (h.1.off hR), h.2.1.grown hg hR, hr, only_trans h.2.2.2 hg⟩
theorem RS.more (h : RS w0 B R M v l w) {M' : Nat} (hM : M ≤ M') : RS w0 B R M' v l w := ⟨h.1, h.2.1, h.2.2.1.more hM, h.2.2.2⟩
theorem RS.nil0 (hr : Rdr w B R M) : RS w B R M (.slice (some ⟨w.heap.size, 0, none⟩) 0 0) [] (w.alloc (.cells #[] 54)) :=
  ⟨Own.lit0 encR 11 54 w w.heap.size rfl (Nat.le_refl _), SpOwn.nil _ _, hr.alloc _, only_alloc only_refl _⟩
/-- The rows of a call that was made later. -/
theorem RS.lift {w1 : World} (h : RS w1 B R M v l w) (hg : w0.grownBy w1 (some R)) : RS w0 B R M v l w :=
  ⟨h.1.less hg.size, h.2.1.less hg.size, h.2.2.1, only_trans hg h.2.2.2⟩
/-- A rule is appended. -/
theorem RS.push (h : RS w0 B R M v l w) (hRB : B ≤ R) (hR : R < w0.heap.size) {x : ((Int × Int × Int × Int × Int × Int × Int) × (Int × Int) × (Option Addr × Nat × List (Int × Int)) × Int)} {base : Nat} (hx : Own enc2 2 49 w base (spV x) (spnR x)) (hb : w0.heap.size ≤ base) (hn : 1 ≤ (spnR x).length ∧ (spnR x).length ≤ 4) {cs : Array Value} {v' : Value}
    (ho : Own encR 11 54 w' w0.heap.size v' (l ++ [x])) (hg : (w.alloc (.cells cs 54)).grownBy w' v.ownBlock) : RS w0 B R M v' (l ++ [x]) w' := by
  have h1 := h.1.alloc (.cells cs 54)
  refine ⟨ho, ?_, (h.2.2.1.alloc _).row h1 hR (by omega) hg, only_row (only_alloc h.2.2.2 _) h1 (Nat.le_refl _) hg⟩
  refine ((h.2.1.alloc _).row h1 (by decide) hg).app ?_
  intro r hr
  obtain rfl := List.mem_singleton.1 hr
  exact ⟨((hx.less hb).alloc _).grown hg (((hx.less hb).alloc _).off_own h1 (by decide)), hn⟩
/-- A number of a rule is written. -/
theorem RS.set {g cap k : Nat} (h : RS w0 B R M (.slice (some ⟨g, 0, none⟩) k cap) l w) (hk : k = l.length) (hRB : B ≤ R) (hR : R < w0.heap.size) {i j : Nat} {r r' : ((Int × Int × Int × Int × Int × Int × Int) × (Int × Int) × (Option Addr × Nat × List (Int × Int)) × Int)} {u : Value} (hi : l[i]? = some r) (hj : j < 11) (he : encR r' = (encR r).set j u) (h1 : spV r' = spV r) (h2 : spnR r' = spnR r) :
    RS w0 B R M (.slice (some ⟨g, 0, none⟩) k cap) (l.set i r') (w.setCell ⟨g, i * 11 + j, none⟩ u) := by
  have hg := (h.1.lt g rfl).1
  exact ⟨h.1.store lenR hk hi hj he, (h.2.1.far h.1 (by decide) (p := ⟨g, i * 11 + j, none⟩) rfl u).set hi h1 h2, h.2.2.1.setCell (by show B ≤ g; omega) (by show g ≠ R; omega) u, only_setCell h.2.2.2 (.inr hg) u⟩
end

/-- Some rules. -/
def RulesPost (w : World) (B R M c : Nat) (e : Ending) (w' : World) : Prop := ∃ (l : List ((Int × Int × Int × Int × Int × Int × Int) × (Int × Int) × (Option Addr × Nat × List (Int × Int)) × Int)) (v : Value), e = .returned v ∧ l.length ≤ c ∧ RS w B R M v l w'

end Go.Proofs.YtkgofklpogdpmaaGreat
