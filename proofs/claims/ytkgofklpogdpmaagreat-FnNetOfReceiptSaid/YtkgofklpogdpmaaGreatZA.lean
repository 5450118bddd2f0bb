/- General words of this seat's proofs: what a call leaves of old memory. No program in sight. -/
import Derived.WalkKit
import Derived.Deep.QuietTactic
import Derived.BigQuiet
import Derived.Test.YtkgofklpogdpmaaGreatProg
namespace Go.Proofs.YtkgofklpogdpmaaGreat
open Go.RowKit

/-- A fact kept from the walk. -/
theorem hid {p : Prop} (h : p) : Hid p := h

theorem ret_int {k : IntKind} {a b : Int} (h : a = b) : Ending.returned (.int k a) = .returned (.int k b) := by rw [h]
theorem ret_bool {a b : Bool} (h : a = b) : Ending.returned (.bool a) = .returned (.bool b) := by rw [h]

theorem bcell {n : Nat} {W w1 : World} (hb : Below n W w1) : (∀ b o, b < n → w1.cell? ⟨b, o, none⟩ = W.cell? ⟨b, o, none⟩) ∧ (∀ b o, b < n → w1.frozen? ⟨b, o, none⟩ = W.frozen? ⟨b, o, none⟩) :=
  ⟨fun b o h => hb.cell (p := ⟨b, o, none⟩) h, fun b o h => hb.frozen (p := ⟨b, o, none⟩) h⟩

/-- The same behind a call that may have written block R. -/
theorem gcell {R : Nat} {W w1 : World} (hg : W.grownBy w1 (some R)) : (∀ b o, b < W.heap.size → b ≠ R → w1.cell? ⟨b, o, none⟩ = W.cell? ⟨b, o, none⟩) ∧ (∀ b o, b < W.heap.size → b ≠ R → w1.frozen? ⟨b, o, none⟩ = W.frozen? ⟨b, o, none⟩) :=
  ⟨fun b o h hne => World.cell?_of_block (a := ⟨b, o, none⟩) (hg.block b h (by simpa using hne)), fun b o h hne => World.frozen?_of_block (a := ⟨b, o, none⟩) (hg.block b h (by simpa using hne))⟩

/-- A block whose cells are known: what its cells hold; none is frozen. -/
def Blk (w : World) (g : Nat) (t : TypeId) (cs : Array Value) : Prop := w.heap[g]? = some (.cells cs t (0, 0))
theorem Blk.lt {w : World} {g : Nat} {t : TypeId} {cs : Array Value} (h : Blk w g t cs) : g < w.heap.size := lt_of_block h
theorem Blk.cell {w : World} {g : Nat} {t : TypeId} {cs : Array Value} (h : Blk w g t cs) (i : Nat) : w.cell? ⟨g, i, none⟩ = cs[i]? := by
  unfold Blk at h; simp [World.cell?, h]
theorem Blk.frozen {w : World} {g : Nat} {t : TypeId} {cs : Array Value} (h : Blk w g t cs) (i : Nat) : w.frozen? ⟨g, i, none⟩ = false := by
  unfold Blk at h; simp [World.frozen?, h]
theorem Blk.new (w : World) (t : TypeId) (cs : Array Value) : Blk (w.alloc (.cells cs t)) w.heap.size t cs := heap_alloc_new w _
theorem Blk.alloc {w : World} {g : Nat} {t : TypeId} {cs : Array Value} (h : Blk w g t cs) (o : Obj) : Blk (w.alloc o) g t cs := (Below.heap_alloc w o g h.lt).trans h
theorem Blk.below {w w' : World} {g n : Nat} {t : TypeId} {cs : Array Value} (h : Blk w g t cs) (hb : Below n w w') (hn : g < n) : Blk w' g t cs := (hb.block g hn).trans h
theorem Blk.grown {w w' : World} {g : Nat} {row : Option Nat} {t : TypeId} {cs : Array Value} (h : Blk w g t cs) (hb : w.grownBy w' row) (hn : some g ≠ row) : Blk w' g t cs := (hb.block g h.lt hn).trans h
theorem Blk.far {w : World} {g : Nat} {t : TypeId} {cs : Array Value} (h : Blk w g t cs) {p : Addr} (hp : g ≠ p.block) (u : Value) : Blk (w.setCell p u) g t cs := (Below.heap_setCell w p u g hp).trans h
theorem Blk.set_ {w : World} {g : Nat} {t : TypeId} {cs : Array Value} (h : Blk w g t cs) (i : Nat) (u : Value) : Blk (w.setCell ⟨g, i, none⟩ u) g t (cs.setIfInBounds i u) := by
  unfold Blk at h ⊢
  simp [World.setCell, Array.getElem?_modify, h]
theorem Blk.three {w : World} {g : Nat} {t : TypeId} {x y z : Value} (h : Blk w g t #[x, y, z]) :
    w.cell? ⟨g, 0, none⟩ = some x ∧ w.cell? ⟨g, 1, none⟩ = some y ∧ w.cell? ⟨g, 2, none⟩ = some z ∧ ∀ o, w.frozen? ⟨g, o, none⟩ = false :=
  ⟨h.cell 0, h.cell 1, h.cell 2, h.frozen⟩
theorem Blk.two {w : World} {g : Nat} {t : TypeId} {x y : Value} (h : Blk w g t #[x, y]) :
    w.cell? ⟨g, 0, none⟩ = some x ∧ w.cell? ⟨g, 1, none⟩ = some y ∧ ∀ o, w.frozen? ⟨g, o, none⟩ = false :=
  ⟨h.cell 0, h.cell 1, h.frozen⟩

theorem below_drewN {B : Nat} {a w : World} (h : Below B a w) (n : Nat) : Below B a (w.drewN n) := ⟨h.os, h.tape, h.output, h.size, h.block⟩

/-! ### 'grownBy', step by step -/
theorem only_refl {w : World} {row : Option Nat} : w.grownBy w row := ⟨rfl, rfl, rfl, Nat.le_refl _, fun _ _ _ => rfl⟩
theorem only_drewN {a w : World} {row : Option Nat} (h : a.grownBy w row) (n : Nat) : a.grownBy (w.drewN n) row := ⟨h.os, h.tape, h.output, h.size, h.block⟩
theorem only_drew {a w : World} {row : Option Nat} (h : a.grownBy w row) : a.grownBy w.drew row := ⟨h.os, h.tape, h.output, h.size, h.block⟩
theorem only_alloc {a w : World} {row : Option Nat} (h : a.grownBy w row) (o : Obj) : a.grownBy (w.alloc o) row :=
  ⟨h.os, h.tape, h.output, Nat.le_trans h.size (by simp), fun i hi hne => (Below.heap_alloc w o i (Nat.lt_of_lt_of_le hi h.size)).trans (h.block i hi hne)⟩
theorem only_setCell {a w : World} {row : Option Nat} (h : a.grownBy w row) {p : Addr} (hp : some p.block = row ∨ a.heap.size ≤ p.block) (u : Value) : a.grownBy (w.setCell p u) row :=
  ⟨h.os, h.tape, h.output, by simpa [World.setCell] using h.size, fun i hi hne => (Below.heap_setCell w p u i (by
    rintro rfl
    rcases hp with hp | hp
    · exact hne hp
    · omega)).trans (h.block i hi hne)⟩
theorem only_of_below {a w : World} {n : Nat} (h : Below n a w) (hn : a.heap.size ≤ n) {row : Option Nat} : a.grownBy w row := ⟨h.os, h.tape, h.output, h.size, fun i hi _ => h.block i (by omega)⟩
theorem only_below {a w : World} (h : a.grownBy w none) : Below a.heap.size a w := ⟨h.os, h.tape, h.output, h.size, fun k hk => h.block k hk (by simp)⟩
theorem only_trans {a b c : World} {row : Option Nat} (h : a.grownBy b row) (k : b.grownBy c row) : a.grownBy c row :=
  ⟨k.os.trans h.os, k.tape.trans h.tape, k.output.trans h.output, Nat.le_trans h.size k.size, fun i hi hne => (k.block i (Nat.lt_of_lt_of_le hi h.size) hne).trans (h.block i hi hne)⟩
/-- A reader that was made by the call itself: what it may have written lies above. -/
theorem below_of_only {a b c : World} {B R : Nat} (h : Below B a b) (k : b.grownBy c (some R)) (hB : B ≤ b.heap.size) (hR : B ≤ R) : Below B a c :=
  h.grown k hB (by rintro k rfl' ; cases rfl'; exact hR)

end Go.Proofs.YtkgofklpogdpmaaGreat

/- Contracts of the functions on numbers alone: a number is in a range. -/
namespace Go.Proofs.YtkgofklpogdpmaaGreat
open Go.RowKit

def withinB (n lo hi : Int) : Bool := decide (lo ≤ n ∧ n ≤ hi)
theorem withinB_true {n lo hi : Int} : withinB n lo hi = true ↔ lo ≤ n ∧ n ≤ hi := by simp [withinB]
theorem withinB_false {n lo hi : Int} : withinB n lo hi = false ↔ ¬ (lo ≤ n ∧ n ≤ hi) := by simp [withinB]

set_option maxHeartbeats 400000 in
theorem within_any (n lo hi : Int) (w : World) :
    Calls Tryz.prog 64 #[.int .i64 n, .int .i64 lo, .int .i64 hi] w fun e w' => e = .returned (.bool (withinB n lo hi)) ∧ w = w' := by
  go_enter Tryz.func64, Tryz.ntmps64
  go_wp2
  all_goals (go_ret; simp [withinB, *])
  all_goals omega

set_option maxHeartbeats 400000 in
theorem inRange_any (n lo hi : Int) (w : World) :
    Calls Tryz.prog 51 #[.int .i64 n, .int .i64 lo, .int .i64 hi] w fun e w' => e = .returned (.bool (withinB n lo hi)) ∧ w = w' := by
  go_enter Tryz.func51, Tryz.ntmps51
  go_wp2
  all_goals (go_ret; simp [withinB, *])
  all_goals omega

/-! ### The same with the answer decided, and inside a region that draws its order -/
theorem within_yes {n lo hi : Int} (h : withinB n lo hi = true) (w : World) :
    Calls Tryz.prog 64 #[.int .i64 n, .int .i64 lo, .int .i64 hi] w fun e w' => e = .returned (.bool true) ∧ w = w' := by
  have := within_any n lo hi w; rwa [h] at this
theorem within_no {n lo hi : Int} (h : withinB n lo hi = false) (w : World) :
    Calls Tryz.prog 64 #[.int .i64 n, .int .i64 lo, .int .i64 hi] w fun e w' => e = .returned (.bool false) ∧ w = w' := by
  have := within_any n lo hi w; rwa [h] at this
theorem inRange_yes {n lo hi : Int} (h : withinB n lo hi = true) (w : World) :
    Calls Tryz.prog 51 #[.int .i64 n, .int .i64 lo, .int .i64 hi] w fun e w' => e = .returned (.bool true) ∧ w = w' := by
  have := inRange_any n lo hi w; rwa [h] at this
theorem inRange_no {n lo hi : Int} (h : withinB n lo hi = false) (w : World) :
    Calls Tryz.prog 51 #[.int .i64 n, .int .i64 lo, .int .i64 hi] w fun e w' => e = .returned (.bool false) ∧ w = w' := by
  have := inRange_any n lo hi w; rwa [h] at this
theorem quiet_same {P : Program} {f : FuncId} {args : Array Value} {w : World} {n : Nat} {v : Value}
    (h : Calls P f args (w.drewN n) fun e w' => e = .returned v ∧ w.drewN n = w') : Calls P f args (w.drewN n) fun e w'' => e = .returned v ∧ ∃ m, w'' = w.drewN m :=
  h.mono fun _ _ ⟨he, hm⟩ => ⟨he, n, hm.symm⟩

end Go.Proofs.YtkgofklpogdpmaaGreat

/- Bytes that came in. No program in sight. -/
namespace Go.Proofs.YtkgofklpogdpmaaGreat
open Go.RowKit

/-- Bytes that came in, below block B. -/
def Bytes (w : World) (B : Nat) (A : Option Addr) (len cap : Nat) : Prop :=
  len ≤ cap ∧ cap ≤ maxLen ∧ (0 < len → ∃ (b off : Nat) (u : Nat → Int), A = some ⟨b, off, none⟩ ∧ b < B ∧ ∀ i, i < len → w.cell? ⟨b, off + i, none⟩ = some (.int .u8 (u i)) ∧ 0 ≤ u i ∧ u i ≤ 255)
theorem Bytes.keep {w w' : World} {B : Nat} {A : Option Addr} {len cap : Nat} (h : Bytes w B A len cap) (hb : ∀ k, k < B → w'.heap[k]? = w.heap[k]?) : Bytes w' B A len cap := by
  refine ⟨h.1, h.2.1, fun hl => ?_⟩
  obtain ⟨b, off, u, h6, h7, h8⟩ := h.2.2 hl
  exact ⟨b, off, u, h6, h7, fun i hi => ⟨(World.cell?_of_block (hb b h7)).trans (h8 i hi).1, (h8 i hi).2⟩⟩
theorem Bytes.alloc {w : World} {B : Nat} {A : Option Addr} {len cap : Nat} (h : Bytes w B A len cap) (hB : B ≤ w.heap.size) (o : Obj) : Bytes (w.alloc o) B A len cap :=
  h.keep fun k hk => Below.heap_alloc w o k (by omega)

theorem Bytes.up {w : World} {B B' : Nat} {A : Option Addr} {len cap : Nat} (h : Bytes w B A len cap) (hB : B ≤ B') : Bytes w B' A len cap := by
  refine ⟨h.1, h.2.1, fun hl => ?_⟩
  obtain ⟨b, off, u, h6, h7, h8⟩ := h.2.2 hl
  exact ⟨b, off, u, h6, by omega, h8⟩

end Go.Proofs.YtkgofklpogdpmaaGreat

/- The plain law of taxes in amounts, and of gross amounts. No program in sight. -/
namespace Go.Proofs.YtkgofklpogdpmaaGreat

def taxI (a r : Int) : Int := (2 * a * r + (1000 + r)) / (2 * (1000 + r))
/-- The least gross amount. -/
def grossL (net r : Int) : Int := (2 * (net * (1000 + r)) - (1000 + r)) / 2000 + 1

theorem tax_bd {a r : Int} (ha : 0 ≤ a) (hr : 0 ≤ r ∧ r ≤ 300) : 0 ≤ taxI a r ∧ taxI a r ≤ a := by
  have h0 : 0 ≤ 2 * a * r := Int.mul_nonneg (by omega) hr.1
  unfold taxI
  refine ⟨Int.ediv_nonneg (by omega) (by omega), ?_⟩
  have h1 : (2 * a * r + (1000 + r)) / (2 * (1000 + r)) < a + 1 := by
    rw [Int.ediv_lt_iff_lt_mul (by omega)]
    have e : (a + 1) * (2 * (1000 + r)) = 2000 * a + 2 * a * r + 2 * (1000 + r) := by
      rw [Int.add_mul, Int.mul_comm 2 a, Int.mul_assoc a 2 r, Int.mul_left_comm, Int.mul_add]
      rw [show a * (2 * r) = 2 * (a * r) from Int.mul_left_comm ..]
      omega
    omega
  omega
/-- What is left of an amount is at least a net amount. -/
theorem left_ge {n r net : Int} (hr : 0 ≤ r ∧ r ≤ 300) : net ≤ n - taxI n r ↔ 2 * (net * (1000 + r)) - (1000 + r) < 2000 * n := by
  have h1 : taxI n r < n - net + 1 ↔ 2 * n * r + (1000 + r) < (n - net + 1) * (2 * (1000 + r)) := by
    unfold taxI; exact Int.ediv_lt_iff_lt_mul (by omega)
  have e : (n - net + 1) * (2 * (1000 + r)) = 2000 * n + 2 * n * r - 2 * (net * (1000 + r)) + 2 * (1000 + r) := by
    rw [Int.add_mul, Int.sub_mul]
    rw [show n * (2 * (1000 + r)) = 2000 * n + 2 * n * r by
      rw [Int.mul_comm 2 n, Int.mul_assoc n 2 r, Int.mul_left_comm, Int.mul_add]
      rw [show n * (2 * r) = 2 * (n * r) from Int.mul_left_comm ..]
      omega]
    rw [show net * (2 * (1000 + r)) = 2 * (net * (1000 + r)) from Int.mul_left_comm ..]
    omega
  rw [e] at h1
  omega
theorem left_iff {n r net : Int} (hr : 0 ≤ r ∧ r ≤ 300) : net ≤ n - taxI n r ↔ grossL net r ≤ n := by
  rw [left_ge hr]; unfold grossL; omega
theorem prod_ge {net r : Int} (hn : 0 ≤ net ∧ net ≤ 500000) (hr : 0 ≤ r ∧ r ≤ 300) : 1000 * net ≤ net * (1000 + r) ∧ net * (1000 + r) ≤ 650000000 := by
  have h1 : 0 ≤ net * r := Int.mul_nonneg hn.1 hr.1
  have h2 : net * r ≤ 500000 * 300 := Int.mul_le_mul hn.2 hr.2 hr.1 (by omega)
  rw [Int.mul_add]
  omega
theorem gross_bd {net r : Int} (hn : 0 ≤ net ∧ net ≤ 500000) (hr : 0 ≤ r ∧ r ≤ 300) : net ≤ grossL net r ∧ grossL net r ≤ 700000 := by
  have := prod_ge hn hr
  unfold grossL
  omega
/-- It leaves the net amount itself. -/
theorem gross_eq {net r : Int} (hr : 0 ≤ r ∧ r ≤ 300) : grossL net r - taxI (grossL net r) r = net := by
  have h1 := (left_iff (n := grossL net r) (net := net) hr).2 (Int.le_refl _)
  have h2 : ¬ net + 1 ≤ grossL net r - taxI (grossL net r) r := by
    rw [left_ge hr, Int.add_mul, Int.one_mul]
    unfold grossL
    omega
  omega
theorem gross_less {n net r : Int} (hr : 0 ≤ r ∧ r ≤ 300) (h : n < grossL net r) : n - taxI n r < net := by
  have := (left_iff (n := n) (net := net) hr)
  omega
theorem gross_near {net r : Int} (hn : 0 ≤ net ∧ net ≤ 500000) (hr : 0 ≤ r ∧ r ≤ 300) : grossL net r = net * (1000 + r) / 1000 ∨ grossL net r = net * (1000 + r) / 1000 + 1 := by
  have := prod_ge hn hr
  unfold grossL
  omega
theorem gross_zero {net : Int} : grossL net 0 = net := by unfold grossL; omega
def grossI (net r : Int) : Int := if withinB net 0 500000 && withinB r 0 300 then grossL net r else -1

end Go.Proofs.YtkgofklpogdpmaaGreat

/- Contract of the function that tells amounts. -/
namespace Go.Proofs.YtkgofklpogdpmaaGreat
open Go.RowKit

set_option maxHeartbeats 400000 in
theorem money_any (n : Int) (w : World) :
    Calls Tryz.prog 82 #[.int .i64 n] w fun e w' => e = .returned (.bool (withinB n 0 1000000)) ∧ w = w' := by
  go_enter Tryz.func82, Tryz.ntmps82
  go_wp2_with (go_at_call 64; refine (within_any _ _ _ _).mono ?_; rintro e w' ⟨rfl, rfl⟩)
  go_ret
  exact ⟨rfl, rfl⟩

end Go.Proofs.YtkgofklpogdpmaaGreat

/- Contracts: the tax in an amount, the gross amount of a net amount. -/
namespace Go.Proofs.YtkgofklpogdpmaaGreat
open Go.RowKit

theorem two_bd {a r : Int} (ha : 0 ≤ a ∧ a ≤ 2000000) (hr : 0 ≤ r ∧ r ≤ 300) : 0 ≤ 2 * a * r ∧ 2 * a * r ≤ 1200000000 := by
  refine ⟨Int.mul_nonneg (by omega) hr.1, ?_⟩
  have : 2 * a * r ≤ 4000000 * 300 := Int.mul_le_mul (by omega) hr.2 hr.1 (by omega)
  omega

set_option maxHeartbeats 400000 in
theorem taxIn_any (a r : Int) (w : World) (ha : 0 ≤ a ∧ a ≤ 2000000) (hr : 0 ≤ r ∧ r ≤ 300) :
    Calls Tryz.prog 65 #[.int .i64 a, .int .i64 r] w fun e w' => e = .returned (.int .i64 (taxI a r)) ∧ w = w' := by
  obtain ⟨b1, b2⟩ := two_bd ha hr
  obtain ⟨a1, a2⟩ := ha
  obtain ⟨r1, r2⟩ := hr
  go_enter Tryz.func65, Tryz.ntmps65
  go_wp2
  go_ret
  exact ⟨ret_int (by unfold taxI; first | rfl | (congr 1 <;> omega)), rfl⟩

end Go.Proofs.YtkgofklpogdpmaaGreat
