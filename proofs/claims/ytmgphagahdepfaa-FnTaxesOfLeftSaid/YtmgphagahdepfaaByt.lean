/- Bytes that came in. No program in sight. -/
import Derived.Test.YtmgphagahdepfaaBase
namespace Go.Proofs.Ytmgphagahdepfaa
open Go.RowKit

/-- Bytes that came in, below block B. -/
def Bytes (w : World) (B : Nat) (A : Option Addr) (len cap : Nat) : Prop :=
  len ≤ cap ∧ cap ≤ maxLen ∧ (0 < len → ∃ (b off : Nat) (u : Nat → Int), A = some ⟨b, off, none⟩ ∧ b < B ∧ ∀ i, i < len → w.cell? ⟨b, off + i, none⟩ = some (.int .u8 (u i)) ∧ 0 ≤ u i ∧ u i ≤ 255)
theorem Bytes.keep {w w' : World} {B : Nat} {A : Option Addr} {len cap : Nat} (h : Bytes w B A len cap) (hb : ∀ k, k < B → w'.heap[k]? = w.heap[k]?) : Bytes w' B A len cap := by
  refine ⟨h.1, h.2.1, fun hl => ?_⟩
  obtain ⟨b, off, u, h6, h7, h8⟩ := h.2.2 hl
  exact ⟨b, off, u, h6, h7, fun i hi => ⟨(World.cell?_of_block (hb b h7)).trans (h8 i hi).1, (h8 i hi).2⟩⟩
theorem Bytes.alloc {w : World} {B : Nat} {A : Option Addr} {len cap : Nat} (h : Bytes w B A len cap) (hB : B ≤ w.heap.size) (o : Obj) : Bytes (w.alloc o) B A len cap :=
  h.keep fun k hk => Below.heap_alloc w o k (by omega)

theorem Bytes.up {w : World} {B B' : Nat} {A : Option Addr} {len cap : Nat} (h : Bytes w B A len cap) (hB : B ≤ B') : Bytes w B' A len cap := by
  refine ⟨h.1, h.2.1, fun hl => ?_⟩
  obtain ⟨b, off, u, h6, h7, h8⟩ := h.2.2 hl
  exact ⟨b, off, u, h6, by omega, h8⟩

end Go.Proofs.Ytmgphagahdepfaa
