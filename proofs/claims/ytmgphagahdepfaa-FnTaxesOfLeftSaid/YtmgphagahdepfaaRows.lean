/-
  No cell of these rows narrows 'for every input' (looked for: loops, veiled, ifaces, maps, wideKeys, modest, calm, conditions, laid).
  DERIVED. THE GIVEN ROWS OF THIS SEAT. 7 by the template 'for every input the law returns true; each argument reads behind the call as it read before'; 0 by the template 'total and deterministic' (their statements: YtmgphagahdepfaaTotals.lean).
  GIVEN WITH THE SEED: the statements are not yours to turn. If you find one false, say at which input.
  Laid BY PROGRAM, IN A SANDBOX (cutbox-rows.mjs): the forced cells as the released guide's own fill.sh prints them over the translation d3e669323793d399… (all of the seat's roots in one cut). By AI agents, Wed Nov 11 2026. No macro, syntax, notation, axiom, sorry.
-/
import Derived.Test.YtmgphagahdepfaaChecked
import GoSem.Claim
import GoSem.ClaimJoined
import GoSem.ClaimMapViews
import Derived.JoinedTies
import Derived.KernelRfl
namespace Go.Proofs.Ytmgphagahdepfaa
/- THE CELL 'sum', in the pinned program and in every row, IS THE sha256 OF THE DUMP (.gsa) THAT YtmgphagahdepfaaProg.lean LOADS. Nothing in Lean hashes anything: it is a label: what it is worth is what the hold of that sum in a sandbox is worth. -/
noncomputable def Try.pinned : Pinned := { name := "ytmgphagahdepfaa", sum := "d3e669323793d399a171343a1e52997acbe271333823f33ffd32bb0fa349ab13", checked := Try.checked }
namespace Rows
def none {H : Type} : Left H := { results := [], args := [] }

/-- 'laws.FnNetOf': WHATEVER THE INPUT: true; the input reads as it did. -/
def fnNetOfSpec : ChangeSpec := { name := "fnNetOf", fn := fun _ => fun
  | [d] => { results := [.lit (.bool true)], args := [d] }
  | _ => none }
def fnNetOfRow : OpenClaim := { program := "ytmgphagahdepfaa", sum := "d3e669323793d399a171343a1e52997acbe271333823f33ffd32bb0fa349ab13", func := "loop.example/promotionengine/laws.FnNetOf", spec := "fnNetOf", apart := false }
def FnNetOfSaid : Prop := fnNetOfRow.holds Try.pinned (OpenSpec.ofChange fnNetOfSpec)

/-- ITS FALSE NEIGHBOUR: 'it returns false'. Refute it at one input. -/
def fnNetOfWrong : ChangeSpec := { name := "fnNetOf", fn := fun _ => fun
  | [d] => { results := [.lit (.bool false)], args := [d] }
  | _ => none }
def FnNetOfWrongFalsely : Prop := fnNetOfRow.holds Try.pinned (OpenSpec.ofChange fnNetOfWrong)

/-- 'laws.FnExactTaxesOf': WHATEVER THE INPUT: true; the input reads as it did. -/
def fnExactTaxesOfSpec : ChangeSpec := { name := "fnExactTaxesOf", fn := fun _ => fun
  | [d1, d2, d3] => { results := [.lit (.bool true)], args := [d1, d2, d3] }
  | _ => none }
def fnExactTaxesOfRow : OpenClaim := { program := "ytmgphagahdepfaa", sum := "d3e669323793d399a171343a1e52997acbe271333823f33ffd32bb0fa349ab13", func := "loop.example/promotionengine/laws.FnExactTaxesOf", spec := "fnExactTaxesOf", apart := false }
def FnExactTaxesOfSaid : Prop := fnExactTaxesOfRow.holds Try.pinned (OpenSpec.ofChange fnExactTaxesOfSpec)

/-- ITS FALSE NEIGHBOUR: 'it returns false'. Refute it at one input. -/
def fnExactTaxesOfWrong : ChangeSpec := { name := "fnExactTaxesOf", fn := fun _ => fun
  | [d1, d2, d3] => { results := [.lit (.bool false)], args := [d1, d2, d3] }
  | _ => none }
def FnExactTaxesOfWrongFalsely : Prop := fnExactTaxesOfRow.holds Try.pinned (OpenSpec.ofChange fnExactTaxesOfWrong)

/-- 'laws.FnGrossForAll': WHATEVER THE INPUT: true; the input reads as it did. -/
def fnGrossForAllSpec : ChangeSpec := { name := "fnGrossForAll", fn := fun _ => fun
  | [d] => { results := [.lit (.bool true)], args := [d] }
  | _ => none }
def fnGrossForAllRow : OpenClaim := { program := "ytmgphagahdepfaa", sum := "d3e669323793d399a171343a1e52997acbe271333823f33ffd32bb0fa349ab13", func := "loop.example/promotionengine/laws.FnGrossForAll", spec := "fnGrossForAll", apart := false }
def FnGrossForAllSaid : Prop := fnGrossForAllRow.holds Try.pinned (OpenSpec.ofChange fnGrossForAllSpec)

/-- ITS FALSE NEIGHBOUR: 'it returns false'. Refute it at one input. -/
def fnGrossForAllWrong : ChangeSpec := { name := "fnGrossForAll", fn := fun _ => fun
  | [d] => { results := [.lit (.bool false)], args := [d] }
  | _ => none }
def FnGrossForAllWrongFalsely : Prop := fnGrossForAllRow.holds Try.pinned (OpenSpec.ofChange fnGrossForAllWrong)

/-- 'laws.FnGrossFor': WHATEVER THE INPUT: true; the input reads as it did. -/
def fnGrossForSpec : ChangeSpec := { name := "fnGrossFor", fn := fun _ => fun
  | [d] => { results := [.lit (.bool true)], args := [d] }
  | _ => none }
def fnGrossForRow : OpenClaim := { program := "ytmgphagahdepfaa", sum := "d3e669323793d399a171343a1e52997acbe271333823f33ffd32bb0fa349ab13", func := "loop.example/promotionengine/laws.FnGrossFor", spec := "fnGrossFor", apart := false }
def FnGrossForSaid : Prop := fnGrossForRow.holds Try.pinned (OpenSpec.ofChange fnGrossForSpec)

/-- ITS FALSE NEIGHBOUR: 'it returns false'. Refute it at one input. -/
def fnGrossForWrong : ChangeSpec := { name := "fnGrossFor", fn := fun _ => fun
  | [d] => { results := [.lit (.bool false)], args := [d] }
  | _ => none }
def FnGrossForWrongFalsely : Prop := fnGrossForRow.holds Try.pinned (OpenSpec.ofChange fnGrossForWrong)

/-- 'laws.FnTaxesOfLeft': WHATEVER THE INPUT: true; the input reads as it did. -/
def fnTaxesOfLeftSpec : ChangeSpec := { name := "fnTaxesOfLeft", fn := fun _ => fun
  | [d] => { results := [.lit (.bool true)], args := [d] }
  | _ => none }
def fnTaxesOfLeftRow : OpenClaim := { program := "ytmgphagahdepfaa", sum := "d3e669323793d399a171343a1e52997acbe271333823f33ffd32bb0fa349ab13", func := "loop.example/promotionengine/laws.FnTaxesOfLeft", spec := "fnTaxesOfLeft", apart := false }
def FnTaxesOfLeftSaid : Prop := fnTaxesOfLeftRow.holds Try.pinned (OpenSpec.ofChange fnTaxesOfLeftSpec)

/-- ITS FALSE NEIGHBOUR: 'it returns false'. Refute it at one input. -/
def fnTaxesOfLeftWrong : ChangeSpec := { name := "fnTaxesOfLeft", fn := fun _ => fun
  | [d] => { results := [.lit (.bool false)], args := [d] }
  | _ => none }
def FnTaxesOfLeftWrongFalsely : Prop := fnTaxesOfLeftRow.holds Try.pinned (OpenSpec.ofChange fnTaxesOfLeftWrong)

/-- 'laws.FnTaxesOf': WHATEVER THE INPUT: true; the input reads as it did. -/
def fnTaxesOfSpec : ChangeSpec := { name := "fnTaxesOf", fn := fun _ => fun
  | [d] => { results := [.lit (.bool true)], args := [d] }
  | _ => none }
def fnTaxesOfRow : OpenClaim := { program := "ytmgphagahdepfaa", sum := "d3e669323793d399a171343a1e52997acbe271333823f33ffd32bb0fa349ab13", func := "loop.example/promotionengine/laws.FnTaxesOf", spec := "fnTaxesOf", apart := false }
def FnTaxesOfSaid : Prop := fnTaxesOfRow.holds Try.pinned (OpenSpec.ofChange fnTaxesOfSpec)

/-- ITS FALSE NEIGHBOUR: 'it returns false'. Refute it at one input. -/
def fnTaxesOfWrong : ChangeSpec := { name := "fnTaxesOf", fn := fun _ => fun
  | [d] => { results := [.lit (.bool false)], args := [d] }
  | _ => none }
def FnTaxesOfWrongFalsely : Prop := fnTaxesOfRow.holds Try.pinned (OpenSpec.ofChange fnTaxesOfWrong)

/-- 'laws.FnExactNetOf': WHATEVER THE INPUT: true; the input reads as it did. -/
def fnExactNetOfSpec : ChangeSpec := { name := "fnExactNetOf", fn := fun _ => fun
  | [d1, d2, d3] => { results := [.lit (.bool true)], args := [d1, d2, d3] }
  | _ => none }
def fnExactNetOfRow : OpenClaim := { program := "ytmgphagahdepfaa", sum := "d3e669323793d399a171343a1e52997acbe271333823f33ffd32bb0fa349ab13", func := "loop.example/promotionengine/laws.FnExactNetOf", spec := "fnExactNetOf", apart := false }
def FnExactNetOfSaid : Prop := fnExactNetOfRow.holds Try.pinned (OpenSpec.ofChange fnExactNetOfSpec)

/-- ITS FALSE NEIGHBOUR: 'it returns false'. Refute it at one input. -/
def fnExactNetOfWrong : ChangeSpec := { name := "fnExactNetOf", fn := fun _ => fun
  | [d1, d2, d3] => { results := [.lit (.bool false)], args := [d1, d2, d3] }
  | _ => none }
def FnExactNetOfWrongFalsely : Prop := fnExactNetOfRow.holds Try.pinned (OpenSpec.ofChange fnExactNetOfWrong)

/- THE SECOND FORM. 'bulk': how many values and letters a reading holds, each counted each time it is reached (what is shared counts as often as it is met; a slice's spare places count too). A statement '..UptoSaid' is the law's where the arguments, and the package variables that the reading takes, are together of bulk at most 1048576: NARROWER than '..Said'. Prove '..Said' where nothing that the law and all that it calls make is longer than what came in: it says more and counts as full. Else prove '..UptoSaid'. A law counts once. -/
mutual
def uptoBulk {H : Type} : DataW H → Nat
  | .lit (.string bytes) => bytes.length + 1
  | .lit _ => 1
  | .nil => 1
  | .ptr d => uptoBulk d + 1
  | .slice elems spare => uptoBulkAll elems + uptoBulkAll spare + 1
  | .agg parts => uptoBulkAll parts + 1
  | .iface _ d => uptoBulk d + 1
  | .map entries => uptoBulkEntries entries + 1
  | .held _ => 1
def uptoBulkAll {H : Type} : List (DataW H) → Nat
  | [] => 0
  | d :: r => uptoBulk d + uptoBulkAll r
def uptoBulkEntries {H : Type} : List (Lit × DataW H) → Nat
  | [] => 0
  | x :: r => uptoBulkEntry x + uptoBulkEntries r
def uptoBulkEntry {H : Type} : Lit × DataW H → Nat
  | (.string bytes, d) => bytes.length + uptoBulk d + 1
  | (_, d) => uptoBulk d + 1
 end
def uptoSmall : (H : Type) → List (DataW H) → Bool := fun _ ds => decide (uptoBulkAll ds ≤ 1048576)
def OpenSpec.upto (s : _root_.Go.ChangeSpec) : _root_.Go.OpenSpec := { _root_.Go.OpenSpec.ofChange s with cond := some uptoSmall }

/-- 'laws.FnNetOf', WHERE WHAT IT READS IS OF BULK AT MOST 1048576: true; the input reads as it did. -/
def fnNetOfUptoRow : OpenClaim := { program := "ytmgphagahdepfaa", sum := "d3e669323793d399a171343a1e52997acbe271333823f33ffd32bb0fa349ab13", func := "loop.example/promotionengine/laws.FnNetOf", spec := "fnNetOf", apart := false, narrowed := true }
def FnNetOfUptoSaid : Prop := fnNetOfUptoRow.holds Try.pinned (OpenSpec.upto fnNetOfSpec)

/-- 'laws.FnExactTaxesOf', WHERE WHAT IT READS IS OF BULK AT MOST 1048576: true; the input reads as it did. -/
def fnExactTaxesOfUptoRow : OpenClaim := { program := "ytmgphagahdepfaa", sum := "d3e669323793d399a171343a1e52997acbe271333823f33ffd32bb0fa349ab13", func := "loop.example/promotionengine/laws.FnExactTaxesOf", spec := "fnExactTaxesOf", apart := false, narrowed := true }
def FnExactTaxesOfUptoSaid : Prop := fnExactTaxesOfUptoRow.holds Try.pinned (OpenSpec.upto fnExactTaxesOfSpec)

/-- 'laws.FnGrossForAll', WHERE WHAT IT READS IS OF BULK AT MOST 1048576: true; the input reads as it did. -/
def fnGrossForAllUptoRow : OpenClaim := { program := "ytmgphagahdepfaa", sum := "d3e669323793d399a171343a1e52997acbe271333823f33ffd32bb0fa349ab13", func := "loop.example/promotionengine/laws.FnGrossForAll", spec := "fnGrossForAll", apart := false, narrowed := true }
def FnGrossForAllUptoSaid : Prop := fnGrossForAllUptoRow.holds Try.pinned (OpenSpec.upto fnGrossForAllSpec)

/-- 'laws.FnGrossFor', WHERE WHAT IT READS IS OF BULK AT MOST 1048576: true; the input reads as it did. -/
def fnGrossForUptoRow : OpenClaim := { program := "ytmgphagahdepfaa", sum := "d3e669323793d399a171343a1e52997acbe271333823f33ffd32bb0fa349ab13", func := "loop.example/promotionengine/laws.FnGrossFor", spec := "fnGrossFor", apart := false, narrowed := true }
def FnGrossForUptoSaid : Prop := fnGrossForUptoRow.holds Try.pinned (OpenSpec.upto fnGrossForSpec)

/-- 'laws.FnTaxesOfLeft', WHERE WHAT IT READS IS OF BULK AT MOST 1048576: true; the input reads as it did. -/
def fnTaxesOfLeftUptoRow : OpenClaim := { program := "ytmgphagahdepfaa", sum := "d3e669323793d399a171343a1e52997acbe271333823f33ffd32bb0fa349ab13", func := "loop.example/promotionengine/laws.FnTaxesOfLeft", spec := "fnTaxesOfLeft", apart := false, narrowed := true }
def FnTaxesOfLeftUptoSaid : Prop := fnTaxesOfLeftUptoRow.holds Try.pinned (OpenSpec.upto fnTaxesOfLeftSpec)

/-- 'laws.FnTaxesOf', WHERE WHAT IT READS IS OF BULK AT MOST 1048576: true; the input reads as it did. -/
def fnTaxesOfUptoRow : OpenClaim := { program := "ytmgphagahdepfaa", sum := "d3e669323793d399a171343a1e52997acbe271333823f33ffd32bb0fa349ab13", func := "loop.example/promotionengine/laws.FnTaxesOf", spec := "fnTaxesOf", apart := false, narrowed := true }
def FnTaxesOfUptoSaid : Prop := fnTaxesOfUptoRow.holds Try.pinned (OpenSpec.upto fnTaxesOfSpec)

/-- 'laws.FnExactNetOf', WHERE WHAT IT READS IS OF BULK AT MOST 1048576: true; the input reads as it did. -/
def fnExactNetOfUptoRow : OpenClaim := { program := "ytmgphagahdepfaa", sum := "d3e669323793d399a171343a1e52997acbe271333823f33ffd32bb0fa349ab13", func := "loop.example/promotionengine/laws.FnExactNetOf", spec := "fnExactNetOf", apart := false, narrowed := true }
def FnExactNetOfUptoSaid : Prop := fnExactNetOfUptoRow.holds Try.pinned (OpenSpec.upto fnExactNetOfSpec)

end Rows
end Go.Proofs.Ytmgphagahdepfaa
