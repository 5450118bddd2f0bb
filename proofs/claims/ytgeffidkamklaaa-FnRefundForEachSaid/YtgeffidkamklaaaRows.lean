/-
  No cell of these rows narrows 'for every input' (looked for: loops, veiled, ifaces, maps, wideKeys, modest, calm, conditions, laid).
  DERIVED. THE GIVEN ROWS OF THIS SEAT. 12 by the template 'for every input the law returns true; each argument reads behind the call as it read before'; 0 by the template 'total and deterministic' (their statements: YtgeffidkamklaaaTotals.lean).
  GIVEN WITH THE SEED: the statements are not yours to turn. If you find one false, say at which input.
  Laid BY PROGRAM, IN A SANDBOX (cutbox-rows.mjs): the forced cells as the released guide's own fill.sh prints them over the translation 61698eb4f6664187… (all of the seat's roots in one cut). By AI agents, Wed Nov 11 2026. No macro, syntax, notation, axiom, sorry.
-/
import Derived.Test.YtgeffidkamklaaaChecked
import GoSem.Claim
import GoSem.ClaimJoined
import GoSem.ClaimMapViews
import Derived.JoinedTies
import Derived.KernelRfl
namespace Go.Proofs.Ytgeffidkamklaaa
/- THE CELL 'sum', in the pinned program and in every row, IS THE sha256 OF THE DUMP (.gsa) THAT YtgeffidkamklaaaProg.lean LOADS. Nothing in Lean hashes anything: it is a label: what it is worth is what the hold of that sum in a sandbox is worth. -/
noncomputable def Try.pinned : Pinned := { name := "ytgeffidkamklaaa", sum := "61698eb4f666418703534db9e40a13b09105d06403994caf251496eab6e3743d", checked := Try.checked }
namespace Rows
def none {H : Type} : Left H := { results := [], args := [] }

/-- 'laws.FnExactValidSale': WHATEVER THE INPUT: true; the input reads as it did. -/
def fnExactValidSaleSpec : ChangeSpec := { name := "fnExactValidSale", fn := fun _ => fun
  | [d] => { results := [.lit (.bool true)], args := [d] }
  | _ => none }
def fnExactValidSaleRow : OpenClaim := { program := "ytgeffidkamklaaa", sum := "61698eb4f666418703534db9e40a13b09105d06403994caf251496eab6e3743d", func := "loop.example/promotionengine/laws.FnExactValidSale", spec := "fnExactValidSale", apart := false }
def FnExactValidSaleSaid : Prop := fnExactValidSaleRow.holds Try.pinned (OpenSpec.ofChange fnExactValidSaleSpec)

/-- ITS FALSE NEIGHBOUR: 'it returns false'. Refute it at one input. -/
def fnExactValidSaleWrong : ChangeSpec := { name := "fnExactValidSale", fn := fun _ => fun
  | [d] => { results := [.lit (.bool false)], args := [d] }
  | _ => none }
def FnExactValidSaleWrongFalsely : Prop := fnExactValidSaleRow.holds Try.pinned (OpenSpec.ofChange fnExactValidSaleWrong)

/-- 'laws.FnExactKeptOf': WHATEVER THE INPUT: true; the input reads as it did. -/
def fnExactKeptOfSpec : ChangeSpec := { name := "fnExactKeptOf", fn := fun _ => fun
  | [d] => { results := [.lit (.bool true)], args := [d] }
  | _ => none }
def fnExactKeptOfRow : OpenClaim := { program := "ytgeffidkamklaaa", sum := "61698eb4f666418703534db9e40a13b09105d06403994caf251496eab6e3743d", func := "loop.example/promotionengine/laws.FnExactKeptOf", spec := "fnExactKeptOf", apart := false }
def FnExactKeptOfSaid : Prop := fnExactKeptOfRow.holds Try.pinned (OpenSpec.ofChange fnExactKeptOfSpec)

/-- ITS FALSE NEIGHBOUR: 'it returns false'. Refute it at one input. -/
def fnExactKeptOfWrong : ChangeSpec := { name := "fnExactKeptOf", fn := fun _ => fun
  | [d] => { results := [.lit (.bool false)], args := [d] }
  | _ => none }
def FnExactKeptOfWrongFalsely : Prop := fnExactKeptOfRow.holds Try.pinned (OpenSpec.ofChange fnExactKeptOfWrong)

/-- 'laws.FnExactRefundFor': WHATEVER THE INPUT: true; the input reads as it did. -/
def fnExactRefundForSpec : ChangeSpec := { name := "fnExactRefundFor", fn := fun _ => fun
  | [d1, d2] => { results := [.lit (.bool true)], args := [d1, d2] }
  | _ => none }
def fnExactRefundForRow : OpenClaim := { program := "ytgeffidkamklaaa", sum := "61698eb4f666418703534db9e40a13b09105d06403994caf251496eab6e3743d", func := "loop.example/promotionengine/laws.FnExactRefundFor", spec := "fnExactRefundFor", apart := false }
def FnExactRefundForSaid : Prop := fnExactRefundForRow.holds Try.pinned (OpenSpec.ofChange fnExactRefundForSpec)

/-- ITS FALSE NEIGHBOUR: 'it returns false'. Refute it at one input. -/
def fnExactRefundForWrong : ChangeSpec := { name := "fnExactRefundFor", fn := fun _ => fun
  | [d1, d2] => { results := [.lit (.bool false)], args := [d1, d2] }
  | _ => none }
def FnExactRefundForWrongFalsely : Prop := fnExactRefundForRow.holds Try.pinned (OpenSpec.ofChange fnExactRefundForWrong)

/-- 'laws.FnExactGiveBack': WHATEVER THE INPUT: true; the input reads as it did. -/
def fnExactGiveBackSpec : ChangeSpec := { name := "fnExactGiveBack", fn := fun _ => fun
  | [d1, d2] => { results := [.lit (.bool true)], args := [d1, d2] }
  | _ => none }
def fnExactGiveBackRow : OpenClaim := { program := "ytgeffidkamklaaa", sum := "61698eb4f666418703534db9e40a13b09105d06403994caf251496eab6e3743d", func := "loop.example/promotionengine/laws.FnExactGiveBack", spec := "fnExactGiveBack", apart := false }
def FnExactGiveBackSaid : Prop := fnExactGiveBackRow.holds Try.pinned (OpenSpec.ofChange fnExactGiveBackSpec)

/-- ITS FALSE NEIGHBOUR: 'it returns false'. Refute it at one input. -/
def fnExactGiveBackWrong : ChangeSpec := { name := "fnExactGiveBack", fn := fun _ => fun
  | [d1, d2] => { results := [.lit (.bool false)], args := [d1, d2] }
  | _ => none }
def FnExactGiveBackWrongFalsely : Prop := fnExactGiveBackRow.holds Try.pinned (OpenSpec.ofChange fnExactGiveBackWrong)

/-- 'laws.FnValidSale': WHATEVER THE INPUT: true; the input reads as it did. -/
def fnValidSaleSpec : ChangeSpec := { name := "fnValidSale", fn := fun _ => fun
  | [d] => { results := [.lit (.bool true)], args := [d] }
  | _ => none }
def fnValidSaleRow : OpenClaim := { program := "ytgeffidkamklaaa", sum := "61698eb4f666418703534db9e40a13b09105d06403994caf251496eab6e3743d", func := "loop.example/promotionengine/laws.FnValidSale", spec := "fnValidSale", apart := false }
def FnValidSaleSaid : Prop := fnValidSaleRow.holds Try.pinned (OpenSpec.ofChange fnValidSaleSpec)

/-- ITS FALSE NEIGHBOUR: 'it returns false'. Refute it at one input. -/
def fnValidSaleWrong : ChangeSpec := { name := "fnValidSale", fn := fun _ => fun
  | [d] => { results := [.lit (.bool false)], args := [d] }
  | _ => none }
def FnValidSaleWrongFalsely : Prop := fnValidSaleRow.holds Try.pinned (OpenSpec.ofChange fnValidSaleWrong)

/-- 'laws.FnKeptOf': WHATEVER THE INPUT: true; the input reads as it did. -/
def fnKeptOfSpec : ChangeSpec := { name := "fnKeptOf", fn := fun _ => fun
  | [d] => { results := [.lit (.bool true)], args := [d] }
  | _ => none }
def fnKeptOfRow : OpenClaim := { program := "ytgeffidkamklaaa", sum := "61698eb4f666418703534db9e40a13b09105d06403994caf251496eab6e3743d", func := "loop.example/promotionengine/laws.FnKeptOf", spec := "fnKeptOf", apart := false }
def FnKeptOfSaid : Prop := fnKeptOfRow.holds Try.pinned (OpenSpec.ofChange fnKeptOfSpec)

/-- ITS FALSE NEIGHBOUR: 'it returns false'. Refute it at one input. -/
def fnKeptOfWrong : ChangeSpec := { name := "fnKeptOf", fn := fun _ => fun
  | [d] => { results := [.lit (.bool false)], args := [d] }
  | _ => none }
def FnKeptOfWrongFalsely : Prop := fnKeptOfRow.holds Try.pinned (OpenSpec.ofChange fnKeptOfWrong)

/-- 'laws.FnRefundForAll': WHATEVER THE INPUT: true; the input reads as it did. -/
def fnRefundForAllSpec : ChangeSpec := { name := "fnRefundForAll", fn := fun _ => fun
  | [d] => { results := [.lit (.bool true)], args := [d] }
  | _ => none }
def fnRefundForAllRow : OpenClaim := { program := "ytgeffidkamklaaa", sum := "61698eb4f666418703534db9e40a13b09105d06403994caf251496eab6e3743d", func := "loop.example/promotionengine/laws.FnRefundForAll", spec := "fnRefundForAll", apart := false }
def FnRefundForAllSaid : Prop := fnRefundForAllRow.holds Try.pinned (OpenSpec.ofChange fnRefundForAllSpec)

/-- ITS FALSE NEIGHBOUR: 'it returns false'. Refute it at one input. -/
def fnRefundForAllWrong : ChangeSpec := { name := "fnRefundForAll", fn := fun _ => fun
  | [d] => { results := [.lit (.bool false)], args := [d] }
  | _ => none }
def FnRefundForAllWrongFalsely : Prop := fnRefundForAllRow.holds Try.pinned (OpenSpec.ofChange fnRefundForAllWrong)

/-- 'laws.FnGiveBackTwice': WHATEVER THE INPUT: true; the input reads as it did. -/
def fnGiveBackTwiceSpec : ChangeSpec := { name := "fnGiveBackTwice", fn := fun _ => fun
  | [d] => { results := [.lit (.bool true)], args := [d] }
  | _ => none }
def fnGiveBackTwiceRow : OpenClaim := { program := "ytgeffidkamklaaa", sum := "61698eb4f666418703534db9e40a13b09105d06403994caf251496eab6e3743d", func := "loop.example/promotionengine/laws.FnGiveBackTwice", spec := "fnGiveBackTwice", apart := false }
def FnGiveBackTwiceSaid : Prop := fnGiveBackTwiceRow.holds Try.pinned (OpenSpec.ofChange fnGiveBackTwiceSpec)

/-- ITS FALSE NEIGHBOUR: 'it returns false'. Refute it at one input. -/
def fnGiveBackTwiceWrong : ChangeSpec := { name := "fnGiveBackTwice", fn := fun _ => fun
  | [d] => { results := [.lit (.bool false)], args := [d] }
  | _ => none }
def FnGiveBackTwiceWrongFalsely : Prop := fnGiveBackTwiceRow.holds Try.pinned (OpenSpec.ofChange fnGiveBackTwiceWrong)

/-- 'laws.FnGiveBackKept': WHATEVER THE INPUT: true; the input reads as it did. -/
def fnGiveBackKeptSpec : ChangeSpec := { name := "fnGiveBackKept", fn := fun _ => fun
  | [d] => { results := [.lit (.bool true)], args := [d] }
  | _ => none }
def fnGiveBackKeptRow : OpenClaim := { program := "ytgeffidkamklaaa", sum := "61698eb4f666418703534db9e40a13b09105d06403994caf251496eab6e3743d", func := "loop.example/promotionengine/laws.FnGiveBackKept", spec := "fnGiveBackKept", apart := false }
def FnGiveBackKeptSaid : Prop := fnGiveBackKeptRow.holds Try.pinned (OpenSpec.ofChange fnGiveBackKeptSpec)

/-- ITS FALSE NEIGHBOUR: 'it returns false'. Refute it at one input. -/
def fnGiveBackKeptWrong : ChangeSpec := { name := "fnGiveBackKept", fn := fun _ => fun
  | [d] => { results := [.lit (.bool false)], args := [d] }
  | _ => none }
def FnGiveBackKeptWrongFalsely : Prop := fnGiveBackKeptRow.holds Try.pinned (OpenSpec.ofChange fnGiveBackKeptWrong)

/-- 'laws.FnRefundFor': WHATEVER THE INPUT: true; the input reads as it did. -/
def fnRefundForSpec : ChangeSpec := { name := "fnRefundFor", fn := fun _ => fun
  | [d] => { results := [.lit (.bool true)], args := [d] }
  | _ => none }
def fnRefundForRow : OpenClaim := { program := "ytgeffidkamklaaa", sum := "61698eb4f666418703534db9e40a13b09105d06403994caf251496eab6e3743d", func := "loop.example/promotionengine/laws.FnRefundFor", spec := "fnRefundFor", apart := false }
def FnRefundForSaid : Prop := fnRefundForRow.holds Try.pinned (OpenSpec.ofChange fnRefundForSpec)

/-- ITS FALSE NEIGHBOUR: 'it returns false'. Refute it at one input. -/
def fnRefundForWrong : ChangeSpec := { name := "fnRefundFor", fn := fun _ => fun
  | [d] => { results := [.lit (.bool false)], args := [d] }
  | _ => none }
def FnRefundForWrongFalsely : Prop := fnRefundForRow.holds Try.pinned (OpenSpec.ofChange fnRefundForWrong)

/-- 'laws.FnRefundForEach': WHATEVER THE INPUT: true; the input reads as it did. -/
def fnRefundForEachSpec : ChangeSpec := { name := "fnRefundForEach", fn := fun _ => fun
  | [d] => { results := [.lit (.bool true)], args := [d] }
  | _ => none }
def fnRefundForEachRow : OpenClaim := { program := "ytgeffidkamklaaa", sum := "61698eb4f666418703534db9e40a13b09105d06403994caf251496eab6e3743d", func := "loop.example/promotionengine/laws.FnRefundForEach", spec := "fnRefundForEach", apart := false }
def FnRefundForEachSaid : Prop := fnRefundForEachRow.holds Try.pinned (OpenSpec.ofChange fnRefundForEachSpec)

/-- ITS FALSE NEIGHBOUR: 'it returns false'. Refute it at one input. -/
def fnRefundForEachWrong : ChangeSpec := { name := "fnRefundForEach", fn := fun _ => fun
  | [d] => { results := [.lit (.bool false)], args := [d] }
  | _ => none }
def FnRefundForEachWrongFalsely : Prop := fnRefundForEachRow.holds Try.pinned (OpenSpec.ofChange fnRefundForEachWrong)

/-- 'laws.FnGiveBack': WHATEVER THE INPUT: true; the input reads as it did. -/
def fnGiveBackSpec : ChangeSpec := { name := "fnGiveBack", fn := fun _ => fun
  | [d] => { results := [.lit (.bool true)], args := [d] }
  | _ => none }
def fnGiveBackRow : OpenClaim := { program := "ytgeffidkamklaaa", sum := "61698eb4f666418703534db9e40a13b09105d06403994caf251496eab6e3743d", func := "loop.example/promotionengine/laws.FnGiveBack", spec := "fnGiveBack", apart := false }
def FnGiveBackSaid : Prop := fnGiveBackRow.holds Try.pinned (OpenSpec.ofChange fnGiveBackSpec)

/-- ITS FALSE NEIGHBOUR: 'it returns false'. Refute it at one input. -/
def fnGiveBackWrong : ChangeSpec := { name := "fnGiveBack", fn := fun _ => fun
  | [d] => { results := [.lit (.bool false)], args := [d] }
  | _ => none }
def FnGiveBackWrongFalsely : Prop := fnGiveBackRow.holds Try.pinned (OpenSpec.ofChange fnGiveBackWrong)

/- THE SECOND FORM. 'bulk': how many values and letters a reading holds, each counted each time it is reached (what is shared counts as often as it is met; a slice's spare places count too). A statement '..UptoSaid' is the law's where the arguments, and the package variables that the reading takes, are together of bulk at most 1048576: NARROWER than '..Said'. Prove '..Said' where nothing that the law and all that it calls make is longer than what came in: it says more and counts as full. Else prove '..UptoSaid'. A law counts once. -/
mutual
def uptoBulk {H : Type} : DataW H → Nat
  | .lit (.string bytes) => bytes.length + 1
  | .lit _ => 1
  | .nil => 1
  | .ptr d => uptoBulk d + 1
  | .slice elems spare => uptoBulkAll elems + uptoBulkAll spare + 1
  | .agg parts => uptoBulkAll parts + 1
  | .iface _ d => uptoBulk d + 1
  | .map entries => uptoBulkEntries entries + 1
  | .held _ => 1
def uptoBulkAll {H : Type} : List (DataW H) → Nat
  | [] => 0
  | d :: r => uptoBulk d + uptoBulkAll r
def uptoBulkEntries {H : Type} : List (Lit × DataW H) → Nat
  | [] => 0
  | x :: r => uptoBulkEntry x + uptoBulkEntries r
def uptoBulkEntry {H : Type} : Lit × DataW H → Nat
  | (.string bytes, d) => bytes.length + uptoBulk d + 1
  | (_, d) => uptoBulk d + 1
 end
def uptoSmall : (H : Type) → List (DataW H) → Bool := fun _ ds => decide (uptoBulkAll ds ≤ 1048576)
def OpenSpec.upto (s : _root_.Go.ChangeSpec) : _root_.Go.OpenSpec := { _root_.Go.OpenSpec.ofChange s with cond := some uptoSmall }

/-- 'laws.FnExactValidSale', WHERE WHAT IT READS IS OF BULK AT MOST 1048576: true; the input reads as it did. -/
def fnExactValidSaleUptoRow : OpenClaim := { program := "ytgeffidkamklaaa", sum := "61698eb4f666418703534db9e40a13b09105d06403994caf251496eab6e3743d", func := "loop.example/promotionengine/laws.FnExactValidSale", spec := "fnExactValidSale", apart := false, narrowed := true }
def FnExactValidSaleUptoSaid : Prop := fnExactValidSaleUptoRow.holds Try.pinned (OpenSpec.upto fnExactValidSaleSpec)

/-- 'laws.FnExactKeptOf', WHERE WHAT IT READS IS OF BULK AT MOST 1048576: true; the input reads as it did. -/
def fnExactKeptOfUptoRow : OpenClaim := { program := "ytgeffidkamklaaa", sum := "61698eb4f666418703534db9e40a13b09105d06403994caf251496eab6e3743d", func := "loop.example/promotionengine/laws.FnExactKeptOf", spec := "fnExactKeptOf", apart := false, narrowed := true }
def FnExactKeptOfUptoSaid : Prop := fnExactKeptOfUptoRow.holds Try.pinned (OpenSpec.upto fnExactKeptOfSpec)

/-- 'laws.FnExactRefundFor', WHERE WHAT IT READS IS OF BULK AT MOST 1048576: true; the input reads as it did. -/
def fnExactRefundForUptoRow : OpenClaim := { program := "ytgeffidkamklaaa", sum := "61698eb4f666418703534db9e40a13b09105d06403994caf251496eab6e3743d", func := "loop.example/promotionengine/laws.FnExactRefundFor", spec := "fnExactRefundFor", apart := false, narrowed := true }
def FnExactRefundForUptoSaid : Prop := fnExactRefundForUptoRow.holds Try.pinned (OpenSpec.upto fnExactRefundForSpec)

/-- 'laws.FnExactGiveBack', WHERE WHAT IT READS IS OF BULK AT MOST 1048576: true; the input reads as it did. -/
def fnExactGiveBackUptoRow : OpenClaim := { program := "ytgeffidkamklaaa", sum := "61698eb4f666418703534db9e40a13b09105d06403994caf251496eab6e3743d", func := "loop.example/promotionengine/laws.FnExactGiveBack", spec := "fnExactGiveBack", apart := false, narrowed := true }
def FnExactGiveBackUptoSaid : Prop := fnExactGiveBackUptoRow.holds Try.pinned (OpenSpec.upto fnExactGiveBackSpec)

/-- 'laws.FnValidSale', WHERE WHAT IT READS IS OF BULK AT MOST 1048576: true; the input reads as it did. -/
def fnValidSaleUptoRow : OpenClaim := { program := "ytgeffidkamklaaa", sum := "61698eb4f666418703534db9e40a13b09105d06403994caf251496eab6e3743d", func := "loop.example/promotionengine/laws.FnValidSale", spec := "fnValidSale", apart := false, narrowed := true }
def FnValidSaleUptoSaid : Prop := fnValidSaleUptoRow.holds Try.pinned (OpenSpec.upto fnValidSaleSpec)

/-- 'laws.FnKeptOf', WHERE WHAT IT READS IS OF BULK AT MOST 1048576: true; the input reads as it did. -/
def fnKeptOfUptoRow : OpenClaim := { program := "ytgeffidkamklaaa", sum := "61698eb4f666418703534db9e40a13b09105d06403994caf251496eab6e3743d", func := "loop.example/promotionengine/laws.FnKeptOf", spec := "fnKeptOf", apart := false, narrowed := true }
def FnKeptOfUptoSaid : Prop := fnKeptOfUptoRow.holds Try.pinned (OpenSpec.upto fnKeptOfSpec)

/-- 'laws.FnRefundForAll', WHERE WHAT IT READS IS OF BULK AT MOST 1048576: true; the input reads as it did. -/
def fnRefundForAllUptoRow : OpenClaim := { program := "ytgeffidkamklaaa", sum := "61698eb4f666418703534db9e40a13b09105d06403994caf251496eab6e3743d", func := "loop.example/promotionengine/laws.FnRefundForAll", spec := "fnRefundForAll", apart := false, narrowed := true }
def FnRefundForAllUptoSaid : Prop := fnRefundForAllUptoRow.holds Try.pinned (OpenSpec.upto fnRefundForAllSpec)

/-- 'laws.FnGiveBackTwice', WHERE WHAT IT READS IS OF BULK AT MOST 1048576: true; the input reads as it did. -/
def fnGiveBackTwiceUptoRow : OpenClaim := { program := "ytgeffidkamklaaa", sum := "61698eb4f666418703534db9e40a13b09105d06403994caf251496eab6e3743d", func := "loop.example/promotionengine/laws.FnGiveBackTwice", spec := "fnGiveBackTwice", apart := false, narrowed := true }
def FnGiveBackTwiceUptoSaid : Prop := fnGiveBackTwiceUptoRow.holds Try.pinned (OpenSpec.upto fnGiveBackTwiceSpec)

/-- 'laws.FnGiveBackKept', WHERE WHAT IT READS IS OF BULK AT MOST 1048576: true; the input reads as it did. -/
def fnGiveBackKeptUptoRow : OpenClaim := { program := "ytgeffidkamklaaa", sum := "61698eb4f666418703534db9e40a13b09105d06403994caf251496eab6e3743d", func := "loop.example/promotionengine/laws.FnGiveBackKept", spec := "fnGiveBackKept", apart := false, narrowed := true }
def FnGiveBackKeptUptoSaid : Prop := fnGiveBackKeptUptoRow.holds Try.pinned (OpenSpec.upto fnGiveBackKeptSpec)

/-- 'laws.FnRefundFor', WHERE WHAT IT READS IS OF BULK AT MOST 1048576: true; the input reads as it did. -/
def fnRefundForUptoRow : OpenClaim := { program := "ytgeffidkamklaaa", sum := "61698eb4f666418703534db9e40a13b09105d06403994caf251496eab6e3743d", func := "loop.example/promotionengine/laws.FnRefundFor", spec := "fnRefundFor", apart := false, narrowed := true }
def FnRefundForUptoSaid : Prop := fnRefundForUptoRow.holds Try.pinned (OpenSpec.upto fnRefundForSpec)

/-- 'laws.FnRefundForEach', WHERE WHAT IT READS IS OF BULK AT MOST 1048576: true; the input reads as it did. -/
def fnRefundForEachUptoRow : OpenClaim := { program := "ytgeffidkamklaaa", sum := "61698eb4f666418703534db9e40a13b09105d06403994caf251496eab6e3743d", func := "loop.example/promotionengine/laws.FnRefundForEach", spec := "fnRefundForEach", apart := false, narrowed := true }
def FnRefundForEachUptoSaid : Prop := fnRefundForEachUptoRow.holds Try.pinned (OpenSpec.upto fnRefundForEachSpec)

/-- 'laws.FnGiveBack', WHERE WHAT IT READS IS OF BULK AT MOST 1048576: true; the input reads as it did. -/
def fnGiveBackUptoRow : OpenClaim := { program := "ytgeffidkamklaaa", sum := "61698eb4f666418703534db9e40a13b09105d06403994caf251496eab6e3743d", func := "loop.example/promotionengine/laws.FnGiveBack", spec := "fnGiveBack", apart := false, narrowed := true }
def FnGiveBackUptoSaid : Prop := fnGiveBackUptoRow.holds Try.pinned (OpenSpec.upto fnGiveBackSpec)

end Rows
end Go.Proofs.Ytgeffidkamklaaa
