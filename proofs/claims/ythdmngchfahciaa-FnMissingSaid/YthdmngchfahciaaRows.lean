/-
  No cell of these rows narrows 'for every input' (looked for: loops, veiled, ifaces, maps, wideKeys, modest, calm, conditions, laid).
  DERIVED. THE GIVEN ROWS OF THIS SEAT. 12 by the template 'for every input the law returns true; each argument reads behind the call as it read before'; 0 by the template 'total and deterministic' (their statements: YthdmngchfahciaaTotals.lean).
  GIVEN WITH THE SEED: the statements are not yours to turn. If you find one false, say at which input.
  Laid BY PROGRAM, IN A SANDBOX (cutbox-rows.mjs): the forced cells as the released guide's own fill.sh prints them over the translation 4f45d09a2801ab84… (all of the seat's roots in one cut). By AI agents, Wed Nov 11 2026. No macro, syntax, notation, axiom, sorry.
-/
import Derived.Test.YthdmngchfahciaaChecked
import GoSem.Claim
import GoSem.ClaimJoined
import GoSem.ClaimMapViews
import Derived.JoinedTies
import Derived.KernelRfl
namespace Go.Proofs.Ythdmngchfahciaa
/- THE CELL 'sum', in the pinned program and in every row, IS THE sha256 OF THE DUMP (.gsa) THAT YthdmngchfahciaaProg.lean LOADS. Nothing in Lean hashes anything: it is a label: what it is worth is what the hold of that sum in a sandbox is worth. -/
noncomputable def Try.pinned : Pinned := { name := "ythdmngchfahciaa", sum := "4f45d09a2801ab845928fe54f23e7c23f47aa2631e5952b10c29639f2dda04c2", checked := Try.checked }
namespace Rows
def none {H : Type} : Left H := { results := [], args := [] }

/-- 'laws.FnExactValidStock': WHATEVER THE INPUT: true; the input reads as it did. -/
def fnExactValidStockSpec : ChangeSpec := { name := "fnExactValidStock", fn := fun _ => fun
  | [d] => { results := [.lit (.bool true)], args := [d] }
  | _ => none }
def fnExactValidStockRow : OpenClaim := { program := "ythdmngchfahciaa", sum := "4f45d09a2801ab845928fe54f23e7c23f47aa2631e5952b10c29639f2dda04c2", func := "loop.example/promotionengine/laws.FnExactValidStock", spec := "fnExactValidStock", apart := false }
def FnExactValidStockSaid : Prop := fnExactValidStockRow.holds Try.pinned (OpenSpec.ofChange fnExactValidStockSpec)

/-- ITS FALSE NEIGHBOUR: 'it returns false'. Refute it at one input. -/
def fnExactValidStockWrong : ChangeSpec := { name := "fnExactValidStock", fn := fun _ => fun
  | [d] => { results := [.lit (.bool false)], args := [d] }
  | _ => none }
def FnExactValidStockWrongFalsely : Prop := fnExactValidStockRow.holds Try.pinned (OpenSpec.ofChange fnExactValidStockWrong)

/-- 'laws.FnMissing': WHATEVER THE INPUT: true; the input reads as it did. -/
def fnMissingSpec : ChangeSpec := { name := "fnMissing", fn := fun _ => fun
  | [d] => { results := [.lit (.bool true)], args := [d] }
  | _ => none }
def fnMissingRow : OpenClaim := { program := "ythdmngchfahciaa", sum := "4f45d09a2801ab845928fe54f23e7c23f47aa2631e5952b10c29639f2dda04c2", func := "loop.example/promotionengine/laws.FnMissing", spec := "fnMissing", apart := false }
def FnMissingSaid : Prop := fnMissingRow.holds Try.pinned (OpenSpec.ofChange fnMissingSpec)

/-- ITS FALSE NEIGHBOUR: 'it returns false'. Refute it at one input. -/
def fnMissingWrong : ChangeSpec := { name := "fnMissing", fn := fun _ => fun
  | [d] => { results := [.lit (.bool false)], args := [d] }
  | _ => none }
def FnMissingWrongFalsely : Prop := fnMissingRow.holds Try.pinned (OpenSpec.ofChange fnMissingWrong)

/-- 'laws.FnSellCart': WHATEVER THE INPUT: true; the input reads as it did. -/
def fnSellCartSpec : ChangeSpec := { name := "fnSellCart", fn := fun _ => fun
  | [d] => { results := [.lit (.bool true)], args := [d] }
  | _ => none }
def fnSellCartRow : OpenClaim := { program := "ythdmngchfahciaa", sum := "4f45d09a2801ab845928fe54f23e7c23f47aa2631e5952b10c29639f2dda04c2", func := "loop.example/promotionengine/laws.FnSellCart", spec := "fnSellCart", apart := false }
def FnSellCartSaid : Prop := fnSellCartRow.holds Try.pinned (OpenSpec.ofChange fnSellCartSpec)

/-- ITS FALSE NEIGHBOUR: 'it returns false'. Refute it at one input. -/
def fnSellCartWrong : ChangeSpec := { name := "fnSellCart", fn := fun _ => fun
  | [d] => { results := [.lit (.bool false)], args := [d] }
  | _ => none }
def FnSellCartWrongFalsely : Prop := fnSellCartRow.holds Try.pinned (OpenSpec.ofChange fnSellCartWrong)

/-- 'laws.FnSellCartFree': WHATEVER THE INPUT: true; the input reads as it did. -/
def fnSellCartFreeSpec : ChangeSpec := { name := "fnSellCartFree", fn := fun _ => fun
  | [d] => { results := [.lit (.bool true)], args := [d] }
  | _ => none }
def fnSellCartFreeRow : OpenClaim := { program := "ythdmngchfahciaa", sum := "4f45d09a2801ab845928fe54f23e7c23f47aa2631e5952b10c29639f2dda04c2", func := "loop.example/promotionengine/laws.FnSellCartFree", spec := "fnSellCartFree", apart := false }
def FnSellCartFreeSaid : Prop := fnSellCartFreeRow.holds Try.pinned (OpenSpec.ofChange fnSellCartFreeSpec)

/-- ITS FALSE NEIGHBOUR: 'it returns false'. Refute it at one input. -/
def fnSellCartFreeWrong : ChangeSpec := { name := "fnSellCartFree", fn := fun _ => fun
  | [d] => { results := [.lit (.bool false)], args := [d] }
  | _ => none }
def FnSellCartFreeWrongFalsely : Prop := fnSellCartFreeRow.holds Try.pinned (OpenSpec.ofChange fnSellCartFreeWrong)

/-- 'laws.FnHoldCart': WHATEVER THE INPUT: true; the input reads as it did. -/
def fnHoldCartSpec : ChangeSpec := { name := "fnHoldCart", fn := fun _ => fun
  | [d] => { results := [.lit (.bool true)], args := [d] }
  | _ => none }
def fnHoldCartRow : OpenClaim := { program := "ythdmngchfahciaa", sum := "4f45d09a2801ab845928fe54f23e7c23f47aa2631e5952b10c29639f2dda04c2", func := "loop.example/promotionengine/laws.FnHoldCart", spec := "fnHoldCart", apart := false }
def FnHoldCartSaid : Prop := fnHoldCartRow.holds Try.pinned (OpenSpec.ofChange fnHoldCartSpec)

/-- ITS FALSE NEIGHBOUR: 'it returns false'. Refute it at one input. -/
def fnHoldCartWrong : ChangeSpec := { name := "fnHoldCart", fn := fun _ => fun
  | [d] => { results := [.lit (.bool false)], args := [d] }
  | _ => none }
def FnHoldCartWrongFalsely : Prop := fnHoldCartRow.holds Try.pinned (OpenSpec.ofChange fnHoldCartWrong)

/-- 'laws.FnSellCartHold': WHATEVER THE INPUT: true; the input reads as it did. -/
def fnSellCartHoldSpec : ChangeSpec := { name := "fnSellCartHold", fn := fun _ => fun
  | [d] => { results := [.lit (.bool true)], args := [d] }
  | _ => none }
def fnSellCartHoldRow : OpenClaim := { program := "ythdmngchfahciaa", sum := "4f45d09a2801ab845928fe54f23e7c23f47aa2631e5952b10c29639f2dda04c2", func := "loop.example/promotionengine/laws.FnSellCartHold", spec := "fnSellCartHold", apart := false }
def FnSellCartHoldSaid : Prop := fnSellCartHoldRow.holds Try.pinned (OpenSpec.ofChange fnSellCartHoldSpec)

/-- ITS FALSE NEIGHBOUR: 'it returns false'. Refute it at one input. -/
def fnSellCartHoldWrong : ChangeSpec := { name := "fnSellCartHold", fn := fun _ => fun
  | [d] => { results := [.lit (.bool false)], args := [d] }
  | _ => none }
def FnSellCartHoldWrongFalsely : Prop := fnSellCartHoldRow.holds Try.pinned (OpenSpec.ofChange fnSellCartHoldWrong)

/-- 'laws.FnHoldCartNone': WHATEVER THE INPUT: true; the input reads as it did. -/
def fnHoldCartNoneSpec : ChangeSpec := { name := "fnHoldCartNone", fn := fun _ => fun
  | [d] => { results := [.lit (.bool true)], args := [d] }
  | _ => none }
def fnHoldCartNoneRow : OpenClaim := { program := "ythdmngchfahciaa", sum := "4f45d09a2801ab845928fe54f23e7c23f47aa2631e5952b10c29639f2dda04c2", func := "loop.example/promotionengine/laws.FnHoldCartNone", spec := "fnHoldCartNone", apart := false }
def FnHoldCartNoneSaid : Prop := fnHoldCartNoneRow.holds Try.pinned (OpenSpec.ofChange fnHoldCartNoneSpec)

/-- ITS FALSE NEIGHBOUR: 'it returns false'. Refute it at one input. -/
def fnHoldCartNoneWrong : ChangeSpec := { name := "fnHoldCartNone", fn := fun _ => fun
  | [d] => { results := [.lit (.bool false)], args := [d] }
  | _ => none }
def FnHoldCartNoneWrongFalsely : Prop := fnHoldCartNoneRow.holds Try.pinned (OpenSpec.ofChange fnHoldCartNoneWrong)

/-- 'laws.FnMissingHold': WHATEVER THE INPUT: true; the input reads as it did. -/
def fnMissingHoldSpec : ChangeSpec := { name := "fnMissingHold", fn := fun _ => fun
  | [d] => { results := [.lit (.bool true)], args := [d] }
  | _ => none }
def fnMissingHoldRow : OpenClaim := { program := "ythdmngchfahciaa", sum := "4f45d09a2801ab845928fe54f23e7c23f47aa2631e5952b10c29639f2dda04c2", func := "loop.example/promotionengine/laws.FnMissingHold", spec := "fnMissingHold", apart := false }
def FnMissingHoldSaid : Prop := fnMissingHoldRow.holds Try.pinned (OpenSpec.ofChange fnMissingHoldSpec)

/-- ITS FALSE NEIGHBOUR: 'it returns false'. Refute it at one input. -/
def fnMissingHoldWrong : ChangeSpec := { name := "fnMissingHold", fn := fun _ => fun
  | [d] => { results := [.lit (.bool false)], args := [d] }
  | _ => none }
def FnMissingHoldWrongFalsely : Prop := fnMissingHoldRow.holds Try.pinned (OpenSpec.ofChange fnMissingHoldWrong)

/-- 'laws.FnHoldCartMissing': WHATEVER THE INPUT: true; the input reads as it did. -/
def fnHoldCartMissingSpec : ChangeSpec := { name := "fnHoldCartMissing", fn := fun _ => fun
  | [d] => { results := [.lit (.bool true)], args := [d] }
  | _ => none }
def fnHoldCartMissingRow : OpenClaim := { program := "ythdmngchfahciaa", sum := "4f45d09a2801ab845928fe54f23e7c23f47aa2631e5952b10c29639f2dda04c2", func := "loop.example/promotionengine/laws.FnHoldCartMissing", spec := "fnHoldCartMissing", apart := false }
def FnHoldCartMissingSaid : Prop := fnHoldCartMissingRow.holds Try.pinned (OpenSpec.ofChange fnHoldCartMissingSpec)

/-- ITS FALSE NEIGHBOUR: 'it returns false'. Refute it at one input. -/
def fnHoldCartMissingWrong : ChangeSpec := { name := "fnHoldCartMissing", fn := fun _ => fun
  | [d] => { results := [.lit (.bool false)], args := [d] }
  | _ => none }
def FnHoldCartMissingWrongFalsely : Prop := fnHoldCartMissingRow.holds Try.pinned (OpenSpec.ofChange fnHoldCartMissingWrong)

/-- 'laws.FnFreeCart': WHATEVER THE INPUT: true; the input reads as it did. -/
def fnFreeCartSpec : ChangeSpec := { name := "fnFreeCart", fn := fun _ => fun
  | [d] => { results := [.lit (.bool true)], args := [d] }
  | _ => none }
def fnFreeCartRow : OpenClaim := { program := "ythdmngchfahciaa", sum := "4f45d09a2801ab845928fe54f23e7c23f47aa2631e5952b10c29639f2dda04c2", func := "loop.example/promotionengine/laws.FnFreeCart", spec := "fnFreeCart", apart := false }
def FnFreeCartSaid : Prop := fnFreeCartRow.holds Try.pinned (OpenSpec.ofChange fnFreeCartSpec)

/-- ITS FALSE NEIGHBOUR: 'it returns false'. Refute it at one input. -/
def fnFreeCartWrong : ChangeSpec := { name := "fnFreeCart", fn := fun _ => fun
  | [d] => { results := [.lit (.bool false)], args := [d] }
  | _ => none }
def FnFreeCartWrongFalsely : Prop := fnFreeCartRow.holds Try.pinned (OpenSpec.ofChange fnFreeCartWrong)

/-- 'laws.FnExactMissing': WHATEVER THE INPUT: true; the input reads as it did. -/
def fnExactMissingSpec : ChangeSpec := { name := "fnExactMissing", fn := fun _ => fun
  | [d1, d2] => { results := [.lit (.bool true)], args := [d1, d2] }
  | _ => none }
def fnExactMissingRow : OpenClaim := { program := "ythdmngchfahciaa", sum := "4f45d09a2801ab845928fe54f23e7c23f47aa2631e5952b10c29639f2dda04c2", func := "loop.example/promotionengine/laws.FnExactMissing", spec := "fnExactMissing", apart := false }
def FnExactMissingSaid : Prop := fnExactMissingRow.holds Try.pinned (OpenSpec.ofChange fnExactMissingSpec)

/-- ITS FALSE NEIGHBOUR: 'it returns false'. Refute it at one input. -/
def fnExactMissingWrong : ChangeSpec := { name := "fnExactMissing", fn := fun _ => fun
  | [d1, d2] => { results := [.lit (.bool false)], args := [d1, d2] }
  | _ => none }
def FnExactMissingWrongFalsely : Prop := fnExactMissingRow.holds Try.pinned (OpenSpec.ofChange fnExactMissingWrong)

/-- 'laws.FnExactFreeCart': WHATEVER THE INPUT: true; the input reads as it did. -/
def fnExactFreeCartSpec : ChangeSpec := { name := "fnExactFreeCart", fn := fun _ => fun
  | [d1, d2] => { results := [.lit (.bool true)], args := [d1, d2] }
  | _ => none }
def fnExactFreeCartRow : OpenClaim := { program := "ythdmngchfahciaa", sum := "4f45d09a2801ab845928fe54f23e7c23f47aa2631e5952b10c29639f2dda04c2", func := "loop.example/promotionengine/laws.FnExactFreeCart", spec := "fnExactFreeCart", apart := false }
def FnExactFreeCartSaid : Prop := fnExactFreeCartRow.holds Try.pinned (OpenSpec.ofChange fnExactFreeCartSpec)

/-- ITS FALSE NEIGHBOUR: 'it returns false'. Refute it at one input. -/
def fnExactFreeCartWrong : ChangeSpec := { name := "fnExactFreeCart", fn := fun _ => fun
  | [d1, d2] => { results := [.lit (.bool false)], args := [d1, d2] }
  | _ => none }
def FnExactFreeCartWrongFalsely : Prop := fnExactFreeCartRow.holds Try.pinned (OpenSpec.ofChange fnExactFreeCartWrong)

/- THE SECOND FORM. 'bulk': how many values and letters a reading holds, each counted each time it is reached (what is shared counts as often as it is met; a slice's spare places count too). A statement '..UptoSaid' is the law's where the arguments, and the package variables that the reading takes, are together of bulk at most 1048576: NARROWER than '..Said'. Prove '..Said' where nothing that the law and all that it calls make is longer than what came in: it says more and counts as full. Else prove '..UptoSaid'. A law counts once. -/
mutual
def uptoBulk {H : Type} : DataW H → Nat
  | .lit (.string bytes) => bytes.length + 1
  | .lit _ => 1
  | .nil => 1
  | .ptr d => uptoBulk d + 1
  | .slice elems spare => uptoBulkAll elems + uptoBulkAll spare + 1
  | .agg parts => uptoBulkAll parts + 1
  | .iface _ d => uptoBulk d + 1
  | .map entries => uptoBulkEntries entries + 1
  | .held _ => 1
def uptoBulkAll {H : Type} : List (DataW H) → Nat
  | [] => 0
  | d :: r => uptoBulk d + uptoBulkAll r
def uptoBulkEntries {H : Type} : List (Lit × DataW H) → Nat
  | [] => 0
  | x :: r => uptoBulkEntry x + uptoBulkEntries r
def uptoBulkEntry {H : Type} : Lit × DataW H → Nat
  | (.string bytes, d) => bytes.length + uptoBulk d + 1
  | (_, d) => uptoBulk d + 1
 end
def uptoSmall : (H : Type) → List (DataW H) → Bool := fun _ ds => decide (uptoBulkAll ds ≤ 1048576)
def OpenSpec.upto (s : _root_.Go.ChangeSpec) : _root_.Go.OpenSpec := { _root_.Go.OpenSpec.ofChange s with cond := some uptoSmall }

/-- 'laws.FnExactValidStock', WHERE WHAT IT READS IS OF BULK AT MOST 1048576: true; the input reads as it did. -/
def fnExactValidStockUptoRow : OpenClaim := { program := "ythdmngchfahciaa", sum := "4f45d09a2801ab845928fe54f23e7c23f47aa2631e5952b10c29639f2dda04c2", func := "loop.example/promotionengine/laws.FnExactValidStock", spec := "fnExactValidStock", apart := false, narrowed := true }
def FnExactValidStockUptoSaid : Prop := fnExactValidStockUptoRow.holds Try.pinned (OpenSpec.upto fnExactValidStockSpec)

/-- 'laws.FnMissing', WHERE WHAT IT READS IS OF BULK AT MOST 1048576: true; the input reads as it did. -/
def fnMissingUptoRow : OpenClaim := { program := "ythdmngchfahciaa", sum := "4f45d09a2801ab845928fe54f23e7c23f47aa2631e5952b10c29639f2dda04c2", func := "loop.example/promotionengine/laws.FnMissing", spec := "fnMissing", apart := false, narrowed := true }
def FnMissingUptoSaid : Prop := fnMissingUptoRow.holds Try.pinned (OpenSpec.upto fnMissingSpec)

/-- 'laws.FnSellCart', WHERE WHAT IT READS IS OF BULK AT MOST 1048576: true; the input reads as it did. -/
def fnSellCartUptoRow : OpenClaim := { program := "ythdmngchfahciaa", sum := "4f45d09a2801ab845928fe54f23e7c23f47aa2631e5952b10c29639f2dda04c2", func := "loop.example/promotionengine/laws.FnSellCart", spec := "fnSellCart", apart := false, narrowed := true }
def FnSellCartUptoSaid : Prop := fnSellCartUptoRow.holds Try.pinned (OpenSpec.upto fnSellCartSpec)

/-- 'laws.FnSellCartFree', WHERE WHAT IT READS IS OF BULK AT MOST 1048576: true; the input reads as it did. -/
def fnSellCartFreeUptoRow : OpenClaim := { program := "ythdmngchfahciaa", sum := "4f45d09a2801ab845928fe54f23e7c23f47aa2631e5952b10c29639f2dda04c2", func := "loop.example/promotionengine/laws.FnSellCartFree", spec := "fnSellCartFree", apart := false, narrowed := true }
def FnSellCartFreeUptoSaid : Prop := fnSellCartFreeUptoRow.holds Try.pinned (OpenSpec.upto fnSellCartFreeSpec)

/-- 'laws.FnHoldCart', WHERE WHAT IT READS IS OF BULK AT MOST 1048576: true; the input reads as it did. -/
def fnHoldCartUptoRow : OpenClaim := { program := "ythdmngchfahciaa", sum := "4f45d09a2801ab845928fe54f23e7c23f47aa2631e5952b10c29639f2dda04c2", func := "loop.example/promotionengine/laws.FnHoldCart", spec := "fnHoldCart", apart := false, narrowed := true }
def FnHoldCartUptoSaid : Prop := fnHoldCartUptoRow.holds Try.pinned (OpenSpec.upto fnHoldCartSpec)

/-- 'laws.FnSellCartHold', WHERE WHAT IT READS IS OF BULK AT MOST 1048576: true; the input reads as it did. -/
def fnSellCartHoldUptoRow : OpenClaim := { program := "ythdmngchfahciaa", sum := "4f45d09a2801ab845928fe54f23e7c23f47aa2631e5952b10c29639f2dda04c2", func := "loop.example/promotionengine/laws.FnSellCartHold", spec := "fnSellCartHold", apart := false, narrowed := true }
def FnSellCartHoldUptoSaid : Prop := fnSellCartHoldUptoRow.holds Try.pinned (OpenSpec.upto fnSellCartHoldSpec)

/-- 'laws.FnHoldCartNone', WHERE WHAT IT READS IS OF BULK AT MOST 1048576: true; the input reads as it did. -/
def fnHoldCartNoneUptoRow : OpenClaim := { program := "ythdmngchfahciaa", sum := "4f45d09a2801ab845928fe54f23e7c23f47aa2631e5952b10c29639f2dda04c2", func := "loop.example/promotionengine/laws.FnHoldCartNone", spec := "fnHoldCartNone", apart := false, narrowed := true }
def FnHoldCartNoneUptoSaid : Prop := fnHoldCartNoneUptoRow.holds Try.pinned (OpenSpec.upto fnHoldCartNoneSpec)

/-- 'laws.FnMissingHold', WHERE WHAT IT READS IS OF BULK AT MOST 1048576: true; the input reads as it did. -/
def fnMissingHoldUptoRow : OpenClaim := { program := "ythdmngchfahciaa", sum := "4f45d09a2801ab845928fe54f23e7c23f47aa2631e5952b10c29639f2dda04c2", func := "loop.example/promotionengine/laws.FnMissingHold", spec := "fnMissingHold", apart := false, narrowed := true }
def FnMissingHoldUptoSaid : Prop := fnMissingHoldUptoRow.holds Try.pinned (OpenSpec.upto fnMissingHoldSpec)

/-- 'laws.FnHoldCartMissing', WHERE WHAT IT READS IS OF BULK AT MOST 1048576: true; the input reads as it did. -/
def fnHoldCartMissingUptoRow : OpenClaim := { program := "ythdmngchfahciaa", sum := "4f45d09a2801ab845928fe54f23e7c23f47aa2631e5952b10c29639f2dda04c2", func := "loop.example/promotionengine/laws.FnHoldCartMissing", spec := "fnHoldCartMissing", apart := false, narrowed := true }
def FnHoldCartMissingUptoSaid : Prop := fnHoldCartMissingUptoRow.holds Try.pinned (OpenSpec.upto fnHoldCartMissingSpec)

/-- 'laws.FnFreeCart', WHERE WHAT IT READS IS OF BULK AT MOST 1048576: true; the input reads as it did. -/
def fnFreeCartUptoRow : OpenClaim := { program := "ythdmngchfahciaa", sum := "4f45d09a2801ab845928fe54f23e7c23f47aa2631e5952b10c29639f2dda04c2", func := "loop.example/promotionengine/laws.FnFreeCart", spec := "fnFreeCart", apart := false, narrowed := true }
def FnFreeCartUptoSaid : Prop := fnFreeCartUptoRow.holds Try.pinned (OpenSpec.upto fnFreeCartSpec)

/-- 'laws.FnExactMissing', WHERE WHAT IT READS IS OF BULK AT MOST 1048576: true; the input reads as it did. -/
def fnExactMissingUptoRow : OpenClaim := { program := "ythdmngchfahciaa", sum := "4f45d09a2801ab845928fe54f23e7c23f47aa2631e5952b10c29639f2dda04c2", func := "loop.example/promotionengine/laws.FnExactMissing", spec := "fnExactMissing", apart := false, narrowed := true }
def FnExactMissingUptoSaid : Prop := fnExactMissingUptoRow.holds Try.pinned (OpenSpec.upto fnExactMissingSpec)

/-- 'laws.FnExactFreeCart', WHERE WHAT IT READS IS OF BULK AT MOST 1048576: true; the input reads as it did. -/
def fnExactFreeCartUptoRow : OpenClaim := { program := "ythdmngchfahciaa", sum := "4f45d09a2801ab845928fe54f23e7c23f47aa2631e5952b10c29639f2dda04c2", func := "loop.example/promotionengine/laws.FnExactFreeCart", spec := "fnExactFreeCart", apart := false, narrowed := true }
def FnExactFreeCartUptoSaid : Prop := fnExactFreeCartUptoRow.holds Try.pinned (OpenSpec.upto fnExactFreeCartSpec)

end Rows
end Go.Proofs.Ythdmngchfahciaa
