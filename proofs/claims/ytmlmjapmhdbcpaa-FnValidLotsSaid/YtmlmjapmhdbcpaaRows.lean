/-
  No cell of these rows narrows 'for every input' (looked for: loops, veiled, ifaces, maps, wideKeys, modest, calm, conditions, laid).
  DERIVED. THE GIVEN ROWS OF THIS SEAT. 8 by the template 'for every input the law returns true; each argument reads behind the call as it read before'; 0 by the template 'total and deterministic' (their statements: YtmlmjapmhdbcpaaTotals.lean).
  GIVEN WITH THE SEED: the statements are not yours to turn. If you find one false, say at which input.
  Laid BY PROGRAM, IN A SANDBOX (cutbox-rows.mjs): the forced cells as the released guide's own fill.sh prints them over the translation 501cedbc763e64f5… (all of the seat's roots in one cut). By AI agents, Wed Nov 11 2026. No macro, syntax, notation, axiom, sorry.
-/
import Derived.Test.YtmlmjapmhdbcpaaChecked
import GoSem.Claim
import GoSem.ClaimJoined
import GoSem.ClaimMapViews
import Derived.JoinedTies
import Derived.KernelRfl
namespace Go.Proofs.Ytmlmjapmhdbcpaa
/- THE CELL 'sum', in the pinned program and in every row, IS THE sha256 OF THE DUMP (.gsa) THAT YtmlmjapmhdbcpaaProg.lean LOADS. Nothing in Lean hashes anything: it is a label: what it is worth is what the hold of that sum in a sandbox is worth. -/
noncomputable def Try.pinned : Pinned := { name := "ytmlmjapmhdbcpaa", sum := "501cedbc763e64f55c4c4869ba0940c0aadd0f0bc65680a3f3ba345cba2fae03", checked := Try.checked }
namespace Rows
def none {H : Type} : Left H := { results := [], args := [] }

/-- 'laws.FnExactPointsFor': WHATEVER THE INPUT: true; the input reads as it did. -/
def fnExactPointsForSpec : ChangeSpec := { name := "fnExactPointsFor", fn := fun _ => fun
  | [d1, d2] => { results := [.lit (.bool true)], args := [d1, d2] }
  | _ => none }
def fnExactPointsForRow : OpenClaim := { program := "ytmlmjapmhdbcpaa", sum := "501cedbc763e64f55c4c4869ba0940c0aadd0f0bc65680a3f3ba345cba2fae03", func := "loop.example/promotionengine/laws.FnExactPointsFor", spec := "fnExactPointsFor", apart := false }
def FnExactPointsForSaid : Prop := fnExactPointsForRow.holds Try.pinned (OpenSpec.ofChange fnExactPointsForSpec)

/-- ITS FALSE NEIGHBOUR: 'it returns false'. Refute it at one input. -/
def fnExactPointsForWrong : ChangeSpec := { name := "fnExactPointsFor", fn := fun _ => fun
  | [d1, d2] => { results := [.lit (.bool false)], args := [d1, d2] }
  | _ => none }
def FnExactPointsForWrongFalsely : Prop := fnExactPointsForRow.holds Try.pinned (OpenSpec.ofChange fnExactPointsForWrong)

/-- 'laws.FnExactValidLots': WHATEVER THE INPUT: true; the input reads as it did. -/
def fnExactValidLotsSpec : ChangeSpec := { name := "fnExactValidLots", fn := fun _ => fun
  | [d] => { results := [.lit (.bool true)], args := [d] }
  | _ => none }
def fnExactValidLotsRow : OpenClaim := { program := "ytmlmjapmhdbcpaa", sum := "501cedbc763e64f55c4c4869ba0940c0aadd0f0bc65680a3f3ba345cba2fae03", func := "loop.example/promotionengine/laws.FnExactValidLots", spec := "fnExactValidLots", apart := false }
def FnExactValidLotsSaid : Prop := fnExactValidLotsRow.holds Try.pinned (OpenSpec.ofChange fnExactValidLotsSpec)

/-- ITS FALSE NEIGHBOUR: 'it returns false'. Refute it at one input. -/
def fnExactValidLotsWrong : ChangeSpec := { name := "fnExactValidLots", fn := fun _ => fun
  | [d] => { results := [.lit (.bool false)], args := [d] }
  | _ => none }
def FnExactValidLotsWrongFalsely : Prop := fnExactValidLotsRow.holds Try.pinned (OpenSpec.ofChange fnExactValidLotsWrong)

/-- 'laws.FnValidLots': WHATEVER THE INPUT: true; the input reads as it did. -/
def fnValidLotsSpec : ChangeSpec := { name := "fnValidLots", fn := fun _ => fun
  | [d] => { results := [.lit (.bool true)], args := [d] }
  | _ => none }
def fnValidLotsRow : OpenClaim := { program := "ytmlmjapmhdbcpaa", sum := "501cedbc763e64f55c4c4869ba0940c0aadd0f0bc65680a3f3ba345cba2fae03", func := "loop.example/promotionengine/laws.FnValidLots", spec := "fnValidLots", apart := false }
def FnValidLotsSaid : Prop := fnValidLotsRow.holds Try.pinned (OpenSpec.ofChange fnValidLotsSpec)

/-- ITS FALSE NEIGHBOUR: 'it returns false'. Refute it at one input. -/
def fnValidLotsWrong : ChangeSpec := { name := "fnValidLots", fn := fun _ => fun
  | [d] => { results := [.lit (.bool false)], args := [d] }
  | _ => none }
def FnValidLotsWrongFalsely : Prop := fnValidLotsRow.holds Try.pinned (OpenSpec.ofChange fnValidLotsWrong)

/-- 'laws.FnPointsFor': WHATEVER THE INPUT: true; the input reads as it did. -/
def fnPointsForSpec : ChangeSpec := { name := "fnPointsFor", fn := fun _ => fun
  | [d] => { results := [.lit (.bool true)], args := [d] }
  | _ => none }
def fnPointsForRow : OpenClaim := { program := "ytmlmjapmhdbcpaa", sum := "501cedbc763e64f55c4c4869ba0940c0aadd0f0bc65680a3f3ba345cba2fae03", func := "loop.example/promotionengine/laws.FnPointsFor", spec := "fnPointsFor", apart := false }
def FnPointsForSaid : Prop := fnPointsForRow.holds Try.pinned (OpenSpec.ofChange fnPointsForSpec)

/-- ITS FALSE NEIGHBOUR: 'it returns false'. Refute it at one input. -/
def fnPointsForWrong : ChangeSpec := { name := "fnPointsFor", fn := fun _ => fun
  | [d] => { results := [.lit (.bool false)], args := [d] }
  | _ => none }
def FnPointsForWrongFalsely : Prop := fnPointsForRow.holds Try.pinned (OpenSpec.ofChange fnPointsForWrong)

/-- 'laws.FnPointsForParts': WHATEVER THE INPUT: true; the input reads as it did. -/
def fnPointsForPartsSpec : ChangeSpec := { name := "fnPointsForParts", fn := fun _ => fun
  | [d] => { results := [.lit (.bool true)], args := [d] }
  | _ => none }
def fnPointsForPartsRow : OpenClaim := { program := "ytmlmjapmhdbcpaa", sum := "501cedbc763e64f55c4c4869ba0940c0aadd0f0bc65680a3f3ba345cba2fae03", func := "loop.example/promotionengine/laws.FnPointsForParts", spec := "fnPointsForParts", apart := false }
def FnPointsForPartsSaid : Prop := fnPointsForPartsRow.holds Try.pinned (OpenSpec.ofChange fnPointsForPartsSpec)

/-- ITS FALSE NEIGHBOUR: 'it returns false'. Refute it at one input. -/
def fnPointsForPartsWrong : ChangeSpec := { name := "fnPointsForParts", fn := fun _ => fun
  | [d] => { results := [.lit (.bool false)], args := [d] }
  | _ => none }
def FnPointsForPartsWrongFalsely : Prop := fnPointsForPartsRow.holds Try.pinned (OpenSpec.ofChange fnPointsForPartsWrong)

/-- 'laws.FnExactPointsOn': WHATEVER THE INPUT: true; the input reads as it did. -/
def fnExactPointsOnSpec : ChangeSpec := { name := "fnExactPointsOn", fn := fun _ => fun
  | [d1, d2] => { results := [.lit (.bool true)], args := [d1, d2] }
  | _ => none }
def fnExactPointsOnRow : OpenClaim := { program := "ytmlmjapmhdbcpaa", sum := "501cedbc763e64f55c4c4869ba0940c0aadd0f0bc65680a3f3ba345cba2fae03", func := "loop.example/promotionengine/laws.FnExactPointsOn", spec := "fnExactPointsOn", apart := false }
def FnExactPointsOnSaid : Prop := fnExactPointsOnRow.holds Try.pinned (OpenSpec.ofChange fnExactPointsOnSpec)

/-- ITS FALSE NEIGHBOUR: 'it returns false'. Refute it at one input. -/
def fnExactPointsOnWrong : ChangeSpec := { name := "fnExactPointsOn", fn := fun _ => fun
  | [d1, d2] => { results := [.lit (.bool false)], args := [d1, d2] }
  | _ => none }
def FnExactPointsOnWrongFalsely : Prop := fnExactPointsOnRow.holds Try.pinned (OpenSpec.ofChange fnExactPointsOnWrong)

/-- 'laws.FnPointsOn': WHATEVER THE INPUT: true; the input reads as it did. -/
def fnPointsOnSpec : ChangeSpec := { name := "fnPointsOn", fn := fun _ => fun
  | [d] => { results := [.lit (.bool true)], args := [d] }
  | _ => none }
def fnPointsOnRow : OpenClaim := { program := "ytmlmjapmhdbcpaa", sum := "501cedbc763e64f55c4c4869ba0940c0aadd0f0bc65680a3f3ba345cba2fae03", func := "loop.example/promotionengine/laws.FnPointsOn", spec := "fnPointsOn", apart := false }
def FnPointsOnSaid : Prop := fnPointsOnRow.holds Try.pinned (OpenSpec.ofChange fnPointsOnSpec)

/-- ITS FALSE NEIGHBOUR: 'it returns false'. Refute it at one input. -/
def fnPointsOnWrong : ChangeSpec := { name := "fnPointsOn", fn := fun _ => fun
  | [d] => { results := [.lit (.bool false)], args := [d] }
  | _ => none }
def FnPointsOnWrongFalsely : Prop := fnPointsOnRow.holds Try.pinned (OpenSpec.ofChange fnPointsOnWrong)

/-- 'laws.FnExactEarnPoints': WHATEVER THE INPUT: true; the input reads as it did. -/
def fnExactEarnPointsSpec : ChangeSpec := { name := "fnExactEarnPoints", fn := fun _ => fun
  | [d1, d2, d3] => { results := [.lit (.bool true)], args := [d1, d2, d3] }
  | _ => none }
def fnExactEarnPointsRow : OpenClaim := { program := "ytmlmjapmhdbcpaa", sum := "501cedbc763e64f55c4c4869ba0940c0aadd0f0bc65680a3f3ba345cba2fae03", func := "loop.example/promotionengine/laws.FnExactEarnPoints", spec := "fnExactEarnPoints", apart := false }
def FnExactEarnPointsSaid : Prop := fnExactEarnPointsRow.holds Try.pinned (OpenSpec.ofChange fnExactEarnPointsSpec)

/-- ITS FALSE NEIGHBOUR: 'it returns false'. Refute it at one input. -/
def fnExactEarnPointsWrong : ChangeSpec := { name := "fnExactEarnPoints", fn := fun _ => fun
  | [d1, d2, d3] => { results := [.lit (.bool false)], args := [d1, d2, d3] }
  | _ => none }
def FnExactEarnPointsWrongFalsely : Prop := fnExactEarnPointsRow.holds Try.pinned (OpenSpec.ofChange fnExactEarnPointsWrong)

/- THE SECOND FORM. 'bulk': how many values and letters a reading holds, each counted each time it is reached (what is shared counts as often as it is met; a slice's spare places count too). A statement '..UptoSaid' is the law's where the arguments, and the package variables that the reading takes, are together of bulk at most 1048576: NARROWER than '..Said'. Prove '..Said' where nothing that the law and all that it calls make is longer than what came in: it says more and counts as full. Else prove '..UptoSaid'. A law counts once. -/
mutual
def uptoBulk {H : Type} : DataW H → Nat
  | .lit (.string bytes) => bytes.length + 1
  | .lit _ => 1
  | .nil => 1
  | .ptr d => uptoBulk d + 1
  | .slice elems spare => uptoBulkAll elems + uptoBulkAll spare + 1
  | .agg parts => uptoBulkAll parts + 1
  | .iface _ d => uptoBulk d + 1
  | .map entries => uptoBulkEntries entries + 1
  | .held _ => 1
def uptoBulkAll {H : Type} : List (DataW H) → Nat
  | [] => 0
  | d :: r => uptoBulk d + uptoBulkAll r
def uptoBulkEntries {H : Type} : List (Lit × DataW H) → Nat
  | [] => 0
  | x :: r => uptoBulkEntry x + uptoBulkEntries r
def uptoBulkEntry {H : Type} : Lit × DataW H → Nat
  | (.string bytes, d) => bytes.length + uptoBulk d + 1
  | (_, d) => uptoBulk d + 1
 end
def uptoSmall : (H : Type) → List (DataW H) → Bool := fun _ ds => decide (uptoBulkAll ds ≤ 1048576)
def OpenSpec.upto (s : _root_.Go.ChangeSpec) : _root_.Go.OpenSpec := { _root_.Go.OpenSpec.ofChange s with cond := some uptoSmall }

/-- 'laws.FnExactPointsFor', WHERE WHAT IT READS IS OF BULK AT MOST 1048576: true; the input reads as it did. -/
def fnExactPointsForUptoRow : OpenClaim := { program := "ytmlmjapmhdbcpaa", sum := "501cedbc763e64f55c4c4869ba0940c0aadd0f0bc65680a3f3ba345cba2fae03", func := "loop.example/promotionengine/laws.FnExactPointsFor", spec := "fnExactPointsFor", apart := false, narrowed := true }
def FnExactPointsForUptoSaid : Prop := fnExactPointsForUptoRow.holds Try.pinned (OpenSpec.upto fnExactPointsForSpec)

/-- 'laws.FnExactValidLots', WHERE WHAT IT READS IS OF BULK AT MOST 1048576: true; the input reads as it did. -/
def fnExactValidLotsUptoRow : OpenClaim := { program := "ytmlmjapmhdbcpaa", sum := "501cedbc763e64f55c4c4869ba0940c0aadd0f0bc65680a3f3ba345cba2fae03", func := "loop.example/promotionengine/laws.FnExactValidLots", spec := "fnExactValidLots", apart := false, narrowed := true }
def FnExactValidLotsUptoSaid : Prop := fnExactValidLotsUptoRow.holds Try.pinned (OpenSpec.upto fnExactValidLotsSpec)

/-- 'laws.FnValidLots', WHERE WHAT IT READS IS OF BULK AT MOST 1048576: true; the input reads as it did. -/
def fnValidLotsUptoRow : OpenClaim := { program := "ytmlmjapmhdbcpaa", sum := "501cedbc763e64f55c4c4869ba0940c0aadd0f0bc65680a3f3ba345cba2fae03", func := "loop.example/promotionengine/laws.FnValidLots", spec := "fnValidLots", apart := false, narrowed := true }
def FnValidLotsUptoSaid : Prop := fnValidLotsUptoRow.holds Try.pinned (OpenSpec.upto fnValidLotsSpec)

/-- 'laws.FnPointsFor', WHERE WHAT IT READS IS OF BULK AT MOST 1048576: true; the input reads as it did. -/
def fnPointsForUptoRow : OpenClaim := { program := "ytmlmjapmhdbcpaa", sum := "501cedbc763e64f55c4c4869ba0940c0aadd0f0bc65680a3f3ba345cba2fae03", func := "loop.example/promotionengine/laws.FnPointsFor", spec := "fnPointsFor", apart := false, narrowed := true }
def FnPointsForUptoSaid : Prop := fnPointsForUptoRow.holds Try.pinned (OpenSpec.upto fnPointsForSpec)

/-- 'laws.FnPointsForParts', WHERE WHAT IT READS IS OF BULK AT MOST 1048576: true; the input reads as it did. -/
def fnPointsForPartsUptoRow : OpenClaim := { program := "ytmlmjapmhdbcpaa", sum := "501cedbc763e64f55c4c4869ba0940c0aadd0f0bc65680a3f3ba345cba2fae03", func := "loop.example/promotionengine/laws.FnPointsForParts", spec := "fnPointsForParts", apart := false, narrowed := true }
def FnPointsForPartsUptoSaid : Prop := fnPointsForPartsUptoRow.holds Try.pinned (OpenSpec.upto fnPointsForPartsSpec)

/-- 'laws.FnExactPointsOn', WHERE WHAT IT READS IS OF BULK AT MOST 1048576: true; the input reads as it did. -/
def fnExactPointsOnUptoRow : OpenClaim := { program := "ytmlmjapmhdbcpaa", sum := "501cedbc763e64f55c4c4869ba0940c0aadd0f0bc65680a3f3ba345cba2fae03", func := "loop.example/promotionengine/laws.FnExactPointsOn", spec := "fnExactPointsOn", apart := false, narrowed := true }
def FnExactPointsOnUptoSaid : Prop := fnExactPointsOnUptoRow.holds Try.pinned (OpenSpec.upto fnExactPointsOnSpec)

/-- 'laws.FnPointsOn', WHERE WHAT IT READS IS OF BULK AT MOST 1048576: true; the input reads as it did. -/
def fnPointsOnUptoRow : OpenClaim := { program := "ytmlmjapmhdbcpaa", sum := "501cedbc763e64f55c4c4869ba0940c0aadd0f0bc65680a3f3ba345cba2fae03", func := "loop.example/promotionengine/laws.FnPointsOn", spec := "fnPointsOn", apart := false, narrowed := true }
def FnPointsOnUptoSaid : Prop := fnPointsOnUptoRow.holds Try.pinned (OpenSpec.upto fnPointsOnSpec)

/-- 'laws.FnExactEarnPoints', WHERE WHAT IT READS IS OF BULK AT MOST 1048576: true; the input reads as it did. -/
def fnExactEarnPointsUptoRow : OpenClaim := { program := "ytmlmjapmhdbcpaa", sum := "501cedbc763e64f55c4c4869ba0940c0aadd0f0bc65680a3f3ba345cba2fae03", func := "loop.example/promotionengine/laws.FnExactEarnPoints", spec := "fnExactEarnPoints", apart := false, narrowed := true }
def FnExactEarnPointsUptoSaid : Prop := fnExactEarnPointsUptoRow.holds Try.pinned (OpenSpec.upto fnExactEarnPointsSpec)

end Rows
end Go.Proofs.Ytmlmjapmhdbcpaa
