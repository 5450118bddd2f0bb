/-
  No cell of these rows narrows 'for every input' (looked for: loops, veiled, ifaces, maps, wideKeys, modest, calm, conditions, laid).
  DERIVED. THE GIVEN ROWS OF THIS SEAT. 8 by the template 'for every input the law returns true; each argument reads behind the call as it read before'; 0 by the template 'total and deterministic' (their statements: YtdnfhpgiphobgaaTotals.lean).
  GIVEN WITH THE SEED: the statements are not yours to turn. If you find one false, say at which input.
  Laid BY PROGRAM, IN A SANDBOX (cutbox-rows.mjs): the forced cells as the released guide's own fill.sh prints them over the translation 967303cd69ca8dc9… (all of the seat's roots in one cut). By AI agents, Wed Nov 11 2026. No macro, syntax, notation, axiom, sorry.
-/
import Derived.Test.YtdnfhpgiphobgaaChecked
import GoSem.Claim
import GoSem.ClaimJoined
import GoSem.ClaimMapViews
import Derived.JoinedTies
import Derived.KernelRfl
namespace Go.Proofs.Ytdnfhpgiphobgaa
/- THE CELL 'sum', in the pinned program and in every row, IS THE sha256 OF THE DUMP (.gsa) THAT YtdnfhpgiphobgaaProg.lean LOADS. Nothing in Lean hashes anything: it is a label: what it is worth is what the hold of that sum in a sandbox is worth. -/
noncomputable def Try.pinned : Pinned := { name := "ytdnfhpgiphobgaa", sum := "967303cd69ca8dc9f38deee54956a590b4140264201156747334b8c1c8feef84", checked := Try.checked }
namespace Rows
def none {H : Type} : Left H := { results := [], args := [] }

/-- 'laws.FnEarnPointsOrder': WHATEVER THE INPUT: true; the input reads as it did. -/
def fnEarnPointsOrderSpec : ChangeSpec := { name := "fnEarnPointsOrder", fn := fun _ => fun
  | [d] => { results := [.lit (.bool true)], args := [d] }
  | _ => none }
def fnEarnPointsOrderRow : OpenClaim := { program := "ytdnfhpgiphobgaa", sum := "967303cd69ca8dc9f38deee54956a590b4140264201156747334b8c1c8feef84", func := "loop.example/promotionengine/laws.FnEarnPointsOrder", spec := "fnEarnPointsOrder", apart := false }
def FnEarnPointsOrderSaid : Prop := fnEarnPointsOrderRow.holds Try.pinned (OpenSpec.ofChange fnEarnPointsOrderSpec)

/-- ITS FALSE NEIGHBOUR: 'it returns false'. Refute it at one input. -/
def fnEarnPointsOrderWrong : ChangeSpec := { name := "fnEarnPointsOrder", fn := fun _ => fun
  | [d] => { results := [.lit (.bool false)], args := [d] }
  | _ => none }
def FnEarnPointsOrderWrongFalsely : Prop := fnEarnPointsOrderRow.holds Try.pinned (OpenSpec.ofChange fnEarnPointsOrderWrong)

/-- 'laws.FnSpendPoints': WHATEVER THE INPUT: true; the input reads as it did. -/
def fnSpendPointsSpec : ChangeSpec := { name := "fnSpendPoints", fn := fun _ => fun
  | [d] => { results := [.lit (.bool true)], args := [d] }
  | _ => none }
def fnSpendPointsRow : OpenClaim := { program := "ytdnfhpgiphobgaa", sum := "967303cd69ca8dc9f38deee54956a590b4140264201156747334b8c1c8feef84", func := "loop.example/promotionengine/laws.FnSpendPoints", spec := "fnSpendPoints", apart := false }
def FnSpendPointsSaid : Prop := fnSpendPointsRow.holds Try.pinned (OpenSpec.ofChange fnSpendPointsSpec)

/-- ITS FALSE NEIGHBOUR: 'it returns false'. Refute it at one input. -/
def fnSpendPointsWrong : ChangeSpec := { name := "fnSpendPoints", fn := fun _ => fun
  | [d] => { results := [.lit (.bool false)], args := [d] }
  | _ => none }
def FnSpendPointsWrongFalsely : Prop := fnSpendPointsRow.holds Try.pinned (OpenSpec.ofChange fnSpendPointsWrong)

/-- 'laws.FnSpendPointsAll': WHATEVER THE INPUT: true; the input reads as it did. -/
def fnSpendPointsAllSpec : ChangeSpec := { name := "fnSpendPointsAll", fn := fun _ => fun
  | [d] => { results := [.lit (.bool true)], args := [d] }
  | _ => none }
def fnSpendPointsAllRow : OpenClaim := { program := "ytdnfhpgiphobgaa", sum := "967303cd69ca8dc9f38deee54956a590b4140264201156747334b8c1c8feef84", func := "loop.example/promotionengine/laws.FnSpendPointsAll", spec := "fnSpendPointsAll", apart := false }
def FnSpendPointsAllSaid : Prop := fnSpendPointsAllRow.holds Try.pinned (OpenSpec.ofChange fnSpendPointsAllSpec)

/-- ITS FALSE NEIGHBOUR: 'it returns false'. Refute it at one input. -/
def fnSpendPointsAllWrong : ChangeSpec := { name := "fnSpendPointsAll", fn := fun _ => fun
  | [d] => { results := [.lit (.bool false)], args := [d] }
  | _ => none }
def FnSpendPointsAllWrongFalsely : Prop := fnSpendPointsAllRow.holds Try.pinned (OpenSpec.ofChange fnSpendPointsAllWrong)

/-- 'laws.FnSpendPointsOld': WHATEVER THE INPUT: true; the input reads as it did. -/
def fnSpendPointsOldSpec : ChangeSpec := { name := "fnSpendPointsOld", fn := fun _ => fun
  | [d] => { results := [.lit (.bool true)], args := [d] }
  | _ => none }
def fnSpendPointsOldRow : OpenClaim := { program := "ytdnfhpgiphobgaa", sum := "967303cd69ca8dc9f38deee54956a590b4140264201156747334b8c1c8feef84", func := "loop.example/promotionengine/laws.FnSpendPointsOld", spec := "fnSpendPointsOld", apart := false }
def FnSpendPointsOldSaid : Prop := fnSpendPointsOldRow.holds Try.pinned (OpenSpec.ofChange fnSpendPointsOldSpec)

/-- ITS FALSE NEIGHBOUR: 'it returns false'. Refute it at one input. -/
def fnSpendPointsOldWrong : ChangeSpec := { name := "fnSpendPointsOld", fn := fun _ => fun
  | [d] => { results := [.lit (.bool false)], args := [d] }
  | _ => none }
def FnSpendPointsOldWrongFalsely : Prop := fnSpendPointsOldRow.holds Try.pinned (OpenSpec.ofChange fnSpendPointsOldWrong)

/-- 'laws.FnSpendPointsTwice': WHATEVER THE INPUT: true; the input reads as it did. -/
def fnSpendPointsTwiceSpec : ChangeSpec := { name := "fnSpendPointsTwice", fn := fun _ => fun
  | [d] => { results := [.lit (.bool true)], args := [d] }
  | _ => none }
def fnSpendPointsTwiceRow : OpenClaim := { program := "ytdnfhpgiphobgaa", sum := "967303cd69ca8dc9f38deee54956a590b4140264201156747334b8c1c8feef84", func := "loop.example/promotionengine/laws.FnSpendPointsTwice", spec := "fnSpendPointsTwice", apart := false }
def FnSpendPointsTwiceSaid : Prop := fnSpendPointsTwiceRow.holds Try.pinned (OpenSpec.ofChange fnSpendPointsTwiceSpec)

/-- ITS FALSE NEIGHBOUR: 'it returns false'. Refute it at one input. -/
def fnSpendPointsTwiceWrong : ChangeSpec := { name := "fnSpendPointsTwice", fn := fun _ => fun
  | [d] => { results := [.lit (.bool false)], args := [d] }
  | _ => none }
def FnSpendPointsTwiceWrongFalsely : Prop := fnSpendPointsTwiceRow.holds Try.pinned (OpenSpec.ofChange fnSpendPointsTwiceWrong)

/-- 'laws.FnExactSpendPoints': WHATEVER THE INPUT: true; the input reads as it did. -/
def fnExactSpendPointsSpec : ChangeSpec := { name := "fnExactSpendPoints", fn := fun _ => fun
  | [d1, d2, d3] => { results := [.lit (.bool true)], args := [d1, d2, d3] }
  | _ => none }
def fnExactSpendPointsRow : OpenClaim := { program := "ytdnfhpgiphobgaa", sum := "967303cd69ca8dc9f38deee54956a590b4140264201156747334b8c1c8feef84", func := "loop.example/promotionengine/laws.FnExactSpendPoints", spec := "fnExactSpendPoints", apart := false }
def FnExactSpendPointsSaid : Prop := fnExactSpendPointsRow.holds Try.pinned (OpenSpec.ofChange fnExactSpendPointsSpec)

/-- ITS FALSE NEIGHBOUR: 'it returns false'. Refute it at one input. -/
def fnExactSpendPointsWrong : ChangeSpec := { name := "fnExactSpendPoints", fn := fun _ => fun
  | [d1, d2, d3] => { results := [.lit (.bool false)], args := [d1, d2, d3] }
  | _ => none }
def FnExactSpendPointsWrongFalsely : Prop := fnExactSpendPointsRow.holds Try.pinned (OpenSpec.ofChange fnExactSpendPointsWrong)

/-- 'laws.FnEarnPoints': WHATEVER THE INPUT: true; the input reads as it did. -/
def fnEarnPointsSpec : ChangeSpec := { name := "fnEarnPoints", fn := fun _ => fun
  | [d] => { results := [.lit (.bool true)], args := [d] }
  | _ => none }
def fnEarnPointsRow : OpenClaim := { program := "ytdnfhpgiphobgaa", sum := "967303cd69ca8dc9f38deee54956a590b4140264201156747334b8c1c8feef84", func := "loop.example/promotionengine/laws.FnEarnPoints", spec := "fnEarnPoints", apart := false }
def FnEarnPointsSaid : Prop := fnEarnPointsRow.holds Try.pinned (OpenSpec.ofChange fnEarnPointsSpec)

/-- ITS FALSE NEIGHBOUR: 'it returns false'. Refute it at one input. -/
def fnEarnPointsWrong : ChangeSpec := { name := "fnEarnPoints", fn := fun _ => fun
  | [d] => { results := [.lit (.bool false)], args := [d] }
  | _ => none }
def FnEarnPointsWrongFalsely : Prop := fnEarnPointsRow.holds Try.pinned (OpenSpec.ofChange fnEarnPointsWrong)

/-- 'laws.FnEarnPointsSpend': WHATEVER THE INPUT: true; the input reads as it did. -/
def fnEarnPointsSpendSpec : ChangeSpec := { name := "fnEarnPointsSpend", fn := fun _ => fun
  | [d] => { results := [.lit (.bool true)], args := [d] }
  | _ => none }
def fnEarnPointsSpendRow : OpenClaim := { program := "ytdnfhpgiphobgaa", sum := "967303cd69ca8dc9f38deee54956a590b4140264201156747334b8c1c8feef84", func := "loop.example/promotionengine/laws.FnEarnPointsSpend", spec := "fnEarnPointsSpend", apart := false }
def FnEarnPointsSpendSaid : Prop := fnEarnPointsSpendRow.holds Try.pinned (OpenSpec.ofChange fnEarnPointsSpendSpec)

/-- ITS FALSE NEIGHBOUR: 'it returns false'. Refute it at one input. -/
def fnEarnPointsSpendWrong : ChangeSpec := { name := "fnEarnPointsSpend", fn := fun _ => fun
  | [d] => { results := [.lit (.bool false)], args := [d] }
  | _ => none }
def FnEarnPointsSpendWrongFalsely : Prop := fnEarnPointsSpendRow.holds Try.pinned (OpenSpec.ofChange fnEarnPointsSpendWrong)

/- THE SECOND FORM. 'bulk': how many values and letters a reading holds, each counted each time it is reached (what is shared counts as often as it is met; a slice's spare places count too). A statement '..UptoSaid' is the law's where the arguments, and the package variables that the reading takes, are together of bulk at most 1048576: NARROWER than '..Said'. Prove '..Said' where nothing that the law and all that it calls make is longer than what came in: it says more and counts as full. Else prove '..UptoSaid'. A law counts once. -/
mutual
def uptoBulk {H : Type} : DataW H → Nat
  | .lit (.string bytes) => bytes.length + 1
  | .lit _ => 1
  | .nil => 1
  | .ptr d => uptoBulk d + 1
  | .slice elems spare => uptoBulkAll elems + uptoBulkAll spare + 1
  | .agg parts => uptoBulkAll parts + 1
  | .iface _ d => uptoBulk d + 1
  | .map entries => uptoBulkEntries entries + 1
  | .held _ => 1
def uptoBulkAll {H : Type} : List (DataW H) → Nat
  | [] => 0
  | d :: r => uptoBulk d + uptoBulkAll r
def uptoBulkEntries {H : Type} : List (Lit × DataW H) → Nat
  | [] => 0
  | x :: r => uptoBulkEntry x + uptoBulkEntries r
def uptoBulkEntry {H : Type} : Lit × DataW H → Nat
  | (.string bytes, d) => bytes.length + uptoBulk d + 1
  | (_, d) => uptoBulk d + 1
 end
def uptoSmall : (H : Type) → List (DataW H) → Bool := fun _ ds => decide (uptoBulkAll ds ≤ 1048576)
def OpenSpec.upto (s : _root_.Go.ChangeSpec) : _root_.Go.OpenSpec := { _root_.Go.OpenSpec.ofChange s with cond := some uptoSmall }

/-- 'laws.FnEarnPointsOrder', WHERE WHAT IT READS IS OF BULK AT MOST 1048576: true; the input reads as it did. -/
def fnEarnPointsOrderUptoRow : OpenClaim := { program := "ytdnfhpgiphobgaa", sum := "967303cd69ca8dc9f38deee54956a590b4140264201156747334b8c1c8feef84", func := "loop.example/promotionengine/laws.FnEarnPointsOrder", spec := "fnEarnPointsOrder", apart := false, narrowed := true }
def FnEarnPointsOrderUptoSaid : Prop := fnEarnPointsOrderUptoRow.holds Try.pinned (OpenSpec.upto fnEarnPointsOrderSpec)

/-- 'laws.FnSpendPoints', WHERE WHAT IT READS IS OF BULK AT MOST 1048576: true; the input reads as it did. -/
def fnSpendPointsUptoRow : OpenClaim := { program := "ytdnfhpgiphobgaa", sum := "967303cd69ca8dc9f38deee54956a590b4140264201156747334b8c1c8feef84", func := "loop.example/promotionengine/laws.FnSpendPoints", spec := "fnSpendPoints", apart := false, narrowed := true }
def FnSpendPointsUptoSaid : Prop := fnSpendPointsUptoRow.holds Try.pinned (OpenSpec.upto fnSpendPointsSpec)

/-- 'laws.FnSpendPointsAll', WHERE WHAT IT READS IS OF BULK AT MOST 1048576: true; the input reads as it did. -/
def fnSpendPointsAllUptoRow : OpenClaim := { program := "ytdnfhpgiphobgaa", sum := "967303cd69ca8dc9f38deee54956a590b4140264201156747334b8c1c8feef84", func := "loop.example/promotionengine/laws.FnSpendPointsAll", spec := "fnSpendPointsAll", apart := false, narrowed := true }
def FnSpendPointsAllUptoSaid : Prop := fnSpendPointsAllUptoRow.holds Try.pinned (OpenSpec.upto fnSpendPointsAllSpec)

/-- 'laws.FnSpendPointsOld', WHERE WHAT IT READS IS OF BULK AT MOST 1048576: true; the input reads as it did. -/
def fnSpendPointsOldUptoRow : OpenClaim := { program := "ytdnfhpgiphobgaa", sum := "967303cd69ca8dc9f38deee54956a590b4140264201156747334b8c1c8feef84", func := "loop.example/promotionengine/laws.FnSpendPointsOld", spec := "fnSpendPointsOld", apart := false, narrowed := true }
def FnSpendPointsOldUptoSaid : Prop := fnSpendPointsOldUptoRow.holds Try.pinned (OpenSpec.upto fnSpendPointsOldSpec)

/-- 'laws.FnSpendPointsTwice', WHERE WHAT IT READS IS OF BULK AT MOST 1048576: true; the input reads as it did. -/
def fnSpendPointsTwiceUptoRow : OpenClaim := { program := "ytdnfhpgiphobgaa", sum := "967303cd69ca8dc9f38deee54956a590b4140264201156747334b8c1c8feef84", func := "loop.example/promotionengine/laws.FnSpendPointsTwice", spec := "fnSpendPointsTwice", apart := false, narrowed := true }
def FnSpendPointsTwiceUptoSaid : Prop := fnSpendPointsTwiceUptoRow.holds Try.pinned (OpenSpec.upto fnSpendPointsTwiceSpec)

/-- 'laws.FnExactSpendPoints', WHERE WHAT IT READS IS OF BULK AT MOST 1048576: true; the input reads as it did. -/
def fnExactSpendPointsUptoRow : OpenClaim := { program := "ytdnfhpgiphobgaa", sum := "967303cd69ca8dc9f38deee54956a590b4140264201156747334b8c1c8feef84", func := "loop.example/promotionengine/laws.FnExactSpendPoints", spec := "fnExactSpendPoints", apart := false, narrowed := true }
def FnExactSpendPointsUptoSaid : Prop := fnExactSpendPointsUptoRow.holds Try.pinned (OpenSpec.upto fnExactSpendPointsSpec)

/-- 'laws.FnEarnPoints', WHERE WHAT IT READS IS OF BULK AT MOST 1048576: true; the input reads as it did. -/
def fnEarnPointsUptoRow : OpenClaim := { program := "ytdnfhpgiphobgaa", sum := "967303cd69ca8dc9f38deee54956a590b4140264201156747334b8c1c8feef84", func := "loop.example/promotionengine/laws.FnEarnPoints", spec := "fnEarnPoints", apart := false, narrowed := true }
def FnEarnPointsUptoSaid : Prop := fnEarnPointsUptoRow.holds Try.pinned (OpenSpec.upto fnEarnPointsSpec)

/-- 'laws.FnEarnPointsSpend', WHERE WHAT IT READS IS OF BULK AT MOST 1048576: true; the input reads as it did. -/
def fnEarnPointsSpendUptoRow : OpenClaim := { program := "ytdnfhpgiphobgaa", sum := "967303cd69ca8dc9f38deee54956a590b4140264201156747334b8c1c8feef84", func := "loop.example/promotionengine/laws.FnEarnPointsSpend", spec := "fnEarnPointsSpend", apart := false, narrowed := true }
def FnEarnPointsSpendUptoSaid : Prop := fnEarnPointsSpendUptoRow.holds Try.pinned (OpenSpec.upto fnEarnPointsSpendSpec)

end Rows
end Go.Proofs.Ytdnfhpgiphobgaa
