/-
  No cell of these rows narrows 'for every input' (looked for: loops, veiled, ifaces, maps, wideKeys, modest, calm, conditions, laid).
  DERIVED. THE GIVEN ROWS OF THIS SEAT. 12 by the template 'for every input the law returns true; each argument reads behind the call as it read before'; 0 by the template 'total and deterministic' (their statements: YtcjcolkhhmpmjaaTotals.lean).
  GIVEN WITH THE SEED: the statements are not yours to turn. If you find one false, say at which input.
  Laid BY PROGRAM, IN A SANDBOX (cutbox-rows.mjs): the forced cells as the released guide's own fill.sh prints them over the translation a8e3d9c46a2a3cc7… (all of the seat's roots in one cut). By AI agents, Wed Nov 11 2026. No macro, syntax, notation, axiom, sorry.
-/
import Derived.Test.YtcjcolkhhmpmjaaChecked
import GoSem.Claim
import GoSem.ClaimJoined
import GoSem.ClaimMapViews
import Derived.JoinedTies
import Derived.KernelRfl
namespace Go.Proofs.Ytcjcolkhhmpmjaa
/- THE CELL 'sum', in the pinned program and in every row, IS THE sha256 OF THE DUMP (.gsa) THAT YtcjcolkhhmpmjaaProg.lean LOADS. Nothing in Lean hashes anything: it is a label: what it is worth is what the hold of that sum in a sandbox is worth. -/
noncomputable def Try.pinned : Pinned := { name := "ytcjcolkhhmpmjaa", sum := "a8e3d9c46a2a3cc7b98e3459656db86e66bc56c36129dca5f4a4160bee500b0f", checked := Try.checked }
namespace Rows
def none {H : Type} : Left H := { results := [], args := [] }

/-- 'laws.FnExactValidTill': WHATEVER THE INPUT: true; the input reads as it did. -/
def fnExactValidTillSpec : ChangeSpec := { name := "fnExactValidTill", fn := fun _ => fun
  | [d] => { results := [.lit (.bool true)], args := [d] }
  | _ => none }
def fnExactValidTillRow : OpenClaim := { program := "ytcjcolkhhmpmjaa", sum := "a8e3d9c46a2a3cc7b98e3459656db86e66bc56c36129dca5f4a4160bee500b0f", func := "loop.example/promotionengine/laws.FnExactValidTill", spec := "fnExactValidTill", apart := false }
def FnExactValidTillSaid : Prop := fnExactValidTillRow.holds Try.pinned (OpenSpec.ofChange fnExactValidTillSpec)

/-- ITS FALSE NEIGHBOUR: 'it returns false'. Refute it at one input. -/
def fnExactValidTillWrong : ChangeSpec := { name := "fnExactValidTill", fn := fun _ => fun
  | [d] => { results := [.lit (.bool false)], args := [d] }
  | _ => none }
def FnExactValidTillWrongFalsely : Prop := fnExactValidTillRow.holds Try.pinned (OpenSpec.ofChange fnExactValidTillWrong)

/-- 'laws.FnTillValue': WHATEVER THE INPUT: true; the input reads as it did. -/
def fnTillValueSpec : ChangeSpec := { name := "fnTillValue", fn := fun _ => fun
  | [d] => { results := [.lit (.bool true)], args := [d] }
  | _ => none }
def fnTillValueRow : OpenClaim := { program := "ytcjcolkhhmpmjaa", sum := "a8e3d9c46a2a3cc7b98e3459656db86e66bc56c36129dca5f4a4160bee500b0f", func := "loop.example/promotionengine/laws.FnTillValue", spec := "fnTillValue", apart := false }
def FnTillValueSaid : Prop := fnTillValueRow.holds Try.pinned (OpenSpec.ofChange fnTillValueSpec)

/-- ITS FALSE NEIGHBOUR: 'it returns false'. Refute it at one input. -/
def fnTillValueWrong : ChangeSpec := { name := "fnTillValue", fn := fun _ => fun
  | [d] => { results := [.lit (.bool false)], args := [d] }
  | _ => none }
def FnTillValueWrongFalsely : Prop := fnTillValueRow.holds Try.pinned (OpenSpec.ofChange fnTillValueWrong)

/-- 'laws.FnExactTillValue': WHATEVER THE INPUT: true; the input reads as it did. -/
def fnExactTillValueSpec : ChangeSpec := { name := "fnExactTillValue", fn := fun _ => fun
  | [d] => { results := [.lit (.bool true)], args := [d] }
  | _ => none }
def fnExactTillValueRow : OpenClaim := { program := "ytcjcolkhhmpmjaa", sum := "a8e3d9c46a2a3cc7b98e3459656db86e66bc56c36129dca5f4a4160bee500b0f", func := "loop.example/promotionengine/laws.FnExactTillValue", spec := "fnExactTillValue", apart := false }
def FnExactTillValueSaid : Prop := fnExactTillValueRow.holds Try.pinned (OpenSpec.ofChange fnExactTillValueSpec)

/-- ITS FALSE NEIGHBOUR: 'it returns false'. Refute it at one input. -/
def fnExactTillValueWrong : ChangeSpec := { name := "fnExactTillValue", fn := fun _ => fun
  | [d] => { results := [.lit (.bool false)], args := [d] }
  | _ => none }
def FnExactTillValueWrongFalsely : Prop := fnExactTillValueRow.holds Try.pinned (OpenSpec.ofChange fnExactTillValueWrong)

/-- 'laws.FnChangeFor': WHATEVER THE INPUT: true; the input reads as it did. -/
def fnChangeForSpec : ChangeSpec := { name := "fnChangeFor", fn := fun _ => fun
  | [d] => { results := [.lit (.bool true)], args := [d] }
  | _ => none }
def fnChangeForRow : OpenClaim := { program := "ytcjcolkhhmpmjaa", sum := "a8e3d9c46a2a3cc7b98e3459656db86e66bc56c36129dca5f4a4160bee500b0f", func := "loop.example/promotionengine/laws.FnChangeFor", spec := "fnChangeFor", apart := false }
def FnChangeForSaid : Prop := fnChangeForRow.holds Try.pinned (OpenSpec.ofChange fnChangeForSpec)

/-- ITS FALSE NEIGHBOUR: 'it returns false'. Refute it at one input. -/
def fnChangeForWrong : ChangeSpec := { name := "fnChangeFor", fn := fun _ => fun
  | [d] => { results := [.lit (.bool false)], args := [d] }
  | _ => none }
def FnChangeForWrongFalsely : Prop := fnChangeForRow.holds Try.pinned (OpenSpec.ofChange fnChangeForWrong)

/-- 'laws.FnChangeForFewest': WHATEVER THE INPUT: true; the input reads as it did. -/
def fnChangeForFewestSpec : ChangeSpec := { name := "fnChangeForFewest", fn := fun _ => fun
  | [d] => { results := [.lit (.bool true)], args := [d] }
  | _ => none }
def fnChangeForFewestRow : OpenClaim := { program := "ytcjcolkhhmpmjaa", sum := "a8e3d9c46a2a3cc7b98e3459656db86e66bc56c36129dca5f4a4160bee500b0f", func := "loop.example/promotionengine/laws.FnChangeForFewest", spec := "fnChangeForFewest", apart := false }
def FnChangeForFewestSaid : Prop := fnChangeForFewestRow.holds Try.pinned (OpenSpec.ofChange fnChangeForFewestSpec)

/-- ITS FALSE NEIGHBOUR: 'it returns false'. Refute it at one input. -/
def fnChangeForFewestWrong : ChangeSpec := { name := "fnChangeForFewest", fn := fun _ => fun
  | [d] => { results := [.lit (.bool false)], args := [d] }
  | _ => none }
def FnChangeForFewestWrongFalsely : Prop := fnChangeForFewestRow.holds Try.pinned (OpenSpec.ofChange fnChangeForFewestWrong)

/-- 'laws.FnChangeForMore': WHATEVER THE INPUT: true; the input reads as it did. -/
def fnChangeForMoreSpec : ChangeSpec := { name := "fnChangeForMore", fn := fun _ => fun
  | [d] => { results := [.lit (.bool true)], args := [d] }
  | _ => none }
def fnChangeForMoreRow : OpenClaim := { program := "ytcjcolkhhmpmjaa", sum := "a8e3d9c46a2a3cc7b98e3459656db86e66bc56c36129dca5f4a4160bee500b0f", func := "loop.example/promotionengine/laws.FnChangeForMore", spec := "fnChangeForMore", apart := false }
def FnChangeForMoreSaid : Prop := fnChangeForMoreRow.holds Try.pinned (OpenSpec.ofChange fnChangeForMoreSpec)

/-- ITS FALSE NEIGHBOUR: 'it returns false'. Refute it at one input. -/
def fnChangeForMoreWrong : ChangeSpec := { name := "fnChangeForMore", fn := fun _ => fun
  | [d] => { results := [.lit (.bool false)], args := [d] }
  | _ => none }
def FnChangeForMoreWrongFalsely : Prop := fnChangeForMoreRow.holds Try.pinned (OpenSpec.ofChange fnChangeForMoreWrong)

/-- 'laws.FnChangeForParts': WHATEVER THE INPUT: true; the input reads as it did. -/
def fnChangeForPartsSpec : ChangeSpec := { name := "fnChangeForParts", fn := fun _ => fun
  | [d] => { results := [.lit (.bool true)], args := [d] }
  | _ => none }
def fnChangeForPartsRow : OpenClaim := { program := "ytcjcolkhhmpmjaa", sum := "a8e3d9c46a2a3cc7b98e3459656db86e66bc56c36129dca5f4a4160bee500b0f", func := "loop.example/promotionengine/laws.FnChangeForParts", spec := "fnChangeForParts", apart := false }
def FnChangeForPartsSaid : Prop := fnChangeForPartsRow.holds Try.pinned (OpenSpec.ofChange fnChangeForPartsSpec)

/-- ITS FALSE NEIGHBOUR: 'it returns false'. Refute it at one input. -/
def fnChangeForPartsWrong : ChangeSpec := { name := "fnChangeForParts", fn := fun _ => fun
  | [d] => { results := [.lit (.bool false)], args := [d] }
  | _ => none }
def FnChangeForPartsWrongFalsely : Prop := fnChangeForPartsRow.holds Try.pinned (OpenSpec.ofChange fnChangeForPartsWrong)

/-- 'laws.FnChangeForNone': WHATEVER THE INPUT: true; the input reads as it did. -/
def fnChangeForNoneSpec : ChangeSpec := { name := "fnChangeForNone", fn := fun _ => fun
  | [d] => { results := [.lit (.bool true)], args := [d] }
  | _ => none }
def fnChangeForNoneRow : OpenClaim := { program := "ytcjcolkhhmpmjaa", sum := "a8e3d9c46a2a3cc7b98e3459656db86e66bc56c36129dca5f4a4160bee500b0f", func := "loop.example/promotionengine/laws.FnChangeForNone", spec := "fnChangeForNone", apart := false }
def FnChangeForNoneSaid : Prop := fnChangeForNoneRow.holds Try.pinned (OpenSpec.ofChange fnChangeForNoneSpec)

/-- ITS FALSE NEIGHBOUR: 'it returns false'. Refute it at one input. -/
def fnChangeForNoneWrong : ChangeSpec := { name := "fnChangeForNone", fn := fun _ => fun
  | [d] => { results := [.lit (.bool false)], args := [d] }
  | _ => none }
def FnChangeForNoneWrongFalsely : Prop := fnChangeForNoneRow.holds Try.pinned (OpenSpec.ofChange fnChangeForNoneWrong)

/-- 'laws.FnExactChangeFor': WHATEVER THE INPUT: true; the input reads as it did. -/
def fnExactChangeForSpec : ChangeSpec := { name := "fnExactChangeFor", fn := fun _ => fun
  | [d1, d2] => { results := [.lit (.bool true)], args := [d1, d2] }
  | _ => none }
def fnExactChangeForRow : OpenClaim := { program := "ytcjcolkhhmpmjaa", sum := "a8e3d9c46a2a3cc7b98e3459656db86e66bc56c36129dca5f4a4160bee500b0f", func := "loop.example/promotionengine/laws.FnExactChangeFor", spec := "fnExactChangeFor", apart := false }
def FnExactChangeForSaid : Prop := fnExactChangeForRow.holds Try.pinned (OpenSpec.ofChange fnExactChangeForSpec)

/-- ITS FALSE NEIGHBOUR: 'it returns false'. Refute it at one input. -/
def fnExactChangeForWrong : ChangeSpec := { name := "fnExactChangeFor", fn := fun _ => fun
  | [d1, d2] => { results := [.lit (.bool false)], args := [d1, d2] }
  | _ => none }
def FnExactChangeForWrongFalsely : Prop := fnExactChangeForRow.holds Try.pinned (OpenSpec.ofChange fnExactChangeForWrong)

/-- 'laws.FnExactPayOut': WHATEVER THE INPUT: true; the input reads as it did. -/
def fnExactPayOutSpec : ChangeSpec := { name := "fnExactPayOut", fn := fun _ => fun
  | [d1, d2] => { results := [.lit (.bool true)], args := [d1, d2] }
  | _ => none }
def fnExactPayOutRow : OpenClaim := { program := "ytcjcolkhhmpmjaa", sum := "a8e3d9c46a2a3cc7b98e3459656db86e66bc56c36129dca5f4a4160bee500b0f", func := "loop.example/promotionengine/laws.FnExactPayOut", spec := "fnExactPayOut", apart := false }
def FnExactPayOutSaid : Prop := fnExactPayOutRow.holds Try.pinned (OpenSpec.ofChange fnExactPayOutSpec)

/-- ITS FALSE NEIGHBOUR: 'it returns false'. Refute it at one input. -/
def fnExactPayOutWrong : ChangeSpec := { name := "fnExactPayOut", fn := fun _ => fun
  | [d1, d2] => { results := [.lit (.bool false)], args := [d1, d2] }
  | _ => none }
def FnExactPayOutWrongFalsely : Prop := fnExactPayOutRow.holds Try.pinned (OpenSpec.ofChange fnExactPayOutWrong)

/-- 'laws.FnPayOut': WHATEVER THE INPUT: true; the input reads as it did. -/
def fnPayOutSpec : ChangeSpec := { name := "fnPayOut", fn := fun _ => fun
  | [d] => { results := [.lit (.bool true)], args := [d] }
  | _ => none }
def fnPayOutRow : OpenClaim := { program := "ytcjcolkhhmpmjaa", sum := "a8e3d9c46a2a3cc7b98e3459656db86e66bc56c36129dca5f4a4160bee500b0f", func := "loop.example/promotionengine/laws.FnPayOut", spec := "fnPayOut", apart := false }
def FnPayOutSaid : Prop := fnPayOutRow.holds Try.pinned (OpenSpec.ofChange fnPayOutSpec)

/-- ITS FALSE NEIGHBOUR: 'it returns false'. Refute it at one input. -/
def fnPayOutWrong : ChangeSpec := { name := "fnPayOut", fn := fun _ => fun
  | [d] => { results := [.lit (.bool false)], args := [d] }
  | _ => none }
def FnPayOutWrongFalsely : Prop := fnPayOutRow.holds Try.pinned (OpenSpec.ofChange fnPayOutWrong)

/-- 'laws.FnPayOutAll': WHATEVER THE INPUT: true; the input reads as it did. -/
def fnPayOutAllSpec : ChangeSpec := { name := "fnPayOutAll", fn := fun _ => fun
  | [d] => { results := [.lit (.bool true)], args := [d] }
  | _ => none }
def fnPayOutAllRow : OpenClaim := { program := "ytcjcolkhhmpmjaa", sum := "a8e3d9c46a2a3cc7b98e3459656db86e66bc56c36129dca5f4a4160bee500b0f", func := "loop.example/promotionengine/laws.FnPayOutAll", spec := "fnPayOutAll", apart := false }
def FnPayOutAllSaid : Prop := fnPayOutAllRow.holds Try.pinned (OpenSpec.ofChange fnPayOutAllSpec)

/-- ITS FALSE NEIGHBOUR: 'it returns false'. Refute it at one input. -/
def fnPayOutAllWrong : ChangeSpec := { name := "fnPayOutAll", fn := fun _ => fun
  | [d] => { results := [.lit (.bool false)], args := [d] }
  | _ => none }
def FnPayOutAllWrongFalsely : Prop := fnPayOutAllRow.holds Try.pinned (OpenSpec.ofChange fnPayOutAllWrong)

/- THE SECOND FORM. 'bulk': how many values and letters a reading holds, each counted each time it is reached (what is shared counts as often as it is met; a slice's spare places count too). A statement '..UptoSaid' is the law's where the arguments, and the package variables that the reading takes, are together of bulk at most 1048576: NARROWER than '..Said'. Prove '..Said' where nothing that the law and all that it calls make is longer than what came in: it says more and counts as full. Else prove '..UptoSaid'. A law counts once. -/
mutual
def uptoBulk {H : Type} : DataW H → Nat
  | .lit (.string bytes) => bytes.length + 1
  | .lit _ => 1
  | .nil => 1
  | .ptr d => uptoBulk d + 1
  | .slice elems spare => uptoBulkAll elems + uptoBulkAll spare + 1
  | .agg parts => uptoBulkAll parts + 1
  | .iface _ d => uptoBulk d + 1
  | .map entries => uptoBulkEntries entries + 1
  | .held _ => 1
def uptoBulkAll {H : Type} : List (DataW H) → Nat
  | [] => 0
  | d :: r => uptoBulk d + uptoBulkAll r
def uptoBulkEntries {H : Type} : List (Lit × DataW H) → Nat
  | [] => 0
  | x :: r => uptoBulkEntry x + uptoBulkEntries r
def uptoBulkEntry {H : Type} : Lit × DataW H → Nat
  | (.string bytes, d) => bytes.length + uptoBulk d + 1
  | (_, d) => uptoBulk d + 1
 end
def uptoSmall : (H : Type) → List (DataW H) → Bool := fun _ ds => decide (uptoBulkAll ds ≤ 1048576)
def OpenSpec.upto (s : _root_.Go.ChangeSpec) : _root_.Go.OpenSpec := { _root_.Go.OpenSpec.ofChange s with cond := some uptoSmall }

/-- 'laws.FnExactValidTill', WHERE WHAT IT READS IS OF BULK AT MOST 1048576: true; the input reads as it did. -/
def fnExactValidTillUptoRow : OpenClaim := { program := "ytcjcolkhhmpmjaa", sum := "a8e3d9c46a2a3cc7b98e3459656db86e66bc56c36129dca5f4a4160bee500b0f", func := "loop.example/promotionengine/laws.FnExactValidTill", spec := "fnExactValidTill", apart := false, narrowed := true }
def FnExactValidTillUptoSaid : Prop := fnExactValidTillUptoRow.holds Try.pinned (OpenSpec.upto fnExactValidTillSpec)

/-- 'laws.FnTillValue', WHERE WHAT IT READS IS OF BULK AT MOST 1048576: true; the input reads as it did. -/
def fnTillValueUptoRow : OpenClaim := { program := "ytcjcolkhhmpmjaa", sum := "a8e3d9c46a2a3cc7b98e3459656db86e66bc56c36129dca5f4a4160bee500b0f", func := "loop.example/promotionengine/laws.FnTillValue", spec := "fnTillValue", apart := false, narrowed := true }
def FnTillValueUptoSaid : Prop := fnTillValueUptoRow.holds Try.pinned (OpenSpec.upto fnTillValueSpec)

/-- 'laws.FnExactTillValue', WHERE WHAT IT READS IS OF BULK AT MOST 1048576: true; the input reads as it did. -/
def fnExactTillValueUptoRow : OpenClaim := { program := "ytcjcolkhhmpmjaa", sum := "a8e3d9c46a2a3cc7b98e3459656db86e66bc56c36129dca5f4a4160bee500b0f", func := "loop.example/promotionengine/laws.FnExactTillValue", spec := "fnExactTillValue", apart := false, narrowed := true }
def FnExactTillValueUptoSaid : Prop := fnExactTillValueUptoRow.holds Try.pinned (OpenSpec.upto fnExactTillValueSpec)

/-- 'laws.FnChangeFor', WHERE WHAT IT READS IS OF BULK AT MOST 1048576: true; the input reads as it did. -/
def fnChangeForUptoRow : OpenClaim := { program := "ytcjcolkhhmpmjaa", sum := "a8e3d9c46a2a3cc7b98e3459656db86e66bc56c36129dca5f4a4160bee500b0f", func := "loop.example/promotionengine/laws.FnChangeFor", spec := "fnChangeFor", apart := false, narrowed := true }
def FnChangeForUptoSaid : Prop := fnChangeForUptoRow.holds Try.pinned (OpenSpec.upto fnChangeForSpec)

/-- 'laws.FnChangeForFewest', WHERE WHAT IT READS IS OF BULK AT MOST 1048576: true; the input reads as it did. -/
def fnChangeForFewestUptoRow : OpenClaim := { program := "ytcjcolkhhmpmjaa", sum := "a8e3d9c46a2a3cc7b98e3459656db86e66bc56c36129dca5f4a4160bee500b0f", func := "loop.example/promotionengine/laws.FnChangeForFewest", spec := "fnChangeForFewest", apart := false, narrowed := true }
def FnChangeForFewestUptoSaid : Prop := fnChangeForFewestUptoRow.holds Try.pinned (OpenSpec.upto fnChangeForFewestSpec)

/-- 'laws.FnChangeForMore', WHERE WHAT IT READS IS OF BULK AT MOST 1048576: true; the input reads as it did. -/
def fnChangeForMoreUptoRow : OpenClaim := { program := "ytcjcolkhhmpmjaa", sum := "a8e3d9c46a2a3cc7b98e3459656db86e66bc56c36129dca5f4a4160bee500b0f", func := "loop.example/promotionengine/laws.FnChangeForMore", spec := "fnChangeForMore", apart := false, narrowed := true }
def FnChangeForMoreUptoSaid : Prop := fnChangeForMoreUptoRow.holds Try.pinned (OpenSpec.upto fnChangeForMoreSpec)

/-- 'laws.FnChangeForParts', WHERE WHAT IT READS IS OF BULK AT MOST 1048576: true; the input reads as it did. -/
def fnChangeForPartsUptoRow : OpenClaim := { program := "ytcjcolkhhmpmjaa", sum := "a8e3d9c46a2a3cc7b98e3459656db86e66bc56c36129dca5f4a4160bee500b0f", func := "loop.example/promotionengine/laws.FnChangeForParts", spec := "fnChangeForParts", apart := false, narrowed := true }
def FnChangeForPartsUptoSaid : Prop := fnChangeForPartsUptoRow.holds Try.pinned (OpenSpec.upto fnChangeForPartsSpec)

/-- 'laws.FnChangeForNone', WHERE WHAT IT READS IS OF BULK AT MOST 1048576: true; the input reads as it did. -/
def fnChangeForNoneUptoRow : OpenClaim := { program := "ytcjcolkhhmpmjaa", sum := "a8e3d9c46a2a3cc7b98e3459656db86e66bc56c36129dca5f4a4160bee500b0f", func := "loop.example/promotionengine/laws.FnChangeForNone", spec := "fnChangeForNone", apart := false, narrowed := true }
def FnChangeForNoneUptoSaid : Prop := fnChangeForNoneUptoRow.holds Try.pinned (OpenSpec.upto fnChangeForNoneSpec)

/-- 'laws.FnExactChangeFor', WHERE WHAT IT READS IS OF BULK AT MOST 1048576: true; the input reads as it did. -/
def fnExactChangeForUptoRow : OpenClaim := { program := "ytcjcolkhhmpmjaa", sum := "a8e3d9c46a2a3cc7b98e3459656db86e66bc56c36129dca5f4a4160bee500b0f", func := "loop.example/promotionengine/laws.FnExactChangeFor", spec := "fnExactChangeFor", apart := false, narrowed := true }
def FnExactChangeForUptoSaid : Prop := fnExactChangeForUptoRow.holds Try.pinned (OpenSpec.upto fnExactChangeForSpec)

/-- 'laws.FnExactPayOut', WHERE WHAT IT READS IS OF BULK AT MOST 1048576: true; the input reads as it did. -/
def fnExactPayOutUptoRow : OpenClaim := { program := "ytcjcolkhhmpmjaa", sum := "a8e3d9c46a2a3cc7b98e3459656db86e66bc56c36129dca5f4a4160bee500b0f", func := "loop.example/promotionengine/laws.FnExactPayOut", spec := "fnExactPayOut", apart := false, narrowed := true }
def FnExactPayOutUptoSaid : Prop := fnExactPayOutUptoRow.holds Try.pinned (OpenSpec.upto fnExactPayOutSpec)

/-- 'laws.FnPayOut', WHERE WHAT IT READS IS OF BULK AT MOST 1048576: true; the input reads as it did. -/
def fnPayOutUptoRow : OpenClaim := { program := "ytcjcolkhhmpmjaa", sum := "a8e3d9c46a2a3cc7b98e3459656db86e66bc56c36129dca5f4a4160bee500b0f", func := "loop.example/promotionengine/laws.FnPayOut", spec := "fnPayOut", apart := false, narrowed := true }
def FnPayOutUptoSaid : Prop := fnPayOutUptoRow.holds Try.pinned (OpenSpec.upto fnPayOutSpec)

/-- 'laws.FnPayOutAll', WHERE WHAT IT READS IS OF BULK AT MOST 1048576: true; the input reads as it did. -/
def fnPayOutAllUptoRow : OpenClaim := { program := "ytcjcolkhhmpmjaa", sum := "a8e3d9c46a2a3cc7b98e3459656db86e66bc56c36129dca5f4a4160bee500b0f", func := "loop.example/promotionengine/laws.FnPayOutAll", spec := "fnPayOutAll", apart := false, narrowed := true }
def FnPayOutAllUptoSaid : Prop := fnPayOutAllUptoRow.holds Try.pinned (OpenSpec.upto fnPayOutAllSpec)

end Rows
end Go.Proofs.Ytcjcolkhhmpmjaa
