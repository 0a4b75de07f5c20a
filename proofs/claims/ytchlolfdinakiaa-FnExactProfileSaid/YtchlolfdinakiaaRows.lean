/-
  No cell of these rows narrows 'for every input' (looked for: loops, veiled, ifaces, maps, wideKeys, modest, calm, conditions, laid).
  DERIVED. THE GIVEN ROWS OF THIS SEAT. 9 by the template 'for every input the law returns true; each argument reads behind the call as it read before'; 0 by the template 'total and deterministic' (their statements: YtchlolfdinakiaaTotals.lean).
  GIVEN WITH THE SEED: the statements are not yours to turn. If you find one false, say at which input.
  Laid BY PROGRAM, IN A SANDBOX (cutbox-rows.mjs): the forced cells as the released guide's own fill.sh prints them over the translation 90b4125d3972a7f2… (all of the seat's roots in one cut). By AI agents, Wed Nov 11 2026. No macro, syntax, notation, axiom, sorry.
-/
import Derived.Test.YtchlolfdinakiaaChecked
import GoSem.Claim
import GoSem.ClaimJoined
import GoSem.ClaimMapViews
import Derived.JoinedTies
import Derived.KernelRfl
namespace Go.Proofs.Ytchlolfdinakiaa
/- THE CELL 'sum', in the pinned program and in every row, IS THE sha256 OF THE DUMP (.gsa) THAT YtchlolfdinakiaaProg.lean LOADS. Nothing in Lean hashes anything: it is a label: what it is worth is what the hold of that sum in a sandbox is worth. -/
noncomputable def Try.pinned : Pinned := { name := "ytchlolfdinakiaa", sum := "90b4125d3972a7f276070ffc1a6ebc975b0d5852f80c3cf49b32e7272ab59b4b", checked := Try.checked }
namespace Rows
def none {H : Type} : Left H := { results := [], args := [] }

/-- 'laws.FnExactConstants': WHATEVER THE INPUT: true; the input reads as it did. -/
def fnExactConstantsSpec : ChangeSpec := { name := "fnExactConstants", fn := fun _ => fun
  | [] => { results := [.lit (.bool true)], args := [] }
  | _ => none }
def fnExactConstantsRow : OpenClaim := { program := "ytchlolfdinakiaa", sum := "90b4125d3972a7f276070ffc1a6ebc975b0d5852f80c3cf49b32e7272ab59b4b", func := "loop.example/meaning/laws.FnExactConstants", spec := "fnExactConstants", plainKeys := false, apart := false }
def FnExactConstantsSaid : Prop := fnExactConstantsRow.holds Try.pinned (OpenSpec.ofChange fnExactConstantsSpec)

/-- ITS FALSE NEIGHBOUR: 'it returns false'. Refute it at one input. -/
def fnExactConstantsWrong : ChangeSpec := { name := "fnExactConstants", fn := fun _ => fun
  | [] => { results := [.lit (.bool false)], args := [] }
  | _ => none }
def FnExactConstantsWrongFalsely : Prop := fnExactConstantsRow.holds Try.pinned (OpenSpec.ofChange fnExactConstantsWrong)

/-- 'laws.FnExactValueOk': WHATEVER THE INPUT: true; the input reads as it did. -/
def fnExactValueOkSpec : ChangeSpec := { name := "fnExactValueOk", fn := fun _ => fun
  | [d] => { results := [.lit (.bool true)], args := [d] }
  | _ => none }
def fnExactValueOkRow : OpenClaim := { program := "ytchlolfdinakiaa", sum := "90b4125d3972a7f276070ffc1a6ebc975b0d5852f80c3cf49b32e7272ab59b4b", func := "loop.example/meaning/laws.FnExactValueOk", spec := "fnExactValueOk", plainKeys := false, apart := false }
def FnExactValueOkSaid : Prop := fnExactValueOkRow.holds Try.pinned (OpenSpec.ofChange fnExactValueOkSpec)

/-- ITS FALSE NEIGHBOUR: 'it returns false'. Refute it at one input. -/
def fnExactValueOkWrong : ChangeSpec := { name := "fnExactValueOk", fn := fun _ => fun
  | [d] => { results := [.lit (.bool false)], args := [d] }
  | _ => none }
def FnExactValueOkWrongFalsely : Prop := fnExactValueOkRow.holds Try.pinned (OpenSpec.ofChange fnExactValueOkWrong)

/-- 'laws.FnExactTruth': WHATEVER THE INPUT: true; the input reads as it did. -/
def fnExactTruthSpec : ChangeSpec := { name := "fnExactTruth", fn := fun _ => fun
  | [d] => { results := [.lit (.bool true)], args := [d] }
  | _ => none }
def fnExactTruthRow : OpenClaim := { program := "ytchlolfdinakiaa", sum := "90b4125d3972a7f276070ffc1a6ebc975b0d5852f80c3cf49b32e7272ab59b4b", func := "loop.example/meaning/laws.FnExactTruth", spec := "fnExactTruth", plainKeys := false, apart := false }
def FnExactTruthSaid : Prop := fnExactTruthRow.holds Try.pinned (OpenSpec.ofChange fnExactTruthSpec)

/-- ITS FALSE NEIGHBOUR: 'it returns false'. Refute it at one input. -/
def fnExactTruthWrong : ChangeSpec := { name := "fnExactTruth", fn := fun _ => fun
  | [d] => { results := [.lit (.bool false)], args := [d] }
  | _ => none }
def FnExactTruthWrongFalsely : Prop := fnExactTruthRow.holds Try.pinned (OpenSpec.ofChange fnExactTruthWrong)

/-- 'laws.FnExactInputOk': WHATEVER THE INPUT: true; the input reads as it did. -/
def fnExactInputOkSpec : ChangeSpec := { name := "fnExactInputOk", fn := fun _ => fun
  | [d] => { results := [.lit (.bool true)], args := [d] }
  | _ => none }
def fnExactInputOkRow : OpenClaim := { program := "ytchlolfdinakiaa", sum := "90b4125d3972a7f276070ffc1a6ebc975b0d5852f80c3cf49b32e7272ab59b4b", func := "loop.example/meaning/laws.FnExactInputOk", spec := "fnExactInputOk", plainKeys := false, apart := false }
def FnExactInputOkSaid : Prop := fnExactInputOkRow.holds Try.pinned (OpenSpec.ofChange fnExactInputOkSpec)

/-- ITS FALSE NEIGHBOUR: 'it returns false'. Refute it at one input. -/
def fnExactInputOkWrong : ChangeSpec := { name := "fnExactInputOk", fn := fun _ => fun
  | [d] => { results := [.lit (.bool false)], args := [d] }
  | _ => none }
def FnExactInputOkWrongFalsely : Prop := fnExactInputOkRow.holds Try.pinned (OpenSpec.ofChange fnExactInputOkWrong)

/-- 'laws.FnExactUnary': WHATEVER THE INPUT: true; the input reads as it did. -/
def fnExactUnarySpec : ChangeSpec := { name := "fnExactUnary", fn := fun _ => fun
  | [d1, d2] => { results := [.lit (.bool true)], args := [d1, d2] }
  | _ => none }
def fnExactUnaryRow : OpenClaim := { program := "ytchlolfdinakiaa", sum := "90b4125d3972a7f276070ffc1a6ebc975b0d5852f80c3cf49b32e7272ab59b4b", func := "loop.example/meaning/laws.FnExactUnary", spec := "fnExactUnary", plainKeys := false, apart := false }
def FnExactUnarySaid : Prop := fnExactUnaryRow.holds Try.pinned (OpenSpec.ofChange fnExactUnarySpec)

/-- ITS FALSE NEIGHBOUR: 'it returns false'. Refute it at one input. -/
def fnExactUnaryWrong : ChangeSpec := { name := "fnExactUnary", fn := fun _ => fun
  | [d1, d2] => { results := [.lit (.bool false)], args := [d1, d2] }
  | _ => none }
def FnExactUnaryWrongFalsely : Prop := fnExactUnaryRow.holds Try.pinned (OpenSpec.ofChange fnExactUnaryWrong)

/-- 'laws.FnExactKey': WHATEVER THE INPUT: true; the input reads as it did. -/
def fnExactKeySpec : ChangeSpec := { name := "fnExactKey", fn := fun _ => fun
  | [d] => { results := [.lit (.bool true)], args := [d] }
  | _ => none }
def fnExactKeyRow : OpenClaim := { program := "ytchlolfdinakiaa", sum := "90b4125d3972a7f276070ffc1a6ebc975b0d5852f80c3cf49b32e7272ab59b4b", func := "loop.example/meaning/laws.FnExactKey", spec := "fnExactKey", inPlace := ["math.archFloor", "math.Float64bits", "math.Float64frombits", "math.archTrunc"], plainKeys := false, apart := false }
def FnExactKeySaid : Prop := fnExactKeyRow.holds Try.pinned (OpenSpec.ofChange fnExactKeySpec)

/-- ITS FALSE NEIGHBOUR: 'it returns false'. Refute it at one input. -/
def fnExactKeyWrong : ChangeSpec := { name := "fnExactKey", fn := fun _ => fun
  | [d] => { results := [.lit (.bool false)], args := [d] }
  | _ => none }
def FnExactKeyWrongFalsely : Prop := fnExactKeyRow.holds Try.pinned (OpenSpec.ofChange fnExactKeyWrong)

/-- 'laws.FnExactTableOk': WHATEVER THE INPUT: true; the input reads as it did. -/
def fnExactTableOkSpec : ChangeSpec := { name := "fnExactTableOk", fn := fun _ => fun
  | [d] => { results := [.lit (.bool true)], args := [d] }
  | _ => none }
def fnExactTableOkRow : OpenClaim := { program := "ytchlolfdinakiaa", sum := "90b4125d3972a7f276070ffc1a6ebc975b0d5852f80c3cf49b32e7272ab59b4b", func := "loop.example/meaning/laws.FnExactTableOk", spec := "fnExactTableOk", inPlace := ["math.archFloor", "math.Float64bits", "math.Float64frombits", "math.archTrunc"], plainKeys := false, apart := false }
def FnExactTableOkSaid : Prop := fnExactTableOkRow.holds Try.pinned (OpenSpec.ofChange fnExactTableOkSpec)

/-- ITS FALSE NEIGHBOUR: 'it returns false'. Refute it at one input. -/
def fnExactTableOkWrong : ChangeSpec := { name := "fnExactTableOk", fn := fun _ => fun
  | [d] => { results := [.lit (.bool false)], args := [d] }
  | _ => none }
def FnExactTableOkWrongFalsely : Prop := fnExactTableOkRow.holds Try.pinned (OpenSpec.ofChange fnExactTableOkWrong)

/-- 'laws.FnExactAfter': WHATEVER THE INPUT: true; the input reads as it did. -/
def fnExactAfterSpec : ChangeSpec := { name := "fnExactAfter", fn := fun _ => fun
  | [d1, d2] => { results := [.lit (.bool true)], args := [d1, d2] }
  | _ => none }
def fnExactAfterRow : OpenClaim := { program := "ytchlolfdinakiaa", sum := "90b4125d3972a7f276070ffc1a6ebc975b0d5852f80c3cf49b32e7272ab59b4b", func := "loop.example/meaning/laws.FnExactAfter", spec := "fnExactAfter", inPlace := ["math.archFloor", "math.Float64bits", "math.Float64frombits", "math.archTrunc"], plainKeys := false, apart := false }
def FnExactAfterSaid : Prop := fnExactAfterRow.holds Try.pinned (OpenSpec.ofChange fnExactAfterSpec)

/-- ITS FALSE NEIGHBOUR: 'it returns false'. Refute it at one input. -/
def fnExactAfterWrong : ChangeSpec := { name := "fnExactAfter", fn := fun _ => fun
  | [d1, d2] => { results := [.lit (.bool false)], args := [d1, d2] }
  | _ => none }
def FnExactAfterWrongFalsely : Prop := fnExactAfterRow.holds Try.pinned (OpenSpec.ofChange fnExactAfterWrong)

/-- 'laws.FnExactProfile': WHATEVER THE INPUT: true; the input reads as it did. -/
def fnExactProfileSpec : ChangeSpec := { name := "fnExactProfile", fn := fun _ => fun
  | [d] => { results := [.lit (.bool true)], args := [d] }
  | _ => none }
def fnExactProfileRow : OpenClaim := { program := "ytchlolfdinakiaa", sum := "90b4125d3972a7f276070ffc1a6ebc975b0d5852f80c3cf49b32e7272ab59b4b", func := "loop.example/meaning/laws.FnExactProfile", spec := "fnExactProfile", inPlace := ["internal/reflectlite.ValueOf", "internal/reflectlite.Swapper", "(internal/reflectlite.Value).Len"], unfollowed := true, recurses := true, plainKeys := false, apart := false }
def FnExactProfileSaid : Prop := fnExactProfileRow.holds Try.pinned (OpenSpec.ofChange fnExactProfileSpec)

/-- ITS FALSE NEIGHBOUR: 'it returns false'. Refute it at one input. -/
def fnExactProfileWrong : ChangeSpec := { name := "fnExactProfile", fn := fun _ => fun
  | [d] => { results := [.lit (.bool false)], args := [d] }
  | _ => none }
def FnExactProfileWrongFalsely : Prop := fnExactProfileRow.holds Try.pinned (OpenSpec.ofChange fnExactProfileWrong)

/- THE SECOND FORM. 'bulk': how many values and letters a reading holds, each counted each time it is reached (what is shared counts as often as it is met; a slice's spare places count too). A statement '..UptoSaid' is the law's where the arguments, and the package variables that the reading takes, are together of bulk at most 1048576: NARROWER than '..Said'. Prove '..Said' where nothing that the law and all that it calls make is longer than what came in: it says more and counts as full. Else prove '..UptoSaid'. A law counts once. -/
mutual
def uptoBulk {H : Type} : DataW H → Nat
  | .lit (.string bytes) => bytes.length + 1
  | .lit _ => 1
  | .nil => 1
  | .ptr d => uptoBulk d + 1
  | .slice elems spare => uptoBulkAll elems + uptoBulkAll spare + 1
  | .agg parts => uptoBulkAll parts + 1
  | .iface _ d => uptoBulk d + 1
  | .map entries => uptoBulkEntries entries + 1
  | .held _ => 1
def uptoBulkAll {H : Type} : List (DataW H) → Nat
  | [] => 0
  | d :: r => uptoBulk d + uptoBulkAll r
def uptoBulkEntries {H : Type} : List (Lit × DataW H) → Nat
  | [] => 0
  | x :: r => uptoBulkEntry x + uptoBulkEntries r
def uptoBulkEntry {H : Type} : Lit × DataW H → Nat
  | (.string bytes, d) => bytes.length + uptoBulk d + 1
  | (_, d) => uptoBulk d + 1
 end
def uptoSmall : (H : Type) → List (DataW H) → Bool := fun _ ds => decide (uptoBulkAll ds ≤ 1048576)
def OpenSpec.upto (s : _root_.Go.ChangeSpec) : _root_.Go.OpenSpec := { _root_.Go.OpenSpec.ofChange s with cond := some uptoSmall }

/-- 'laws.FnExactConstants', WHERE WHAT IT READS IS OF BULK AT MOST 1048576: true; the input reads as it did. -/
def fnExactConstantsUptoRow : OpenClaim := { program := "ytchlolfdinakiaa", sum := "90b4125d3972a7f276070ffc1a6ebc975b0d5852f80c3cf49b32e7272ab59b4b", func := "loop.example/meaning/laws.FnExactConstants", spec := "fnExactConstants", plainKeys := false, apart := false, narrowed := true }
def FnExactConstantsUptoSaid : Prop := fnExactConstantsUptoRow.holds Try.pinned (OpenSpec.upto fnExactConstantsSpec)

/-- 'laws.FnExactValueOk', WHERE WHAT IT READS IS OF BULK AT MOST 1048576: true; the input reads as it did. -/
def fnExactValueOkUptoRow : OpenClaim := { program := "ytchlolfdinakiaa", sum := "90b4125d3972a7f276070ffc1a6ebc975b0d5852f80c3cf49b32e7272ab59b4b", func := "loop.example/meaning/laws.FnExactValueOk", spec := "fnExactValueOk", plainKeys := false, apart := false, narrowed := true }
def FnExactValueOkUptoSaid : Prop := fnExactValueOkUptoRow.holds Try.pinned (OpenSpec.upto fnExactValueOkSpec)

/-- 'laws.FnExactTruth', WHERE WHAT IT READS IS OF BULK AT MOST 1048576: true; the input reads as it did. -/
def fnExactTruthUptoRow : OpenClaim := { program := "ytchlolfdinakiaa", sum := "90b4125d3972a7f276070ffc1a6ebc975b0d5852f80c3cf49b32e7272ab59b4b", func := "loop.example/meaning/laws.FnExactTruth", spec := "fnExactTruth", plainKeys := false, apart := false, narrowed := true }
def FnExactTruthUptoSaid : Prop := fnExactTruthUptoRow.holds Try.pinned (OpenSpec.upto fnExactTruthSpec)

/-- 'laws.FnExactInputOk', WHERE WHAT IT READS IS OF BULK AT MOST 1048576: true; the input reads as it did. -/
def fnExactInputOkUptoRow : OpenClaim := { program := "ytchlolfdinakiaa", sum := "90b4125d3972a7f276070ffc1a6ebc975b0d5852f80c3cf49b32e7272ab59b4b", func := "loop.example/meaning/laws.FnExactInputOk", spec := "fnExactInputOk", plainKeys := false, apart := false, narrowed := true }
def FnExactInputOkUptoSaid : Prop := fnExactInputOkUptoRow.holds Try.pinned (OpenSpec.upto fnExactInputOkSpec)

/-- 'laws.FnExactUnary', WHERE WHAT IT READS IS OF BULK AT MOST 1048576: true; the input reads as it did. -/
def fnExactUnaryUptoRow : OpenClaim := { program := "ytchlolfdinakiaa", sum := "90b4125d3972a7f276070ffc1a6ebc975b0d5852f80c3cf49b32e7272ab59b4b", func := "loop.example/meaning/laws.FnExactUnary", spec := "fnExactUnary", plainKeys := false, apart := false, narrowed := true }
def FnExactUnaryUptoSaid : Prop := fnExactUnaryUptoRow.holds Try.pinned (OpenSpec.upto fnExactUnarySpec)

/-- 'laws.FnExactKey', WHERE WHAT IT READS IS OF BULK AT MOST 1048576: true; the input reads as it did. -/
def fnExactKeyUptoRow : OpenClaim := { program := "ytchlolfdinakiaa", sum := "90b4125d3972a7f276070ffc1a6ebc975b0d5852f80c3cf49b32e7272ab59b4b", func := "loop.example/meaning/laws.FnExactKey", spec := "fnExactKey", inPlace := ["math.archFloor", "math.Float64bits", "math.Float64frombits", "math.archTrunc"], plainKeys := false, apart := false, narrowed := true }
def FnExactKeyUptoSaid : Prop := fnExactKeyUptoRow.holds Try.pinned (OpenSpec.upto fnExactKeySpec)

/-- 'laws.FnExactTableOk', WHERE WHAT IT READS IS OF BULK AT MOST 1048576: true; the input reads as it did. -/
def fnExactTableOkUptoRow : OpenClaim := { program := "ytchlolfdinakiaa", sum := "90b4125d3972a7f276070ffc1a6ebc975b0d5852f80c3cf49b32e7272ab59b4b", func := "loop.example/meaning/laws.FnExactTableOk", spec := "fnExactTableOk", inPlace := ["math.archFloor", "math.Float64bits", "math.Float64frombits", "math.archTrunc"], plainKeys := false, apart := false, narrowed := true }
def FnExactTableOkUptoSaid : Prop := fnExactTableOkUptoRow.holds Try.pinned (OpenSpec.upto fnExactTableOkSpec)

/-- 'laws.FnExactAfter', WHERE WHAT IT READS IS OF BULK AT MOST 1048576: true; the input reads as it did. -/
def fnExactAfterUptoRow : OpenClaim := { program := "ytchlolfdinakiaa", sum := "90b4125d3972a7f276070ffc1a6ebc975b0d5852f80c3cf49b32e7272ab59b4b", func := "loop.example/meaning/laws.FnExactAfter", spec := "fnExactAfter", inPlace := ["math.archFloor", "math.Float64bits", "math.Float64frombits", "math.archTrunc"], plainKeys := false, apart := false, narrowed := true }
def FnExactAfterUptoSaid : Prop := fnExactAfterUptoRow.holds Try.pinned (OpenSpec.upto fnExactAfterSpec)

/-- 'laws.FnExactProfile', WHERE WHAT IT READS IS OF BULK AT MOST 1048576: true; the input reads as it did. -/
def fnExactProfileUptoRow : OpenClaim := { program := "ytchlolfdinakiaa", sum := "90b4125d3972a7f276070ffc1a6ebc975b0d5852f80c3cf49b32e7272ab59b4b", func := "loop.example/meaning/laws.FnExactProfile", spec := "fnExactProfile", inPlace := ["internal/reflectlite.ValueOf", "internal/reflectlite.Swapper", "(internal/reflectlite.Value).Len"], unfollowed := true, recurses := true, plainKeys := false, apart := false, narrowed := true }
def FnExactProfileUptoSaid : Prop := fnExactProfileUptoRow.holds Try.pinned (OpenSpec.upto fnExactProfileSpec)

end Rows
end Go.Proofs.Ytchlolfdinakiaa
