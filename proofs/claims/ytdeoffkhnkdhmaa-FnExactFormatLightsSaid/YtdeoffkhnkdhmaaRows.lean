/-
  No cell of these rows narrows 'for every input' (looked for: loops, veiled, ifaces, maps, wideKeys, modest, calm, conditions, laid).
  DERIVED. THE GIVEN ROWS OF THIS SEAT. 12 by the template 'for every input the law returns true; each argument reads behind the call as it read before'; 0 by the template 'total and deterministic' (their statements: YtdeoffkhnkdhmaaTotals.lean).
  GIVEN WITH THE SEED: the statements are not yours to turn. If you find one false, say at which input.
  Laid BY PROGRAM, IN A SANDBOX (cutbox-rows.mjs): the forced cells as the released guide's own fill.sh prints them over the translation d7a17b14dd75b323… (all of the seat's roots in one cut). By AI agents, Wed Nov 11 2026. No macro, syntax, notation, axiom, sorry.
-/
import Derived.Test.YtdeoffkhnkdhmaaChecked
import GoSem.Claim
import GoSem.ClaimJoined
import GoSem.ClaimMapViews
import Derived.JoinedTies
import Derived.KernelRfl
namespace Go.Proofs.Ytdeoffkhnkdhmaa
/- THE CELL 'sum', in the pinned program and in every row, IS THE sha256 OF THE DUMP (.gsa) THAT YtdeoffkhnkdhmaaProg.lean LOADS. Nothing in Lean hashes anything: it is a label: what it is worth is what the hold of that sum in a sandbox is worth. -/
noncomputable def Try.pinned : Pinned := { name := "ytdeoffkhnkdhmaa", sum := "d7a17b14dd75b323b312b6ebbca7dced2b67a44eee07ae9cd89f810f90a3ae33", checked := Try.checked }
namespace Rows
def none {H : Type} : Left H := { results := [], args := [] }

/-- 'laws.FnExactEventName': WHATEVER THE INPUT: true; the input reads as it did. -/
def fnExactEventNameSpec : ChangeSpec := { name := "fnExactEventName", fn := fun _ => fun
  | [d] => { results := [.lit (.bool true)], args := [d] }
  | _ => none }
def fnExactEventNameRow : OpenClaim := { program := "ytdeoffkhnkdhmaa", sum := "d7a17b14dd75b323b312b6ebbca7dced2b67a44eee07ae9cd89f810f90a3ae33", func := "loop.example/g03006/laws.FnExactEventName", spec := "fnExactEventName", apart := false }
def FnExactEventNameSaid : Prop := fnExactEventNameRow.holds Try.pinned (OpenSpec.ofChange fnExactEventNameSpec)

/-- ITS FALSE NEIGHBOUR: 'it returns false'. Refute it at one input. -/
def fnExactEventNameWrong : ChangeSpec := { name := "fnExactEventName", fn := fun _ => fun
  | [d] => { results := [.lit (.bool false)], args := [d] }
  | _ => none }
def FnExactEventNameWrongFalsely : Prop := fnExactEventNameRow.holds Try.pinned (OpenSpec.ofChange fnExactEventNameWrong)

/-- 'laws.FnExactVerdict': WHATEVER THE INPUT: true; the input reads as it did. -/
def fnExactVerdictSpec : ChangeSpec := { name := "fnExactVerdict", fn := fun _ => fun
  | [d1, d2] => { results := [.lit (.bool true)], args := [d1, d2] }
  | _ => none }
def fnExactVerdictRow : OpenClaim := { program := "ytdeoffkhnkdhmaa", sum := "d7a17b14dd75b323b312b6ebbca7dced2b67a44eee07ae9cd89f810f90a3ae33", func := "loop.example/g03006/laws.FnExactVerdict", spec := "fnExactVerdict", apart := false }
def FnExactVerdictSaid : Prop := fnExactVerdictRow.holds Try.pinned (OpenSpec.ofChange fnExactVerdictSpec)

/-- ITS FALSE NEIGHBOUR: 'it returns false'. Refute it at one input. -/
def fnExactVerdictWrong : ChangeSpec := { name := "fnExactVerdict", fn := fun _ => fun
  | [d1, d2] => { results := [.lit (.bool false)], args := [d1, d2] }
  | _ => none }
def FnExactVerdictWrongFalsely : Prop := fnExactVerdictRow.holds Try.pinned (OpenSpec.ofChange fnExactVerdictWrong)

/-- 'laws.FnExactLongestWait': WHATEVER THE INPUT: true; the input reads as it did. -/
def fnExactLongestWaitSpec : ChangeSpec := { name := "fnExactLongestWait", fn := fun _ => fun
  | [d] => { results := [.lit (.bool true)], args := [d] }
  | _ => none }
def fnExactLongestWaitRow : OpenClaim := { program := "ytdeoffkhnkdhmaa", sum := "d7a17b14dd75b323b312b6ebbca7dced2b67a44eee07ae9cd89f810f90a3ae33", func := "loop.example/g03006/laws.FnExactLongestWait", spec := "fnExactLongestWait", apart := false }
def FnExactLongestWaitSaid : Prop := fnExactLongestWaitRow.holds Try.pinned (OpenSpec.ofChange fnExactLongestWaitSpec)

/-- ITS FALSE NEIGHBOUR: 'it returns false'. Refute it at one input. -/
def fnExactLongestWaitWrong : ChangeSpec := { name := "fnExactLongestWait", fn := fun _ => fun
  | [d] => { results := [.lit (.bool false)], args := [d] }
  | _ => none }
def FnExactLongestWaitWrongFalsely : Prop := fnExactLongestWaitRow.holds Try.pinned (OpenSpec.ofChange fnExactLongestWaitWrong)

/-- 'laws.FnExactCountBroken': WHATEVER THE INPUT: true; the input reads as it did. -/
def fnExactCountBrokenSpec : ChangeSpec := { name := "fnExactCountBroken", fn := fun _ => fun
  | [d] => { results := [.lit (.bool true)], args := [d] }
  | _ => none }
def fnExactCountBrokenRow : OpenClaim := { program := "ytdeoffkhnkdhmaa", sum := "d7a17b14dd75b323b312b6ebbca7dced2b67a44eee07ae9cd89f810f90a3ae33", func := "loop.example/g03006/laws.FnExactCountBroken", spec := "fnExactCountBroken", apart := false }
def FnExactCountBrokenSaid : Prop := fnExactCountBrokenRow.holds Try.pinned (OpenSpec.ofChange fnExactCountBrokenSpec)

/-- ITS FALSE NEIGHBOUR: 'it returns false'. Refute it at one input. -/
def fnExactCountBrokenWrong : ChangeSpec := { name := "fnExactCountBroken", fn := fun _ => fun
  | [d] => { results := [.lit (.bool false)], args := [d] }
  | _ => none }
def FnExactCountBrokenWrongFalsely : Prop := fnExactCountBrokenRow.holds Try.pinned (OpenSpec.ofChange fnExactCountBrokenWrong)

/-- 'laws.FnExactCountEvents': WHATEVER THE INPUT: true; the input reads as it did. -/
def fnExactCountEventsSpec : ChangeSpec := { name := "fnExactCountEvents", fn := fun _ => fun
  | [d1, d2] => { results := [.lit (.bool true)], args := [d1, d2] }
  | _ => none }
def fnExactCountEventsRow : OpenClaim := { program := "ytdeoffkhnkdhmaa", sum := "d7a17b14dd75b323b312b6ebbca7dced2b67a44eee07ae9cd89f810f90a3ae33", func := "loop.example/g03006/laws.FnExactCountEvents", spec := "fnExactCountEvents", apart := false }
def FnExactCountEventsSaid : Prop := fnExactCountEventsRow.holds Try.pinned (OpenSpec.ofChange fnExactCountEventsSpec)

/-- ITS FALSE NEIGHBOUR: 'it returns false'. Refute it at one input. -/
def fnExactCountEventsWrong : ChangeSpec := { name := "fnExactCountEvents", fn := fun _ => fun
  | [d1, d2] => { results := [.lit (.bool false)], args := [d1, d2] }
  | _ => none }
def FnExactCountEventsWrongFalsely : Prop := fnExactCountEventsRow.holds Try.pinned (OpenSpec.ofChange fnExactCountEventsWrong)

/-- 'laws.FnExactCountKind': WHATEVER THE INPUT: true; the input reads as it did. -/
def fnExactCountKindSpec : ChangeSpec := { name := "fnExactCountKind", fn := fun _ => fun
  | [d1, d2] => { results := [.lit (.bool true)], args := [d1, d2] }
  | _ => none }
def fnExactCountKindRow : OpenClaim := { program := "ytdeoffkhnkdhmaa", sum := "d7a17b14dd75b323b312b6ebbca7dced2b67a44eee07ae9cd89f810f90a3ae33", func := "loop.example/g03006/laws.FnExactCountKind", spec := "fnExactCountKind", apart := false }
def FnExactCountKindSaid : Prop := fnExactCountKindRow.holds Try.pinned (OpenSpec.ofChange fnExactCountKindSpec)

/-- ITS FALSE NEIGHBOUR: 'it returns false'. Refute it at one input. -/
def fnExactCountKindWrong : ChangeSpec := { name := "fnExactCountKind", fn := fun _ => fun
  | [d1, d2] => { results := [.lit (.bool false)], args := [d1, d2] }
  | _ => none }
def FnExactCountKindWrongFalsely : Prop := fnExactCountKindRow.holds Try.pinned (OpenSpec.ofChange fnExactCountKindWrong)

/-- 'laws.FnExactCountLights': WHATEVER THE INPUT: true; the input reads as it did. -/
def fnExactCountLightsSpec : ChangeSpec := { name := "fnExactCountLights", fn := fun _ => fun
  | [d1, d2] => { results := [.lit (.bool true)], args := [d1, d2] }
  | _ => none }
def fnExactCountLightsRow : OpenClaim := { program := "ytdeoffkhnkdhmaa", sum := "d7a17b14dd75b323b312b6ebbca7dced2b67a44eee07ae9cd89f810f90a3ae33", func := "loop.example/g03006/laws.FnExactCountLights", spec := "fnExactCountLights", apart := false }
def FnExactCountLightsSaid : Prop := fnExactCountLightsRow.holds Try.pinned (OpenSpec.ofChange fnExactCountLightsSpec)

/-- ITS FALSE NEIGHBOUR: 'it returns false'. Refute it at one input. -/
def fnExactCountLightsWrong : ChangeSpec := { name := "fnExactCountLights", fn := fun _ => fun
  | [d1, d2] => { results := [.lit (.bool false)], args := [d1, d2] }
  | _ => none }
def FnExactCountLightsWrongFalsely : Prop := fnExactCountLightsRow.holds Try.pinned (OpenSpec.ofChange fnExactCountLightsWrong)

/-- 'laws.FnExactBusiestArm': WHATEVER THE INPUT: true; the input reads as it did. -/
def fnExactBusiestArmSpec : ChangeSpec := { name := "fnExactBusiestArm", fn := fun _ => fun
  | [d] => { results := [.lit (.bool true)], args := [d] }
  | _ => none }
def fnExactBusiestArmRow : OpenClaim := { program := "ytdeoffkhnkdhmaa", sum := "d7a17b14dd75b323b312b6ebbca7dced2b67a44eee07ae9cd89f810f90a3ae33", func := "loop.example/g03006/laws.FnExactBusiestArm", spec := "fnExactBusiestArm", apart := false }
def FnExactBusiestArmSaid : Prop := fnExactBusiestArmRow.holds Try.pinned (OpenSpec.ofChange fnExactBusiestArmSpec)

/-- ITS FALSE NEIGHBOUR: 'it returns false'. Refute it at one input. -/
def fnExactBusiestArmWrong : ChangeSpec := { name := "fnExactBusiestArm", fn := fun _ => fun
  | [d] => { results := [.lit (.bool false)], args := [d] }
  | _ => none }
def FnExactBusiestArmWrongFalsely : Prop := fnExactBusiestArmRow.holds Try.pinned (OpenSpec.ofChange fnExactBusiestArmWrong)

/-- 'laws.FnExactWaitBound': WHATEVER THE INPUT: true; the input reads as it did. -/
def fnExactWaitBoundSpec : ChangeSpec := { name := "fnExactWaitBound", fn := fun _ => fun
  | [d] => { results := [.lit (.bool true)], args := [d] }
  | _ => none }
def fnExactWaitBoundRow : OpenClaim := { program := "ytdeoffkhnkdhmaa", sum := "d7a17b14dd75b323b312b6ebbca7dced2b67a44eee07ae9cd89f810f90a3ae33", func := "loop.example/g03006/laws.FnExactWaitBound", spec := "fnExactWaitBound", apart := false }
def FnExactWaitBoundSaid : Prop := fnExactWaitBoundRow.holds Try.pinned (OpenSpec.ofChange fnExactWaitBoundSpec)

/-- ITS FALSE NEIGHBOUR: 'it returns false'. Refute it at one input. -/
def fnExactWaitBoundWrong : ChangeSpec := { name := "fnExactWaitBound", fn := fun _ => fun
  | [d] => { results := [.lit (.bool false)], args := [d] }
  | _ => none }
def FnExactWaitBoundWrongFalsely : Prop := fnExactWaitBoundRow.holds Try.pinned (OpenSpec.ofChange fnExactWaitBoundWrong)

/-- 'laws.FnExactFormatLights': WHATEVER THE INPUT: true; the input reads as it did. -/
def fnExactFormatLightsSpec : ChangeSpec := { name := "fnExactFormatLights", fn := fun _ => fun
  | [d] => { results := [.lit (.bool true)], args := [d] }
  | _ => none }
def fnExactFormatLightsRow : OpenClaim := { program := "ytdeoffkhnkdhmaa", sum := "d7a17b14dd75b323b312b6ebbca7dced2b67a44eee07ae9cd89f810f90a3ae33", func := "loop.example/g03006/laws.FnExactFormatLights", spec := "fnExactFormatLights", inPlace := ["internal/abi.NoEscape", "internal/bytealg.MakeNoZero"], apart := false }
def FnExactFormatLightsSaid : Prop := fnExactFormatLightsRow.holds Try.pinned (OpenSpec.ofChange fnExactFormatLightsSpec)

/-- ITS FALSE NEIGHBOUR: 'it returns false'. Refute it at one input. -/
def fnExactFormatLightsWrong : ChangeSpec := { name := "fnExactFormatLights", fn := fun _ => fun
  | [d] => { results := [.lit (.bool false)], args := [d] }
  | _ => none }
def FnExactFormatLightsWrongFalsely : Prop := fnExactFormatLightsRow.holds Try.pinned (OpenSpec.ofChange fnExactFormatLightsWrong)

/-- 'laws.FnExactCallAll': WHATEVER THE INPUT: true; the input reads as it did. -/
def fnExactCallAllSpec : ChangeSpec := { name := "fnExactCallAll", fn := fun _ => fun
  | [d] => { results := [.lit (.bool true)], args := [d] }
  | _ => none }
def fnExactCallAllRow : OpenClaim := { program := "ytdeoffkhnkdhmaa", sum := "d7a17b14dd75b323b312b6ebbca7dced2b67a44eee07ae9cd89f810f90a3ae33", func := "loop.example/g03006/laws.FnExactCallAll", spec := "fnExactCallAll", apart := false }
def FnExactCallAllSaid : Prop := fnExactCallAllRow.holds Try.pinned (OpenSpec.ofChange fnExactCallAllSpec)

/-- ITS FALSE NEIGHBOUR: 'it returns false'. Refute it at one input. -/
def fnExactCallAllWrong : ChangeSpec := { name := "fnExactCallAll", fn := fun _ => fun
  | [d] => { results := [.lit (.bool false)], args := [d] }
  | _ => none }
def FnExactCallAllWrongFalsely : Prop := fnExactCallAllRow.holds Try.pinned (OpenSpec.ofChange fnExactCallAllWrong)

/-- 'laws.FnExactOpenShare': WHATEVER THE INPUT: true; the input reads as it did. -/
def fnExactOpenShareSpec : ChangeSpec := { name := "fnExactOpenShare", fn := fun _ => fun
  | [d1, d2, d3] => { results := [.lit (.bool true)], args := [d1, d2, d3] }
  | _ => none }
def fnExactOpenShareRow : OpenClaim := { program := "ytdeoffkhnkdhmaa", sum := "d7a17b14dd75b323b312b6ebbca7dced2b67a44eee07ae9cd89f810f90a3ae33", func := "loop.example/g03006/laws.FnExactOpenShare", spec := "fnExactOpenShare", apart := false }
def FnExactOpenShareSaid : Prop := fnExactOpenShareRow.holds Try.pinned (OpenSpec.ofChange fnExactOpenShareSpec)

/-- ITS FALSE NEIGHBOUR: 'it returns false'. Refute it at one input. -/
def fnExactOpenShareWrong : ChangeSpec := { name := "fnExactOpenShare", fn := fun _ => fun
  | [d1, d2, d3] => { results := [.lit (.bool false)], args := [d1, d2, d3] }
  | _ => none }
def FnExactOpenShareWrongFalsely : Prop := fnExactOpenShareRow.holds Try.pinned (OpenSpec.ofChange fnExactOpenShareWrong)

/- THE SECOND FORM. 'bulk': how many values and letters a reading holds, each counted each time it is reached (what is shared counts as often as it is met; a slice's spare places count too). A statement '..UptoSaid' is the law's where the arguments, and the package variables that the reading takes, are together of bulk at most 1048576: NARROWER than '..Said'. Prove '..Said' where nothing that the law and all that it calls make is longer than what came in: it says more and counts as full. Else prove '..UptoSaid'. A law counts once. -/
mutual
def uptoBulk {H : Type} : DataW H → Nat
  | .lit (.string bytes) => bytes.length + 1
  | .lit _ => 1
  | .nil => 1
  | .ptr d => uptoBulk d + 1
  | .slice elems spare => uptoBulkAll elems + uptoBulkAll spare + 1
  | .agg parts => uptoBulkAll parts + 1
  | .iface _ d => uptoBulk d + 1
  | .map entries => uptoBulkEntries entries + 1
  | .held _ => 1
def uptoBulkAll {H : Type} : List (DataW H) → Nat
  | [] => 0
  | d :: r => uptoBulk d + uptoBulkAll r
def uptoBulkEntries {H : Type} : List (Lit × DataW H) → Nat
  | [] => 0
  | x :: r => uptoBulkEntry x + uptoBulkEntries r
def uptoBulkEntry {H : Type} : Lit × DataW H → Nat
  | (.string bytes, d) => bytes.length + uptoBulk d + 1
  | (_, d) => uptoBulk d + 1
 end
def uptoSmall : (H : Type) → List (DataW H) → Bool := fun _ ds => decide (uptoBulkAll ds ≤ 1048576)
def OpenSpec.upto (s : _root_.Go.ChangeSpec) : _root_.Go.OpenSpec := { _root_.Go.OpenSpec.ofChange s with cond := some uptoSmall }

/-- 'laws.FnExactEventName', WHERE WHAT IT READS IS OF BULK AT MOST 1048576: true; the input reads as it did. -/
def fnExactEventNameUptoRow : OpenClaim := { program := "ytdeoffkhnkdhmaa", sum := "d7a17b14dd75b323b312b6ebbca7dced2b67a44eee07ae9cd89f810f90a3ae33", func := "loop.example/g03006/laws.FnExactEventName", spec := "fnExactEventName", apart := false, narrowed := true }
def FnExactEventNameUptoSaid : Prop := fnExactEventNameUptoRow.holds Try.pinned (OpenSpec.upto fnExactEventNameSpec)

/-- 'laws.FnExactVerdict', WHERE WHAT IT READS IS OF BULK AT MOST 1048576: true; the input reads as it did. -/
def fnExactVerdictUptoRow : OpenClaim := { program := "ytdeoffkhnkdhmaa", sum := "d7a17b14dd75b323b312b6ebbca7dced2b67a44eee07ae9cd89f810f90a3ae33", func := "loop.example/g03006/laws.FnExactVerdict", spec := "fnExactVerdict", apart := false, narrowed := true }
def FnExactVerdictUptoSaid : Prop := fnExactVerdictUptoRow.holds Try.pinned (OpenSpec.upto fnExactVerdictSpec)

/-- 'laws.FnExactLongestWait', WHERE WHAT IT READS IS OF BULK AT MOST 1048576: true; the input reads as it did. -/
def fnExactLongestWaitUptoRow : OpenClaim := { program := "ytdeoffkhnkdhmaa", sum := "d7a17b14dd75b323b312b6ebbca7dced2b67a44eee07ae9cd89f810f90a3ae33", func := "loop.example/g03006/laws.FnExactLongestWait", spec := "fnExactLongestWait", apart := false, narrowed := true }
def FnExactLongestWaitUptoSaid : Prop := fnExactLongestWaitUptoRow.holds Try.pinned (OpenSpec.upto fnExactLongestWaitSpec)

/-- 'laws.FnExactCountBroken', WHERE WHAT IT READS IS OF BULK AT MOST 1048576: true; the input reads as it did. -/
def fnExactCountBrokenUptoRow : OpenClaim := { program := "ytdeoffkhnkdhmaa", sum := "d7a17b14dd75b323b312b6ebbca7dced2b67a44eee07ae9cd89f810f90a3ae33", func := "loop.example/g03006/laws.FnExactCountBroken", spec := "fnExactCountBroken", apart := false, narrowed := true }
def FnExactCountBrokenUptoSaid : Prop := fnExactCountBrokenUptoRow.holds Try.pinned (OpenSpec.upto fnExactCountBrokenSpec)

/-- 'laws.FnExactCountEvents', WHERE WHAT IT READS IS OF BULK AT MOST 1048576: true; the input reads as it did. -/
def fnExactCountEventsUptoRow : OpenClaim := { program := "ytdeoffkhnkdhmaa", sum := "d7a17b14dd75b323b312b6ebbca7dced2b67a44eee07ae9cd89f810f90a3ae33", func := "loop.example/g03006/laws.FnExactCountEvents", spec := "fnExactCountEvents", apart := false, narrowed := true }
def FnExactCountEventsUptoSaid : Prop := fnExactCountEventsUptoRow.holds Try.pinned (OpenSpec.upto fnExactCountEventsSpec)

/-- 'laws.FnExactCountKind', WHERE WHAT IT READS IS OF BULK AT MOST 1048576: true; the input reads as it did. -/
def fnExactCountKindUptoRow : OpenClaim := { program := "ytdeoffkhnkdhmaa", sum := "d7a17b14dd75b323b312b6ebbca7dced2b67a44eee07ae9cd89f810f90a3ae33", func := "loop.example/g03006/laws.FnExactCountKind", spec := "fnExactCountKind", apart := false, narrowed := true }
def FnExactCountKindUptoSaid : Prop := fnExactCountKindUptoRow.holds Try.pinned (OpenSpec.upto fnExactCountKindSpec)

/-- 'laws.FnExactCountLights', WHERE WHAT IT READS IS OF BULK AT MOST 1048576: true; the input reads as it did. -/
def fnExactCountLightsUptoRow : OpenClaim := { program := "ytdeoffkhnkdhmaa", sum := "d7a17b14dd75b323b312b6ebbca7dced2b67a44eee07ae9cd89f810f90a3ae33", func := "loop.example/g03006/laws.FnExactCountLights", spec := "fnExactCountLights", apart := false, narrowed := true }
def FnExactCountLightsUptoSaid : Prop := fnExactCountLightsUptoRow.holds Try.pinned (OpenSpec.upto fnExactCountLightsSpec)

/-- 'laws.FnExactBusiestArm', WHERE WHAT IT READS IS OF BULK AT MOST 1048576: true; the input reads as it did. -/
def fnExactBusiestArmUptoRow : OpenClaim := { program := "ytdeoffkhnkdhmaa", sum := "d7a17b14dd75b323b312b6ebbca7dced2b67a44eee07ae9cd89f810f90a3ae33", func := "loop.example/g03006/laws.FnExactBusiestArm", spec := "fnExactBusiestArm", apart := false, narrowed := true }
def FnExactBusiestArmUptoSaid : Prop := fnExactBusiestArmUptoRow.holds Try.pinned (OpenSpec.upto fnExactBusiestArmSpec)

/-- 'laws.FnExactWaitBound', WHERE WHAT IT READS IS OF BULK AT MOST 1048576: true; the input reads as it did. -/
def fnExactWaitBoundUptoRow : OpenClaim := { program := "ytdeoffkhnkdhmaa", sum := "d7a17b14dd75b323b312b6ebbca7dced2b67a44eee07ae9cd89f810f90a3ae33", func := "loop.example/g03006/laws.FnExactWaitBound", spec := "fnExactWaitBound", apart := false, narrowed := true }
def FnExactWaitBoundUptoSaid : Prop := fnExactWaitBoundUptoRow.holds Try.pinned (OpenSpec.upto fnExactWaitBoundSpec)

/-- 'laws.FnExactFormatLights', WHERE WHAT IT READS IS OF BULK AT MOST 1048576: true; the input reads as it did. -/
def fnExactFormatLightsUptoRow : OpenClaim := { program := "ytdeoffkhnkdhmaa", sum := "d7a17b14dd75b323b312b6ebbca7dced2b67a44eee07ae9cd89f810f90a3ae33", func := "loop.example/g03006/laws.FnExactFormatLights", spec := "fnExactFormatLights", inPlace := ["internal/abi.NoEscape", "internal/bytealg.MakeNoZero"], apart := false, narrowed := true }
def FnExactFormatLightsUptoSaid : Prop := fnExactFormatLightsUptoRow.holds Try.pinned (OpenSpec.upto fnExactFormatLightsSpec)

/-- 'laws.FnExactCallAll', WHERE WHAT IT READS IS OF BULK AT MOST 1048576: true; the input reads as it did. -/
def fnExactCallAllUptoRow : OpenClaim := { program := "ytdeoffkhnkdhmaa", sum := "d7a17b14dd75b323b312b6ebbca7dced2b67a44eee07ae9cd89f810f90a3ae33", func := "loop.example/g03006/laws.FnExactCallAll", spec := "fnExactCallAll", apart := false, narrowed := true }
def FnExactCallAllUptoSaid : Prop := fnExactCallAllUptoRow.holds Try.pinned (OpenSpec.upto fnExactCallAllSpec)

/-- 'laws.FnExactOpenShare', WHERE WHAT IT READS IS OF BULK AT MOST 1048576: true; the input reads as it did. -/
def fnExactOpenShareUptoRow : OpenClaim := { program := "ytdeoffkhnkdhmaa", sum := "d7a17b14dd75b323b312b6ebbca7dced2b67a44eee07ae9cd89f810f90a3ae33", func := "loop.example/g03006/laws.FnExactOpenShare", spec := "fnExactOpenShare", apart := false, narrowed := true }
def FnExactOpenShareUptoSaid : Prop := fnExactOpenShareUptoRow.holds Try.pinned (OpenSpec.upto fnExactOpenShareSpec)

end Rows
end Go.Proofs.Ytdeoffkhnkdhmaa
