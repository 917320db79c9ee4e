/-
  No cell of these rows narrows 'for every input' (looked for: loops, veiled, ifaces, maps, wideKeys, modest, calm, conditions, laid).
  DERIVED. THE GIVEN ROWS OF THIS SEAT. 11 by the template 'for every input the law returns true; each argument reads behind the call as it read before'; 0 by the template 'total and deterministic' (their statements: YtjgfhonfmjfabaaGreatTotals.lean).
  GIVEN WITH THE SEED: the statements are not yours to turn. If you find one false, say at which input.
  Laid BY PROGRAM, IN A SANDBOX (cutbox-rows.mjs): the forced cells as the released guide's own fill.sh prints them over the translation 788a204cc50c120b… (all of the seat's roots in one cut). By AI agents, Wed Nov 11 2026. No macro, syntax, notation, axiom, sorry.
-/
import Derived.Test.YtjgfhonfmjfabaaGreatChecked
import GoSem.Claim
import GoSem.ClaimJoined
import GoSem.ClaimMapViews
import Derived.JoinedTies
import Derived.KernelRfl
namespace Go.Proofs.YtjgfhonfmjfabaaGreat
/- THE CELL 'sum', in the pinned program and in every row, IS THE sha256 OF THE DUMP (.gsa) THAT YtjgfhonfmjfabaaGreatProg.lean LOADS. Nothing in Lean hashes anything: it is a label: what it is worth is what the hold of that sum in a sandbox is worth. -/
noncomputable def Tryz.pinned : Pinned := { name := "ytjgfhonfmjfabaagreat", sum := "788a204cc50c120b1600d73da68eafa3fb6b23f6ff52b1655a329b00b6823bfa", checked := Tryz.checked }
namespace Rows
def none {H : Type} : Left H := { results := [], args := [] }

/-- 'laws.FnExactStepBus': WHATEVER THE INPUT: true; the input reads as it did. -/
def fnExactStepBusSpec : ChangeSpec := { name := "fnExactStepBus", fn := fun _ => fun
  | [d1, d2] => { results := [.lit (.bool true)], args := [d1, d2] }
  | _ => none }
def fnExactStepBusRow : OpenClaim := { program := "ytjgfhonfmjfabaagreat", sum := "788a204cc50c120b1600d73da68eafa3fb6b23f6ff52b1655a329b00b6823bfa", func := "loop.example/g03006/laws.FnExactStepBus", spec := "fnExactStepBus", unfollowed := true, recurses := true, apart := false }
def FnExactStepBusSaid : Prop := fnExactStepBusRow.holds Tryz.pinned (OpenSpec.ofChange fnExactStepBusSpec)

/-- ITS FALSE NEIGHBOUR: 'it returns false'. Refute it at one input. -/
def fnExactStepBusWrong : ChangeSpec := { name := "fnExactStepBus", fn := fun _ => fun
  | [d1, d2] => { results := [.lit (.bool false)], args := [d1, d2] }
  | _ => none }
def FnExactStepBusWrongFalsely : Prop := fnExactStepBusRow.holds Tryz.pinned (OpenSpec.ofChange fnExactStepBusWrong)

/-- 'laws.FnExactReportAll': WHATEVER THE INPUT: true; the input reads as it did. -/
def fnExactReportAllSpec : ChangeSpec := { name := "fnExactReportAll", fn := fun _ => fun
  | [d1, d2] => { results := [.lit (.bool true)], args := [d1, d2] }
  | _ => none }
def fnExactReportAllRow : OpenClaim := { program := "ytjgfhonfmjfabaagreat", sum := "788a204cc50c120b1600d73da68eafa3fb6b23f6ff52b1655a329b00b6823bfa", func := "loop.example/g03006/laws.FnExactReportAll", spec := "fnExactReportAll", unfollowed := true, recurses := true, apart := false }
def FnExactReportAllSaid : Prop := fnExactReportAllRow.holds Tryz.pinned (OpenSpec.ofChange fnExactReportAllSpec)

/-- ITS FALSE NEIGHBOUR: 'it returns false'. Refute it at one input. -/
def fnExactReportAllWrong : ChangeSpec := { name := "fnExactReportAll", fn := fun _ => fun
  | [d1, d2] => { results := [.lit (.bool false)], args := [d1, d2] }
  | _ => none }
def FnExactReportAllWrongFalsely : Prop := fnExactReportAllRow.holds Tryz.pinned (OpenSpec.ofChange fnExactReportAllWrong)

/-- 'laws.FnExactNewTown': WHATEVER THE INPUT: true; the input reads as it did. -/
def fnExactNewTownSpec : ChangeSpec := { name := "fnExactNewTown", fn := fun _ => fun
  | [d] => { results := [.lit (.bool true)], args := [d] }
  | _ => none }
def fnExactNewTownRow : OpenClaim := { program := "ytjgfhonfmjfabaagreat", sum := "788a204cc50c120b1600d73da68eafa3fb6b23f6ff52b1655a329b00b6823bfa", func := "loop.example/g03006/laws.FnExactNewTown", spec := "fnExactNewTown", inPlace := ["slices.overlaps[int]"], unfollowed := true, recurses := true, apart := false }
def FnExactNewTownSaid : Prop := fnExactNewTownRow.holds Tryz.pinned (OpenSpec.ofChange fnExactNewTownSpec)

/-- ITS FALSE NEIGHBOUR: 'it returns false'. Refute it at one input. -/
def fnExactNewTownWrong : ChangeSpec := { name := "fnExactNewTown", fn := fun _ => fun
  | [d] => { results := [.lit (.bool false)], args := [d] }
  | _ => none }
def FnExactNewTownWrongFalsely : Prop := fnExactNewTownRow.holds Tryz.pinned (OpenSpec.ofChange fnExactNewTownWrong)

/-- 'laws.FnExactStepCall': WHATEVER THE INPUT: true; the input reads as it did. -/
def fnExactStepCallSpec : ChangeSpec := { name := "fnExactStepCall", fn := fun _ => fun
  | [d1, d2] => { results := [.lit (.bool true)], args := [d1, d2] }
  | _ => none }
def fnExactStepCallRow : OpenClaim := { program := "ytjgfhonfmjfabaagreat", sum := "788a204cc50c120b1600d73da68eafa3fb6b23f6ff52b1655a329b00b6823bfa", func := "loop.example/g03006/laws.FnExactStepCall", spec := "fnExactStepCall", inPlace := ["slices.overlaps[loop.example/g03006/impl.Want]"], unfollowed := true, recurses := true, apart := false }
def FnExactStepCallSaid : Prop := fnExactStepCallRow.holds Tryz.pinned (OpenSpec.ofChange fnExactStepCallSpec)

/-- ITS FALSE NEIGHBOUR: 'it returns false'. Refute it at one input. -/
def fnExactStepCallWrong : ChangeSpec := { name := "fnExactStepCall", fn := fun _ => fun
  | [d1, d2] => { results := [.lit (.bool false)], args := [d1, d2] }
  | _ => none }
def FnExactStepCallWrongFalsely : Prop := fnExactStepCallRow.holds Tryz.pinned (OpenSpec.ofChange fnExactStepCallWrong)

/-- 'laws.FnExactStepPower': WHATEVER THE INPUT: true; the input reads as it did. -/
def fnExactStepPowerSpec : ChangeSpec := { name := "fnExactStepPower", fn := fun _ => fun
  | [d1, d2] => { results := [.lit (.bool true)], args := [d1, d2] }
  | _ => none }
def fnExactStepPowerRow : OpenClaim := { program := "ytjgfhonfmjfabaagreat", sum := "788a204cc50c120b1600d73da68eafa3fb6b23f6ff52b1655a329b00b6823bfa", func := "loop.example/g03006/laws.FnExactStepPower", spec := "fnExactStepPower", unfollowed := true, recurses := true, apart := false }
def FnExactStepPowerSaid : Prop := fnExactStepPowerRow.holds Tryz.pinned (OpenSpec.ofChange fnExactStepPowerSpec)

/-- ITS FALSE NEIGHBOUR: 'it returns false'. Refute it at one input. -/
def fnExactStepPowerWrong : ChangeSpec := { name := "fnExactStepPower", fn := fun _ => fun
  | [d1, d2] => { results := [.lit (.bool false)], args := [d1, d2] }
  | _ => none }
def FnExactStepPowerWrongFalsely : Prop := fnExactStepPowerRow.holds Tryz.pinned (OpenSpec.ofChange fnExactStepPowerWrong)

/-- 'laws.FnExactStepLamp': WHATEVER THE INPUT: true; the input reads as it did. -/
def fnExactStepLampSpec : ChangeSpec := { name := "fnExactStepLamp", fn := fun _ => fun
  | [d1, d2, d3, d4] => { results := [.lit (.bool true)], args := [d1, d2, d3, d4] }
  | _ => none }
def fnExactStepLampRow : OpenClaim := { program := "ytjgfhonfmjfabaagreat", sum := "788a204cc50c120b1600d73da68eafa3fb6b23f6ff52b1655a329b00b6823bfa", func := "loop.example/g03006/laws.FnExactStepLamp", spec := "fnExactStepLamp", unfollowed := true, recurses := true, apart := false }
def FnExactStepLampSaid : Prop := fnExactStepLampRow.holds Tryz.pinned (OpenSpec.ofChange fnExactStepLampSpec)

/-- ITS FALSE NEIGHBOUR: 'it returns false'. Refute it at one input. -/
def fnExactStepLampWrong : ChangeSpec := { name := "fnExactStepLamp", fn := fun _ => fun
  | [d1, d2, d3, d4] => { results := [.lit (.bool false)], args := [d1, d2, d3, d4] }
  | _ => none }
def FnExactStepLampWrongFalsely : Prop := fnExactStepLampRow.holds Tryz.pinned (OpenSpec.ofChange fnExactStepLampWrong)

/-- 'laws.FnExactStepHelp': WHATEVER THE INPUT: true; the input reads as it did. -/
def fnExactStepHelpSpec : ChangeSpec := { name := "fnExactStepHelp", fn := fun _ => fun
  | [d1, d2] => { results := [.lit (.bool true)], args := [d1, d2] }
  | _ => none }
def fnExactStepHelpRow : OpenClaim := { program := "ytjgfhonfmjfabaagreat", sum := "788a204cc50c120b1600d73da68eafa3fb6b23f6ff52b1655a329b00b6823bfa", func := "loop.example/g03006/laws.FnExactStepHelp", spec := "fnExactStepHelp", unfollowed := true, recurses := true, apart := false }
def FnExactStepHelpSaid : Prop := fnExactStepHelpRow.holds Tryz.pinned (OpenSpec.ofChange fnExactStepHelpSpec)

/-- ITS FALSE NEIGHBOUR: 'it returns false'. Refute it at one input. -/
def fnExactStepHelpWrong : ChangeSpec := { name := "fnExactStepHelp", fn := fun _ => fun
  | [d1, d2] => { results := [.lit (.bool false)], args := [d1, d2] }
  | _ => none }
def FnExactStepHelpWrongFalsely : Prop := fnExactStepHelpRow.holds Tryz.pinned (OpenSpec.ofChange fnExactStepHelpWrong)

/-- 'laws.FnExactStepSecond': WHATEVER THE INPUT: true; the input reads as it did. -/
def fnExactStepSecondSpec : ChangeSpec := { name := "fnExactStepSecond", fn := fun _ => fun
  | [d] => { results := [.lit (.bool true)], args := [d] }
  | _ => none }
def fnExactStepSecondRow : OpenClaim := { program := "ytjgfhonfmjfabaagreat", sum := "788a204cc50c120b1600d73da68eafa3fb6b23f6ff52b1655a329b00b6823bfa", func := "loop.example/g03006/laws.FnExactStepSecond", spec := "fnExactStepSecond", inPlace := ["slices.overlaps[int]"], unfollowed := true, recurses := true, apart := false }
def FnExactStepSecondSaid : Prop := fnExactStepSecondRow.holds Tryz.pinned (OpenSpec.ofChange fnExactStepSecondSpec)

/-- ITS FALSE NEIGHBOUR: 'it returns false'. Refute it at one input. -/
def fnExactStepSecondWrong : ChangeSpec := { name := "fnExactStepSecond", fn := fun _ => fun
  | [d] => { results := [.lit (.bool false)], args := [d] }
  | _ => none }
def FnExactStepSecondWrongFalsely : Prop := fnExactStepSecondRow.holds Tryz.pinned (OpenSpec.ofChange fnExactStepSecondWrong)

/-- 'laws.FnExactStepSeconds': WHATEVER THE INPUT: true; the input reads as it did. -/
def fnExactStepSecondsSpec : ChangeSpec := { name := "fnExactStepSeconds", fn := fun _ => fun
  | [d1, d2] => { results := [.lit (.bool true)], args := [d1, d2] }
  | _ => none }
def fnExactStepSecondsRow : OpenClaim := { program := "ytjgfhonfmjfabaagreat", sum := "788a204cc50c120b1600d73da68eafa3fb6b23f6ff52b1655a329b00b6823bfa", func := "loop.example/g03006/laws.FnExactStepSeconds", spec := "fnExactStepSeconds", inPlace := ["slices.overlaps[int]"], unfollowed := true, recurses := true, apart := false }
def FnExactStepSecondsSaid : Prop := fnExactStepSecondsRow.holds Tryz.pinned (OpenSpec.ofChange fnExactStepSecondsSpec)

/-- ITS FALSE NEIGHBOUR: 'it returns false'. Refute it at one input. -/
def fnExactStepSecondsWrong : ChangeSpec := { name := "fnExactStepSeconds", fn := fun _ => fun
  | [d1, d2] => { results := [.lit (.bool false)], args := [d1, d2] }
  | _ => none }
def FnExactStepSecondsWrongFalsely : Prop := fnExactStepSecondsRow.holds Tryz.pinned (OpenSpec.ofChange fnExactStepSecondsWrong)

/-- 'laws.FnExactApplyEvent': WHATEVER THE INPUT: true; the input reads as it did. -/
def fnExactApplyEventSpec : ChangeSpec := { name := "fnExactApplyEvent", fn := fun _ => fun
  | [d1, d2] => { results := [.lit (.bool true)], args := [d1, d2] }
  | _ => none }
def fnExactApplyEventRow : OpenClaim := { program := "ytjgfhonfmjfabaagreat", sum := "788a204cc50c120b1600d73da68eafa3fb6b23f6ff52b1655a329b00b6823bfa", func := "loop.example/g03006/laws.FnExactApplyEvent", spec := "fnExactApplyEvent", inPlace := ["slices.overlaps[loop.example/g03006/impl.Want]", "slices.overlaps[int]"], unfollowed := true, recurses := true, apart := false }
def FnExactApplyEventSaid : Prop := fnExactApplyEventRow.holds Tryz.pinned (OpenSpec.ofChange fnExactApplyEventSpec)

/-- ITS FALSE NEIGHBOUR: 'it returns false'. Refute it at one input. -/
def fnExactApplyEventWrong : ChangeSpec := { name := "fnExactApplyEvent", fn := fun _ => fun
  | [d1, d2] => { results := [.lit (.bool false)], args := [d1, d2] }
  | _ => none }
def FnExactApplyEventWrongFalsely : Prop := fnExactApplyEventRow.holds Tryz.pinned (OpenSpec.ofChange fnExactApplyEventWrong)

/-- 'laws.FnExactRunEvents': WHATEVER THE INPUT: true; the input reads as it did. -/
def fnExactRunEventsSpec : ChangeSpec := { name := "fnExactRunEvents", fn := fun _ => fun
  | [d1, d2] => { results := [.lit (.bool true)], args := [d1, d2] }
  | _ => none }
def fnExactRunEventsRow : OpenClaim := { program := "ytjgfhonfmjfabaagreat", sum := "788a204cc50c120b1600d73da68eafa3fb6b23f6ff52b1655a329b00b6823bfa", func := "loop.example/g03006/laws.FnExactRunEvents", spec := "fnExactRunEvents", inPlace := ["slices.overlaps[loop.example/g03006/impl.Want]", "slices.overlaps[int]"], unfollowed := true, recurses := true, apart := false }
def FnExactRunEventsSaid : Prop := fnExactRunEventsRow.holds Tryz.pinned (OpenSpec.ofChange fnExactRunEventsSpec)

/-- ITS FALSE NEIGHBOUR: 'it returns false'. Refute it at one input. -/
def fnExactRunEventsWrong : ChangeSpec := { name := "fnExactRunEvents", fn := fun _ => fun
  | [d1, d2] => { results := [.lit (.bool false)], args := [d1, d2] }
  | _ => none }
def FnExactRunEventsWrongFalsely : Prop := fnExactRunEventsRow.holds Tryz.pinned (OpenSpec.ofChange fnExactRunEventsWrong)

/- THE SECOND FORM. 'bulk': how many values and letters a reading holds, each counted each time it is reached (what is shared counts as often as it is met; a slice's spare places count too). A statement '..UptoSaid' is the law's where the arguments, and the package variables that the reading takes, are together of bulk at most 1048576: NARROWER than '..Said'. Prove '..Said' where nothing that the law and all that it calls make is longer than what came in: it says more and counts as full. Else prove '..UptoSaid'. A law counts once. -/
mutual
def uptoBulk {H : Type} : DataW H → Nat
  | .lit (.string bytes) => bytes.length + 1
  | .lit _ => 1
  | .nil => 1
  | .ptr d => uptoBulk d + 1
  | .slice elems spare => uptoBulkAll elems + uptoBulkAll spare + 1
  | .agg parts => uptoBulkAll parts + 1
  | .iface _ d => uptoBulk d + 1
  | .map entries => uptoBulkEntries entries + 1
  | .held _ => 1
def uptoBulkAll {H : Type} : List (DataW H) → Nat
  | [] => 0
  | d :: r => uptoBulk d + uptoBulkAll r
def uptoBulkEntries {H : Type} : List (Lit × DataW H) → Nat
  | [] => 0
  | x :: r => uptoBulkEntry x + uptoBulkEntries r
def uptoBulkEntry {H : Type} : Lit × DataW H → Nat
  | (.string bytes, d) => bytes.length + uptoBulk d + 1
  | (_, d) => uptoBulk d + 1
 end
def uptoSmall : (H : Type) → List (DataW H) → Bool := fun _ ds => decide (uptoBulkAll ds ≤ 1048576)
def OpenSpec.upto (s : _root_.Go.ChangeSpec) : _root_.Go.OpenSpec := { _root_.Go.OpenSpec.ofChange s with cond := some uptoSmall }

/-- 'laws.FnExactStepBus', WHERE WHAT IT READS IS OF BULK AT MOST 1048576: true; the input reads as it did. -/
def fnExactStepBusUptoRow : OpenClaim := { program := "ytjgfhonfmjfabaagreat", sum := "788a204cc50c120b1600d73da68eafa3fb6b23f6ff52b1655a329b00b6823bfa", func := "loop.example/g03006/laws.FnExactStepBus", spec := "fnExactStepBus", unfollowed := true, recurses := true, apart := false, narrowed := true }
def FnExactStepBusUptoSaid : Prop := fnExactStepBusUptoRow.holds Tryz.pinned (OpenSpec.upto fnExactStepBusSpec)

/-- 'laws.FnExactReportAll', WHERE WHAT IT READS IS OF BULK AT MOST 1048576: true; the input reads as it did. -/
def fnExactReportAllUptoRow : OpenClaim := { program := "ytjgfhonfmjfabaagreat", sum := "788a204cc50c120b1600d73da68eafa3fb6b23f6ff52b1655a329b00b6823bfa", func := "loop.example/g03006/laws.FnExactReportAll", spec := "fnExactReportAll", unfollowed := true, recurses := true, apart := false, narrowed := true }
def FnExactReportAllUptoSaid : Prop := fnExactReportAllUptoRow.holds Tryz.pinned (OpenSpec.upto fnExactReportAllSpec)

/-- 'laws.FnExactNewTown', WHERE WHAT IT READS IS OF BULK AT MOST 1048576: true; the input reads as it did. -/
def fnExactNewTownUptoRow : OpenClaim := { program := "ytjgfhonfmjfabaagreat", sum := "788a204cc50c120b1600d73da68eafa3fb6b23f6ff52b1655a329b00b6823bfa", func := "loop.example/g03006/laws.FnExactNewTown", spec := "fnExactNewTown", inPlace := ["slices.overlaps[int]"], unfollowed := true, recurses := true, apart := false, narrowed := true }
def FnExactNewTownUptoSaid : Prop := fnExactNewTownUptoRow.holds Tryz.pinned (OpenSpec.upto fnExactNewTownSpec)

/-- 'laws.FnExactStepCall', WHERE WHAT IT READS IS OF BULK AT MOST 1048576: true; the input reads as it did. -/
def fnExactStepCallUptoRow : OpenClaim := { program := "ytjgfhonfmjfabaagreat", sum := "788a204cc50c120b1600d73da68eafa3fb6b23f6ff52b1655a329b00b6823bfa", func := "loop.example/g03006/laws.FnExactStepCall", spec := "fnExactStepCall", inPlace := ["slices.overlaps[loop.example/g03006/impl.Want]"], unfollowed := true, recurses := true, apart := false, narrowed := true }
def FnExactStepCallUptoSaid : Prop := fnExactStepCallUptoRow.holds Tryz.pinned (OpenSpec.upto fnExactStepCallSpec)

/-- 'laws.FnExactStepPower', WHERE WHAT IT READS IS OF BULK AT MOST 1048576: true; the input reads as it did. -/
def fnExactStepPowerUptoRow : OpenClaim := { program := "ytjgfhonfmjfabaagreat", sum := "788a204cc50c120b1600d73da68eafa3fb6b23f6ff52b1655a329b00b6823bfa", func := "loop.example/g03006/laws.FnExactStepPower", spec := "fnExactStepPower", unfollowed := true, recurses := true, apart := false, narrowed := true }
def FnExactStepPowerUptoSaid : Prop := fnExactStepPowerUptoRow.holds Tryz.pinned (OpenSpec.upto fnExactStepPowerSpec)

/-- 'laws.FnExactStepLamp', WHERE WHAT IT READS IS OF BULK AT MOST 1048576: true; the input reads as it did. -/
def fnExactStepLampUptoRow : OpenClaim := { program := "ytjgfhonfmjfabaagreat", sum := "788a204cc50c120b1600d73da68eafa3fb6b23f6ff52b1655a329b00b6823bfa", func := "loop.example/g03006/laws.FnExactStepLamp", spec := "fnExactStepLamp", unfollowed := true, recurses := true, apart := false, narrowed := true }
def FnExactStepLampUptoSaid : Prop := fnExactStepLampUptoRow.holds Tryz.pinned (OpenSpec.upto fnExactStepLampSpec)

/-- 'laws.FnExactStepHelp', WHERE WHAT IT READS IS OF BULK AT MOST 1048576: true; the input reads as it did. -/
def fnExactStepHelpUptoRow : OpenClaim := { program := "ytjgfhonfmjfabaagreat", sum := "788a204cc50c120b1600d73da68eafa3fb6b23f6ff52b1655a329b00b6823bfa", func := "loop.example/g03006/laws.FnExactStepHelp", spec := "fnExactStepHelp", unfollowed := true, recurses := true, apart := false, narrowed := true }
def FnExactStepHelpUptoSaid : Prop := fnExactStepHelpUptoRow.holds Tryz.pinned (OpenSpec.upto fnExactStepHelpSpec)

/-- 'laws.FnExactStepSecond', WHERE WHAT IT READS IS OF BULK AT MOST 1048576: true; the input reads as it did. -/
def fnExactStepSecondUptoRow : OpenClaim := { program := "ytjgfhonfmjfabaagreat", sum := "788a204cc50c120b1600d73da68eafa3fb6b23f6ff52b1655a329b00b6823bfa", func := "loop.example/g03006/laws.FnExactStepSecond", spec := "fnExactStepSecond", inPlace := ["slices.overlaps[int]"], unfollowed := true, recurses := true, apart := false, narrowed := true }
def FnExactStepSecondUptoSaid : Prop := fnExactStepSecondUptoRow.holds Tryz.pinned (OpenSpec.upto fnExactStepSecondSpec)

/-- 'laws.FnExactStepSeconds', WHERE WHAT IT READS IS OF BULK AT MOST 1048576: true; the input reads as it did. -/
def fnExactStepSecondsUptoRow : OpenClaim := { program := "ytjgfhonfmjfabaagreat", sum := "788a204cc50c120b1600d73da68eafa3fb6b23f6ff52b1655a329b00b6823bfa", func := "loop.example/g03006/laws.FnExactStepSeconds", spec := "fnExactStepSeconds", inPlace := ["slices.overlaps[int]"], unfollowed := true, recurses := true, apart := false, narrowed := true }
def FnExactStepSecondsUptoSaid : Prop := fnExactStepSecondsUptoRow.holds Tryz.pinned (OpenSpec.upto fnExactStepSecondsSpec)

/-- 'laws.FnExactApplyEvent', WHERE WHAT IT READS IS OF BULK AT MOST 1048576: true; the input reads as it did. -/
def fnExactApplyEventUptoRow : OpenClaim := { program := "ytjgfhonfmjfabaagreat", sum := "788a204cc50c120b1600d73da68eafa3fb6b23f6ff52b1655a329b00b6823bfa", func := "loop.example/g03006/laws.FnExactApplyEvent", spec := "fnExactApplyEvent", inPlace := ["slices.overlaps[loop.example/g03006/impl.Want]", "slices.overlaps[int]"], unfollowed := true, recurses := true, apart := false, narrowed := true }
def FnExactApplyEventUptoSaid : Prop := fnExactApplyEventUptoRow.holds Tryz.pinned (OpenSpec.upto fnExactApplyEventSpec)

/-- 'laws.FnExactRunEvents', WHERE WHAT IT READS IS OF BULK AT MOST 1048576: true; the input reads as it did. -/
def fnExactRunEventsUptoRow : OpenClaim := { program := "ytjgfhonfmjfabaagreat", sum := "788a204cc50c120b1600d73da68eafa3fb6b23f6ff52b1655a329b00b6823bfa", func := "loop.example/g03006/laws.FnExactRunEvents", spec := "fnExactRunEvents", inPlace := ["slices.overlaps[loop.example/g03006/impl.Want]", "slices.overlaps[int]"], unfollowed := true, recurses := true, apart := false, narrowed := true }
def FnExactRunEventsUptoSaid : Prop := fnExactRunEventsUptoRow.holds Tryz.pinned (OpenSpec.upto fnExactRunEventsSpec)

end Rows
end Go.Proofs.YtjgfhonfmjfabaaGreat
