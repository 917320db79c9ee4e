/-
  No cell of these rows narrows 'for every input' (looked for: loops, veiled, ifaces, maps, wideKeys, modest, calm, conditions, laid).
  DERIVED. THE GIVEN ROWS OF THIS SEAT. 8 by the template 'for every input the law returns true; each argument reads behind the call as it read before'; 0 by the template 'total and deterministic' (their statements: YteaoohmablanhaaTotals.lean).
  GIVEN WITH THE SEED: the statements are not yours to turn. If you find one false, say at which input.
  Laid BY PROGRAM, IN A SANDBOX (cutbox-rows.mjs): the forced cells as the released guide's own fill.sh prints them over the translation 7b6037ab7fd0e643… (all of the seat's roots in one cut). By AI agents, Wed Nov 11 2026. No macro, syntax, notation, axiom, sorry.
-/
import Derived.Test.YteaoohmablanhaaChecked
import GoSem.Claim
import GoSem.ClaimJoined
import GoSem.ClaimMapViews
import Derived.JoinedTies
import Derived.KernelRfl
namespace Go.Proofs.Yteaoohmablanhaa
/- THE CELL 'sum', in the pinned program and in every row, IS THE sha256 OF THE DUMP (.gsa) THAT YteaoohmablanhaaProg.lean LOADS. Nothing in Lean hashes anything: it is a label: what it is worth is what the hold of that sum in a sandbox is worth. -/
noncomputable def Try.pinned : Pinned := { name := "yteaoohmablanhaa", sum := "7b6037ab7fd0e643affde770145f8d2196aa92eb23f0cf27678d628e62b0ea74", checked := Try.checked }
namespace Rows
def none {H : Type} : Left H := { results := [], args := [] }

/-- 'laws.FnExactShareOfKind': WHATEVER THE INPUT: true; the input reads as it did. -/
def fnExactShareOfKindSpec : ChangeSpec := { name := "fnExactShareOfKind", fn := fun _ => fun
  | [d1, d2, d3] => { results := [.lit (.bool true)], args := [d1, d2, d3] }
  | _ => none }
def fnExactShareOfKindRow : OpenClaim := { program := "yteaoohmablanhaa", sum := "7b6037ab7fd0e643affde770145f8d2196aa92eb23f0cf27678d628e62b0ea74", func := "loop.example/g03006/laws.FnExactShareOfKind", spec := "fnExactShareOfKind", unfollowed := true, recurses := true, apart := false }
def FnExactShareOfKindSaid : Prop := fnExactShareOfKindRow.holds Try.pinned (OpenSpec.ofChange fnExactShareOfKindSpec)

/-- ITS FALSE NEIGHBOUR: 'it returns false'. Refute it at one input. -/
def fnExactShareOfKindWrong : ChangeSpec := { name := "fnExactShareOfKind", fn := fun _ => fun
  | [d1, d2, d3] => { results := [.lit (.bool false)], args := [d1, d2, d3] }
  | _ => none }
def FnExactShareOfKindWrongFalsely : Prop := fnExactShareOfKindRow.holds Try.pinned (OpenSpec.ofChange fnExactShareOfKindWrong)

/-- 'laws.FnExactCallAll': WHATEVER THE INPUT: true; the input reads as it did. -/
def fnExactCallAllSpec : ChangeSpec := { name := "fnExactCallAll", fn := fun _ => fun
  | [d] => { results := [.lit (.bool true)], args := [d] }
  | _ => none }
def fnExactCallAllRow : OpenClaim := { program := "yteaoohmablanhaa", sum := "7b6037ab7fd0e643affde770145f8d2196aa92eb23f0cf27678d628e62b0ea74", func := "loop.example/g03006/laws.FnExactCallAll", spec := "fnExactCallAll", apart := false }
def FnExactCallAllSaid : Prop := fnExactCallAllRow.holds Try.pinned (OpenSpec.ofChange fnExactCallAllSpec)

/-- ITS FALSE NEIGHBOUR: 'it returns false'. Refute it at one input. -/
def fnExactCallAllWrong : ChangeSpec := { name := "fnExactCallAll", fn := fun _ => fun
  | [d] => { results := [.lit (.bool false)], args := [d] }
  | _ => none }
def FnExactCallAllWrongFalsely : Prop := fnExactCallAllRow.holds Try.pinned (OpenSpec.ofChange fnExactCallAllWrong)

/-- 'laws.FnExactStageSizes': WHATEVER THE INPUT: true; the input reads as it did. -/
def fnExactStageSizesSpec : ChangeSpec := { name := "fnExactStageSizes", fn := fun _ => fun
  | [d] => { results := [.lit (.bool true)], args := [d] }
  | _ => none }
def fnExactStageSizesRow : OpenClaim := { program := "yteaoohmablanhaa", sum := "7b6037ab7fd0e643affde770145f8d2196aa92eb23f0cf27678d628e62b0ea74", func := "loop.example/g03006/laws.FnExactStageSizes", spec := "fnExactStageSizes", unfollowed := true, recurses := true, apart := false }
def FnExactStageSizesSaid : Prop := fnExactStageSizesRow.holds Try.pinned (OpenSpec.ofChange fnExactStageSizesSpec)

/-- ITS FALSE NEIGHBOUR: 'it returns false'. Refute it at one input. -/
def fnExactStageSizesWrong : ChangeSpec := { name := "fnExactStageSizes", fn := fun _ => fun
  | [d] => { results := [.lit (.bool false)], args := [d] }
  | _ => none }
def FnExactStageSizesWrongFalsely : Prop := fnExactStageSizesRow.holds Try.pinned (OpenSpec.ofChange fnExactStageSizesWrong)

/-- 'laws.FnExactAllServices': WHATEVER THE INPUT: true; the input reads as it did. -/
def fnExactAllServicesSpec : ChangeSpec := { name := "fnExactAllServices", fn := fun _ => fun
  | [d1, d2] => { results := [.lit (.bool true)], args := [d1, d2] }
  | _ => none }
def fnExactAllServicesRow : OpenClaim := { program := "yteaoohmablanhaa", sum := "7b6037ab7fd0e643affde770145f8d2196aa92eb23f0cf27678d628e62b0ea74", func := "loop.example/g03006/laws.FnExactAllServices", spec := "fnExactAllServices", unfollowed := true, recurses := true, apart := false }
def FnExactAllServicesSaid : Prop := fnExactAllServicesRow.holds Try.pinned (OpenSpec.ofChange fnExactAllServicesSpec)

/-- ITS FALSE NEIGHBOUR: 'it returns false'. Refute it at one input. -/
def fnExactAllServicesWrong : ChangeSpec := { name := "fnExactAllServices", fn := fun _ => fun
  | [d1, d2] => { results := [.lit (.bool false)], args := [d1, d2] }
  | _ => none }
def FnExactAllServicesWrongFalsely : Prop := fnExactAllServicesRow.holds Try.pinned (OpenSpec.ofChange fnExactAllServicesWrong)

/-- 'laws.FnExactLightsNow': WHATEVER THE INPUT: true; the input reads as it did. -/
def fnExactLightsNowSpec : ChangeSpec := { name := "fnExactLightsNow", fn := fun _ => fun
  | [d] => { results := [.lit (.bool true)], args := [d] }
  | _ => none }
def fnExactLightsNowRow : OpenClaim := { program := "yteaoohmablanhaa", sum := "7b6037ab7fd0e643affde770145f8d2196aa92eb23f0cf27678d628e62b0ea74", func := "loop.example/g03006/laws.FnExactLightsNow", spec := "fnExactLightsNow", unfollowed := true, recurses := true, apart := false }
def FnExactLightsNowSaid : Prop := fnExactLightsNowRow.holds Try.pinned (OpenSpec.ofChange fnExactLightsNowSpec)

/-- ITS FALSE NEIGHBOUR: 'it returns false'. Refute it at one input. -/
def fnExactLightsNowWrong : ChangeSpec := { name := "fnExactLightsNow", fn := fun _ => fun
  | [d] => { results := [.lit (.bool false)], args := [d] }
  | _ => none }
def FnExactLightsNowWrongFalsely : Prop := fnExactLightsNowRow.holds Try.pinned (OpenSpec.ofChange fnExactLightsNowWrong)

/-- 'laws.FnExactIsTown': WHATEVER THE INPUT: true; the input reads as it did. -/
def fnExactIsTownSpec : ChangeSpec := { name := "fnExactIsTown", fn := fun _ => fun
  | [d] => { results := [.lit (.bool true)], args := [d] }
  | _ => none }
def fnExactIsTownRow : OpenClaim := { program := "yteaoohmablanhaa", sum := "7b6037ab7fd0e643affde770145f8d2196aa92eb23f0cf27678d628e62b0ea74", func := "loop.example/g03006/laws.FnExactIsTown", spec := "fnExactIsTown", unfollowed := true, recurses := true, apart := false }
def FnExactIsTownSaid : Prop := fnExactIsTownRow.holds Try.pinned (OpenSpec.ofChange fnExactIsTownSpec)

/-- ITS FALSE NEIGHBOUR: 'it returns false'. Refute it at one input. -/
def fnExactIsTownWrong : ChangeSpec := { name := "fnExactIsTown", fn := fun _ => fun
  | [d] => { results := [.lit (.bool false)], args := [d] }
  | _ => none }
def FnExactIsTownWrongFalsely : Prop := fnExactIsTownRow.holds Try.pinned (OpenSpec.ofChange fnExactIsTownWrong)

/-- 'laws.FnExactIsRecordTrue': WHATEVER THE INPUT: true; the input reads as it did. -/
def fnExactIsRecordTrueSpec : ChangeSpec := { name := "fnExactIsRecordTrue", fn := fun _ => fun
  | [d] => { results := [.lit (.bool true)], args := [d] }
  | _ => none }
def fnExactIsRecordTrueRow : OpenClaim := { program := "yteaoohmablanhaa", sum := "7b6037ab7fd0e643affde770145f8d2196aa92eb23f0cf27678d628e62b0ea74", func := "loop.example/g03006/laws.FnExactIsRecordTrue", spec := "fnExactIsRecordTrue", unfollowed := true, recurses := true, apart := false }
def FnExactIsRecordTrueSaid : Prop := fnExactIsRecordTrueRow.holds Try.pinned (OpenSpec.ofChange fnExactIsRecordTrueSpec)

/-- ITS FALSE NEIGHBOUR: 'it returns false'. Refute it at one input. -/
def fnExactIsRecordTrueWrong : ChangeSpec := { name := "fnExactIsRecordTrue", fn := fun _ => fun
  | [d] => { results := [.lit (.bool false)], args := [d] }
  | _ => none }
def FnExactIsRecordTrueWrongFalsely : Prop := fnExactIsRecordTrueRow.holds Try.pinned (OpenSpec.ofChange fnExactIsRecordTrueWrong)

/-- 'laws.FnExactReportOf': WHATEVER THE INPUT: true; the input reads as it did. -/
def fnExactReportOfSpec : ChangeSpec := { name := "fnExactReportOf", fn := fun _ => fun
  | [d1, d2, d3] => { results := [.lit (.bool true)], args := [d1, d2, d3] }
  | _ => none }
def fnExactReportOfRow : OpenClaim := { program := "yteaoohmablanhaa", sum := "7b6037ab7fd0e643affde770145f8d2196aa92eb23f0cf27678d628e62b0ea74", func := "loop.example/g03006/laws.FnExactReportOf", spec := "fnExactReportOf", unfollowed := true, recurses := true, apart := false }
def FnExactReportOfSaid : Prop := fnExactReportOfRow.holds Try.pinned (OpenSpec.ofChange fnExactReportOfSpec)

/-- ITS FALSE NEIGHBOUR: 'it returns false'. Refute it at one input. -/
def fnExactReportOfWrong : ChangeSpec := { name := "fnExactReportOf", fn := fun _ => fun
  | [d1, d2, d3] => { results := [.lit (.bool false)], args := [d1, d2, d3] }
  | _ => none }
def FnExactReportOfWrongFalsely : Prop := fnExactReportOfRow.holds Try.pinned (OpenSpec.ofChange fnExactReportOfWrong)

/- THE SECOND FORM. 'bulk': how many values and letters a reading holds, each counted each time it is reached (what is shared counts as often as it is met; a slice's spare places count too). A statement '..UptoSaid' is the law's where the arguments, and the package variables that the reading takes, are together of bulk at most 1048576: NARROWER than '..Said'. Prove '..Said' where nothing that the law and all that it calls make is longer than what came in: it says more and counts as full. Else prove '..UptoSaid'. A law counts once. -/
mutual
def uptoBulk {H : Type} : DataW H → Nat
  | .lit (.string bytes) => bytes.length + 1
  | .lit _ => 1
  | .nil => 1
  | .ptr d => uptoBulk d + 1
  | .slice elems spare => uptoBulkAll elems + uptoBulkAll spare + 1
  | .agg parts => uptoBulkAll parts + 1
  | .iface _ d => uptoBulk d + 1
  | .map entries => uptoBulkEntries entries + 1
  | .held _ => 1
def uptoBulkAll {H : Type} : List (DataW H) → Nat
  | [] => 0
  | d :: r => uptoBulk d + uptoBulkAll r
def uptoBulkEntries {H : Type} : List (Lit × DataW H) → Nat
  | [] => 0
  | x :: r => uptoBulkEntry x + uptoBulkEntries r
def uptoBulkEntry {H : Type} : Lit × DataW H → Nat
  | (.string bytes, d) => bytes.length + uptoBulk d + 1
  | (_, d) => uptoBulk d + 1
 end
def uptoSmall : (H : Type) → List (DataW H) → Bool := fun _ ds => decide (uptoBulkAll ds ≤ 1048576)
def OpenSpec.upto (s : _root_.Go.ChangeSpec) : _root_.Go.OpenSpec := { _root_.Go.OpenSpec.ofChange s with cond := some uptoSmall }

/-- 'laws.FnExactShareOfKind', WHERE WHAT IT READS IS OF BULK AT MOST 1048576: true; the input reads as it did. -/
def fnExactShareOfKindUptoRow : OpenClaim := { program := "yteaoohmablanhaa", sum := "7b6037ab7fd0e643affde770145f8d2196aa92eb23f0cf27678d628e62b0ea74", func := "loop.example/g03006/laws.FnExactShareOfKind", spec := "fnExactShareOfKind", unfollowed := true, recurses := true, apart := false, narrowed := true }
def FnExactShareOfKindUptoSaid : Prop := fnExactShareOfKindUptoRow.holds Try.pinned (OpenSpec.upto fnExactShareOfKindSpec)

/-- 'laws.FnExactCallAll', WHERE WHAT IT READS IS OF BULK AT MOST 1048576: true; the input reads as it did. -/
def fnExactCallAllUptoRow : OpenClaim := { program := "yteaoohmablanhaa", sum := "7b6037ab7fd0e643affde770145f8d2196aa92eb23f0cf27678d628e62b0ea74", func := "loop.example/g03006/laws.FnExactCallAll", spec := "fnExactCallAll", apart := false, narrowed := true }
def FnExactCallAllUptoSaid : Prop := fnExactCallAllUptoRow.holds Try.pinned (OpenSpec.upto fnExactCallAllSpec)

/-- 'laws.FnExactStageSizes', WHERE WHAT IT READS IS OF BULK AT MOST 1048576: true; the input reads as it did. -/
def fnExactStageSizesUptoRow : OpenClaim := { program := "yteaoohmablanhaa", sum := "7b6037ab7fd0e643affde770145f8d2196aa92eb23f0cf27678d628e62b0ea74", func := "loop.example/g03006/laws.FnExactStageSizes", spec := "fnExactStageSizes", unfollowed := true, recurses := true, apart := false, narrowed := true }
def FnExactStageSizesUptoSaid : Prop := fnExactStageSizesUptoRow.holds Try.pinned (OpenSpec.upto fnExactStageSizesSpec)

/-- 'laws.FnExactAllServices', WHERE WHAT IT READS IS OF BULK AT MOST 1048576: true; the input reads as it did. -/
def fnExactAllServicesUptoRow : OpenClaim := { program := "yteaoohmablanhaa", sum := "7b6037ab7fd0e643affde770145f8d2196aa92eb23f0cf27678d628e62b0ea74", func := "loop.example/g03006/laws.FnExactAllServices", spec := "fnExactAllServices", unfollowed := true, recurses := true, apart := false, narrowed := true }
def FnExactAllServicesUptoSaid : Prop := fnExactAllServicesUptoRow.holds Try.pinned (OpenSpec.upto fnExactAllServicesSpec)

/-- 'laws.FnExactLightsNow', WHERE WHAT IT READS IS OF BULK AT MOST 1048576: true; the input reads as it did. -/
def fnExactLightsNowUptoRow : OpenClaim := { program := "yteaoohmablanhaa", sum := "7b6037ab7fd0e643affde770145f8d2196aa92eb23f0cf27678d628e62b0ea74", func := "loop.example/g03006/laws.FnExactLightsNow", spec := "fnExactLightsNow", unfollowed := true, recurses := true, apart := false, narrowed := true }
def FnExactLightsNowUptoSaid : Prop := fnExactLightsNowUptoRow.holds Try.pinned (OpenSpec.upto fnExactLightsNowSpec)

/-- 'laws.FnExactIsTown', WHERE WHAT IT READS IS OF BULK AT MOST 1048576: true; the input reads as it did. -/
def fnExactIsTownUptoRow : OpenClaim := { program := "yteaoohmablanhaa", sum := "7b6037ab7fd0e643affde770145f8d2196aa92eb23f0cf27678d628e62b0ea74", func := "loop.example/g03006/laws.FnExactIsTown", spec := "fnExactIsTown", unfollowed := true, recurses := true, apart := false, narrowed := true }
def FnExactIsTownUptoSaid : Prop := fnExactIsTownUptoRow.holds Try.pinned (OpenSpec.upto fnExactIsTownSpec)

/-- 'laws.FnExactIsRecordTrue', WHERE WHAT IT READS IS OF BULK AT MOST 1048576: true; the input reads as it did. -/
def fnExactIsRecordTrueUptoRow : OpenClaim := { program := "yteaoohmablanhaa", sum := "7b6037ab7fd0e643affde770145f8d2196aa92eb23f0cf27678d628e62b0ea74", func := "loop.example/g03006/laws.FnExactIsRecordTrue", spec := "fnExactIsRecordTrue", unfollowed := true, recurses := true, apart := false, narrowed := true }
def FnExactIsRecordTrueUptoSaid : Prop := fnExactIsRecordTrueUptoRow.holds Try.pinned (OpenSpec.upto fnExactIsRecordTrueSpec)

/-- 'laws.FnExactReportOf', WHERE WHAT IT READS IS OF BULK AT MOST 1048576: true; the input reads as it did. -/
def fnExactReportOfUptoRow : OpenClaim := { program := "yteaoohmablanhaa", sum := "7b6037ab7fd0e643affde770145f8d2196aa92eb23f0cf27678d628e62b0ea74", func := "loop.example/g03006/laws.FnExactReportOf", spec := "fnExactReportOf", unfollowed := true, recurses := true, apart := false, narrowed := true }
def FnExactReportOfUptoSaid : Prop := fnExactReportOfUptoRow.holds Try.pinned (OpenSpec.upto fnExactReportOfSpec)

end Rows
end Go.Proofs.Yteaoohmablanhaa
