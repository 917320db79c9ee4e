/-
  No cell of these rows narrows 'for every input' (looked for: loops, veiled, ifaces, maps, wideKeys, modest, calm, conditions, laid).
  DERIVED. THE GIVEN ROWS OF THIS SEAT. 5 by the template 'for every input the law returns true; each argument reads behind the call as it read before'; 0 by the template 'total and deterministic' (their statements: YtmcfebdgbcaimaaTotals.lean).
  GIVEN WITH THE SEED: the statements are not yours to turn. If you find one false, say at which input.
  Laid BY PROGRAM, IN A SANDBOX (cutbox-rows.mjs): the forced cells as the released guide's own fill.sh prints them over the translation 5b7585c0c286213b… (all of the seat's roots in one cut). By AI agents, Wed Nov 11 2026. No macro, syntax, notation, axiom, sorry.
-/
import Derived.Test.YtmcfebdgbcaimaaChecked
import GoSem.Claim
import GoSem.ClaimJoined
import GoSem.ClaimMapViews
import Derived.JoinedTies
import Derived.KernelRfl
namespace Go.Proofs.Ytmcfebdgbcaimaa
/- THE CELL 'sum', in the pinned program and in every row, IS THE sha256 OF THE DUMP (.gsa) THAT YtmcfebdgbcaimaaProg.lean LOADS. Nothing in Lean hashes anything: it is a label: what it is worth is what the hold of that sum in a sandbox is worth. -/
noncomputable def Try.pinned : Pinned := { name := "ytmcfebdgbcaimaa", sum := "5b7585c0c286213b6c4a8ff39298c35ed5e7c4cebc548216afdc470f929ea450", checked := Try.checked }
namespace Rows
def none {H : Type} : Left H := { results := [], args := [] }

/-- 'laws.FnExactEqualTowns': WHATEVER THE INPUT: true; the input reads as it did. -/
def fnExactEqualTownsSpec : ChangeSpec := { name := "fnExactEqualTowns", fn := fun _ => fun
  | [d1, d2] => { results := [.lit (.bool true)], args := [d1, d2] }
  | _ => none }
def fnExactEqualTownsRow : OpenClaim := { program := "ytmcfebdgbcaimaa", sum := "5b7585c0c286213b6c4a8ff39298c35ed5e7c4cebc548216afdc470f929ea450", func := "loop.example/g03006/laws.FnExactEqualTowns", spec := "fnExactEqualTowns", unfollowed := true, recurses := true, apart := false }
def FnExactEqualTownsSaid : Prop := fnExactEqualTownsRow.holds Try.pinned (OpenSpec.ofChange fnExactEqualTownsSpec)

/-- ITS FALSE NEIGHBOUR: 'it returns false'. Refute it at one input. -/
def fnExactEqualTownsWrong : ChangeSpec := { name := "fnExactEqualTowns", fn := fun _ => fun
  | [d1, d2] => { results := [.lit (.bool false)], args := [d1, d2] }
  | _ => none }
def FnExactEqualTownsWrongFalsely : Prop := fnExactEqualTownsRow.holds Try.pinned (OpenSpec.ofChange fnExactEqualTownsWrong)

/-- 'laws.FnExactAreWaitsBounded': WHATEVER THE INPUT: true; the input reads as it did. -/
def fnExactAreWaitsBoundedSpec : ChangeSpec := { name := "fnExactAreWaitsBounded", fn := fun _ => fun
  | [d] => { results := [.lit (.bool true)], args := [d] }
  | _ => none }
def fnExactAreWaitsBoundedRow : OpenClaim := { program := "ytmcfebdgbcaimaa", sum := "5b7585c0c286213b6c4a8ff39298c35ed5e7c4cebc548216afdc470f929ea450", func := "loop.example/g03006/laws.FnExactAreWaitsBounded", spec := "fnExactAreWaitsBounded", apart := false }
def FnExactAreWaitsBoundedSaid : Prop := fnExactAreWaitsBoundedRow.holds Try.pinned (OpenSpec.ofChange fnExactAreWaitsBoundedSpec)

/-- ITS FALSE NEIGHBOUR: 'it returns false'. Refute it at one input. -/
def fnExactAreWaitsBoundedWrong : ChangeSpec := { name := "fnExactAreWaitsBounded", fn := fun _ => fun
  | [d] => { results := [.lit (.bool false)], args := [d] }
  | _ => none }
def FnExactAreWaitsBoundedWrongFalsely : Prop := fnExactAreWaitsBoundedRow.holds Try.pinned (OpenSpec.ofChange fnExactAreWaitsBoundedWrong)

/-- 'laws.FnExactModeOf': WHATEVER THE INPUT: true; the input reads as it did. -/
def fnExactModeOfSpec : ChangeSpec := { name := "fnExactModeOf", fn := fun _ => fun
  | [d] => { results := [.lit (.bool true)], args := [d] }
  | _ => none }
def fnExactModeOfRow : OpenClaim := { program := "ytmcfebdgbcaimaa", sum := "5b7585c0c286213b6c4a8ff39298c35ed5e7c4cebc548216afdc470f929ea450", func := "loop.example/g03006/laws.FnExactModeOf", spec := "fnExactModeOf", unfollowed := true, recurses := true, apart := false }
def FnExactModeOfSaid : Prop := fnExactModeOfRow.holds Try.pinned (OpenSpec.ofChange fnExactModeOfSpec)

/-- ITS FALSE NEIGHBOUR: 'it returns false'. Refute it at one input. -/
def fnExactModeOfWrong : ChangeSpec := { name := "fnExactModeOf", fn := fun _ => fun
  | [d] => { results := [.lit (.bool false)], args := [d] }
  | _ => none }
def FnExactModeOfWrongFalsely : Prop := fnExactModeOfRow.holds Try.pinned (OpenSpec.ofChange fnExactModeOfWrong)

/-- 'laws.FnExactShareOfKind': WHATEVER THE INPUT: true; the input reads as it did. -/
def fnExactShareOfKindSpec : ChangeSpec := { name := "fnExactShareOfKind", fn := fun _ => fun
  | [d1, d2, d3] => { results := [.lit (.bool true)], args := [d1, d2, d3] }
  | _ => none }
def fnExactShareOfKindRow : OpenClaim := { program := "ytmcfebdgbcaimaa", sum := "5b7585c0c286213b6c4a8ff39298c35ed5e7c4cebc548216afdc470f929ea450", func := "loop.example/g03006/laws.FnExactShareOfKind", spec := "fnExactShareOfKind", unfollowed := true, recurses := true, apart := false }
def FnExactShareOfKindSaid : Prop := fnExactShareOfKindRow.holds Try.pinned (OpenSpec.ofChange fnExactShareOfKindSpec)

/-- ITS FALSE NEIGHBOUR: 'it returns false'. Refute it at one input. -/
def fnExactShareOfKindWrong : ChangeSpec := { name := "fnExactShareOfKind", fn := fun _ => fun
  | [d1, d2, d3] => { results := [.lit (.bool false)], args := [d1, d2, d3] }
  | _ => none }
def FnExactShareOfKindWrongFalsely : Prop := fnExactShareOfKindRow.holds Try.pinned (OpenSpec.ofChange fnExactShareOfKindWrong)

/-- 'laws.FnExactAreLightsSafe': WHATEVER THE INPUT: true; the input reads as it did. -/
def fnExactAreLightsSafeSpec : ChangeSpec := { name := "fnExactAreLightsSafe", fn := fun _ => fun
  | [d] => { results := [.lit (.bool true)], args := [d] }
  | _ => none }
def fnExactAreLightsSafeRow : OpenClaim := { program := "ytmcfebdgbcaimaa", sum := "5b7585c0c286213b6c4a8ff39298c35ed5e7c4cebc548216afdc470f929ea450", func := "loop.example/g03006/laws.FnExactAreLightsSafe", spec := "fnExactAreLightsSafe", unfollowed := true, recurses := true, apart := false }
def FnExactAreLightsSafeSaid : Prop := fnExactAreLightsSafeRow.holds Try.pinned (OpenSpec.ofChange fnExactAreLightsSafeSpec)

/-- ITS FALSE NEIGHBOUR: 'it returns false'. Refute it at one input. -/
def fnExactAreLightsSafeWrong : ChangeSpec := { name := "fnExactAreLightsSafe", fn := fun _ => fun
  | [d] => { results := [.lit (.bool false)], args := [d] }
  | _ => none }
def FnExactAreLightsSafeWrongFalsely : Prop := fnExactAreLightsSafeRow.holds Try.pinned (OpenSpec.ofChange fnExactAreLightsSafeWrong)

/- THE SECOND FORM. 'bulk': how many values and letters a reading holds, each counted each time it is reached (what is shared counts as often as it is met; a slice's spare places count too). A statement '..UptoSaid' is the law's where the arguments, and the package variables that the reading takes, are together of bulk at most 1048576: NARROWER than '..Said'. Prove '..Said' where nothing that the law and all that it calls make is longer than what came in: it says more and counts as full. Else prove '..UptoSaid'. A law counts once. -/
mutual
def uptoBulk {H : Type} : DataW H → Nat
  | .lit (.string bytes) => bytes.length + 1
  | .lit _ => 1
  | .nil => 1
  | .ptr d => uptoBulk d + 1
  | .slice elems spare => uptoBulkAll elems + uptoBulkAll spare + 1
  | .agg parts => uptoBulkAll parts + 1
  | .iface _ d => uptoBulk d + 1
  | .map entries => uptoBulkEntries entries + 1
  | .held _ => 1
def uptoBulkAll {H : Type} : List (DataW H) → Nat
  | [] => 0
  | d :: r => uptoBulk d + uptoBulkAll r
def uptoBulkEntries {H : Type} : List (Lit × DataW H) → Nat
  | [] => 0
  | x :: r => uptoBulkEntry x + uptoBulkEntries r
def uptoBulkEntry {H : Type} : Lit × DataW H → Nat
  | (.string bytes, d) => bytes.length + uptoBulk d + 1
  | (_, d) => uptoBulk d + 1
 end
def uptoSmall : (H : Type) → List (DataW H) → Bool := fun _ ds => decide (uptoBulkAll ds ≤ 1048576)
def OpenSpec.upto (s : _root_.Go.ChangeSpec) : _root_.Go.OpenSpec := { _root_.Go.OpenSpec.ofChange s with cond := some uptoSmall }

/-- 'laws.FnExactEqualTowns', WHERE WHAT IT READS IS OF BULK AT MOST 1048576: true; the input reads as it did. -/
def fnExactEqualTownsUptoRow : OpenClaim := { program := "ytmcfebdgbcaimaa", sum := "5b7585c0c286213b6c4a8ff39298c35ed5e7c4cebc548216afdc470f929ea450", func := "loop.example/g03006/laws.FnExactEqualTowns", spec := "fnExactEqualTowns", unfollowed := true, recurses := true, apart := false, narrowed := true }
def FnExactEqualTownsUptoSaid : Prop := fnExactEqualTownsUptoRow.holds Try.pinned (OpenSpec.upto fnExactEqualTownsSpec)

/-- 'laws.FnExactAreWaitsBounded', WHERE WHAT IT READS IS OF BULK AT MOST 1048576: true; the input reads as it did. -/
def fnExactAreWaitsBoundedUptoRow : OpenClaim := { program := "ytmcfebdgbcaimaa", sum := "5b7585c0c286213b6c4a8ff39298c35ed5e7c4cebc548216afdc470f929ea450", func := "loop.example/g03006/laws.FnExactAreWaitsBounded", spec := "fnExactAreWaitsBounded", apart := false, narrowed := true }
def FnExactAreWaitsBoundedUptoSaid : Prop := fnExactAreWaitsBoundedUptoRow.holds Try.pinned (OpenSpec.upto fnExactAreWaitsBoundedSpec)

/-- 'laws.FnExactModeOf', WHERE WHAT IT READS IS OF BULK AT MOST 1048576: true; the input reads as it did. -/
def fnExactModeOfUptoRow : OpenClaim := { program := "ytmcfebdgbcaimaa", sum := "5b7585c0c286213b6c4a8ff39298c35ed5e7c4cebc548216afdc470f929ea450", func := "loop.example/g03006/laws.FnExactModeOf", spec := "fnExactModeOf", unfollowed := true, recurses := true, apart := false, narrowed := true }
def FnExactModeOfUptoSaid : Prop := fnExactModeOfUptoRow.holds Try.pinned (OpenSpec.upto fnExactModeOfSpec)

/-- 'laws.FnExactShareOfKind', WHERE WHAT IT READS IS OF BULK AT MOST 1048576: true; the input reads as it did. -/
def fnExactShareOfKindUptoRow : OpenClaim := { program := "ytmcfebdgbcaimaa", sum := "5b7585c0c286213b6c4a8ff39298c35ed5e7c4cebc548216afdc470f929ea450", func := "loop.example/g03006/laws.FnExactShareOfKind", spec := "fnExactShareOfKind", unfollowed := true, recurses := true, apart := false, narrowed := true }
def FnExactShareOfKindUptoSaid : Prop := fnExactShareOfKindUptoRow.holds Try.pinned (OpenSpec.upto fnExactShareOfKindSpec)

/-- 'laws.FnExactAreLightsSafe', WHERE WHAT IT READS IS OF BULK AT MOST 1048576: true; the input reads as it did. -/
def fnExactAreLightsSafeUptoRow : OpenClaim := { program := "ytmcfebdgbcaimaa", sum := "5b7585c0c286213b6c4a8ff39298c35ed5e7c4cebc548216afdc470f929ea450", func := "loop.example/g03006/laws.FnExactAreLightsSafe", spec := "fnExactAreLightsSafe", unfollowed := true, recurses := true, apart := false, narrowed := true }
def FnExactAreLightsSafeUptoSaid : Prop := fnExactAreLightsSafeUptoRow.holds Try.pinned (OpenSpec.upto fnExactAreLightsSafeSpec)

end Rows
end Go.Proofs.Ytmcfebdgbcaimaa
