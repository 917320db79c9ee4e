/-
  DERIVED. GIVEN WITH THE SEED: THE CARDS: each row of YtmcfebdgbcaimaaDoorRows.lean that lists a variable, with what it lists TIED to the program's text (the seventh form; the later family's looks); each row that meets fmt, with fmt's text TOLD by the authors' own Lean function (tested against real Go, not proved from fmt's source: count such statements apart). THE CARD IS WHAT COUNTS. Prove the row's statement (the work); the ties are given (YtmcfebdgbcaimaaDoorTie.lean); close each card by the builder's one call (the guide's Derived/Test/ToyasCard.lean, 'card_holds'). Laid BY PROGRAM, IN A SANDBOX (cutbox-door.mjs). By AI agents, Wed Nov 11 2026. No macro, syntax, notation, axiom, sorry.
-/
import Derived.Test.YtmcfebdgbcaimaaDoorRows
import GoSem.ClaimSeven
namespace Go.Proofs.YtmcfebdgbcaimaaDoor
namespace Rows

/-- THE TIED CARD OF 'laws.FnExactParsePath'. -/
def fnExactParsePathCard : Claim7 := { stood := { row := fnExactParsePathRow, standIns := [], harness := (true, "dccb493e19bc7d16444ec7d7eb1c83e5ca092d0383e5d5b4d5a1944b0dfadce5"), looks := false }, kinds := [], alts := [], laidByText := true, laidKinds := [.data, .data, .data], laidTests := true, laidLooks := .later }
def FnExactParsePathCardSaid : Prop := Claim7.holds Tryd.pinned (.plain (OpenSpec.ofChange fnExactParsePathSpec)) fnExactParsePathCard

/-- THE TIED CARD OF 'laws.FnExactFormatNumbers'. -/
def fnExactFormatNumbersCard : Claim7 := { stood := { row := fnExactFormatNumbersRow, standIns := [], harness := (true, "dccb493e19bc7d16444ec7d7eb1c83e5ca092d0383e5d5b4d5a1944b0dfadce5"), looks := false }, kinds := [], alts := [], laidByText := true, laidKinds := [.data, .data, .data], laidTests := true, laidLooks := .later }
def FnExactFormatNumbersCardSaid : Prop := Claim7.holds Tryd.pinned (.plain (OpenSpec.ofChange fnExactFormatNumbersSpec)) fnExactFormatNumbersCard

/-- THE TIED CARD OF 'laws.FnExactFormatReport'. -/
def fnExactFormatReportCard : Claim7 := { stood := { row := fnExactFormatReportRow, standIns := [], harness := (true, "dccb493e19bc7d16444ec7d7eb1c83e5ca092d0383e5d5b4d5a1944b0dfadce5"), looks := false }, kinds := [], alts := [], laidByText := true, laidKinds := [.data, .data, .data], laidTests := true, laidLooks := .later }
def FnExactFormatReportCardSaid : Prop := Claim7.holds Tryd.pinned (.plain (OpenSpec.ofChange fnExactFormatReportSpec)) fnExactFormatReportCard

/-- THE TIED CARD OF 'laws.FnExactFormatPaths'. -/
def fnExactFormatPathsCard : Claim7 := { stood := { row := fnExactFormatPathsRow, standIns := [], harness := (true, "dccb493e19bc7d16444ec7d7eb1c83e5ca092d0383e5d5b4d5a1944b0dfadce5"), looks := false }, kinds := [], alts := [], laidByText := true, laidKinds := [.data, .data, .data], laidTests := true, laidLooks := .later }
def FnExactFormatPathsCardSaid : Prop := Claim7.holds Tryd.pinned (.plain (OpenSpec.ofChange fnExactFormatPathsSpec)) fnExactFormatPathsCard

/-- THE TIED CARD OF 'laws.FnExactFormatControl'. -/
def fnExactFormatControlCard : Claim7 := { stood := { row := fnExactFormatControlRow, standIns := [], harness := (true, "dccb493e19bc7d16444ec7d7eb1c83e5ca092d0383e5d5b4d5a1944b0dfadce5"), looks := false }, kinds := [], alts := [], laidByText := true, laidKinds := [.data, .data, .data], laidTests := true, laidLooks := .later }
def FnExactFormatControlCardSaid : Prop := Claim7.holds Tryd.pinned (.plain (OpenSpec.ofChange fnExactFormatControlSpec)) fnExactFormatControlCard

/-- THE TIED CARD OF 'laws.FnExactFormatPlan'. -/
def fnExactFormatPlanCard : Claim7 := { stood := { row := fnExactFormatPlanRow, standIns := [], harness := (true, "dccb493e19bc7d16444ec7d7eb1c83e5ca092d0383e5d5b4d5a1944b0dfadce5"), looks := false }, kinds := [], alts := [], laidByText := true, laidKinds := [.data, .data, .data], laidTests := true, laidLooks := .later }
def FnExactFormatPlanCardSaid : Prop := Claim7.holds Tryd.pinned (.plain (OpenSpec.ofChange fnExactFormatPlanSpec)) fnExactFormatPlanCard

/-- THE TIED CARD OF 'laws.FnExactFormatTown'. -/
def fnExactFormatTownCard : Claim7 := { stood := { row := fnExactFormatTownRow, standIns := [], harness := (true, "dccb493e19bc7d16444ec7d7eb1c83e5ca092d0383e5d5b4d5a1944b0dfadce5"), looks := false }, kinds := [], alts := [], laidByText := true, laidKinds := [.data, .data, .data], laidTests := true, laidLooks := .later }
def FnExactFormatTownCardSaid : Prop := Claim7.holds Tryd.pinned (.plain (OpenSpec.ofChange fnExactFormatTownSpec)) fnExactFormatTownCard

/-- THE SECOND FORM's CARD OF 'laws.FnExactParsePath'. -/
def fnExactParsePathUptoCard : Claim7 := { stood := { row := fnExactParsePathUptoRow, standIns := [], harness := (true, "dccb493e19bc7d16444ec7d7eb1c83e5ca092d0383e5d5b4d5a1944b0dfadce5"), looks := false }, kinds := [], alts := [], laidByText := true, laidKinds := [.data, .data, .data], laidTests := true, laidLooks := .later }
def FnExactParsePathUptoCardSaid : Prop := Claim7.holds Tryd.pinned (.plain (OpenSpec.upto fnExactParsePathSpec)) fnExactParsePathUptoCard

/-- THE SECOND FORM's CARD OF 'laws.FnExactFormatNumbers'. -/
def fnExactFormatNumbersUptoCard : Claim7 := { stood := { row := fnExactFormatNumbersUptoRow, standIns := [], harness := (true, "dccb493e19bc7d16444ec7d7eb1c83e5ca092d0383e5d5b4d5a1944b0dfadce5"), looks := false }, kinds := [], alts := [], laidByText := true, laidKinds := [.data, .data, .data], laidTests := true, laidLooks := .later }
def FnExactFormatNumbersUptoCardSaid : Prop := Claim7.holds Tryd.pinned (.plain (OpenSpec.upto fnExactFormatNumbersSpec)) fnExactFormatNumbersUptoCard

/-- THE SECOND FORM's CARD OF 'laws.FnExactFormatReport'. -/
def fnExactFormatReportUptoCard : Claim7 := { stood := { row := fnExactFormatReportUptoRow, standIns := [], harness := (true, "dccb493e19bc7d16444ec7d7eb1c83e5ca092d0383e5d5b4d5a1944b0dfadce5"), looks := false }, kinds := [], alts := [], laidByText := true, laidKinds := [.data, .data, .data], laidTests := true, laidLooks := .later }
def FnExactFormatReportUptoCardSaid : Prop := Claim7.holds Tryd.pinned (.plain (OpenSpec.upto fnExactFormatReportSpec)) fnExactFormatReportUptoCard

/-- THE SECOND FORM's CARD OF 'laws.FnExactFormatPaths'. -/
def fnExactFormatPathsUptoCard : Claim7 := { stood := { row := fnExactFormatPathsUptoRow, standIns := [], harness := (true, "dccb493e19bc7d16444ec7d7eb1c83e5ca092d0383e5d5b4d5a1944b0dfadce5"), looks := false }, kinds := [], alts := [], laidByText := true, laidKinds := [.data, .data, .data], laidTests := true, laidLooks := .later }
def FnExactFormatPathsUptoCardSaid : Prop := Claim7.holds Tryd.pinned (.plain (OpenSpec.upto fnExactFormatPathsSpec)) fnExactFormatPathsUptoCard

/-- THE SECOND FORM's CARD OF 'laws.FnExactFormatControl'. -/
def fnExactFormatControlUptoCard : Claim7 := { stood := { row := fnExactFormatControlUptoRow, standIns := [], harness := (true, "dccb493e19bc7d16444ec7d7eb1c83e5ca092d0383e5d5b4d5a1944b0dfadce5"), looks := false }, kinds := [], alts := [], laidByText := true, laidKinds := [.data, .data, .data], laidTests := true, laidLooks := .later }
def FnExactFormatControlUptoCardSaid : Prop := Claim7.holds Tryd.pinned (.plain (OpenSpec.upto fnExactFormatControlSpec)) fnExactFormatControlUptoCard

/-- THE SECOND FORM's CARD OF 'laws.FnExactFormatPlan'. -/
def fnExactFormatPlanUptoCard : Claim7 := { stood := { row := fnExactFormatPlanUptoRow, standIns := [], harness := (true, "dccb493e19bc7d16444ec7d7eb1c83e5ca092d0383e5d5b4d5a1944b0dfadce5"), looks := false }, kinds := [], alts := [], laidByText := true, laidKinds := [.data, .data, .data], laidTests := true, laidLooks := .later }
def FnExactFormatPlanUptoCardSaid : Prop := Claim7.holds Tryd.pinned (.plain (OpenSpec.upto fnExactFormatPlanSpec)) fnExactFormatPlanUptoCard

/-- THE SECOND FORM's CARD OF 'laws.FnExactFormatTown'. -/
def fnExactFormatTownUptoCard : Claim7 := { stood := { row := fnExactFormatTownUptoRow, standIns := [], harness := (true, "dccb493e19bc7d16444ec7d7eb1c83e5ca092d0383e5d5b4d5a1944b0dfadce5"), looks := false }, kinds := [], alts := [], laidByText := true, laidKinds := [.data, .data, .data], laidTests := true, laidLooks := .later }
def FnExactFormatTownUptoCardSaid : Prop := Claim7.holds Tryd.pinned (.plain (OpenSpec.upto fnExactFormatTownSpec)) fnExactFormatTownUptoCard
end Rows
end Go.Proofs.YtmcfebdgbcaimaaDoor
