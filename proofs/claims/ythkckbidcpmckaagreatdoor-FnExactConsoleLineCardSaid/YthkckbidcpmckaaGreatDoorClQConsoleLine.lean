/- Part of the proof: see the last text of the claim. -/
import Derived.Test.YthkckbidcpmckaaGreatDoorRows
import Derived.KernelRfl
import Derived.ProofKit
set_option linter.all false
namespace Go.Proofs.YthkckbidcpmckaaGreatDoor
open Go.ChangeShapes Go.WideShapes Go.ChangeAt Go.RowKit
set_option maxRecDepth 100000
theorem band {a b : Bool} (h : a = true) (h2 : b = true) : (a && b) = true := by rw [h, h2]; rfl
theorem kc0 : (Rows.fnExactConsoleLineRow.wf (OpenSpec.ofChange Rows.fnExactConsoleLineSpec)) = true := by kernel_rfl
theorem kc1 : (laidOutB Tryz.prog) = true := by kernel_rfl
theorem kc2 : (mapsRowed Tryz.prog) = true := by kernel_rfl
theorem kc3 : (Tryz.f3.params.all (Tryz.prog.readableRec ·)) = true := by kernel_rfl
theorem kc4 : (namedTie Tryz.prog Rows.fnExactConsoleLineRow.named Rows.fnExactConsoleLineSpec.vars) = true := by kernel_rfl
theorem kc5 : ((Rows.fnExactConsoleLineRow.stops == [])) = true := by kernel_rfl
theorem kc6 : ((Tryz.prog.stops == [])) = true := by kernel_rfl
theorem kc7 : ((Rows.fnExactConsoleLineRow.knobs == [])) = true := by kernel_rfl
theorem kc8 : ((Tryz.prog.stopKnobs == [])) = true := by kernel_rfl
theorem kc9 : ((Rows.fnExactConsoleLineRow.inPlace == Tryz.prog.inPlace 3)) = true := by kernel_rfl
theorem kc10 : ((Rows.fnExactConsoleLineRow.unfollowed == Tryz.prog.unfollowed 3)) = true := by kernel_rfl
theorem kc11 : ((Rows.fnExactConsoleLineRow.recurses == Tryz.prog.recurses 3)) = true := by kernel_rfl
theorem kc12 : ((Rows.fnExactConsoleLineRow.named == Tryz.prog.varsNamed 3)) = true := by kernel_rfl
theorem kc13 : ((Rows.fnExactConsoleLineRow.maps == (Tryz.f3.params.toList ++ Rows.fnExactConsoleLineSpec.plain.varTypes Tryz.prog).any (Tryz.prog.mapsRec ·))) = true := by kernel_rfl
theorem kc14 : ((Rows.fnExactConsoleLineRow.ifaces == (Tryz.f3.params.toList ++ Rows.fnExactConsoleLineSpec.plain.varTypes Tryz.prog).any (Tryz.prog.ifacesRec ·))) = true := by kernel_rfl
theorem kc15 : ((Rows.fnExactConsoleLineRow.mapsOut == Tryz.prog.mapsAmong Tryz.f3.resultTypes.toList)) = true := by kernel_rfl
theorem kc16 : ((Rows.fnExactConsoleLineRow.loops == (Tryz.f3.params.toList ++ Rows.fnExactConsoleLineSpec.plain.varTypes Tryz.prog).any (Tryz.prog.loopsFrom ·))) = true := by kernel_rfl
theorem kc17 : ((Rows.fnExactConsoleLineRow.wideKeys == (Tryz.f3.params.toList ++ Rows.fnExactConsoleLineSpec.plain.varTypes Tryz.prog ++ Tryz.f3.resultTypes.toList).any (Tryz.prog.wideKeysFrom ·))) = true := by kernel_rfl
theorem kc18 : (Rows.fnExactConsoleLineSpec.vars.all (Tryz.prog.varReadable ·)) = true := by kernel_rfl
theorem kc19 : (Tryz.f3.resultTypes.all (fun t => Tryz.prog.readableRec t && decide (t < Tryz.prog.types.size))) = true := by kernel_rfl
theorem kc20 : ((Rows.fnExactConsoleLineRow.ifacesOut == Tryz.f3.resultTypes.toList.any (Tryz.prog.ifacesRec ·))) = true := by kernel_rfl
theorem kc21 : ((Rows.fnExactConsoleLineRow.loopsOut == Tryz.f3.resultTypes.toList.any (Tryz.prog.loopsFrom ·))) = true := by kernel_rfl
theorem kc22 : ((Rows.fnExactConsoleLineRow.plainKeys == Tryz.prog.plainKeys)) = true := by kernel_rfl
theorem kc23 : (Rows.fnExactConsoleLineRow.shortTexts.isNone) = true := by kernel_rfl
theorem kc24 : (Tryz.prog.stopsHeard) = true := by kernel_rfl
theorem kc25 : (Tryz.prog.mayEnter) = true := by kernel_rfl
theorem kc26 : ((Rows.fnExactConsoleLineRow.lifted == Tryz.prog.liftsFinal)) = true := by kernel_rfl
theorem kc27 : ((Tryz.prog.make == some Rows.fnExactConsoleLineRow.make)) = true := by kernel_rfl
theorem kc29 : ((Rows.fnExactConsoleLineRow.pinned == Rows.fnExactConsoleLineRow.pinnedBy)) = true := by kernel_rfl
theorem kc30 : ((Rows.fnExactConsoleLineRow.veiled == (Tryz.f3.params.toList ++ Rows.fnExactConsoleLineSpec.plain.varTypes Tryz.prog ++ Tryz.f3.resultTypes.toList).any (Tryz.prog.veiledRec ·))) = true := by kernel_rfl
theorem kc31 : (Rows.fnExactConsoleLineRow.veiledFits Tryz.prog Tryz.f3.params.toList (Tryz.f3.params.toList ++ Rows.fnExactConsoleLineSpec.plain.varTypes Tryz.prog ++ Tryz.f3.resultTypes.toList)) = true := by kernel_rfl
theorem closed : joinedFacts Tryz.prog 3 Tryz.f3 Rows.fnExactConsoleLineSpec Rows.fnExactConsoleLineRow = true := by
 unfold joinedFacts
 with_reducible exact (band (band (band (band (band (band (band (band (band (band (band (band (band (band (band (band (band (band (band (band (band (band (band (band (band (band (band (band (band (band (band kc0 kc1) kc2) kc3) kc4) kc5) kc6) kc7) kc8) kc9) kc10) kc11) kc12) kc13) kc14) kc15) kc16) kc17) kc18) kc19) kc20) kc21) kc22) kc23) kc24) kc25) kc26) kc27) (by kernel_rfl)) kc29) kc30) kc31)
end Go.Proofs.YthkckbidcpmckaaGreatDoor
