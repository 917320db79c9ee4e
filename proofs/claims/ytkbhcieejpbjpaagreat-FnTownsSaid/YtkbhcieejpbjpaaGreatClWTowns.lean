/- Part of the proof: see the last text of the claim. -/
import Derived.Test.YtkbhcieejpbjpaaGreatRows
import Derived.KernelRfl
import Derived.ProofKit
set_option linter.all false
namespace Go.Proofs.YtkbhcieejpbjpaaGreat
open Go.ChangeShapes Go.WideShapes Go.ChangeAt Go.RowKit
set_option maxRecDepth 100000
theorem band {a b : Bool} (h : a = true) (h2 : b = true) : (a && b) = true := by rw [h, h2]; rfl
theorem kc0 : (Rows.fnTownsRow.wf (OpenSpec.ofChange Rows.fnTownsSpec)) = true := by kernel_rfl
theorem kc1 : (laidOutB Tryz.prog) = true := by kernel_rfl
theorem kc2 : (mapsRowed Tryz.prog) = true := by kernel_rfl
theorem kc3 : (Tryz.f6.params.all (Tryz.prog.readableRec ·)) = true := by kernel_rfl
theorem kc4 : (namedTie Tryz.prog Rows.fnTownsRow.named Rows.fnTownsSpec.vars) = true := by kernel_rfl
theorem kc5 : ((Rows.fnTownsRow.stops == [])) = true := by kernel_rfl
theorem kc6 : ((Tryz.prog.stops == [])) = true := by kernel_rfl
theorem kc7 : ((Rows.fnTownsRow.knobs == [])) = true := by kernel_rfl
theorem kc8 : ((Tryz.prog.stopKnobs == [])) = true := by kernel_rfl
theorem kc9 : ((Rows.fnTownsRow.inPlace == Tryz.prog.inPlace 6)) = true := by kernel_rfl
theorem kc10 : ((Rows.fnTownsRow.unfollowed == Tryz.prog.unfollowed 6)) = true := by kernel_rfl
theorem kc11 : ((Rows.fnTownsRow.recurses == Tryz.prog.recurses 6)) = true := by kernel_rfl
theorem kc12 : ((Rows.fnTownsRow.named == Tryz.prog.varsNamed 6)) = true := by kernel_rfl
theorem kc13 : ((Rows.fnTownsRow.maps == (Tryz.f6.params.toList ++ Rows.fnTownsSpec.plain.varTypes Tryz.prog).any (Tryz.prog.mapsRec ·))) = true := by kernel_rfl
theorem kc14 : ((Rows.fnTownsRow.ifaces == (Tryz.f6.params.toList ++ Rows.fnTownsSpec.plain.varTypes Tryz.prog).any (Tryz.prog.ifacesRec ·))) = true := by kernel_rfl
theorem kc15 : ((Rows.fnTownsRow.mapsOut == Tryz.prog.mapsAmong Tryz.f6.resultTypes.toList)) = true := by kernel_rfl
theorem kc16 : ((Rows.fnTownsRow.loops == (Tryz.f6.params.toList ++ Rows.fnTownsSpec.plain.varTypes Tryz.prog).any (Tryz.prog.loopsFrom ·))) = true := by kernel_rfl
theorem kc17 : ((Rows.fnTownsRow.wideKeys == (Tryz.f6.params.toList ++ Rows.fnTownsSpec.plain.varTypes Tryz.prog ++ Tryz.f6.resultTypes.toList).any (Tryz.prog.wideKeysFrom ·))) = true := by kernel_rfl
theorem kc18 : (Rows.fnTownsSpec.vars.all (Tryz.prog.varReadable ·)) = true := by kernel_rfl
theorem kc19 : (Tryz.f6.resultTypes.all (fun t => Tryz.prog.readableRec t && decide (t < Tryz.prog.types.size))) = true := by kernel_rfl
theorem kc20 : ((Rows.fnTownsRow.ifacesOut == Tryz.f6.resultTypes.toList.any (Tryz.prog.ifacesRec ·))) = true := by kernel_rfl
theorem kc21 : ((Rows.fnTownsRow.loopsOut == Tryz.f6.resultTypes.toList.any (Tryz.prog.loopsFrom ·))) = true := by kernel_rfl
theorem kc22 : ((Rows.fnTownsRow.plainKeys == Tryz.prog.plainKeys)) = true := by kernel_rfl
theorem kc23 : (Rows.fnTownsRow.shortTexts.isNone) = true := by kernel_rfl
theorem kc24 : (Tryz.prog.stopsHeard) = true := by kernel_rfl
theorem kc25 : (Tryz.prog.mayEnter) = true := by kernel_rfl
theorem kc26 : ((Rows.fnTownsRow.lifted == Tryz.prog.liftsFinal)) = true := by kernel_rfl
theorem kc27 : ((Tryz.prog.make == some Rows.fnTownsRow.make)) = true := by kernel_rfl
theorem kc29 : ((Rows.fnTownsRow.pinned == Rows.fnTownsRow.pinnedBy)) = true := by kernel_rfl
theorem kc30 : ((Rows.fnTownsRow.veiled == (Tryz.f6.params.toList ++ Rows.fnTownsSpec.plain.varTypes Tryz.prog ++ Tryz.f6.resultTypes.toList).any (Tryz.prog.veiledRec ·))) = true := by kernel_rfl
theorem kc31 : (Rows.fnTownsRow.veiledFits Tryz.prog Tryz.f6.params.toList (Tryz.f6.params.toList ++ Rows.fnTownsSpec.plain.varTypes Tryz.prog ++ Tryz.f6.resultTypes.toList)) = true := by kernel_rfl
theorem closed : joinedFacts Tryz.prog 6 Tryz.f6 Rows.fnTownsSpec Rows.fnTownsRow = true := by
  unfold joinedFacts
  with_reducible exact (band (band (band (band (band (band (band (band (band (band (band (band (band (band (band (band (band (band (band (band (band (band (band (band (band (band (band (band (band (band (band kc0 kc1) kc2) kc3) kc4) kc5) kc6) kc7) kc8) kc9) kc10) kc11) kc12) kc13) kc14) kc15) kc16) kc17) kc18) kc19) kc20) kc21) kc22) kc23) kc24) kc25) kc26) kc27) (by kernel_rfl)) kc29) kc30) kc31)
end Go.Proofs.YtkbhcieejpbjpaaGreat
