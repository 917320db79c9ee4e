/- Part of the proof: see the last text of the claim. -/
import Derived.Test.YtjgfhonfmjfabaaGreatRows
import Derived.KernelRfl
import Derived.ProofKit
set_option linter.all false
namespace Go.Proofs.YtjgfhonfmjfabaaGreat
open Go.ChangeShapes Go.WideShapes Go.ChangeAt Go.RowKit
set_option maxRecDepth 100000
theorem band {a b : Bool} (h : a = true) (h2 : b = true) : (a && b) = true := by rw [h, h2]; rfl
theorem kc0 : (Rows.fnExactStepPowerRow.wf (OpenSpec.ofChange Rows.fnExactStepPowerSpec)) = true := by kernel_rfl
theorem kc1 : (laidOutB Tryz.prog) = true := by kernel_rfl
theorem kc2 : (mapsRowed Tryz.prog) = true := by kernel_rfl
theorem kc3 : (Tryz.f7.params.all (Tryz.prog.readableRec ·)) = true := by kernel_rfl
theorem kc4 : (namedTie Tryz.prog Rows.fnExactStepPowerRow.named Rows.fnExactStepPowerSpec.vars) = true := by kernel_rfl
theorem kc5 : ((Rows.fnExactStepPowerRow.stops == [])) = true := by kernel_rfl
theorem kc6 : ((Tryz.prog.stops == [])) = true := by kernel_rfl
theorem kc7 : ((Rows.fnExactStepPowerRow.knobs == [])) = true := by kernel_rfl
theorem kc8 : ((Tryz.prog.stopKnobs == [])) = true := by kernel_rfl
theorem kc9 : ((Rows.fnExactStepPowerRow.inPlace == Tryz.prog.inPlace 7)) = true := by kernel_rfl
theorem kc10 : ((Rows.fnExactStepPowerRow.unfollowed == Tryz.prog.unfollowed 7)) = true := by kernel_rfl
theorem kc11 : ((Rows.fnExactStepPowerRow.recurses == Tryz.prog.recurses 7)) = true := by kernel_rfl
theorem kc12 : ((Rows.fnExactStepPowerRow.named == Tryz.prog.varsNamed 7)) = true := by kernel_rfl
theorem kc13 : ((Rows.fnExactStepPowerRow.maps == (Tryz.f7.params.toList ++ Rows.fnExactStepPowerSpec.plain.varTypes Tryz.prog).any (Tryz.prog.mapsRec ·))) = true := by kernel_rfl
theorem kc14 : ((Rows.fnExactStepPowerRow.ifaces == (Tryz.f7.params.toList ++ Rows.fnExactStepPowerSpec.plain.varTypes Tryz.prog).any (Tryz.prog.ifacesRec ·))) = true := by kernel_rfl
theorem kc15 : ((Rows.fnExactStepPowerRow.mapsOut == Tryz.prog.mapsAmong Tryz.f7.resultTypes.toList)) = true := by kernel_rfl
theorem kc16 : ((Rows.fnExactStepPowerRow.loops == (Tryz.f7.params.toList ++ Rows.fnExactStepPowerSpec.plain.varTypes Tryz.prog).any (Tryz.prog.loopsFrom ·))) = true := by kernel_rfl
theorem kc17 : ((Rows.fnExactStepPowerRow.wideKeys == (Tryz.f7.params.toList ++ Rows.fnExactStepPowerSpec.plain.varTypes Tryz.prog ++ Tryz.f7.resultTypes.toList).any (Tryz.prog.wideKeysFrom ·))) = true := by kernel_rfl
theorem kc18 : (Rows.fnExactStepPowerSpec.vars.all (Tryz.prog.varReadable ·)) = true := by kernel_rfl
theorem kc19 : (Tryz.f7.resultTypes.all (fun t => Tryz.prog.readableRec t && decide (t < Tryz.prog.types.size))) = true := by kernel_rfl
theorem kc20 : ((Rows.fnExactStepPowerRow.ifacesOut == Tryz.f7.resultTypes.toList.any (Tryz.prog.ifacesRec ·))) = true := by kernel_rfl
theorem kc21 : ((Rows.fnExactStepPowerRow.loopsOut == Tryz.f7.resultTypes.toList.any (Tryz.prog.loopsFrom ·))) = true := by kernel_rfl
theorem kc22 : ((Rows.fnExactStepPowerRow.plainKeys == Tryz.prog.plainKeys)) = true := by kernel_rfl
theorem kc23 : (Rows.fnExactStepPowerRow.shortTexts.isNone) = true := by kernel_rfl
theorem kc24 : (Tryz.prog.stopsHeard) = true := by kernel_rfl
theorem kc25 : (Tryz.prog.mayEnter) = true := by kernel_rfl
theorem kc26 : ((Rows.fnExactStepPowerRow.lifted == Tryz.prog.liftsFinal)) = true := by kernel_rfl
theorem kc27 : ((Tryz.prog.make == some Rows.fnExactStepPowerRow.make)) = true := by kernel_rfl
theorem kc29 : ((Rows.fnExactStepPowerRow.pinned == Rows.fnExactStepPowerRow.pinnedBy)) = true := by kernel_rfl
theorem kc30 : ((Rows.fnExactStepPowerRow.veiled == (Tryz.f7.params.toList ++ Rows.fnExactStepPowerSpec.plain.varTypes Tryz.prog ++ Tryz.f7.resultTypes.toList).any (Tryz.prog.veiledRec ·))) = true := by kernel_rfl
theorem kc31 : (Rows.fnExactStepPowerRow.veiledFits Tryz.prog Tryz.f7.params.toList (Tryz.f7.params.toList ++ Rows.fnExactStepPowerSpec.plain.varTypes Tryz.prog ++ Tryz.f7.resultTypes.toList)) = true := by kernel_rfl
theorem closed : joinedFacts Tryz.prog 7 Tryz.f7 Rows.fnExactStepPowerSpec Rows.fnExactStepPowerRow = true := by
  unfold joinedFacts
  with_reducible exact (band (band (band (band (band (band (band (band (band (band (band (band (band (band (band (band (band (band (band (band (band (band (band (band (band (band (band (band (band (band (band kc0 kc1) kc2) kc3) kc4) kc5) kc6) kc7) kc8) kc9) kc10) kc11) kc12) kc13) kc14) kc15) kc16) kc17) kc18) kc19) kc20) kc21) kc22) kc23) kc24) kc25) kc26) kc27) (by kernel_rfl)) kc29) kc30) kc31)
end Go.Proofs.YtjgfhonfmjfabaaGreat
