/- Part of the proof: see the last text of the claim. -/
import Derived.Test.YtjgfhonfmjfabaaGreatRows
import Derived.KernelRfl
import Derived.ProofKit
set_option linter.all false
namespace Go.Proofs.YtjgfhonfmjfabaaGreat
open Go.ChangeShapes Go.WideShapes Go.ChangeAt Go.RowKit
set_option maxRecDepth 100000
theorem band {a b : Bool} (h : a = true) (h2 : b = true) : (a && b) = true := by rw [h, h2]; rfl
theorem kc0 : (Rows.fnExactStepSecondsRow.wf (OpenSpec.ofChange Rows.fnExactStepSecondsSpec)) = true := by kernel_rfl
theorem kc1 : (laidOutB Tryz.prog) = true := by kernel_rfl
theorem kc2 : (mapsRowed Tryz.prog) = true := by kernel_rfl
theorem kc3 : (Tryz.f11.params.all (Tryz.prog.readableRec ·)) = true := by kernel_rfl
theorem kc4 : (namedTie Tryz.prog Rows.fnExactStepSecondsRow.named Rows.fnExactStepSecondsSpec.vars) = true := by kernel_rfl
theorem kc5 : ((Rows.fnExactStepSecondsRow.stops == [])) = true := by kernel_rfl
theorem kc6 : ((Tryz.prog.stops == [])) = true := by kernel_rfl
theorem kc7 : ((Rows.fnExactStepSecondsRow.knobs == [])) = true := by kernel_rfl
theorem kc8 : ((Tryz.prog.stopKnobs == [])) = true := by kernel_rfl
theorem kc9 : ((Rows.fnExactStepSecondsRow.inPlace == Tryz.prog.inPlace 11)) = true := by kernel_rfl
theorem kc10 : ((Rows.fnExactStepSecondsRow.unfollowed == Tryz.prog.unfollowed 11)) = true := by kernel_rfl
theorem kc11 : ((Rows.fnExactStepSecondsRow.recurses == Tryz.prog.recurses 11)) = true := by kernel_rfl
theorem kc12 : ((Rows.fnExactStepSecondsRow.named == Tryz.prog.varsNamed 11)) = true := by kernel_rfl
theorem kc13 : ((Rows.fnExactStepSecondsRow.maps == (Tryz.f11.params.toList ++ Rows.fnExactStepSecondsSpec.plain.varTypes Tryz.prog).any (Tryz.prog.mapsRec ·))) = true := by kernel_rfl
theorem kc14 : ((Rows.fnExactStepSecondsRow.ifaces == (Tryz.f11.params.toList ++ Rows.fnExactStepSecondsSpec.plain.varTypes Tryz.prog).any (Tryz.prog.ifacesRec ·))) = true := by kernel_rfl
theorem kc15 : ((Rows.fnExactStepSecondsRow.mapsOut == Tryz.prog.mapsAmong Tryz.f11.resultTypes.toList)) = true := by kernel_rfl
theorem kc16 : ((Rows.fnExactStepSecondsRow.loops == (Tryz.f11.params.toList ++ Rows.fnExactStepSecondsSpec.plain.varTypes Tryz.prog).any (Tryz.prog.loopsFrom ·))) = true := by kernel_rfl
theorem kc17 : ((Rows.fnExactStepSecondsRow.wideKeys == (Tryz.f11.params.toList ++ Rows.fnExactStepSecondsSpec.plain.varTypes Tryz.prog ++ Tryz.f11.resultTypes.toList).any (Tryz.prog.wideKeysFrom ·))) = true := by kernel_rfl
theorem kc18 : (Rows.fnExactStepSecondsSpec.vars.all (Tryz.prog.varReadable ·)) = true := by kernel_rfl
theorem kc19 : (Tryz.f11.resultTypes.all (fun t => Tryz.prog.readableRec t && decide (t < Tryz.prog.types.size))) = true := by kernel_rfl
theorem kc20 : ((Rows.fnExactStepSecondsRow.ifacesOut == Tryz.f11.resultTypes.toList.any (Tryz.prog.ifacesRec ·))) = true := by kernel_rfl
theorem kc21 : ((Rows.fnExactStepSecondsRow.loopsOut == Tryz.f11.resultTypes.toList.any (Tryz.prog.loopsFrom ·))) = true := by kernel_rfl
theorem kc22 : ((Rows.fnExactStepSecondsRow.plainKeys == Tryz.prog.plainKeys)) = true := by kernel_rfl
theorem kc23 : (Rows.fnExactStepSecondsRow.shortTexts.isNone) = true := by kernel_rfl
theorem kc24 : (Tryz.prog.stopsHeard) = true := by kernel_rfl
theorem kc25 : (Tryz.prog.mayEnter) = true := by kernel_rfl
theorem kc26 : ((Rows.fnExactStepSecondsRow.lifted == Tryz.prog.liftsFinal)) = true := by kernel_rfl
theorem kc27 : ((Tryz.prog.make == some Rows.fnExactStepSecondsRow.make)) = true := by kernel_rfl
theorem kc29 : ((Rows.fnExactStepSecondsRow.pinned == Rows.fnExactStepSecondsRow.pinnedBy)) = true := by kernel_rfl
theorem kc30 : ((Rows.fnExactStepSecondsRow.veiled == (Tryz.f11.params.toList ++ Rows.fnExactStepSecondsSpec.plain.varTypes Tryz.prog ++ Tryz.f11.resultTypes.toList).any (Tryz.prog.veiledRec ·))) = true := by kernel_rfl
theorem kc31 : (Rows.fnExactStepSecondsRow.veiledFits Tryz.prog Tryz.f11.params.toList (Tryz.f11.params.toList ++ Rows.fnExactStepSecondsSpec.plain.varTypes Tryz.prog ++ Tryz.f11.resultTypes.toList)) = true := by kernel_rfl
theorem closed : joinedFacts Tryz.prog 11 Tryz.f11 Rows.fnExactStepSecondsSpec Rows.fnExactStepSecondsRow = true := by
  unfold joinedFacts
  with_reducible exact (band (band (band (band (band (band (band (band (band (band (band (band (band (band (band (band (band (band (band (band (band (band (band (band (band (band (band (band (band (band (band kc0 kc1) kc2) kc3) kc4) kc5) kc6) kc7) kc8) kc9) kc10) kc11) kc12) kc13) kc14) kc15) kc16) kc17) kc18) kc19) kc20) kc21) kc22) kc23) kc24) kc25) kc26) kc27) (by kernel_rfl)) kc29) kc30) kc31)
end Go.Proofs.YtjgfhonfmjfabaaGreat
