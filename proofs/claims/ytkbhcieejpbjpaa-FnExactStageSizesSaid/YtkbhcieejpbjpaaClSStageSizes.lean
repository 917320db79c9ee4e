/- Part of the proof: see the last text of the claim. -/
import Derived.Test.YtkbhcieejpbjpaaRows
import Derived.KernelRfl
import Derived.ProofKit
set_option linter.all false
namespace Go.Proofs.Ytkbhcieejpbjpaa
open Go.ChangeShapes Go.WideShapes Go.ChangeAt Go.RowKit
set_option maxRecDepth 100000
theorem band {a b : Bool} (h : a = true) (h2 : b = true) : (a && b) = true := by rw [h, h2]; rfl
theorem kc0 : (Rows.fnExactStageSizesRow.wf (OpenSpec.ofChange Rows.fnExactStageSizesSpec)) = true := by kernel_rfl
theorem kc1 : (laidOutB Try.prog) = true := by kernel_rfl
theorem kc2 : (mapsRowed Try.prog) = true := by kernel_rfl
theorem kc3 : (Try.f3.params.all (Try.prog.readableRec ·)) = true := by kernel_rfl
theorem kc4 : (namedTie Try.prog Rows.fnExactStageSizesRow.named Rows.fnExactStageSizesSpec.vars) = true := by kernel_rfl
theorem kc5 : ((Rows.fnExactStageSizesRow.stops == [])) = true := by kernel_rfl
theorem kc6 : ((Try.prog.stops == [])) = true := by kernel_rfl
theorem kc7 : ((Rows.fnExactStageSizesRow.knobs == [])) = true := by kernel_rfl
theorem kc8 : ((Try.prog.stopKnobs == [])) = true := by kernel_rfl
theorem kc9 : ((Rows.fnExactStageSizesRow.inPlace == Try.prog.inPlace 3)) = true := by kernel_rfl
theorem kc10 : ((Rows.fnExactStageSizesRow.unfollowed == Try.prog.unfollowed 3)) = true := by kernel_rfl
theorem kc11 : ((Rows.fnExactStageSizesRow.recurses == Try.prog.recurses 3)) = true := by kernel_rfl
theorem kc12 : ((Rows.fnExactStageSizesRow.named == Try.prog.varsNamed 3)) = true := by kernel_rfl
theorem kc13 : ((Rows.fnExactStageSizesRow.maps == (Try.f3.params.toList ++ Rows.fnExactStageSizesSpec.plain.varTypes Try.prog).any (Try.prog.mapsRec ·))) = true := by kernel_rfl
theorem kc14 : ((Rows.fnExactStageSizesRow.ifaces == (Try.f3.params.toList ++ Rows.fnExactStageSizesSpec.plain.varTypes Try.prog).any (Try.prog.ifacesRec ·))) = true := by kernel_rfl
theorem kc15 : ((Rows.fnExactStageSizesRow.mapsOut == Try.prog.mapsAmong Try.f3.resultTypes.toList)) = true := by kernel_rfl
theorem kc16 : ((Rows.fnExactStageSizesRow.loops == (Try.f3.params.toList ++ Rows.fnExactStageSizesSpec.plain.varTypes Try.prog).any (Try.prog.loopsFrom ·))) = true := by kernel_rfl
theorem kc17 : ((Rows.fnExactStageSizesRow.wideKeys == (Try.f3.params.toList ++ Rows.fnExactStageSizesSpec.plain.varTypes Try.prog ++ Try.f3.resultTypes.toList).any (Try.prog.wideKeysFrom ·))) = true := by kernel_rfl
theorem kc18 : (Rows.fnExactStageSizesSpec.vars.all (Try.prog.varReadable ·)) = true := by kernel_rfl
theorem kc19 : (Try.f3.resultTypes.all (fun t => Try.prog.readableRec t && decide (t < Try.prog.types.size))) = true := by kernel_rfl
theorem kc20 : ((Rows.fnExactStageSizesRow.ifacesOut == Try.f3.resultTypes.toList.any (Try.prog.ifacesRec ·))) = true := by kernel_rfl
theorem kc21 : ((Rows.fnExactStageSizesRow.loopsOut == Try.f3.resultTypes.toList.any (Try.prog.loopsFrom ·))) = true := by kernel_rfl
theorem kc22 : ((Rows.fnExactStageSizesRow.plainKeys == Try.prog.plainKeys)) = true := by kernel_rfl
theorem kc23 : (Rows.fnExactStageSizesRow.shortTexts.isNone) = true := by kernel_rfl
theorem kc24 : (Try.prog.stopsHeard) = true := by kernel_rfl
theorem kc25 : (Try.prog.mayEnter) = true := by kernel_rfl
theorem kc26 : ((Rows.fnExactStageSizesRow.lifted == Try.prog.liftsFinal)) = true := by kernel_rfl
theorem kc27 : ((Try.prog.make == some Rows.fnExactStageSizesRow.make)) = true := by kernel_rfl
theorem kc29 : ((Rows.fnExactStageSizesRow.pinned == Rows.fnExactStageSizesRow.pinnedBy)) = true := by kernel_rfl
theorem kc30 : ((Rows.fnExactStageSizesRow.veiled == (Try.f3.params.toList ++ Rows.fnExactStageSizesSpec.plain.varTypes Try.prog ++ Try.f3.resultTypes.toList).any (Try.prog.veiledRec ·))) = true := by kernel_rfl
theorem kc31 : (Rows.fnExactStageSizesRow.veiledFits Try.prog Try.f3.params.toList (Try.f3.params.toList ++ Rows.fnExactStageSizesSpec.plain.varTypes Try.prog ++ Try.f3.resultTypes.toList)) = true := by kernel_rfl
theorem closed : joinedFacts Try.prog 3 Try.f3 Rows.fnExactStageSizesSpec Rows.fnExactStageSizesRow = true := by
  unfold joinedFacts
  with_reducible exact (band (band (band (band (band (band (band (band (band (band (band (band (band (band (band (band (band (band (band (band (band (band (band (band (band (band (band (band (band (band (band kc0 kc1) kc2) kc3) kc4) kc5) kc6) kc7) kc8) kc9) kc10) kc11) kc12) kc13) kc14) kc15) kc16) kc17) kc18) kc19) kc20) kc21) kc22) kc23) kc24) kc25) kc26) kc27) (by kernel_rfl)) kc29) kc30) kc31)
end Go.Proofs.Ytkbhcieejpbjpaa
