/- Part of the proof: see the last text of the claim. -/
import Derived.Test.YtjgfhonfmjfabaaGreatRows
import Derived.KernelRfl
import Derived.ProofKit
set_option linter.all false
namespace Go.Proofs.YtjgfhonfmjfabaaGreat
open Go.ChangeShapes Go.WideShapes Go.ChangeAt Go.RowKit
set_option maxRecDepth 100000
theorem band {a b : Bool} (h : a = true) (h2 : b = true) : (a && b) = true := by rw [h, h2]; rfl
theorem kc0 : (Rows.fnExactReportAllRow.wf (OpenSpec.ofChange Rows.fnExactReportAllSpec)) = true := by kernel_rfl
theorem kc1 : (laidOutB Tryz.prog) = true := by kernel_rfl
theorem kc2 : (mapsRowed Tryz.prog) = true := by kernel_rfl
theorem kc3 : (Tryz.f4.params.all (Tryz.prog.readableRec ·)) = true := by kernel_rfl
theorem kc4 : (namedTie Tryz.prog Rows.fnExactReportAllRow.named Rows.fnExactReportAllSpec.vars) = true := by kernel_rfl
theorem kc5 : ((Rows.fnExactReportAllRow.stops == [])) = true := by kernel_rfl
theorem kc6 : ((Tryz.prog.stops == [])) = true := by kernel_rfl
theorem kc7 : ((Rows.fnExactReportAllRow.knobs == [])) = true := by kernel_rfl
theorem kc8 : ((Tryz.prog.stopKnobs == [])) = true := by kernel_rfl
theorem kc9 : ((Rows.fnExactReportAllRow.inPlace == Tryz.prog.inPlace 4)) = true := by kernel_rfl
theorem kc10 : ((Rows.fnExactReportAllRow.unfollowed == Tryz.prog.unfollowed 4)) = true := by kernel_rfl
theorem kc11 : ((Rows.fnExactReportAllRow.recurses == Tryz.prog.recurses 4)) = true := by kernel_rfl
theorem kc12 : ((Rows.fnExactReportAllRow.named == Tryz.prog.varsNamed 4)) = true := by kernel_rfl
theorem kc13 : ((Rows.fnExactReportAllRow.maps == (Tryz.f4.params.toList ++ Rows.fnExactReportAllSpec.plain.varTypes Tryz.prog).any (Tryz.prog.mapsRec ·))) = true := by kernel_rfl
theorem kc14 : ((Rows.fnExactReportAllRow.ifaces == (Tryz.f4.params.toList ++ Rows.fnExactReportAllSpec.plain.varTypes Tryz.prog).any (Tryz.prog.ifacesRec ·))) = true := by kernel_rfl
theorem kc15 : ((Rows.fnExactReportAllRow.mapsOut == Tryz.prog.mapsAmong Tryz.f4.resultTypes.toList)) = true := by kernel_rfl
theorem kc16 : ((Rows.fnExactReportAllRow.loops == (Tryz.f4.params.toList ++ Rows.fnExactReportAllSpec.plain.varTypes Tryz.prog).any (Tryz.prog.loopsFrom ·))) = true := by kernel_rfl
theorem kc17 : ((Rows.fnExactReportAllRow.wideKeys == (Tryz.f4.params.toList ++ Rows.fnExactReportAllSpec.plain.varTypes Tryz.prog ++ Tryz.f4.resultTypes.toList).any (Tryz.prog.wideKeysFrom ·))) = true := by kernel_rfl
theorem kc18 : (Rows.fnExactReportAllSpec.vars.all (Tryz.prog.varReadable ·)) = true := by kernel_rfl
theorem kc19 : (Tryz.f4.resultTypes.all (fun t => Tryz.prog.readableRec t && decide (t < Tryz.prog.types.size))) = true := by kernel_rfl
theorem kc20 : ((Rows.fnExactReportAllRow.ifacesOut == Tryz.f4.resultTypes.toList.any (Tryz.prog.ifacesRec ·))) = true := by kernel_rfl
theorem kc21 : ((Rows.fnExactReportAllRow.loopsOut == Tryz.f4.resultTypes.toList.any (Tryz.prog.loopsFrom ·))) = true := by kernel_rfl
theorem kc22 : ((Rows.fnExactReportAllRow.plainKeys == Tryz.prog.plainKeys)) = true := by kernel_rfl
theorem kc23 : (Rows.fnExactReportAllRow.shortTexts.isNone) = true := by kernel_rfl
theorem kc24 : (Tryz.prog.stopsHeard) = true := by kernel_rfl
theorem kc25 : (Tryz.prog.mayEnter) = true := by kernel_rfl
theorem kc26 : ((Rows.fnExactReportAllRow.lifted == Tryz.prog.liftsFinal)) = true := by kernel_rfl
theorem kc27 : ((Tryz.prog.make == some Rows.fnExactReportAllRow.make)) = true := by kernel_rfl
theorem kc29 : ((Rows.fnExactReportAllRow.pinned == Rows.fnExactReportAllRow.pinnedBy)) = true := by kernel_rfl
theorem kc30 : ((Rows.fnExactReportAllRow.veiled == (Tryz.f4.params.toList ++ Rows.fnExactReportAllSpec.plain.varTypes Tryz.prog ++ Tryz.f4.resultTypes.toList).any (Tryz.prog.veiledRec ·))) = true := by kernel_rfl
theorem kc31 : (Rows.fnExactReportAllRow.veiledFits Tryz.prog Tryz.f4.params.toList (Tryz.f4.params.toList ++ Rows.fnExactReportAllSpec.plain.varTypes Tryz.prog ++ Tryz.f4.resultTypes.toList)) = true := by kernel_rfl
theorem closed : joinedFacts Tryz.prog 4 Tryz.f4 Rows.fnExactReportAllSpec Rows.fnExactReportAllRow = true := by
  unfold joinedFacts
  with_reducible exact (band (band (band (band (band (band (band (band (band (band (band (band (band (band (band (band (band (band (band (band (band (band (band (band (band (band (band (band (band (band (band kc0 kc1) kc2) kc3) kc4) kc5) kc6) kc7) kc8) kc9) kc10) kc11) kc12) kc13) kc14) kc15) kc16) kc17) kc18) kc19) kc20) kc21) kc22) kc23) kc24) kc25) kc26) kc27) (by kernel_rfl)) kc29) kc30) kc31)
end Go.Proofs.YtjgfhonfmjfabaaGreat
