/- Part of the proof: see the last text of the claim. -/
import Derived.Test.YthkckbidcpmckaaGreatDoorCards
import Derived.KernelRfl
set_option linter.all false
namespace Go.Proofs.YthkckbidcpmckaaGreatDoor
theorem ZMu:false=Rows.fnExactConsoleLineRow.goesBy Tryz.prog:=by kernel_rfl
theorem ZMv:false=Tryz.prog.looks []:=by kernel_rfl
end Go.Proofs.YthkckbidcpmckaaGreatDoor
