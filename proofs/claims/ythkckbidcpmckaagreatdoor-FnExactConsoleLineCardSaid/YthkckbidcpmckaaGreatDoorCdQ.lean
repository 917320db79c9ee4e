/- Part of the proof: see the last text of the claim. -/
import Derived.Test.YthkckbidcpmckaaGreatDoorCards
import Derived.KernelRfl
import Derived.Test.YthkckbidcpmckaaGreatDoorFzA0
set_option linter.all false
namespace Go.Proofs.YthkckbidcpmckaaGreatDoor
open Go.Fx
theorem ZMu {P:Program} (h:P.funcs.toList.any Func.goes=false) (f:FuncId):P.goes f=false:=by
 have h1:∀g:Nat,(P.funcs[g]?).any Func.goes=false:=fun g=>by
  cases hg:P.funcs[g]? with
  |none=>rfl
  |some fn=>
   rw [←Mo] at hg;have:=List.any_eq_false.1 h fn (Uk hg);simpa using this
 have h2:P.funcs.any Func.goes=false:=by rw [←Array.any_toList];exact h
 unfold Program.goes;simp [h1,h2]
theorem ZMv:false=Rows.fnExactConsoleLineRow.goesBy Tryz.prog:=by
 have h:=ZMu (P:=Tryz.prog) (by kernel_rfl);unfold OpenClaim.goesBy Program.goesAt Program.goesFrom;cases Tryz.prog.funcNamed Rows.fnExactConsoleLineRow.func <;> cases Rows.fnExactConsoleLineRow.start <;> simp [h]
theorem ZMw:false=Tryz.prog.looks []:=by kernel_rfl
end Go.Proofs.YthkckbidcpmckaaGreatDoor
