/- Functions of the library, out of the kit's shelf: the place of a byte in a text. -/
import Derived.Test.YthkckbidcpmckaaGreatDoorFzZF
import Derived.Shelf.Small.Strs
set_option linter.all false
namespace Go.Fx
open Go.RowKit Go.Proofs
section
variable {P:Program}
def ZeT (s:ByteArray) (c:Int):Option Int:=some (Lib.indexByte s.data.toList c.toNat.toUInt8)
theorem ZDM {ng:Nat} {G0:Nat->Option Obj} {ρ:Go.Shelf.Ren} {f:Nat} {fn:Func} (L:Lays.n137 P ρ) (hf:ρ.f 137=f) (hfn:P.funcs[f]? =some fn) (hname:(fn.name== "runtime.NumGoroutine")=false) (hb:fn.body.isSome=true):
  VH P ng G0 f ⟨aV (rCo rS (Zg rY)),qV rI,fun x:ByteArray×Int=>ZeT x.1 x.2⟩:=by
 subst hf;refine Ztr hfn hname hb fun x r hr=> ?_
 cases hr;refine ⟨_,rfl,rfl,fun w Pr γ vs F ha=> ?_⟩;cases ha with
 | @cons _ v1 _ _ vs1 _ a1 a2=>
 cases a2 with
 | @cons _ v2 _ _ vs2 _ b1 b2=>
 cases b2;cases a1;cases b1;exact (Any.strings_IndexByte L x.1 x.2 w).mono fun e w' he=>⟨he.1,he.2 ▸ Below.refl _ _⟩
end
end Go.Fx
