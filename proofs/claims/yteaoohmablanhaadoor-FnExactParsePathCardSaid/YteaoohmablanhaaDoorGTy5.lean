/- Part of the proof: see the last text of the claim. -/
import Derived.Test.YteaoohmablanhaaDoorFxZC
set_option linter.all false
namespace Go.Sh
open Go.Fx
abbrev W (n : Int) : Int := IntKind.i64.wrap n
abbrev iR : RR := rOne rI
abbrev yR : RR := rOne rY
abbrev bR : RR := rOne rB
abbrev sR : RR := rOne rS
structure Path where
  id : Int
  kind : Int
  src : Int
  dst : Int
  deriving DecidableEq, Inhabited
def pathR : RR := (rCo rI (rCo rI (rCo rI (rOne rI)))).map (fun x => (⟨x.1, x.2.1, x.2.2.1, x.2.2.2⟩ : Path)) (fun s => (s.id, s.kind, s.src, s.dst)) (fun _ => rfl)
structure Part where
  stage : (List Int)
  green : Int
  deriving DecidableEq, Inhabited
def partR (o0 : Own) : RR := (rCo (rX o0 1 iR) (rOne rI)).map (fun x => (⟨x.1, x.2⟩ : Part)) (fun s => (s.stage, s.green)) (fun _ => rfl)
end Go.Sh
