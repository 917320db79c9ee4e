/- Part of the proof: see the last text of the claim. -/
import Derived.Test.YtdeoffkhnkdhmaaFxZC
set_option linter.all false
namespace Go.Sh
open Go.Fx
abbrev W (n : Int) : Int := IntKind.i64.wrap n
abbrev iR : RR := rOne rI
abbrev yR : RR := rOne rY
abbrev bR : RR := rOne rB
abbrev sR : RR := rOne rS
structure Report where
  path : Int
  second : Int
  light : Int
  since : Int
  other : Int
  deriving DecidableEq, Inhabited
def reportR : RR := (rCo rI (rCo rI (rCo rI (rCo rI (rOne rI))))).map (fun x => (⟨x.1, x.2.1, x.2.2.1, x.2.2.2.1, x.2.2.2.2⟩ : Report)) (fun s => (s.path, s.second, s.light, s.since, s.other)) (fun _ => rfl)
structure Want where
  path : Int
  wait : Int
  deriving DecidableEq, Inhabited
def wantR : RR := (rCo rI (rOne rI)).map (fun x => (⟨x.1, x.2⟩ : Want)) (fun s => (s.path, s.wait)) (fun _ => rfl)
structure Lamp where
  path : Int
  colour : Int
  broken : Bool
  deriving DecidableEq, Inhabited
def lampR : RR := (rCo rI (rCo rI (rOne rB))).map (fun x => (⟨x.1, x.2.1, x.2.2⟩ : Lamp)) (fun s => (s.path, s.colour, s.broken)) (fun _ => rfl)
structure Evt where
  kind : Int
  path : Int
  n : Int
  on : Bool
  deriving DecidableEq, Inhabited
def evtR : RR := (rCo rI (rCo rI (rCo rI (rOne rB)))).map (fun x => (⟨x.1, x.2.1, x.2.2.1, x.2.2.2⟩ : Evt)) (fun s => (s.kind, s.path, s.n, s.on)) (fun _ => rfl)
structure Path where
  id : Int
  kind : Int
  src : Int
  dst : Int
  deriving DecidableEq, Inhabited
def pathR : RR := (rCo rI (rCo rI (rCo rI (rOne rI)))).map (fun x => (⟨x.1, x.2.1, x.2.2.1, x.2.2.2⟩ : Path)) (fun s => (s.id, s.kind, s.src, s.dst)) (fun _ => rfl)
structure Note where
  second : Int
  lights : (List Int)
  sig : Int
  deriving DecidableEq, Inhabited
def noteR (o0 : Own) : RR := (rCo rI (rCo (rX o0 1 iR) (rOne rI))).map (fun x => (⟨x.1, x.2.1, x.2.2⟩ : Note)) (fun s => (s.second, s.lights, s.sig)) (fun _ => rfl)
end Go.Sh
