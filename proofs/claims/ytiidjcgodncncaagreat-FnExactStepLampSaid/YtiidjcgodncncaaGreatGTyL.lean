/- Part of the proof: see the last text of the claim. -/
import Derived.Test.YtiidjcgodncncaaGreatFzZC
set_option linter.all false
namespace Go.Sh
open Go.Fx
abbrev W (n : Int) : Int := IntKind.i64.wrap n
abbrev iR : RR := rOne rI
abbrev yR : RR := rOne rY
abbrev bR : RR := rOne rB
abbrev sR : RR := rOne rS
structure Path where
  id : Int
  kind : Int
  src : Int
  dst : Int
  deriving DecidableEq, Inhabited
def pathR : RR := (rCo rI (rCo rI (rCo rI (rOne rI)))).map (fun x => (⟨x.1, x.2.1, x.2.2.1, x.2.2.2⟩ : Path)) (fun s => (s.id, s.kind, s.src, s.dst)) (fun _ => rfl)
structure Control where
  stage : (List Int)
  since : Int
  next : (List Int)
  left : Int
  deriving DecidableEq, Inhabited
def controlR (o0 o1 : Own) : RR := (rCo (rX o0 1 iR) (rCo rI (rCo (rX o1 1 iR) (rOne rI)))).map (fun x => (⟨x.1, x.2.1, x.2.2.1, x.2.2.2⟩ : Control)) (fun s => (s.stage, s.since, s.next, s.left)) (fun _ => rfl)
structure Want where
  path : Int
  wait : Int
  deriving DecidableEq, Inhabited
def wantR : RR := (rCo rI (rOne rI)).map (fun x => (⟨x.1, x.2⟩ : Want)) (fun s => (s.path, s.wait)) (fun _ => rfl)
structure Prio where
  path : Int
  left : Int
  deriving DecidableEq, Inhabited
def prioR : RR := (rCo rI (rOne rI)).map (fun x => (⟨x.1, x.2⟩ : Prio)) (fun s => (s.path, s.left)) (fun _ => rfl)
structure Lamp where
  path : Int
  colour : Int
  broken : Bool
  deriving DecidableEq, Inhabited
def lampR : RR := (rCo rI (rCo rI (rOne rB))).map (fun x => (⟨x.1, x.2.1, x.2.2⟩ : Lamp)) (fun s => (s.path, s.colour, s.broken)) (fun _ => rfl)
structure Note where
  second : Int
  lights : (List Int)
  sig : Int
  deriving DecidableEq, Inhabited
def noteR (o0 : Own) : RR := (rCo rI (rCo (rX o0 1 iR) (rOne rI))).map (fun x => (⟨x.1, x.2.1, x.2.2⟩ : Note)) (fun s => (s.second, s.lights, s.sig)) (fun _ => rfl)
structure Town where
  paths : (List Path)
  control : Control
  wants : (List Want)
  prio : Prio
  lamps : (List Lamp)
  power : Bool
  record : (List Note)
  books : Int
  now : Int
  deriving DecidableEq, Inhabited
def townR (o0 o1 o2 o3 o4 o5 o6 : Own) : RR := (rCo (rX o0 4 pathR) (rAp 4 (controlR o1 o2) (rCo (rX o3 2 wantR) (rAp 2 prioR (rCo (rX o4 3 lampR) (rCo rB (rCo (rX o5 3 (noteR o6)) (rCo rI (rOne rI))))))))).map (fun x => (⟨x.1, x.2.1, x.2.2.1, x.2.2.2.1, x.2.2.2.2.1, x.2.2.2.2.2.1, x.2.2.2.2.2.2.1, x.2.2.2.2.2.2.2.1, x.2.2.2.2.2.2.2.2⟩ : Town)) (fun s => (s.paths, s.control, s.wants, s.prio, s.lamps, s.power, s.record, s.books, s.now)) (fun _ => rfl)
end Go.Sh
