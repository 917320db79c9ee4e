/- Part of the proof: see the last text of the claim. -/
import Derived.Test.YtjojcbmkcnkjoaaGreatDoorFzZC
set_option linter.all false
namespace Go.Sh
open Go.Fx
abbrev W (n : Int) : Int := IntKind.i64.wrap n
abbrev iR : RR := rOne rI
abbrev yR : RR := rOne rY
abbrev bR : RR := rOne rB
abbrev sR : RR := rOne rS
structure Part where
  stage : (List Int)
  green : Int
  deriving DecidableEq, Inhabited
def partR (o0 : Own) : RR := (rCo (rX o0 1 iR) (rOne rI)).map (fun x => (⟨x.1, x.2⟩ : Part)) (fun s => (s.stage, s.green)) (fun _ => rfl)
structure Report where
  path : Int
  second : Int
  light : Int
  since : Int
  other : Int
  deriving DecidableEq, Inhabited
def reportR : RR := (rCo rI (rCo rI (rCo rI (rCo rI (rOne rI))))).map (fun x => (⟨x.1, x.2.1, x.2.2.1, x.2.2.2.1, x.2.2.2.2⟩ : Report)) (fun s => (s.path, s.second, s.light, s.since, s.other)) (fun _ => rfl)
structure Path where
  id : Int
  kind : Int
  src : Int
  dst : Int
  deriving DecidableEq, Inhabited
def pathR : RR := (rCo rI (rCo rI (rCo rI (rOne rI)))).map (fun x => (⟨x.1, x.2.1, x.2.2.1, x.2.2.2⟩ : Path)) (fun s => (s.id, s.kind, s.src, s.dst)) (fun _ => rfl)
structure Control where
  stage : (List Int)
  since : Int
  next : (List Int)
  left : Int
  deriving DecidableEq, Inhabited
def controlR (o0 o1 : Own) : RR := (rCo (rX o0 1 iR) (rCo rI (rCo (rX o1 1 iR) (rOne rI)))).map (fun x => (⟨x.1, x.2.1, x.2.2.1, x.2.2.2⟩ : Control)) (fun s => (s.stage, s.since, s.next, s.left)) (fun _ => rfl)
structure Want where
  path : Int
  wait : Int
  deriving DecidableEq, Inhabited
def wantR : RR := (rCo rI (rOne rI)).map (fun x => (⟨x.1, x.2⟩ : Want)) (fun s => (s.path, s.wait)) (fun _ => rfl)
structure Prio where
  path : Int
  left : Int
  deriving DecidableEq, Inhabited
def prioR : RR := (rCo rI (rOne rI)).map (fun x => (⟨x.1, x.2⟩ : Prio)) (fun s => (s.path, s.left)) (fun _ => rfl)
structure Lamp where
  path : Int
  colour : Int
  broken : Bool
  deriving DecidableEq, Inhabited
def lampR : RR := (rCo rI (rCo rI (rOne rB))).map (fun x => (⟨x.1, x.2.1, x.2.2⟩ : Lamp)) (fun s => (s.path, s.colour, s.broken)) (fun _ => rfl)
structure Note where
  second : Int
  lights : (List Int)
  sig : Int
  deriving DecidableEq, Inhabited
def noteR (o0 : Own) : RR := (rCo rI (rCo (rX o0 1 iR) (rOne rI))).map (fun x => (⟨x.1, x.2.1, x.2.2⟩ : Note)) (fun s => (s.second, s.lights, s.sig)) (fun _ => rfl)
structure Town where
  paths : (List Path)
  control : Control
  wants : (List Want)
  prio : Prio
  lamps : (List Lamp)
  power : Bool
  record : (List Note)
  books : Int
  now : Int
  deriving DecidableEq, Inhabited
def townR (o0 o1 o2 o3 o4 o5 o6 : Own) : RR := (rCo (rX o0 4 pathR) (rAp 4 (controlR o1 o2) (rCo (rX o3 2 wantR) (rAp 2 prioR (rCo (rX o4 3 lampR) (rCo rB (rCo (rX o5 3 (noteR o6)) (rCo rI (rOne rI))))))))).map (fun x => (⟨x.1, x.2.1, x.2.2.1, x.2.2.2.1, x.2.2.2.2.1, x.2.2.2.2.2.1, x.2.2.2.2.2.2.1, x.2.2.2.2.2.2.2.1, x.2.2.2.2.2.2.2.2⟩ : Town)) (fun s => (s.paths, s.control, s.wants, s.prio, s.lamps, s.power, s.record, s.books, s.now)) (fun _ => rfl)
structure L1Cur where
  b : (List Int)
  i : Int
  h : Int
  deriving DecidableEq, Inhabited
def l1CurR (o0 : Own) : RR := (rCo (rX o0 1 yR) (rCo rI (rOne rI))).map (fun x => (⟨x.1, x.2.1, x.2.2⟩ : L1Cur)) (fun s => (s.b, s.i, s.h)) (fun _ => rfl)
noncomputable section
def b2 {β : Type} (x : Option β) : Option β := bothK x x
def b3 {β : Type} (x : Option β) : Option β := bothK x (b2 x)
def b4 {β : Type} (x : Option β) : Option β := bothK x (b3 x)
def b5 {β : Type} (x : Option β) : Option β := bothK x (b4 x)
def b6 {β : Type} (x : Option β) : Option β := bothK x (b5 x)
def b7 {β : Type} (x : Option β) : Option β := bothK x (b6 x)
def b8 {β : Type} (x : Option β) : Option β := bothK x (b7 x)
abbrev r_i {β : Type} (l : List Int) (K : List Int → Option β) : Option β := rws iR (l.map iR.enc) K
abbrev g_i {β : Type} (l : List Int) (i : Int) (K : Int → Option β) : Option β := geti iR (l.map iR.enc) i K
abbrev n_i {β : Type} (l : List Int) (i : Nat) (K : Int → Option β) : Option β := getn iR (l.map iR.enc) i K
abbrev r_y {β : Type} (l : List Int) (K : List Int → Option β) : Option β := rws yR (l.map yR.enc) K
abbrev g_y {β : Type} (l : List Int) (i : Int) (K : Int → Option β) : Option β := geti yR (l.map yR.enc) i K
abbrev r_s {β : Type} (l : List ByteArray) (K : List ByteArray → Option β) : Option β := rws sR (l.map sR.enc) K
abbrev r_part {β : Type} (o p : Own) (l : List Part) (K : List Part → Option β) : Option β := rws (partR o) (l.map (partR p).enc) K
abbrev g_part {β : Type} (o p : Own) (l : List Part) (i : Int) (K : Part → Option β) : Option β := geti (partR o) (l.map (partR p).enc) i K
abbrev n_part {β : Type} (o p : Own) (l : List Part) (i : Nat) (K : Part → Option β) : Option β := getn (partR o) (l.map (partR p).enc) i K
abbrev r_path {β : Type} (l : List Path) (K : List Path → Option β) : Option β := rws pathR (l.map pathR.enc) K
abbrev g_path {β : Type} (l : List Path) (i : Int) (K : Path → Option β) : Option β := geti pathR (l.map pathR.enc) i K
abbrev n_path {β : Type} (l : List Path) (i : Nat) (K : Path → Option β) : Option β := getn pathR (l.map pathR.enc) i K
abbrev r_want {β : Type} (l : List Want) (K : List Want → Option β) : Option β := rws wantR (l.map wantR.enc) K
abbrev g_want {β : Type} (l : List Want) (i : Int) (K : Want → Option β) : Option β := geti wantR (l.map wantR.enc) i K
abbrev r_lamp {β : Type} (l : List Lamp) (K : List Lamp → Option β) : Option β := rws lampR (l.map lampR.enc) K
abbrev g_lamp {β : Type} (l : List Lamp) (i : Int) (K : Lamp → Option β) : Option β := geti lampR (l.map lampR.enc) i K
abbrev r_note {β : Type} (o p : Own) (l : List Note) (K : List Note → Option β) : Option β := rws (noteR o) (l.map (noteR p).enc) K
abbrev g_note {β : Type} (o p : Own) (l : List Note) (i : Int) (K : Note → Option β) : Option β := geti (noteR o) (l.map (noteR p).enc) i K
abbrev n_note {β : Type} (o p : Own) (l : List Note) (i : Nat) (K : Note → Option β) : Option β := getn (noteR o) (l.map (noteR p).enc) i K
def rC {β : Type} (x : Control) (K : Control → Option β) : Option β := rws iR (x.stage.map iR.enc) fun a => rws iR (x.next.map iR.enc) fun b => K ⟨a, x.since, b, x.left⟩
def rT {β : Type} (o p : Own) (x : Town) (K : Town → Option β) : Option β := rws pathR (x.paths.map pathR.enc) fun a => rws iR (x.control.stage.map iR.enc) fun b => rws iR (x.control.next.map iR.enc) fun c => rws wantR (x.wants.map wantR.enc) fun d => rws lampR (x.lamps.map lampR.enc) fun e => rws (noteR o) (x.record.map (noteR p).enc) fun f => K ⟨a, ⟨b, x.control.since, c, x.control.left⟩, d, x.prio, e, x.power, f, x.books, x.now⟩
end
end Go.Sh
