/- Part of the proof: see the last text of the claim. -/
import Derived.Test.YtkbhcieejpbjpaaFzZC
import Derived.Test.YtkbhcieejpbjpaaFzZK0
set_option linter.all false
namespace Go.Sh
open Go.Fx
abbrev W (n : Int) : Int := IntKind.i64.wrap n
abbrev iR : RR := rOne rI
abbrev yR : RR := rOne rY
abbrev bR : RR := rOne rB
abbrev sR : RR := rOne rS
structure Path where
  id : Int
  kind : Int
  src : Int
  dst : Int
  deriving DecidableEq, Inhabited
def pathR : RR := (rCo rI (rCo rI (rCo rI (rOne rI)))).map (fun x => (⟨x.1, x.2.1, x.2.2.1, x.2.2.2⟩ : Path)) (fun s => (s.id, s.kind, s.src, s.dst)) (fun _ => rfl)
noncomputable section
def b2 {β : Type} (x : Option β) : Option β := bothK x x
def b3 {β : Type} (x : Option β) : Option β := bothK x (b2 x)
def b4 {β : Type} (x : Option β) : Option β := bothK x (b3 x)
def b5 {β : Type} (x : Option β) : Option β := bothK x (b4 x)
def b6 {β : Type} (x : Option β) : Option β := bothK x (b5 x)
def b7 {β : Type} (x : Option β) : Option β := bothK x (b6 x)
def b8 {β : Type} (x : Option β) : Option β := bothK x (b7 x)
abbrev r_i {β : Type} (l : List Int) (K : List Int → Option β) : Option β := rws iR (l.map iR.enc) K
abbrev g_i {β : Type} (l : List Int) (i : Int) (K : Int → Option β) : Option β := geti iR (l.map iR.enc) i K
abbrev n_i {β : Type} (l : List Int) (i : Nat) (K : Int → Option β) : Option β := getn iR (l.map iR.enc) i K
abbrev r_path {β : Type} (l : List Path) (K : List Path → Option β) : Option β := rws pathR (l.map pathR.enc) K
abbrev g_path {β : Type} (l : List Path) (i : Int) (K : Path → Option β) : Option β := geti pathR (l.map pathR.enc) i K
abbrev n_path {β : Type} (l : List Path) (i : Nat) (K : Path → Option β) : Option β := getn pathR (l.map pathR.enc) i K
end
end Go.Sh
