/- Code: what the evaluator says of it, the machine does. -/
import Derived.Test.YthkckbidcpmckaaGreatDoorFzC
import Derived.Control
set_option linter.all false
namespace Go.Fx
def ZAG:Ex->Exit
 | .nrm=> .normal
 | .ex i=> .exit i
 | .ret=> .ret
def ZP (a:Act):Nat->Value:=fun t=>a.tmps.getD t undef
def Sz (GE:Glob) (nt:Nat) (a:Act):Prop:=nt<=a.tmps.size/\∀v,GE.v0=some v->ZP a 0=v
def At (GE:Glob) (D:Nat->Prop) (Pr0:Nat->Nat->Prop) (w0:World) (nt:Nat) (s:St) (a:Act) (w:World):Prop:=
 ∃ow Pr B γ,Inv GE D Pr0 w0 s (ZP a) w ow Pr B γ/\a.defers= []/\Sz GE nt a
theorem mapM_some_get {α β:Type} {f:α->Option β}:∀{l:List α} {r:List β},l.mapM f=some r->∀i:Nat,l[i]?.bind f=r[i]?
 | [],r,h,i=>by
  simp at h;subst h;simp
 |x::l,r,h,i=>by
  rw [MU] at h;cases hx:f x with
  |none=>simp [hx] at h
  |some y=>
   cases hl:l.mapM f with
   |none=>simp [hx,hl] at h
   |some ys=>
    simp [hx,hl] at h;subst h;cases i with
    |zero=>simpa using hx
    |succ i=>simpa using mapM_some_get hl i
theorem mapM_some_length {α β:Type} {f:α->Option β}:∀{l:List α} {r:List β},l.mapM f=some r->r.length=l.length
 | [],r,h=>by
  simp at h;subst h;rfl
 |x::l,r,h=>by
  rw [MU] at h;cases hx:f x with
  |none=>simp [hx] at h
  |some y=>
   cases hl:l.mapM f with
   |none=>simp [hx,hl] at h
   |some ys=>
    simp [hx,hl] at h;subst h;simp [mapM_some_length hl]
end Go.Fx
