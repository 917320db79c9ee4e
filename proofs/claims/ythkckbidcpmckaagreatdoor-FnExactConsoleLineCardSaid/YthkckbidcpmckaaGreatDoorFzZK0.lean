/- Rows that change places; which of two lists comes first. -/
import Derived.Test.YthkckbidcpmckaaGreatDoorFzZC
set_option linter.all false
namespace Go.Fx
open Go.RowKit
def Zap (x y:Int):Int:=if x < y then -1 else if x > y then 1 else 0
def XZ:List Int->List Int->Int
 | [],[]=>0
 | [],_::_=> -1
 | _::_,[]=>1
 |x::xs,y::ys=>if Zap x y=0 then XZ xs ys else Zap x y
theorem ZsS:∀a b:List Int,XZ a b=if a < b then -1 else if b < a then 1 else 0
 | [],[]=>by simp [XZ]
 | [],y::ys=>by simp [XZ]
 |x::xs,[]=>by simp [XZ]
 |x::xs,y::ys=>by
  simp only [XZ,List.cons_lt_cons_iff];unfold Zap;by_cases h1:x < y
  ·simp [h1]
  ·by_cases h2:y < x
   ·simp [h1,h2,show ¬x=y by omega,show ¬y=x by omega]
   ·have e:x=y:=by omega
    subst e;simp [ZsS xs ys]
theorem ZhL {a b:List Int}:XZ a b < 0↔a < b:=by
 rw [ZsS];by_cases h:a < b
 ·simp [h]
 ·by_cases h2:b < a
  ·simp [h,h2]
  ·simp [h,h2]
def Qx (l:List (List Int)):List (List Int):=l.mergeSort fun a b=>decide (a<=b)
theorem ZhM (l:List (List Int)):(Qx l).Perm l:=List.mergeSort_perm _ _
theorem ZDf (l:List (List Int)):(Qx l).Pairwise (· <= ·):=by
 have:=List.pairwise_mergeSort (le:=fun a b:List Int=>decide (a<=b)) (fun a b c h1 h2=>by
  simp only [UI] at *
  exact List.le_trans h1 h2) (fun a b=>by
  rcases List.le_total a b with h |h
  ·simp [h]
  ·simp [h]) l
 exact this.imp fun h=>by simpa using h
theorem ZsT {l m:List (List Int)} (hp:m.Perm l) (hs:m.Pairwise (· <= ·)):m=Qx l:=
 List.Perm.eq_of_pairwise (le:=(· <= ·)) (fun _ _ _ _ h1 h2=>List.le_antisymm h1 h2) hs (ZDf l) (hp.trans (ZhM l).symm)
def rSo (A:RA):RA where
 τ:=A.τ
 enc x:= .tup [.tup [],A.enc x]
 get a _ K:=match a with | .tup [.tup [],b]=>A.get b K | _=>none
 ok' a _ K r h:=by
  split at h
  ·obtain ⟨x,h1,h2⟩:=A.ok' _ _ _ h;exact ⟨x,Le.tup (.cons (Le.tup .nil) (.cons h1 .nil)),h2⟩
  ·cases h
section
variable {w w':World} {Pr:Nat->Nat->Prop} {γ:List Nat} {base:Nat}
theorem Reps.pts:∀{cs:List AV} {vs:List Value} {F:List Nat},Reps w Pr γ base cs vs F->∃Fs:List (List Nat),Fs.length=cs.length/\vs.length=cs.length/\F=Fs.flatten/\
  ∀(i:Nat) (a:AV) (v:Value) (G:List Nat),cs[i]? =some a->vs[i]? =some v->Fs[i]? =some G->a.one=true/\Rep w Pr γ base a v G
 | _,_,_, .nil=>⟨[],rfl,rfl,rfl,fun i a v G h=>by simp at h⟩
 | _,_,_, .cons (F:=F0) h1 h h'=>by
  obtain ⟨Fs,e1,e2,e3,e4⟩:=Reps.pts h';refine ⟨F0::Fs,by simp [e1],by simp [e2],by simp [e3],fun i a v G ha hv hG=> ?_⟩;cases i with
  |zero=>
   simp only [FB,MN] at ha hv hG;subst ha;subst hv;subst hG;exact ⟨h1,h⟩
  |succ i=>
   simp only [Mq] at ha hv hG;exact e4 i a v G ha hv hG
theorem Reps.join {α:Type} {f:α->AV} {g:α->Value} {k:α->List Nat}:∀{l:List α},(∀x∈l,(f x).one=true/\Rep w Pr γ base (f x) (g x) (k x))->Reps w Pr γ base (l.map f) (l.map g) (l.map k).flatten
 | [],_=> .nil
 |x::l,h=>by
  rw [Mb,Mb,Mb,UM];exact .cons (h x (Uj ..)).1 (h x (Uj ..)).2 (Reps.join fun y hy=>h y (Ug _ hy))
def ReadI (w:World) (v:Value) (xs:List Int) (Q:Nat->Nat->Prop):Prop:=
 ∃A n c b o,v= .slice A n c/\xs.length=n/\n<=maxLen/\(0 < n->A=some ⟨b,o,none⟩/\b < w.heap.size)/\∀j,j < n->Q b (o + j)/\w.cell? ⟨b,o + j,none⟩=some (.int .i64 xs[j]!)
theorem ZsU:∀(xs:List Int),((xs.map (Zg rI).enc).flatten)=xs.map fun n=>AV.lit (.int .i64 n)
 | []=>rfl
 |x::xs=>by
  show AV.lit (.int .i64 x)::(List.map (Zg rI).enc xs).flatten=_;rw [ZsU xs];rfl
theorem ZDg {xs:List Int} {v:Value} {F:List Nat} {o:Own} (h:Rep w Pr γ base (.slc o 1 (xs.map (Zg rI).enc)) v F) (ho:o= .own\/o= .shr):ReadI w v xs Pr:=by
 have h':Rep w Pr γ base (.slc .shr 1 (xs.map (Zg rI).enc)) v []:=by
  have:=h.drop (base':=base);rcases ho with rfl |rfl
  ·exact this
  ·exact this
 cases h' with
 | @shr _ n cap _ A vs q1 q2 q3 q4 q5 q6=>
 rw [ZsU] at q5;have hc:clrs (xs.map fun n=>AV.lit (.int .i64 n))=xs.map fun n=>AV.lit (.int .i64 n):=by
  clear q1 q4 q5 h
  induction xs with
  |nil=>rfl
  |cons x xs ih=>rw [Mb,clrs,ih];rfl
 rw [hc] at q5;have hv:∀(xs:List Int) (vs:List Value) (G:List Nat),Reps w Pr γ base (xs.map fun n=>AV.lit (.int .i64 n)) vs G->vs=xs.map (Value.int .i64):=by
  intro xs
  induction xs with
  |nil=>intro vs G h;cases h;rfl
  |cons x xs ih=>
   intro vs G h;cases h with
   |cons h1 h2 h3=>
   cases h2;rw [ih _ _ h3];rfl
 have hvs:=hv _ _ _ q5;have q1:xs.length=n:=(Uy (Zg rI).enc).symm.trans q1;rcases q6 with q6 | ⟨ad,e1,e2,e3,e4,e5⟩
 ·exact ⟨A,n,cap,0,0,rfl,q1,by omega,fun h0=>by omega,fun j hj=>by omega⟩
 ·obtain ⟨ab,ao,asp⟩:=ad;simp only at e2 e4 e5;subst e2;refine ⟨A,n,cap,ab,ao,rfl,q1,by omega,fun _=>⟨e1,e5⟩,fun j hj=>⟨e4 j (by rw [hvs,Uy];omega),?_⟩⟩;have:=e3 j (.int .i64 xs[j]!) (by rw [hvs,Mf,Ua (show j < xs.length by omega),M9 xs j (by omega)];rfl);exact this
end
end Go.Fx
