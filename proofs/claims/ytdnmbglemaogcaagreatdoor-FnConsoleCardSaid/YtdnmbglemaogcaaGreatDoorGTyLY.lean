/- Part of the proof: see the last text of the claim. -/
import Derived.Test.YtdnmbglemaogcaaGreatDoorGTyY
set_option linter.all false
/- Plain tools: the shallow functions' words, loops. -/
namespace Go.Sh
open Go.Fx
theorem Ze {α β:Type} (v:α) (K:α->Option β):bnd (some v) K=K v:=rfl
theorem Zp {β:Type} (x y:Option β):cnd true x y=x:=rfl
theorem Zh {β:Type} (x y:Option β):cnd false x y=y:=rfl
theorem ZJ {β:Type} (b:Bool) (x y:Option β):cnd b x y=if b=true then x else y:=by cases b <;> rfl
theorem Zs {β:Type} {c:Prop} [Decidable c] (h:c) (x:Option β):ifA c x=x:=Uj h
@[simp] theorem ZHK {β:Type} [Decidable True] (x:Option β):ifA True x=x:=Uj trivial
@[simp] theorem ZHL {β:Type} [Decidable False] (x:Option β):ifA False x=none:=Ui id
def ZU {α β:Type} (l:List α) (n:Int) (K:α->Option β):Option β:=
 if 0<=n then (match l[n.toNat]? with |some x=>K x |none=>none) else none
theorem Zj {α β:Type} {l:List α} {k:Nat} {x:α} (h:l[k]? =some x) (K:α->Option β):ZU l (k:Int) K=K x:=by
 unfold ZU;rw [Uj (by omega),UC,h]
theorem ZqN {α β:Type} (x:α) (l:List α) (K:α->Option β):ZU (x::l) 0 K=K x:=rfl
def Yf {α β:Type} (l:List α) (n:Nat) (K:α->Option β):Option β:=match l[n]? with |some x=>K x |none=>none
theorem Zeh {α β:Type} {l:List α} {k:Nat} {x:α} (h:l[k]? =some x) (K:α->Option β):Yf l k K=K x:=by
 unfold Yf;rw [h]
class Lw (R:RR):Prop where
 ge:∀(x:R.τ) {β:Type} (K:R.τ->Option β),R.get (R.enc x) K=K x
instance:Lw iR:=⟨fun _ _ _=>rfl⟩
instance:Lw yR:=⟨fun _ _ _=>rfl⟩
instance:Lw bR:=⟨fun _ _ _=>rfl⟩
instance:Lw sR:=⟨fun _ _ _=>rfl⟩
theorem Qi (R:RR) [Lw R] {β:Type}:∀(l:List R.τ) (K:List R.τ->Option β),rws R (l.map R.enc) K=K l
 | [],K=>rfl
 |x::l,K=>by
  show R.get (R.enc x) (fun y=>rws R (l.map R.enc) fun ys=>K (y::ys))=_;rw [Lw.ge,Qi R l]
theorem Zad (R:RR) {β:Type}:∀(xs ys:List (List AV)) (K:List R.τ->Option β),rws R (xs ++ ys) K=rws R xs fun l=>rws R ys fun l'=>K (l ++ l')
 | [],ys,K=>rfl
 |x::xs,ys,K=>by
  show R.get x (fun y=>rws R (xs ++ ys) fun l=>K (y::l))=R.get x fun y=>rws R xs fun l=>rws R ys fun l'=>K (y::l ++ l')
  congr 1
  funext y
  rw [Zad R xs ys];rfl
theorem Ke (R:RR) [Lw R] {β:Type} (x:R.τ) (n:Nat) (K:List R.τ->Option β):rws R (List.replicate n (R.enc x)) K=K (List.replicate n x):=by
 rw [←MY,Qi]
theorem Kf (R:RR) [Lw R] {β:Type} (l:List R.τ) (i:Nat) (x:R.τ) (K:List R.τ->Option β):rws R ((l.map R.enc).set i (R.enc x)) K=K (l.set i x):=by
 rw [←Mm,Qi]
theorem Jl (R:RR) [Lw R] {β:Type} (l:List R.τ) (i:Nat) (K:R.τ->Option β):ZS R (l.map R.enc) i K=Yf l i K:=by
 unfold ZS Yf;rw [Mk];cases l[i]? with
 |none=>rfl
 |some x=>exact Lw.ge x K
theorem Kg (R:RR) [Lw R] {β:Type} (l:List R.τ) (n:Int) (K:R.τ->Option β):Zz R (l.map R.enc) n K=ZU l n K:=by
 cases n with
 |ofNat m=>
  show ZS R (l.map R.enc) m K=_;rw [Jl];unfold Yf ZU;rw [Uj (show (0:Int)<=Int.ofNat m from Int.natCast_nonneg m)];rfl
 |negSucc m=>rfl
theorem Jm (R:RR) {σ:Type} (e:σ->List AV) (f:σ->R.τ) (h:∀(x:σ) {γ:Type} (K:R.τ->Option γ),R.get (e x) K=K (f x)) {β:Type}:∀(l:List σ) (K:List R.τ->Option β),rws R (l.map e) K=K (l.map f)
 | [],K=>rfl
 |x::l,K=>by
  show R.get (e x) (fun y=>rws R (l.map e) fun ys=>K (y::ys))=_;rw [h,Jm R e f h l];rfl
theorem Zei (R:RR) {σ:Type} (e:σ->List AV) (f:σ->R.τ) (h:∀(x:σ) {γ:Type} (K:R.τ->Option γ),R.get (e x) K=K (f x)) (row:List AV) (y:σ) (hy:∀{γ:Type} (K:R.τ->Option γ),R.get row K=K (f y)) {β:Type}:
  ∀(l:List σ) (i:Nat) (K:List R.τ->Option β),rws R ((l.map e).set i row) K=K ((l.set i y).map f)
 | [],i,K=>rfl
 |x::l,0,K=>by
  show R.get row (fun y=>rws R (l.map e) fun ys=>K (y::ys))=_;rw [hy,Jm R e f h l];rfl
 |x::l,i + 1,K=>by
  show R.get (e x) (fun y=>rws R ((l.map e).set i row) fun ys=>K (y::ys))=_;rw [h,Zei R e f h row y hy l i];rfl
theorem Zej (R:RR) {σ:Type} (e:σ->List AV) (f:σ->R.τ) (h:∀(x:σ) {γ:Type} (K:R.τ->Option γ),R.get (e x) K=K (f x)) {β:Type} (l:List σ) (i:Nat) (K:R.τ->Option β):ZS R (l.map e) i K=Yf l i fun x=>K (f x):=by
 unfold ZS Yf;rw [Mk];cases l[i]? with
 |none=>rfl
 |some x=>exact h x K
theorem ZgM (R:RR) {σ:Type} (e:σ->List AV) (f:σ->R.τ) (h:∀(x:σ) {γ:Type} (K:R.τ->Option γ),R.get (e x) K=K (f x)) {β:Type} (l:List σ) (n:Int) (K:R.τ->Option β):Zz R (l.map e) n K=ZU l n fun x=>K (f x):=by
 cases n with
 |ofNat m=>
  show ZS R (l.map e) m K=_;rw [Zej R e f h];unfold Yf ZU;rw [Uj (show (0:Int)<=Int.ofNat m from Int.natCast_nonneg m)];rfl
 |negSucc m=>rfl
@[simp] theorem ZHM:okO .shr .shr=true:=rfl
@[simp] theorem ZHN:okO .shr .own=true:=rfl
@[simp] theorem ZHO:okO .own .own=true:=rfl
@[simp] theorem Kh {β:Type} (x:Option β):ZG x x=x:=by unfold ZG;simp
@[simp] theorem ZHP:okO .unq .unq=true:=rfl
theorem Qy {σ:Type} {e e':σ->List AV} (h:∀x,Xc (e x)=e' x):∀l:List σ,Ym (l.map e)=l.map e'
 | []=>rfl
 |x::l=>by simp only [UY,Ym,h,Qy h l]
theorem Qz {σ:Type} {e e':σ->List AV} (h:∀x,Xb (e x)=e' x):∀l:List σ,Yo (l.map e)=l.map e'
 | []=>rfl
 |x::l=>by simp only [UY,Yo,h,Qz h l]
theorem QA {σ:Type} {e:σ->List AV} (h:∀x,YG (e x)=true):∀l:List σ,Y6 (l.map e)=true
 | []=>rfl
 |x::l=>by simp only [UY,Y6,h,QA h l,MV]
@[simp] theorem ZHQ (k:Nat) (xs:List (List AV)):AV.okU (.slc .own k xs)=Y6 xs:=rfl
theorem QY {V β:Type} (F:(V->Option β)->V->Option β) (n:Nat) (v:V):Zf F (n + 1) v=F (Zf F n) v:=rfl
theorem ZgN {V β:Type} {F:(V->Option β)->V->Option β} {R:V->Option β} (μ:V->Nat) (inv:V->Prop)
  (step:∀rec v,inv v->(∀v',inv v'->μ v' < μ v->rec v'=R v')->F rec v=R v):∀n v,inv v->μ v < n->Zf F n v=R v
 | 0,v,_,h=>by omega
 |n + 1,v,hi,h=>by
  rw [QY];exact step _ v hi fun v' hi' hlt=>ZgN μ inv step n v' hi' (by omega)
theorem ZqO {α A V β:Type} {F:(V->Option β)->V->Option β} (l:List α) (st:Nat->A->V) (G:List α->Nat->A->Option β)
  (h0:∀rec acc,F rec (st l.length acc)=G [] l.length acc)
  (h1:∀rec k x acc,l[k]? =some x->k < l.length->(∀acc',rec (st (k + 1) acc')=G (l.drop (k + 1)) (k + 1) acc')->F rec (st k acc)=G (x::l.drop (k + 1)) k acc):
  ∀n k acc,k<=l.length->l.length - k < n->Zf F n (st k acc)=G (l.drop k) k acc
 | 0,k,acc,_,h=>by omega
 |n + 1,k,acc,hk,h=>by
  rw [QY];rcases U1 k l.length with hlt |hge
  ·have hx:l[k]? =some l[k]:=Ub hlt;rw [UN hlt];exact h1 _ k _ acc hx hlt fun acc'=>ZqO l st G h0 h1 n (k + 1) acc' hlt (by omega)
  ·have:k=l.length:=by omega
   subst this;rw [List.drop_length];exact h0 _ acc
theorem Qj {n:Nat} (h:n<=4611686018427387903):n < NN:=by rw [Zkx];omega
theorem Yq {α A V β:Type} {F:(V->Option β)->V->Option β} (l:List α) (hl:l.length<=1152921504606846976) (st:Nat->A->V) (acc:A) (G:List α->Nat->A->Option β) {v:V} (hv:v=st 0 acc)
  (h0:∀rec acc,F rec (st l.length acc)=G [] l.length acc)
  (h1:∀rec k x acc,l[k]? =some x->k < l.length->(∀acc',rec (st (k + 1) acc')=G (l.drop (k + 1)) (k + 1) acc')->F rec (st k acc)=G (x::l.drop (k + 1)) k acc):
  Zf F NN v=G l 0 acc:=by
 rw [hv];exact ZqO l st G h0 h1 NN 0 acc (U7 _) (Qj (by omega))
theorem ZqP {α A V β:Type} {F:(V->Option β)->V->Option β} (l:List α) (st:Nat->A->V) (J:Nat->A->Prop) (G:List α->Nat->A->Option β)
  (h0:∀rec acc,J l.length acc->F rec (st l.length acc)=G [] l.length acc)
  (h1:∀rec k x acc,J k acc->l[k]? =some x->k < l.length->(∀acc',J (k + 1) acc'->rec (st (k + 1) acc')=G (l.drop (k + 1)) (k + 1) acc')->F rec (st k acc)=G (x::l.drop (k + 1)) k acc):
  ∀n k acc,J k acc->k<=l.length->l.length - k < n->Zf F n (st k acc)=G (l.drop k) k acc
 | 0,k,acc,_,_,h=>by omega
 |n + 1,k,acc,hJ,hk,h=>by
  rw [QY];rcases U1 k l.length with hlt |hge
  ·have hx:l[k]? =some l[k]:=Ub hlt;rw [UN hlt];exact h1 _ k _ acc hJ hx hlt fun acc' hJ'=>ZqP l st J G h0 h1 n (k + 1) acc' hJ' hlt (by omega)
  ·have:k=l.length:=by omega
   subst this;rw [List.drop_length];exact h0 _ acc hJ
theorem YC {α A V β:Type} {F:(V->Option β)->V->Option β} (l:List α) (hl:l.length<=1152921504606846976) (st:Nat->A->V) (acc:A) (J:Nat->A->Prop) (hJ:J 0 acc) (G:List α->Nat->A->Option β) {v:V} (hv:v=st 0 acc)
  (h0:∀rec acc,J l.length acc->F rec (st l.length acc)=G [] l.length acc)
  (h1:∀rec k x acc,J k acc->l[k]? =some x->k < l.length->(∀acc',J (k + 1) acc'->rec (st (k + 1) acc')=G (l.drop (k + 1)) (k + 1) acc')->F rec (st k acc)=G (x::l.drop (k + 1)) k acc):
  Zf F NN v=G l 0 acc:=by
 rw [hv];exact ZqP l st J G h0 h1 NN 0 acc hJ (U7 _) (Qj (by omega))
def cnt {α:Type} (p:α->Bool) (l:List α):Int:=((l.filter p).length:Nat)
theorem ZzN {α V β:Type} (l:List α) (p:α->Bool) (hl:l.length<=1099511627776) (st:Nat->Int->V) (K:Int->Option β) {F:(V->Option β)->V->Option β} {v:V} (hv:v=st 0 0)
  (h0:∀rec n,F rec (st l.length n)=K n)
  (h1:∀rec k x (n:Nat),l[k]? =some x->k < l.length->n<=k->F rec (st k n)=if p x=true then rec (st (k + 1) ((n + 1:Nat):Int)) else rec (st (k + 1) n)):Zf F NN v=K (cnt p l):=by
 refine (YC l (by omega) (fun k (n:Nat)=>st k n) 0 (fun k n=>n<=k) (Uq _) (fun l _ n=>K ((n + (l.filter p).length:Nat):Int)) (by simpa using hv) ?_ ?_).trans ?_
 ·intro rec n _;rw [h0];simp
 ·intro rec k x n hn hx hk hr;rw [h1 rec k x n hx hk hn];cases hp:p x with
  |true=>
   rw [Uj rfl,hr (n + 1) (by omega),M6 hp,UI];congr 2;omega
  |false=>rw [Ui (by simp),hr n (by omega),Fw (by simp [hp])]
 ·simp [cnt]
theorem ZB {n:Int} (h: -9223372036854775808<=n) (h':n<=9223372036854775807):W n=n:=by
 show IntKind.i64.wrap n=n;have e:IntKind.i64.wrap n=if n % 18446744073709551616>=9223372036854775808 then n % 18446744073709551616 - 18446744073709551616 else n % 18446744073709551616:=by
  unfold IntKind.wrap;rw [show IntKind.i64.signed=true from rfl,show IntKind.i64.bits=64 from rfl];simp only [UW,UH];rfl
 rw [e];split <;> omega
theorem Zla {α:Type} {a:List α} {x z:α} {k:Nat} (h:a[k]? =some x):(a.take k ++ List.replicate (a.length - k) z).set k x=a.take (k + 1) ++ List.replicate (a.length - (k + 1)) z:=by
 have hk:k < a.length:=(List.getElem?_eq_some_iff.1 h).1;have hx:a[k]=x:=(List.getElem?_eq_some_iff.1 h).2;have hl:(a.take k).length=k:=by rw [Uc];omega
 rw [List.set_append_right _ _ (by omega),hl,Nat.sub_self];obtain ⟨m,hm⟩:∃m,a.length - k=m + 1:=⟨a.length - k - 1,by omega⟩
 rw [hm,show a.length - (k + 1)=m by omega,MS,List.set_cons_zero,List.take_succ_eq_append_getElem hk,hx,Us];rfl
end Go.Sh
/- The typed views, and what is to be said of them once. -/
namespace Go.Sh
open Go.Fx
attribute [simp] Ze Zp Zh Zad
theorem ZzO (R:RR) {β:Type} (K:List R.τ->Option β):rws R [] K=K []:=rfl
attribute [simp] ZzO
def Sm {α:Type} (l:List α):Prop:=l.length<=1048576
@[simp] theorem Zr {β:Type} (l:List Int) (K:List Int->Option β):rws iR (l.map iR.enc) K=K l:=Qi iR l K
@[simp] theorem YX {β:Type} (l:List Int) (n:Int) (K:Int->Option β):Zz iR (l.map iR.enc) n K=ZU l n K:=Kg iR l n K
@[simp] theorem ZzP {β:Type} (l:List Int) (n:Nat) (K:Int->Option β):ZS iR (l.map iR.enc) n K=Yf l n K:=Jl iR l n K
@[simp] theorem Yg (l:List Int):(l.map iR.enc).length=l.length:=Uv _
@[simp] theorem ZqQ (l:List Int) (n:Nat):(l.map iR.enc).take n=(l.take n).map iR.enc:=List.map_take.symm
@[simp] theorem ZqR (l:List Int) (n:Nat):(l.map iR.enc).drop n=(l.drop n).map iR.enc:=List.map_drop.symm
@[simp] theorem ZqS (l:List Int):Ym (l.map iR.enc)=l.map iR.enc:=Qy (fun _=>rfl) l
@[simp] theorem ZHR (l:List Int):Yo (l.map iR.enc)=l.map iR.enc:=Qz (fun _=>rfl) l
@[simp] theorem ZzQ (l:List Int):Y6 (l.map iR.enc)=true:=QA (fun _=>rfl) l
@[simp] theorem ZHS (l:List Int) (i:Nat) (v:Int):(l.map iR.enc).set i [I v]=(l.set i v).map iR.enc:=(Mm (f:=iR.enc) (l:=l) (i:=i) (a:=v)).symm
@[simp] theorem ZHT {β:Type} (l:List Int) (i:Nat) (v:Int) (K:List Int->Option β):rws iR ((l.map iR.enc).set i [I v]) K=K (l.set i v):=Kf iR l i v K
@[simp] theorem ZHU {β:Type} (i:Nat) (v:Int) (K:List Int->Option β):rws iR (List.replicate i [I v]) K=K (List.replicate i v):=Ke iR v i K
@[simp] theorem ZqT {β:Type} (v:Int) (K:List Int->Option β):rws iR [[I v]] K=K [v]:=rfl
@[simp] theorem Zcx (l:List Int):(l.map iR.enc).map clrs=l.map iR.enc:=Mq (f:=iR.enc) (g:=clrs) (l:=l)
@[simp] theorem YI {β:Type} (l:List Int) (K:List Int->Option β):rws yR (l.map yR.enc) K=K l:=Qi yR l K
@[simp] theorem ZqU {β:Type} (l:List Int) (n:Int) (K:Int->Option β):Zz yR (l.map yR.enc) n K=ZU l n K:=Kg yR l n K
@[simp] theorem ZHV {β:Type} (l:List Int) (n:Nat) (K:Int->Option β):ZS yR (l.map yR.enc) n K=Yf l n K:=Jl yR l n K
@[simp] theorem ZlK (l:List Int):(l.map yR.enc).length=l.length:=Uv _
@[simp] theorem ZHW (l:List Int) (n:Nat):(l.map yR.enc).take n=(l.take n).map yR.enc:=List.map_take.symm
@[simp] theorem ZHX (l:List Int) (n:Nat):(l.map yR.enc).drop n=(l.drop n).map yR.enc:=List.map_drop.symm
@[simp] theorem ZHY (l:List Int):Ym (l.map yR.enc)=l.map yR.enc:=Qy (fun _=>rfl) l
@[simp] theorem ZHZ (l:List Int):Yo (l.map yR.enc)=l.map yR.enc:=Qz (fun _=>rfl) l
@[simp] theorem ZH0 (l:List Int):Y6 (l.map yR.enc)=true:=QA (fun _=>rfl) l
@[simp] theorem ZH1 (l:List Int) (i:Nat) (v:Int):(l.map yR.enc).set i [.lit (.int .u8 v)]=(l.set i v).map yR.enc:=(Mm (f:=yR.enc) (l:=l) (i:=i) (a:=v)).symm
@[simp] theorem ZH2 {β:Type} (l:List Int) (i:Nat) (v:Int) (K:List Int->Option β):rws yR ((l.map yR.enc).set i [.lit (.int .u8 v)]) K=K (l.set i v):=Kf yR l i v K
@[simp] theorem ZH3 {β:Type} (i:Nat) (v:Int) (K:List Int->Option β):rws yR (List.replicate i [.lit (.int .u8 v)]) K=K (List.replicate i v):=Ke yR v i K
@[simp] theorem ZH4 {β:Type} (v:Int) (K:List Int->Option β):rws yR [[.lit (.int .u8 v)]] K=K [v]:=rfl
@[simp] theorem ZH5 (l:List Int):(l.map yR.enc).map clrs=l.map yR.enc:=Mq (f:=yR.enc) (g:=clrs) (l:=l)
@[simp] theorem ZlL {β:Type} (l:List Bool) (K:List Bool->Option β):rws bR (l.map bR.enc) K=K l:=Qi bR l K
@[simp] theorem ZH6 {β:Type} (l:List Bool) (n:Int) (K:Bool->Option β):Zz bR (l.map bR.enc) n K=ZU l n K:=Kg bR l n K
@[simp] theorem ZH7 {β:Type} (l:List Bool) (n:Nat) (K:Bool->Option β):ZS bR (l.map bR.enc) n K=Yf l n K:=Jl bR l n K
@[simp] theorem ZzR (l:List Bool):(l.map bR.enc).length=l.length:=Uv _
@[simp] theorem ZH8 (l:List Bool) (n:Nat):(l.map bR.enc).take n=(l.take n).map bR.enc:=List.map_take.symm
@[simp] theorem ZH9 (l:List Bool) (n:Nat):(l.map bR.enc).drop n=(l.drop n).map bR.enc:=List.map_drop.symm
@[simp] theorem ZIa (l:List Bool):Ym (l.map bR.enc)=l.map bR.enc:=Qy (fun _=>rfl) l
@[simp] theorem ZIb (l:List Bool):Yo (l.map bR.enc)=l.map bR.enc:=Qz (fun _=>rfl) l
@[simp] theorem ZIc (l:List Bool):Y6 (l.map bR.enc)=true:=QA (fun _=>rfl) l
@[simp] theorem ZId (l:List Bool) (i:Nat) (v:Bool):(l.map bR.enc).set i [Bl v]=(l.set i v).map bR.enc:=(Mm (f:=bR.enc) (l:=l) (i:=i) (a:=v)).symm
@[simp] theorem ZIe {β:Type} (l:List Bool) (i:Nat) (v:Bool) (K:List Bool->Option β):rws bR ((l.map bR.enc).set i [Bl v]) K=K (l.set i v):=Kf bR l i v K
@[simp] theorem ZIf {β:Type} (i:Nat) (v:Bool) (K:List Bool->Option β):rws bR (List.replicate i [Bl v]) K=K (List.replicate i v):=Ke bR v i K
@[simp] theorem ZIg {β:Type} (v:Bool) (K:List Bool->Option β):rws bR [[Bl v]] K=K [v]:=rfl
@[simp] theorem ZIh (l:List Bool):(l.map bR.enc).map clrs=l.map bR.enc:=Mq (f:=bR.enc) (g:=clrs) (l:=l)
@[simp] theorem Vt {β:Type} (l:List ByteArray) (K:List ByteArray->Option β):rws sR (l.map sR.enc) K=K l:=Qi sR l K
@[simp] theorem VQ {β:Type} (l:List ByteArray) (n:Int) (K:ByteArray->Option β):Zz sR (l.map sR.enc) n K=ZU l n K:=Kg sR l n K
@[simp] theorem ZIi {β:Type} (l:List ByteArray) (n:Nat) (K:ByteArray->Option β):ZS sR (l.map sR.enc) n K=Yf l n K:=Jl sR l n K
@[simp] theorem Jn (l:List ByteArray):(l.map sR.enc).length=l.length:=Uv _
@[simp] theorem ZqV (l:List ByteArray) (n:Nat):(l.map sR.enc).take n=(l.take n).map sR.enc:=List.map_take.symm
@[simp] theorem ZqW (l:List ByteArray) (n:Nat):(l.map sR.enc).drop n=(l.drop n).map sR.enc:=List.map_drop.symm
@[simp] theorem ZIj (l:List ByteArray):Ym (l.map sR.enc)=l.map sR.enc:=Qy (fun _=>rfl) l
@[simp] theorem ZIk (l:List ByteArray):Yo (l.map sR.enc)=l.map sR.enc:=Qz (fun _=>rfl) l
@[simp] theorem ZIl (l:List ByteArray):Y6 (l.map sR.enc)=true:=QA (fun _=>rfl) l
@[simp] theorem ZIm (l:List ByteArray) (i:Nat) (v:ByteArray):(l.map sR.enc).set i [Sg v]=(l.set i v).map sR.enc:=(Mm (f:=sR.enc) (l:=l) (i:=i) (a:=v)).symm
@[simp] theorem ZIn {β:Type} (l:List ByteArray) (i:Nat) (v:ByteArray) (K:List ByteArray->Option β):rws sR ((l.map sR.enc).set i [Sg v]) K=K (l.set i v):=Kf sR l i v K
@[simp] theorem ZIo {β:Type} (i:Nat) (v:ByteArray) (K:List ByteArray->Option β):rws sR (List.replicate i [Sg v]) K=K (List.replicate i v):=Ke sR v i K
@[simp] theorem ZIp {β:Type} (v:ByteArray) (K:List ByteArray->Option β):rws sR [[Sg v]] K=K [v]:=rfl
@[simp] theorem ZIq (l:List ByteArray):(l.map sR.enc).map clrs=l.map sR.enc:=Mq (f:=sR.enc) (g:=clrs) (l:=l)
theorem ZlM {o0 p0:Own} (h0:okO o0 p0=true) (v_l:List Int) {β:Type} (K:(List Int)->Option β):(Zb (rX o0 1 iR)).get [.slc p0 1 (v_l.map iR.enc)] K=K v_l:=by
 cases o0 <;> cases p0 <;> first | (exact Zr _ _) | (exact YI _ _) | (simp [okO] at h0)
theorem Zek {o0 p0:Own} (h0:okO o0 p0=true) (v:(List Int)) {β:Type} (K:(List Int)->Option β):(Zb (rX o0 1 iR)).get ((Zb (rX p0 1 iR)).enc v) K=K v:=ZlM h0 v K
theorem Zcy {o0 p0:Own} (h0:okO o0 p0=true) {β:Type} (l:List (List Int)) (K:List (List Int)->Option β):rws (Zb (rX o0 1 iR)) (l.map (Zb (rX p0 1 iR)).enc) K=K l:=by
 have:=Jm (Zb (rX o0 1 iR)) (Zb (rX p0 1 iR)).enc (fun x:(List Int)=>x) (fun x _ K=>Zek h0 x K) l K;rw [this];exact Ux K (MA l)
theorem ZgO {o0 p0:Own} (h0:okO o0 p0=true) {β:Type} (l:List (List Int)) (i:Int) (K:(List Int)->Option β):Zz (Zb (rX o0 1 iR)) (l.map (Zb (rX p0 1 iR)).enc) i K=ZU l i K:=ZgM (Zb (rX o0 1 iR)) (Zb (rX p0 1 iR)).enc (fun x:(List Int)=>x) (fun x _ K=>Zek h0 x K) l i K
theorem ZgP {o0 p0:Own} (h0:okO o0 p0=true) {β:Type} (l:List (List Int)) (i:Nat) (K:(List Int)->Option β):ZS (Zb (rX o0 1 iR)) (l.map (Zb (rX p0 1 iR)).enc) i K=Yf l i K:=Zej (Zb (rX o0 1 iR)) (Zb (rX p0 1 iR)).enc (fun x:(List Int)=>x) (fun x _ K=>Zek h0 x K) l i K
theorem Zcz {o0 p0:Own} {q0:Own} (h0:okO o0 p0=true) (g0:okO o0 q0=true) {β:Type} (l:List (List Int)) (i:Nat) (v_l:List Int) (K:List (List Int)->Option β):rws (Zb (rX o0 1 iR)) ((l.map (Zb (rX p0 1 iR)).enc).set i [.slc q0 1 (v_l.map iR.enc)]) K=K (l.set i v_l):=by
 have:=Zei (Zb (rX o0 1 iR)) (Zb (rX p0 1 iR)).enc (fun x:(List Int)=>x) (fun x _ K=>Zek h0 x K) [.slc q0 1 (v_l.map iR.enc)] v_l (fun K=>ZlM g0 _ K) l i K;rw [this];exact Ux K (MA _)
theorem Zae {o0 p0:Own} (h0:okO o0 p0=true) (v_l:List Int) {β:Type} (K:List (List Int)->Option β):rws (Zb (rX o0 1 iR)) [[.slc p0 1 (v_l.map iR.enc)]] K=K [v_l]:=ZlM h0 _ (fun y=>K [y])
theorem Zaf {o0 p0:Own} (h0:okO o0 p0=true) {β:Type} (m:Nat) (v_l:List Int) (K:List (List Int)->Option β):rws (Zb (rX o0 1 iR)) (List.replicate m [.slc p0 1 (v_l.map iR.enc)]) K=K (List.replicate m v_l):=by
 have:=Jm (Zb (rX o0 1 iR)) (Zb (rX p0 1 iR)).enc (fun x:(List Int)=>x) (fun x _ K=>Zek h0 x K) (List.replicate m v_l) K;have e:(List.replicate m v_l).map (Zb (rX p0 1 iR)).enc=List.replicate m [.slc p0 1 (v_l.map iR.enc)]:=MY;exact (Ux (fun z=>rws (Zb (rX o0 1 iR)) z K) e).symm.trans (this.trans (Ux K (MA _)))
@[simp] theorem Ki {p0:Own} (l:List (List Int)):(l.map (Zb (rX p0 1 iR)).enc).length=l.length:=Uv _
@[simp] theorem ZqX {p0:Own} (l:List (List Int)) (n:Nat):(l.map (Zb (rX p0 1 iR)).enc).take n=(l.take n).map (Zb (rX p0 1 iR)).enc:=List.map_take.symm
@[simp] theorem ZIr {p0:Own} (l:List (List Int)) (n:Nat):(l.map (Zb (rX p0 1 iR)).enc).drop n=(l.drop n).map (Zb (rX p0 1 iR)).enc:=List.map_drop.symm
@[simp] theorem ZIs (l:List (List Int)):Ym (l.map (Zb (rX Own.own 1 iR)).enc)=l.map (Zb (rX Own.unq 1 iR)).enc:=Qy (fun x=>by show Xc [.slc Own.own 1 (x.map iR.enc)]= [.slc Own.unq 1 (x.map iR.enc)];simp [Xc,AV.toU]) l
@[simp] theorem ZIt (l:List (List Int)) (i:Nat) (v_l:List Int):(l.map (Zb (rX Own.unq 1 iR)).enc).set i [.slc Own.unq 1 (v_l.map iR.enc)]=(l.set i v_l).map (Zb (rX Own.unq 1 iR)).enc:=(Mm (f:=(Zb (rX Own.unq 1 iR)).enc) (l:=l) (i:=i) (a:=v_l)).symm
@[simp] theorem ZIu (l:List (List Int)):Yo (l.map (Zb (rX Own.unq 1 iR)).enc)=l.map (Zb (rX Own.shr 1 iR)).enc:=Qz (fun x=>by show Xb [.slc Own.unq 1 (x.map iR.enc)]= [.slc Own.shr 1 (x.map iR.enc)];simp [Xb,AV.bor]) l
@[simp] theorem ZIv (l:List (List Int)):Y6 (l.map (Zb (rX Own.own 1 iR)).enc)=true:=QA (fun x=>by show YG [.slc Own.own 1 (x.map iR.enc)]=true;simp [YG,AV.okU]) l
@[simp] theorem ZcA {β:Type} (l:List (List Int)) (K:List (List Int)->Option β):rws (Zb (rX Own.shr 1 iR)) (l.map (Zb (rX Own.shr 1 iR)).enc) K=K l:=Zcy rfl l K
@[simp] theorem ZlN {β:Type} (l:List (List Int)) (i:Int) (K:(List Int)->Option β):Zz (Zb (rX Own.shr 1 iR)) (l.map (Zb (rX Own.shr 1 iR)).enc) i K=ZU l i K:=ZgO rfl l i K
@[simp] theorem ZIw {β:Type} (l:List (List Int)) (i:Nat) (K:(List Int)->Option β):ZS (Zb (rX Own.shr 1 iR)) (l.map (Zb (rX Own.shr 1 iR)).enc) i K=Yf l i K:=ZgP rfl l i K
@[simp] theorem ZIx (v_l:List Int) {β:Type} (K:List (List Int)->Option β):rws (Zb (rX Own.shr 1 iR)) [[.slc Own.shr 1 (v_l.map iR.enc)]] K=K [v_l]:=Zae (o0:= .shr) (p0:= .shr) rfl v_l K
@[simp] theorem ZIy (v_l:List Int) {β:Type} (m:Nat) (K:List (List Int)->Option β):rws (Zb (rX Own.shr 1 iR)) (List.replicate m [.slc Own.shr 1 (v_l.map iR.enc)]) K=K (List.replicate m v_l):=Zaf (o0:= .shr) (p0:= .shr) rfl m v_l K
@[simp] theorem ZIz {β:Type} (K:List (List Int)->Option β):rws (Zb (rX Own.shr 1 iR)) [[.slc Own.shr 1 []]] K=K [[]]:=Zae (o0:= .shr) (p0:= .shr) rfl [] K
@[simp] theorem ZIA {β:Type} (m:Nat) (K:List (List Int)->Option β):rws (Zb (rX Own.shr 1 iR)) (List.replicate m [.slc Own.shr 1 []]) K=K (List.replicate m []):=Zaf (o0:= .shr) (p0:= .shr) rfl m [] K
@[simp] theorem ZIB {β:Type} (l:List (List Int)) (i:Nat) (v_l:List Int) (K:List (List Int)->Option β):rws (Zb (rX Own.shr 1 iR)) ((l.map (Zb (rX Own.shr 1 iR)).enc).set i [.slc Own.shr 1 (v_l.map iR.enc)]) K=K (l.set i v_l):=Zcz (o0:= .shr) (p0:= .shr) (q0:= .shr) rfl rfl l i v_l K
@[simp] theorem ZIC {β:Type} (l:List (List Int)) (i:Nat) (v_l:List Int) (K:List (List Int)->Option β):rws (Zb (rX Own.shr 1 iR)) ((l.map (Zb (rX Own.shr 1 iR)).enc).set i [.slc Own.own 1 (v_l.map iR.enc)]) K=K (l.set i v_l):=Zcz (o0:= .shr) (p0:= .shr) (q0:= .own) rfl rfl l i v_l K
@[simp] theorem Zel {β:Type} (l:List (List Int)) (K:List (List Int)->Option β):rws (Zb (rX Own.shr 1 iR)) (l.map (Zb (rX Own.own 1 iR)).enc) K=K l:=Zcy rfl l K
@[simp] theorem ZzS {β:Type} (l:List (List Int)) (i:Int) (K:(List Int)->Option β):Zz (Zb (rX Own.shr 1 iR)) (l.map (Zb (rX Own.own 1 iR)).enc) i K=ZU l i K:=ZgO rfl l i K
@[simp] theorem ZID {β:Type} (l:List (List Int)) (i:Nat) (K:(List Int)->Option β):ZS (Zb (rX Own.shr 1 iR)) (l.map (Zb (rX Own.own 1 iR)).enc) i K=Yf l i K:=ZgP rfl l i K
@[simp] theorem ZIE (v_l:List Int) {β:Type} (K:List (List Int)->Option β):rws (Zb (rX Own.shr 1 iR)) [[.slc Own.own 1 (v_l.map iR.enc)]] K=K [v_l]:=Zae (o0:= .shr) (p0:= .own) rfl v_l K
@[simp] theorem ZIF (v_l:List Int) {β:Type} (m:Nat) (K:List (List Int)->Option β):rws (Zb (rX Own.shr 1 iR)) (List.replicate m [.slc Own.own 1 (v_l.map iR.enc)]) K=K (List.replicate m v_l):=Zaf (o0:= .shr) (p0:= .own) rfl m v_l K
@[simp] theorem ZIG {β:Type} (K:List (List Int)->Option β):rws (Zb (rX Own.shr 1 iR)) [[.slc Own.own 1 []]] K=K [[]]:=Zae (o0:= .shr) (p0:= .own) rfl [] K
@[simp] theorem ZIH {β:Type} (m:Nat) (K:List (List Int)->Option β):rws (Zb (rX Own.shr 1 iR)) (List.replicate m [.slc Own.own 1 []]) K=K (List.replicate m []):=Zaf (o0:= .shr) (p0:= .own) rfl m [] K
@[simp] theorem ZII {β:Type} (l:List (List Int)) (i:Nat) (v_l:List Int) (K:List (List Int)->Option β):rws (Zb (rX Own.shr 1 iR)) ((l.map (Zb (rX Own.own 1 iR)).enc).set i [.slc Own.shr 1 (v_l.map iR.enc)]) K=K (l.set i v_l):=Zcz (o0:= .shr) (p0:= .own) (q0:= .shr) rfl rfl l i v_l K
@[simp] theorem ZIJ {β:Type} (l:List (List Int)) (i:Nat) (v_l:List Int) (K:List (List Int)->Option β):rws (Zb (rX Own.shr 1 iR)) ((l.map (Zb (rX Own.own 1 iR)).enc).set i [.slc Own.own 1 (v_l.map iR.enc)]) K=K (l.set i v_l):=Zcz (o0:= .shr) (p0:= .own) (q0:= .own) rfl rfl l i v_l K
@[simp] theorem ZgQ {β:Type} (l:List (List Int)) (K:List (List Int)->Option β):rws (Zb (rX Own.own 1 iR)) (l.map (Zb (rX Own.own 1 iR)).enc) K=K l:=Zcy rfl l K
@[simp] theorem ZzT {β:Type} (l:List (List Int)) (i:Int) (K:(List Int)->Option β):Zz (Zb (rX Own.own 1 iR)) (l.map (Zb (rX Own.own 1 iR)).enc) i K=ZU l i K:=ZgO rfl l i K
@[simp] theorem ZIK {β:Type} (l:List (List Int)) (i:Nat) (K:(List Int)->Option β):ZS (Zb (rX Own.own 1 iR)) (l.map (Zb (rX Own.own 1 iR)).enc) i K=Yf l i K:=ZgP rfl l i K
@[simp] theorem ZIL (v_l:List Int) {β:Type} (K:List (List Int)->Option β):rws (Zb (rX Own.own 1 iR)) [[.slc Own.own 1 (v_l.map iR.enc)]] K=K [v_l]:=Zae (o0:= .own) (p0:= .own) rfl v_l K
@[simp] theorem ZIM (v_l:List Int) {β:Type} (m:Nat) (K:List (List Int)->Option β):rws (Zb (rX Own.own 1 iR)) (List.replicate m [.slc Own.own 1 (v_l.map iR.enc)]) K=K (List.replicate m v_l):=Zaf (o0:= .own) (p0:= .own) rfl m v_l K
@[simp] theorem ZIN {β:Type} (K:List (List Int)->Option β):rws (Zb (rX Own.own 1 iR)) [[.slc Own.own 1 []]] K=K [[]]:=Zae (o0:= .own) (p0:= .own) rfl [] K
@[simp] theorem ZIO {β:Type} (m:Nat) (K:List (List Int)->Option β):rws (Zb (rX Own.own 1 iR)) (List.replicate m [.slc Own.own 1 []]) K=K (List.replicate m []):=Zaf (o0:= .own) (p0:= .own) rfl m [] K
@[simp] theorem ZIP {β:Type} (l:List (List Int)) (i:Nat) (v_l:List Int) (K:List (List Int)->Option β):rws (Zb (rX Own.own 1 iR)) ((l.map (Zb (rX Own.own 1 iR)).enc).set i [.slc Own.own 1 (v_l.map iR.enc)]) K=K (l.set i v_l):=Zcz (o0:= .own) (p0:= .own) (q0:= .own) rfl rfl l i v_l K
@[simp] theorem ZIQ {β:Type} (l:List (List Int)) (K:List (List Int)->Option β):rws (Zb (rX Own.unq 1 iR)) (l.map (Zb (rX Own.unq 1 iR)).enc) K=K l:=Zcy rfl l K
@[simp] theorem ZIR {β:Type} (l:List (List Int)) (i:Int) (K:(List Int)->Option β):Zz (Zb (rX Own.unq 1 iR)) (l.map (Zb (rX Own.unq 1 iR)).enc) i K=ZU l i K:=ZgO rfl l i K
@[simp] theorem ZIS {β:Type} (l:List (List Int)) (i:Nat) (K:(List Int)->Option β):ZS (Zb (rX Own.unq 1 iR)) (l.map (Zb (rX Own.unq 1 iR)).enc) i K=Yf l i K:=ZgP rfl l i K
@[simp] theorem ZIT (v_l:List Int) {β:Type} (K:List (List Int)->Option β):rws (Zb (rX Own.unq 1 iR)) [[.slc Own.unq 1 (v_l.map iR.enc)]] K=K [v_l]:=Zae (o0:= .unq) (p0:= .unq) rfl v_l K
@[simp] theorem ZIU (v_l:List Int) {β:Type} (m:Nat) (K:List (List Int)->Option β):rws (Zb (rX Own.unq 1 iR)) (List.replicate m [.slc Own.unq 1 (v_l.map iR.enc)]) K=K (List.replicate m v_l):=Zaf (o0:= .unq) (p0:= .unq) rfl m v_l K
@[simp] theorem ZIV {β:Type} (K:List (List Int)->Option β):rws (Zb (rX Own.unq 1 iR)) [[.slc Own.unq 1 []]] K=K [[]]:=Zae (o0:= .unq) (p0:= .unq) rfl [] K
@[simp] theorem ZIW {β:Type} (m:Nat) (K:List (List Int)->Option β):rws (Zb (rX Own.unq 1 iR)) (List.replicate m [.slc Own.unq 1 []]) K=K (List.replicate m []):=Zaf (o0:= .unq) (p0:= .unq) rfl m [] K
@[simp] theorem ZIX {β:Type} (l:List (List Int)) (i:Nat) (v_l:List Int) (K:List (List Int)->Option β):rws (Zb (rX Own.unq 1 iR)) ((l.map (Zb (rX Own.unq 1 iR)).enc).set i [.slc Own.unq 1 (v_l.map iR.enc)]) K=K (l.set i v_l):=Zcz (o0:= .unq) (p0:= .unq) (q0:= .unq) rfl rfl l i v_l K
@[simp] theorem ZIY (v:Path):(⟨v.id,v.kind,v.src,v.dst⟩:Path)=v:=rfl
instance:Lw Zg:=⟨fun _ _ _=>rfl⟩
@[simp] theorem Zw {β:Type} (l:List Path) (K:List Path->Option β):rws Zg (l.map Zg.enc) K=K l:=Qi Zg l K
@[simp] theorem XJ {β:Type} (l:List Path) (n:Int) (K:Path->Option β):Zz Zg (l.map Zg.enc) n K=ZU l n K:=Kg Zg l n K
@[simp] theorem ZIZ {β:Type} (l:List Path) (n:Nat) (K:Path->Option β):ZS Zg (l.map Zg.enc) n K=Yf l n K:=Jl Zg l n K
@[simp] theorem YP (l:List Path):(l.map Zg.enc).length=l.length:=Uv _
@[simp] theorem ZI0 (l:List Path) (n:Nat):(l.map Zg.enc).take n=(l.take n).map Zg.enc:=List.map_take.symm
@[simp] theorem ZI1 (l:List Path) (n:Nat):(l.map Zg.enc).drop n=(l.drop n).map Zg.enc:=List.map_drop.symm
@[simp] theorem ZzU (l:List Path):Ym (l.map Zg.enc)=l.map Zg.enc:=Qy (fun _=>rfl) l
@[simp] theorem ZI2 (l:List Path):Yo (l.map Zg.enc)=l.map Zg.enc:=Qz (fun _=>rfl) l
@[simp] theorem ZzV (l:List Path):Y6 (l.map Zg.enc)=true:=QA (fun _=>rfl) l
@[simp] theorem ZI3 (l:List Path) (i:Nat) (v0:Int) (v1:Int) (v2:Int) (v3:Int):(l.map Zg.enc).set i [I v0,I v1,I v2,I v3]=(l.set i (⟨v0,v1,v2,v3⟩:Path)).map Zg.enc:=(Mm (f:=Zg.enc) (l:=l) (i:=i) (a:=(⟨v0,v1,v2,v3⟩:Path))).symm
@[simp] theorem ZI4 {β:Type} (l:List Path) (i:Nat) (v0:Int) (v1:Int) (v2:Int) (v3:Int) (K:List Path->Option β):rws Zg ((l.map Zg.enc).set i [I v0,I v1,I v2,I v3]) K=K (l.set i (⟨v0,v1,v2,v3⟩:Path)):=Kf Zg l i (⟨v0,v1,v2,v3⟩:Path) K
@[simp] theorem ZI5 {β:Type} (i:Nat) (v0:Int) (v1:Int) (v2:Int) (v3:Int) (K:List Path->Option β):rws Zg (List.replicate i [I v0,I v1,I v2,I v3]) K=K (List.replicate i (⟨v0,v1,v2,v3⟩:Path)):=Ke Zg (⟨v0,v1,v2,v3⟩:Path) i K
@[simp] theorem ZI6 {β:Type} (v0:Int) (v1:Int) (v2:Int) (v3:Int) (K:List Path->Option β):rws Zg [[I v0,I v1,I v2,I v3]] K=K [(⟨v0,v1,v2,v3⟩:Path)]:=rfl
@[simp] theorem ZqY (l:List Path):(l.map Zg.enc).map clrs=l.map Zg.enc:=Mq (f:=Zg.enc) (g:=clrs) (l:=l)
@[simp] theorem ZD (v:Control):(⟨v.stage,v.since,v.next,v.left⟩:Control)=v:=rfl
theorem ZI7 {o0 o1 p0 p1:Own} (h0:okO o0 p0=true) (h1:okO o1 p1=true) (v_stage:(List Int)) (v_since:Int) (v_next:(List Int)) (v_left:Int) {β:Type} (K:Control->Option β):(Xe o0 o1).get [.slc p0 1 (v_stage.map iR.enc),I v_since, .slc p1 1 (v_next.map iR.enc),I v_left] K=K (⟨v_stage,v_since,v_next,v_left⟩:Control):=by
 cases o0 <;> cases p0 <;> cases o1 <;> cases p1 <;> first | (exact (Zr _ _).trans (Zr _ _)) | (exact YI _ _) | (simp [okO] at h0 h1)
@[simp] theorem ZI8 {p0 p1:Own} (l:List Control):(l.map (Xe p0 p1).enc).length=l.length:=Uv _
@[simp] theorem ZI9 {p0 p1:Own} (l:List Control) (n:Nat):(l.map (Xe p0 p1).enc).take n=(l.take n).map (Xe p0 p1).enc:=List.map_take.symm
@[simp] theorem ZJa {p0 p1:Own} (l:List Control) (n:Nat):(l.map (Xe p0 p1).enc).drop n=(l.drop n).map (Xe p0 p1).enc:=List.map_drop.symm
@[simp] theorem ZJb (v:Want):(⟨v.path,v.wait⟩:Want)=v:=rfl
instance:Lw Zd:=⟨fun _ _ _=>rfl⟩
@[simp] theorem ZT {β:Type} (l:List Want) (K:List Want->Option β):rws Zd (l.map Zd.enc) K=K l:=Qi Zd l K
@[simp] theorem Kj {β:Type} (l:List Want) (n:Int) (K:Want->Option β):Zz Zd (l.map Zd.enc) n K=ZU l n K:=Kg Zd l n K
@[simp] theorem ZJc {β:Type} (l:List Want) (n:Nat) (K:Want->Option β):ZS Zd (l.map Zd.enc) n K=Yf l n K:=Jl Zd l n K
@[simp] theorem XK (l:List Want):(l.map Zd.enc).length=l.length:=Uv _
@[simp] theorem ZqZ (l:List Want) (n:Nat):(l.map Zd.enc).take n=(l.take n).map Zd.enc:=List.map_take.symm
@[simp] theorem Zq0 (l:List Want) (n:Nat):(l.map Zd.enc).drop n=(l.drop n).map Zd.enc:=List.map_drop.symm
@[simp] theorem Zq1 (l:List Want):Ym (l.map Zd.enc)=l.map Zd.enc:=Qy (fun _=>rfl) l
@[simp] theorem ZJd (l:List Want):Yo (l.map Zd.enc)=l.map Zd.enc:=Qz (fun _=>rfl) l
@[simp] theorem ZzW (l:List Want):Y6 (l.map Zd.enc)=true:=QA (fun _=>rfl) l
@[simp] theorem ZJe (l:List Want) (i:Nat) (v0:Int) (v1:Int):(l.map Zd.enc).set i [I v0,I v1]=(l.set i (⟨v0,v1⟩:Want)).map Zd.enc:=(Mm (f:=Zd.enc) (l:=l) (i:=i) (a:=(⟨v0,v1⟩:Want))).symm
@[simp] theorem ZJf {β:Type} (l:List Want) (i:Nat) (v0:Int) (v1:Int) (K:List Want->Option β):rws Zd ((l.map Zd.enc).set i [I v0,I v1]) K=K (l.set i (⟨v0,v1⟩:Want)):=Kf Zd l i (⟨v0,v1⟩:Want) K
@[simp] theorem ZJg {β:Type} (i:Nat) (v0:Int) (v1:Int) (K:List Want->Option β):rws Zd (List.replicate i [I v0,I v1]) K=K (List.replicate i (⟨v0,v1⟩:Want)):=Ke Zd (⟨v0,v1⟩:Want) i K
@[simp] theorem ZzX {β:Type} (v0:Int) (v1:Int) (K:List Want->Option β):rws Zd [[I v0,I v1]] K=K [(⟨v0,v1⟩:Want)]:=rfl
@[simp] theorem ZcB (l:List Want):(l.map Zd.enc).map clrs=l.map Zd.enc:=Mq (f:=Zd.enc) (g:=clrs) (l:=l)
@[simp] theorem ZJh (v:Prio):(⟨v.path,v.left⟩:Prio)=v:=rfl
instance:Lw Yb:=⟨fun _ _ _=>rfl⟩
@[simp] theorem ZJi {β:Type} (l:List Prio) (K:List Prio->Option β):rws Yb (l.map Yb.enc) K=K l:=Qi Yb l K
@[simp] theorem ZJj {β:Type} (l:List Prio) (n:Int) (K:Prio->Option β):Zz Yb (l.map Yb.enc) n K=ZU l n K:=Kg Yb l n K
@[simp] theorem ZJk {β:Type} (l:List Prio) (n:Nat) (K:Prio->Option β):ZS Yb (l.map Yb.enc) n K=Yf l n K:=Jl Yb l n K
@[simp] theorem ZJl (l:List Prio):(l.map Yb.enc).length=l.length:=Uv _
@[simp] theorem ZJm (l:List Prio) (n:Nat):(l.map Yb.enc).take n=(l.take n).map Yb.enc:=List.map_take.symm
@[simp] theorem ZJn (l:List Prio) (n:Nat):(l.map Yb.enc).drop n=(l.drop n).map Yb.enc:=List.map_drop.symm
@[simp] theorem ZJo (l:List Prio):Ym (l.map Yb.enc)=l.map Yb.enc:=Qy (fun _=>rfl) l
@[simp] theorem ZJp (l:List Prio):Yo (l.map Yb.enc)=l.map Yb.enc:=Qz (fun _=>rfl) l
@[simp] theorem ZJq (l:List Prio):Y6 (l.map Yb.enc)=true:=QA (fun _=>rfl) l
@[simp] theorem ZJr (l:List Prio) (i:Nat) (v0:Int) (v1:Int):(l.map Yb.enc).set i [I v0,I v1]=(l.set i (⟨v0,v1⟩:Prio)).map Yb.enc:=(Mm (f:=Yb.enc) (l:=l) (i:=i) (a:=(⟨v0,v1⟩:Prio))).symm
@[simp] theorem ZJs {β:Type} (l:List Prio) (i:Nat) (v0:Int) (v1:Int) (K:List Prio->Option β):rws Yb ((l.map Yb.enc).set i [I v0,I v1]) K=K (l.set i (⟨v0,v1⟩:Prio)):=Kf Yb l i (⟨v0,v1⟩:Prio) K
@[simp] theorem ZJt {β:Type} (i:Nat) (v0:Int) (v1:Int) (K:List Prio->Option β):rws Yb (List.replicate i [I v0,I v1]) K=K (List.replicate i (⟨v0,v1⟩:Prio)):=Ke Yb (⟨v0,v1⟩:Prio) i K
@[simp] theorem ZJu {β:Type} (v0:Int) (v1:Int) (K:List Prio->Option β):rws Yb [[I v0,I v1]] K=K [(⟨v0,v1⟩:Prio)]:=rfl
@[simp] theorem ZJv (l:List Prio):(l.map Yb.enc).map clrs=l.map Yb.enc:=Mq (f:=Yb.enc) (g:=clrs) (l:=l)
@[simp] theorem ZJw (v:Lamp):(⟨v.path,v.colour,v.broken⟩:Lamp)=v:=rfl
instance:Lw Zq:=⟨fun _ _ _=>rfl⟩
@[simp] theorem Z5 {β:Type} (l:List Lamp) (K:List Lamp->Option β):rws Zq (l.map Zq.enc) K=K l:=Qi Zq l K
@[simp] theorem ZzY {β:Type} (l:List Lamp) (n:Int) (K:Lamp->Option β):Zz Zq (l.map Zq.enc) n K=ZU l n K:=Kg Zq l n K
@[simp] theorem ZJx {β:Type} (l:List Lamp) (n:Nat) (K:Lamp->Option β):ZS Zq (l.map Zq.enc) n K=Yf l n K:=Jl Zq l n K
@[simp] theorem ZcC (l:List Lamp):(l.map Zq.enc).length=l.length:=Uv _
@[simp] theorem ZJy (l:List Lamp) (n:Nat):(l.map Zq.enc).take n=(l.take n).map Zq.enc:=List.map_take.symm
@[simp] theorem ZJz (l:List Lamp) (n:Nat):(l.map Zq.enc).drop n=(l.drop n).map Zq.enc:=List.map_drop.symm
@[simp] theorem ZzZ (l:List Lamp):Ym (l.map Zq.enc)=l.map Zq.enc:=Qy (fun _=>rfl) l
@[simp] theorem Zz0 (l:List Lamp):Yo (l.map Zq.enc)=l.map Zq.enc:=Qz (fun _=>rfl) l
@[simp] theorem Zz1 (l:List Lamp):Y6 (l.map Zq.enc)=true:=QA (fun _=>rfl) l
@[simp] theorem ZJA (l:List Lamp) (i:Nat) (v0:Int) (v1:Int) (v2:Bool):(l.map Zq.enc).set i [I v0,I v1,Bl v2]=(l.set i (⟨v0,v1,v2⟩:Lamp)).map Zq.enc:=(Mm (f:=Zq.enc) (l:=l) (i:=i) (a:=(⟨v0,v1,v2⟩:Lamp))).symm
@[simp] theorem ZJB {β:Type} (l:List Lamp) (i:Nat) (v0:Int) (v1:Int) (v2:Bool) (K:List Lamp->Option β):rws Zq ((l.map Zq.enc).set i [I v0,I v1,Bl v2]) K=K (l.set i (⟨v0,v1,v2⟩:Lamp)):=Kf Zq l i (⟨v0,v1,v2⟩:Lamp) K
@[simp] theorem ZJC {β:Type} (i:Nat) (v0:Int) (v1:Int) (v2:Bool) (K:List Lamp->Option β):rws Zq (List.replicate i [I v0,I v1,Bl v2]) K=K (List.replicate i (⟨v0,v1,v2⟩:Lamp)):=Ke Zq (⟨v0,v1,v2⟩:Lamp) i K
@[simp] theorem ZJD {β:Type} (v0:Int) (v1:Int) (v2:Bool) (K:List Lamp->Option β):rws Zq [[I v0,I v1,Bl v2]] K=K [(⟨v0,v1,v2⟩:Lamp)]:=rfl
@[simp] theorem Zq2 (l:List Lamp):(l.map Zq.enc).map clrs=l.map Zq.enc:=Mq (f:=Zq.enc) (g:=clrs) (l:=l)
@[simp] theorem ZlO (v:Note):(⟨v.second,v.lights,v.sig⟩:Note)=v:=rfl
theorem ZlP {o0 p0:Own} (h0:okO o0 p0=true) (v_second:Int) (v_lights:(List Int)) (v_sig:Int) {β:Type} (K:Note->Option β):(Zc o0).get [I v_second, .slc p0 1 (v_lights.map iR.enc),I v_sig] K=K (⟨v_second,v_lights,v_sig⟩:Note):=by
 cases o0 <;> cases p0 <;> first | (exact Zr _ _) | (exact YI _ _) | (simp [okO] at h0)
theorem Zem {o0 p0:Own} (h0:okO o0 p0=true) (v:Note) {β:Type} (K:Note->Option β):(Zc o0).get ((Zc p0).enc v) K=K v:=ZlP h0 v.second v.lights v.sig K
theorem Zen {o0 p0:Own} (h0:okO o0 p0=true) {β:Type} (l:List Note) (K:List Note->Option β):rws (Zc o0) (l.map (Zc p0).enc) K=K l:=by
 have:=Jm (Zc o0) (Zc p0).enc (fun x:Note=>x) (fun x _ K=>Zem h0 x K) l K;rw [this];exact Ux K (MA l)
theorem ZgR {o0 p0:Own} (h0:okO o0 p0=true) {β:Type} (l:List Note) (i:Int) (K:Note->Option β):Zz (Zc o0) (l.map (Zc p0).enc) i K=ZU l i K:=ZgM (Zc o0) (Zc p0).enc (fun x:Note=>x) (fun x _ K=>Zem h0 x K) l i K
theorem ZgS {o0 p0:Own} (h0:okO o0 p0=true) {β:Type} (l:List Note) (i:Nat) (K:Note->Option β):ZS (Zc o0) (l.map (Zc p0).enc) i K=Yf l i K:=Zej (Zc o0) (Zc p0).enc (fun x:Note=>x) (fun x _ K=>Zem h0 x K) l i K
theorem ZcD {o0 p0:Own} {q0:Own} (h0:okO o0 p0=true) (g0:okO o0 q0=true) {β:Type} (l:List Note) (i:Nat) (v_second:Int) (v_lights:(List Int)) (v_sig:Int) (K:List Note->Option β):rws (Zc o0) ((l.map (Zc p0).enc).set i [I v_second, .slc q0 1 (v_lights.map iR.enc),I v_sig]) K=K (l.set i (⟨v_second,v_lights,v_sig⟩:Note)):=by
 have:=Zei (Zc o0) (Zc p0).enc (fun x:Note=>x) (fun x _ K=>Zem h0 x K) [I v_second, .slc q0 1 (v_lights.map iR.enc),I v_sig] (⟨v_second,v_lights,v_sig⟩:Note) (fun K=>ZlP g0 _ _ _ K) l i K;rw [this];exact Ux K (MA _)
theorem Kk {o0 p0:Own} (h0:okO o0 p0=true) (v_second:Int) (v_lights:(List Int)) (v_sig:Int) {β:Type} (K:List Note->Option β):rws (Zc o0) [[I v_second, .slc p0 1 (v_lights.map iR.enc),I v_sig]] K=K [(⟨v_second,v_lights,v_sig⟩:Note)]:=ZlP h0 _ _ _ (fun y=>K [y])
theorem Zag {o0 p0:Own} (h0:okO o0 p0=true) {β:Type} (m:Nat) (v_second:Int) (v_lights:(List Int)) (v_sig:Int) (K:List Note->Option β):rws (Zc o0) (List.replicate m [I v_second, .slc p0 1 (v_lights.map iR.enc),I v_sig]) K=K (List.replicate m (⟨v_second,v_lights,v_sig⟩:Note)):=by
 have:=Jm (Zc o0) (Zc p0).enc (fun x:Note=>x) (fun x _ K=>Zem h0 x K) (List.replicate m (⟨v_second,v_lights,v_sig⟩:Note)) K;have e:(List.replicate m (⟨v_second,v_lights,v_sig⟩:Note)).map (Zc p0).enc=List.replicate m [I v_second, .slc p0 1 (v_lights.map iR.enc),I v_sig]:=MY;exact (Ux (fun z=>rws (Zc o0) z K) e).symm.trans (this.trans (Ux K (MA _)))
@[simp] theorem QB {p0:Own} (l:List Note):(l.map (Zc p0).enc).length=l.length:=Uv _
@[simp] theorem Zq3 {p0:Own} (l:List Note) (n:Nat):(l.map (Zc p0).enc).take n=(l.take n).map (Zc p0).enc:=List.map_take.symm
@[simp] theorem ZJE {p0:Own} (l:List Note) (n:Nat):(l.map (Zc p0).enc).drop n=(l.drop n).map (Zc p0).enc:=List.map_drop.symm
@[simp] theorem Zz2 (l:List Note):Ym (l.map (Zc Own.own).enc)=l.map (Zc Own.unq).enc:=Qy (fun x=>by show Xc [I x.second, .slc Own.own 1 (x.lights.map iR.enc),I x.sig]= [I x.second, .slc Own.unq 1 (x.lights.map iR.enc),I x.sig];simp [Xc,AV.toU]) l
@[simp] theorem ZJF (l:List Note) (i:Nat) (v_second:Int) (v_lights:(List Int)) (v_sig:Int):(l.map (Zc Own.unq).enc).set i [I v_second, .slc Own.unq 1 (v_lights.map iR.enc),I v_sig]=(l.set i (⟨v_second,v_lights,v_sig⟩:Note)).map (Zc Own.unq).enc:=(Mm (f:=(Zc Own.unq).enc) (l:=l) (i:=i) (a:=(⟨v_second,v_lights,v_sig⟩:Note))).symm
@[simp] theorem ZJG (l:List Note):Yo (l.map (Zc Own.unq).enc)=l.map (Zc Own.shr).enc:=Qz (fun x=>by show Xb [I x.second, .slc Own.unq 1 (x.lights.map iR.enc),I x.sig]= [I x.second, .slc Own.shr 1 (x.lights.map iR.enc),I x.sig];simp [Xb,AV.bor]) l
@[simp] theorem Zz3 (l:List Note):Y6 (l.map (Zc Own.own).enc)=true:=QA (fun x=>by show YG [I x.second, .slc Own.own 1 (x.lights.map iR.enc),I x.sig]=true;simp [YG,AV.okU]) l
@[simp] theorem Z6 {β:Type} (l:List Note) (K:List Note->Option β):rws (Zc Own.shr) (l.map (Zc Own.shr).enc) K=K l:=Zen rfl l K
@[simp] theorem Kl {β:Type} (l:List Note) (i:Int) (K:Note->Option β):Zz (Zc Own.shr) (l.map (Zc Own.shr).enc) i K=ZU l i K:=ZgR rfl l i K
@[simp] theorem ZJH {β:Type} (l:List Note) (i:Nat) (K:Note->Option β):ZS (Zc Own.shr) (l.map (Zc Own.shr).enc) i K=Yf l i K:=ZgS rfl l i K
@[simp] theorem ZJI (v_second:Int) (v_lights:(List Int)) (v_sig:Int) {β:Type} (K:List Note->Option β):rws (Zc Own.shr) [[I v_second, .slc Own.shr 1 (v_lights.map iR.enc),I v_sig]] K=K [(⟨v_second,v_lights,v_sig⟩:Note)]:=Kk (o0:= .shr) (p0:= .shr) rfl v_second v_lights v_sig K
@[simp] theorem ZJJ (v_second:Int) (v_lights:(List Int)) (v_sig:Int) {β:Type} (m:Nat) (K:List Note->Option β):rws (Zc Own.shr) (List.replicate m [I v_second, .slc Own.shr 1 (v_lights.map iR.enc),I v_sig]) K=K (List.replicate m (⟨v_second,v_lights,v_sig⟩:Note)):=Zag (o0:= .shr) (p0:= .shr) rfl m v_second v_lights v_sig K
@[simp] theorem ZJK (v_second:Int) (v_sig:Int) {β:Type} (K:List Note->Option β):rws (Zc Own.shr) [[I v_second, .slc Own.shr 1 [],I v_sig]] K=K [(⟨v_second,[],v_sig⟩:Note)]:=Kk (o0:= .shr) (p0:= .shr) rfl v_second [] v_sig K
@[simp] theorem ZJL (v_second:Int) (v_sig:Int) {β:Type} (m:Nat) (K:List Note->Option β):rws (Zc Own.shr) (List.replicate m [I v_second, .slc Own.shr 1 [],I v_sig]) K=K (List.replicate m (⟨v_second,[],v_sig⟩:Note)):=Zag (o0:= .shr) (p0:= .shr) rfl m v_second [] v_sig K
@[simp] theorem ZJM {β:Type} (l:List Note) (i:Nat) (v_second:Int) (v_lights:(List Int)) (v_sig:Int) (K:List Note->Option β):rws (Zc Own.shr) ((l.map (Zc Own.shr).enc).set i [I v_second, .slc Own.shr 1 (v_lights.map iR.enc),I v_sig]) K=K (l.set i (⟨v_second,v_lights,v_sig⟩:Note)):=ZcD (o0:= .shr) (p0:= .shr) (q0:= .shr) rfl rfl l i v_second v_lights v_sig K
@[simp] theorem ZJN {β:Type} (l:List Note) (i:Nat) (v_second:Int) (v_lights:(List Int)) (v_sig:Int) (K:List Note->Option β):rws (Zc Own.shr) ((l.map (Zc Own.shr).enc).set i [I v_second, .slc Own.own 1 (v_lights.map iR.enc),I v_sig]) K=K (l.set i (⟨v_second,v_lights,v_sig⟩:Note)):=ZcD (o0:= .shr) (p0:= .shr) (q0:= .own) rfl rfl l i v_second v_lights v_sig K
@[simp] theorem Yc {β:Type} (l:List Note) (K:List Note->Option β):rws (Zc Own.shr) (l.map (Zc Own.own).enc) K=K l:=Zen rfl l K
@[simp] theorem Km {β:Type} (l:List Note) (i:Int) (K:Note->Option β):Zz (Zc Own.shr) (l.map (Zc Own.own).enc) i K=ZU l i K:=ZgR rfl l i K
@[simp] theorem ZJO {β:Type} (l:List Note) (i:Nat) (K:Note->Option β):ZS (Zc Own.shr) (l.map (Zc Own.own).enc) i K=Yf l i K:=ZgS rfl l i K
@[simp] theorem ZJP (v_second:Int) (v_lights:(List Int)) (v_sig:Int) {β:Type} (K:List Note->Option β):rws (Zc Own.shr) [[I v_second, .slc Own.own 1 (v_lights.map iR.enc),I v_sig]] K=K [(⟨v_second,v_lights,v_sig⟩:Note)]:=Kk (o0:= .shr) (p0:= .own) rfl v_second v_lights v_sig K
@[simp] theorem ZJQ (v_second:Int) (v_lights:(List Int)) (v_sig:Int) {β:Type} (m:Nat) (K:List Note->Option β):rws (Zc Own.shr) (List.replicate m [I v_second, .slc Own.own 1 (v_lights.map iR.enc),I v_sig]) K=K (List.replicate m (⟨v_second,v_lights,v_sig⟩:Note)):=Zag (o0:= .shr) (p0:= .own) rfl m v_second v_lights v_sig K
@[simp] theorem ZJR (v_second:Int) (v_sig:Int) {β:Type} (K:List Note->Option β):rws (Zc Own.shr) [[I v_second, .slc Own.own 1 [],I v_sig]] K=K [(⟨v_second,[],v_sig⟩:Note)]:=Kk (o0:= .shr) (p0:= .own) rfl v_second [] v_sig K
@[simp] theorem ZJS (v_second:Int) (v_sig:Int) {β:Type} (m:Nat) (K:List Note->Option β):rws (Zc Own.shr) (List.replicate m [I v_second, .slc Own.own 1 [],I v_sig]) K=K (List.replicate m (⟨v_second,[],v_sig⟩:Note)):=Zag (o0:= .shr) (p0:= .own) rfl m v_second [] v_sig K
@[simp] theorem ZJT {β:Type} (l:List Note) (i:Nat) (v_second:Int) (v_lights:(List Int)) (v_sig:Int) (K:List Note->Option β):rws (Zc Own.shr) ((l.map (Zc Own.own).enc).set i [I v_second, .slc Own.shr 1 (v_lights.map iR.enc),I v_sig]) K=K (l.set i (⟨v_second,v_lights,v_sig⟩:Note)):=ZcD (o0:= .shr) (p0:= .own) (q0:= .shr) rfl rfl l i v_second v_lights v_sig K
@[simp] theorem ZJU {β:Type} (l:List Note) (i:Nat) (v_second:Int) (v_lights:(List Int)) (v_sig:Int) (K:List Note->Option β):rws (Zc Own.shr) ((l.map (Zc Own.own).enc).set i [I v_second, .slc Own.own 1 (v_lights.map iR.enc),I v_sig]) K=K (l.set i (⟨v_second,v_lights,v_sig⟩:Note)):=ZcD (o0:= .shr) (p0:= .own) (q0:= .own) rfl rfl l i v_second v_lights v_sig K
@[simp] theorem Z3 {β:Type} (l:List Note) (K:List Note->Option β):rws (Zc Own.own) (l.map (Zc Own.own).enc) K=K l:=Zen rfl l K
@[simp] theorem Zah {β:Type} (l:List Note) (i:Int) (K:Note->Option β):Zz (Zc Own.own) (l.map (Zc Own.own).enc) i K=ZU l i K:=ZgR rfl l i K
@[simp] theorem ZJV {β:Type} (l:List Note) (i:Nat) (K:Note->Option β):ZS (Zc Own.own) (l.map (Zc Own.own).enc) i K=Yf l i K:=ZgS rfl l i K
@[simp] theorem ZJW (v_second:Int) (v_lights:(List Int)) (v_sig:Int) {β:Type} (K:List Note->Option β):rws (Zc Own.own) [[I v_second, .slc Own.own 1 (v_lights.map iR.enc),I v_sig]] K=K [(⟨v_second,v_lights,v_sig⟩:Note)]:=Kk (o0:= .own) (p0:= .own) rfl v_second v_lights v_sig K
@[simp] theorem ZJX (v_second:Int) (v_lights:(List Int)) (v_sig:Int) {β:Type} (m:Nat) (K:List Note->Option β):rws (Zc Own.own) (List.replicate m [I v_second, .slc Own.own 1 (v_lights.map iR.enc),I v_sig]) K=K (List.replicate m (⟨v_second,v_lights,v_sig⟩:Note)):=Zag (o0:= .own) (p0:= .own) rfl m v_second v_lights v_sig K
@[simp] theorem ZJY (v_second:Int) (v_sig:Int) {β:Type} (K:List Note->Option β):rws (Zc Own.own) [[I v_second, .slc Own.own 1 [],I v_sig]] K=K [(⟨v_second,[],v_sig⟩:Note)]:=Kk (o0:= .own) (p0:= .own) rfl v_second [] v_sig K
@[simp] theorem ZJZ (v_second:Int) (v_sig:Int) {β:Type} (m:Nat) (K:List Note->Option β):rws (Zc Own.own) (List.replicate m [I v_second, .slc Own.own 1 [],I v_sig]) K=K (List.replicate m (⟨v_second,[],v_sig⟩:Note)):=Zag (o0:= .own) (p0:= .own) rfl m v_second [] v_sig K
@[simp] theorem ZJ0 {β:Type} (l:List Note) (i:Nat) (v_second:Int) (v_lights:(List Int)) (v_sig:Int) (K:List Note->Option β):rws (Zc Own.own) ((l.map (Zc Own.own).enc).set i [I v_second, .slc Own.own 1 (v_lights.map iR.enc),I v_sig]) K=K (l.set i (⟨v_second,v_lights,v_sig⟩:Note)):=ZcD (o0:= .own) (p0:= .own) (q0:= .own) rfl rfl l i v_second v_lights v_sig K
@[simp] theorem ZlQ {β:Type} (l:List Note) (K:List Note->Option β):rws (Zc Own.unq) (l.map (Zc Own.unq).enc) K=K l:=Zen rfl l K
@[simp] theorem ZJ1 {β:Type} (l:List Note) (i:Int) (K:Note->Option β):Zz (Zc Own.unq) (l.map (Zc Own.unq).enc) i K=ZU l i K:=ZgR rfl l i K
@[simp] theorem ZJ2 {β:Type} (l:List Note) (i:Nat) (K:Note->Option β):ZS (Zc Own.unq) (l.map (Zc Own.unq).enc) i K=Yf l i K:=ZgS rfl l i K
@[simp] theorem ZJ3 (v_second:Int) (v_lights:(List Int)) (v_sig:Int) {β:Type} (K:List Note->Option β):rws (Zc Own.unq) [[I v_second, .slc Own.unq 1 (v_lights.map iR.enc),I v_sig]] K=K [(⟨v_second,v_lights,v_sig⟩:Note)]:=Kk (o0:= .unq) (p0:= .unq) rfl v_second v_lights v_sig K
@[simp] theorem ZJ4 (v_second:Int) (v_lights:(List Int)) (v_sig:Int) {β:Type} (m:Nat) (K:List Note->Option β):rws (Zc Own.unq) (List.replicate m [I v_second, .slc Own.unq 1 (v_lights.map iR.enc),I v_sig]) K=K (List.replicate m (⟨v_second,v_lights,v_sig⟩:Note)):=Zag (o0:= .unq) (p0:= .unq) rfl m v_second v_lights v_sig K
@[simp] theorem ZJ5 (v_second:Int) (v_sig:Int) {β:Type} (K:List Note->Option β):rws (Zc Own.unq) [[I v_second, .slc Own.unq 1 [],I v_sig]] K=K [(⟨v_second,[],v_sig⟩:Note)]:=Kk (o0:= .unq) (p0:= .unq) rfl v_second [] v_sig K
@[simp] theorem ZJ6 (v_second:Int) (v_sig:Int) {β:Type} (m:Nat) (K:List Note->Option β):rws (Zc Own.unq) (List.replicate m [I v_second, .slc Own.unq 1 [],I v_sig]) K=K (List.replicate m (⟨v_second,[],v_sig⟩:Note)):=Zag (o0:= .unq) (p0:= .unq) rfl m v_second [] v_sig K
@[simp] theorem ZJ7 {β:Type} (l:List Note) (i:Nat) (v_second:Int) (v_lights:(List Int)) (v_sig:Int) (K:List Note->Option β):rws (Zc Own.unq) ((l.map (Zc Own.unq).enc).set i [I v_second, .slc Own.unq 1 (v_lights.map iR.enc),I v_sig]) K=K (l.set i (⟨v_second,v_lights,v_sig⟩:Note)):=ZcD (o0:= .unq) (p0:= .unq) (q0:= .unq) rfl rfl l i v_second v_lights v_sig K
@[simp] theorem Z4 (v:Town):(⟨v.paths,v.control,v.wants,v.prio,v.lamps,v.power,v.record,v.books,v.now⟩:Town)=v:=rfl
@[simp] theorem Qk (v:L1Cur):(⟨v.b,v.i,v.h⟩:L1Cur)=v:=rfl
theorem ZlR {o0 p0:Own} (h0:okO o0 p0=true) (v_b:(List Int)) (v_i:Int) (v_h:Int) {β:Type} (K:L1Cur->Option β):(Zm o0).get [.slc p0 1 (v_b.map yR.enc),I v_i,I v_h] K=K (⟨v_b,v_i,v_h⟩:L1Cur):=by
 cases o0 <;> cases p0 <;> first | (exact Zr _ _) | (exact YI _ _) | (simp [okO] at h0)
theorem Zeo {o0 p0:Own} (h0:okO o0 p0=true) (v:L1Cur) {β:Type} (K:L1Cur->Option β):(Zm o0).get ((Zm p0).enc v) K=K v:=ZlR h0 v.b v.i v.h K
theorem ZgT {o0 p0:Own} (h0:okO o0 p0=true) {β:Type} (l:List L1Cur) (K:List L1Cur->Option β):rws (Zm o0) (l.map (Zm p0).enc) K=K l:=by
 have:=Jm (Zm o0) (Zm p0).enc (fun x:L1Cur=>x) (fun x _ K=>Zeo h0 x K) l K;rw [this];exact Ux K (MA l)
theorem ZgU {o0 p0:Own} (h0:okO o0 p0=true) {β:Type} (l:List L1Cur) (i:Int) (K:L1Cur->Option β):Zz (Zm o0) (l.map (Zm p0).enc) i K=ZU l i K:=ZgM (Zm o0) (Zm p0).enc (fun x:L1Cur=>x) (fun x _ K=>Zeo h0 x K) l i K
theorem ZgV {o0 p0:Own} (h0:okO o0 p0=true) {β:Type} (l:List L1Cur) (i:Nat) (K:L1Cur->Option β):ZS (Zm o0) (l.map (Zm p0).enc) i K=Yf l i K:=Zej (Zm o0) (Zm p0).enc (fun x:L1Cur=>x) (fun x _ K=>Zeo h0 x K) l i K
theorem ZcE {o0 p0:Own} {q0:Own} (h0:okO o0 p0=true) (g0:okO o0 q0=true) {β:Type} (l:List L1Cur) (i:Nat) (v_b:(List Int)) (v_i:Int) (v_h:Int) (K:List L1Cur->Option β):rws (Zm o0) ((l.map (Zm p0).enc).set i [.slc q0 1 (v_b.map yR.enc),I v_i,I v_h]) K=K (l.set i (⟨v_b,v_i,v_h⟩:L1Cur)):=by
 have:=Zei (Zm o0) (Zm p0).enc (fun x:L1Cur=>x) (fun x _ K=>Zeo h0 x K) [.slc q0 1 (v_b.map yR.enc),I v_i,I v_h] (⟨v_b,v_i,v_h⟩:L1Cur) (fun K=>ZlR g0 _ _ _ K) l i K;rw [this];exact Ux K (MA _)
theorem Zai {o0 p0:Own} (h0:okO o0 p0=true) (v_b:(List Int)) (v_i:Int) (v_h:Int) {β:Type} (K:List L1Cur->Option β):rws (Zm o0) [[.slc p0 1 (v_b.map yR.enc),I v_i,I v_h]] K=K [(⟨v_b,v_i,v_h⟩:L1Cur)]:=ZlR h0 _ _ _ (fun y=>K [y])
theorem Zaj {o0 p0:Own} (h0:okO o0 p0=true) {β:Type} (m:Nat) (v_b:(List Int)) (v_i:Int) (v_h:Int) (K:List L1Cur->Option β):rws (Zm o0) (List.replicate m [.slc p0 1 (v_b.map yR.enc),I v_i,I v_h]) K=K (List.replicate m (⟨v_b,v_i,v_h⟩:L1Cur)):=by
 have:=Jm (Zm o0) (Zm p0).enc (fun x:L1Cur=>x) (fun x _ K=>Zeo h0 x K) (List.replicate m (⟨v_b,v_i,v_h⟩:L1Cur)) K;have e:(List.replicate m (⟨v_b,v_i,v_h⟩:L1Cur)).map (Zm p0).enc=List.replicate m [.slc p0 1 (v_b.map yR.enc),I v_i,I v_h]:=MY;exact (Ux (fun z=>rws (Zm o0) z K) e).symm.trans (this.trans (Ux K (MA _)))
@[simp] theorem ZJ8 {p0:Own} (l:List L1Cur):(l.map (Zm p0).enc).length=l.length:=Uv _
@[simp] theorem ZJ9 {p0:Own} (l:List L1Cur) (n:Nat):(l.map (Zm p0).enc).take n=(l.take n).map (Zm p0).enc:=List.map_take.symm
@[simp] theorem ZKa {p0:Own} (l:List L1Cur) (n:Nat):(l.map (Zm p0).enc).drop n=(l.drop n).map (Zm p0).enc:=List.map_drop.symm
@[simp] theorem ZKb (l:List L1Cur):Ym (l.map (Zm Own.own).enc)=l.map (Zm Own.unq).enc:=Qy (fun x=>by show Xc [.slc Own.own 1 (x.b.map yR.enc),I x.i,I x.h]= [.slc Own.unq 1 (x.b.map yR.enc),I x.i,I x.h];simp [Xc,AV.toU]) l
@[simp] theorem ZKc (l:List L1Cur) (i:Nat) (v_b:(List Int)) (v_i:Int) (v_h:Int):(l.map (Zm Own.unq).enc).set i [.slc Own.unq 1 (v_b.map yR.enc),I v_i,I v_h]=(l.set i (⟨v_b,v_i,v_h⟩:L1Cur)).map (Zm Own.unq).enc:=(Mm (f:=(Zm Own.unq).enc) (l:=l) (i:=i) (a:=(⟨v_b,v_i,v_h⟩:L1Cur))).symm
@[simp] theorem ZKd (l:List L1Cur):Yo (l.map (Zm Own.unq).enc)=l.map (Zm Own.shr).enc:=Qz (fun x=>by show Xb [.slc Own.unq 1 (x.b.map yR.enc),I x.i,I x.h]= [.slc Own.shr 1 (x.b.map yR.enc),I x.i,I x.h];simp [Xb,AV.bor]) l
@[simp] theorem ZKe (l:List L1Cur):Y6 (l.map (Zm Own.own).enc)=true:=QA (fun x=>by show YG [.slc Own.own 1 (x.b.map yR.enc),I x.i,I x.h]=true;simp [YG,AV.okU]) l
@[simp] theorem ZKf {β:Type} (l:List L1Cur) (K:List L1Cur->Option β):rws (Zm Own.shr) (l.map (Zm Own.shr).enc) K=K l:=ZgT rfl l K
@[simp] theorem ZKg {β:Type} (l:List L1Cur) (i:Int) (K:L1Cur->Option β):Zz (Zm Own.shr) (l.map (Zm Own.shr).enc) i K=ZU l i K:=ZgU rfl l i K
@[simp] theorem ZKh {β:Type} (l:List L1Cur) (i:Nat) (K:L1Cur->Option β):ZS (Zm Own.shr) (l.map (Zm Own.shr).enc) i K=Yf l i K:=ZgV rfl l i K
@[simp] theorem ZKi (v_b:(List Int)) (v_i:Int) (v_h:Int) {β:Type} (K:List L1Cur->Option β):rws (Zm Own.shr) [[.slc Own.shr 1 (v_b.map yR.enc),I v_i,I v_h]] K=K [(⟨v_b,v_i,v_h⟩:L1Cur)]:=Zai (o0:= .shr) (p0:= .shr) rfl v_b v_i v_h K
@[simp] theorem ZKj (v_b:(List Int)) (v_i:Int) (v_h:Int) {β:Type} (m:Nat) (K:List L1Cur->Option β):rws (Zm Own.shr) (List.replicate m [.slc Own.shr 1 (v_b.map yR.enc),I v_i,I v_h]) K=K (List.replicate m (⟨v_b,v_i,v_h⟩:L1Cur)):=Zaj (o0:= .shr) (p0:= .shr) rfl m v_b v_i v_h K
@[simp] theorem ZKk (v_i:Int) (v_h:Int) {β:Type} (K:List L1Cur->Option β):rws (Zm Own.shr) [[.slc Own.shr 1 [],I v_i,I v_h]] K=K [(⟨[],v_i,v_h⟩:L1Cur)]:=Zai (o0:= .shr) (p0:= .shr) rfl [] v_i v_h K
@[simp] theorem ZKl (v_i:Int) (v_h:Int) {β:Type} (m:Nat) (K:List L1Cur->Option β):rws (Zm Own.shr) (List.replicate m [.slc Own.shr 1 [],I v_i,I v_h]) K=K (List.replicate m (⟨[],v_i,v_h⟩:L1Cur)):=Zaj (o0:= .shr) (p0:= .shr) rfl m [] v_i v_h K
@[simp] theorem ZKm {β:Type} (l:List L1Cur) (i:Nat) (v_b:(List Int)) (v_i:Int) (v_h:Int) (K:List L1Cur->Option β):rws (Zm Own.shr) ((l.map (Zm Own.shr).enc).set i [.slc Own.shr 1 (v_b.map yR.enc),I v_i,I v_h]) K=K (l.set i (⟨v_b,v_i,v_h⟩:L1Cur)):=ZcE (o0:= .shr) (p0:= .shr) (q0:= .shr) rfl rfl l i v_b v_i v_h K
@[simp] theorem ZKn {β:Type} (l:List L1Cur) (i:Nat) (v_b:(List Int)) (v_i:Int) (v_h:Int) (K:List L1Cur->Option β):rws (Zm Own.shr) ((l.map (Zm Own.shr).enc).set i [.slc Own.own 1 (v_b.map yR.enc),I v_i,I v_h]) K=K (l.set i (⟨v_b,v_i,v_h⟩:L1Cur)):=ZcE (o0:= .shr) (p0:= .shr) (q0:= .own) rfl rfl l i v_b v_i v_h K
@[simp] theorem ZKo {β:Type} (l:List L1Cur) (K:List L1Cur->Option β):rws (Zm Own.shr) (l.map (Zm Own.own).enc) K=K l:=ZgT rfl l K
@[simp] theorem ZKp {β:Type} (l:List L1Cur) (i:Int) (K:L1Cur->Option β):Zz (Zm Own.shr) (l.map (Zm Own.own).enc) i K=ZU l i K:=ZgU rfl l i K
@[simp] theorem ZKq {β:Type} (l:List L1Cur) (i:Nat) (K:L1Cur->Option β):ZS (Zm Own.shr) (l.map (Zm Own.own).enc) i K=Yf l i K:=ZgV rfl l i K
@[simp] theorem ZKr (v_b:(List Int)) (v_i:Int) (v_h:Int) {β:Type} (K:List L1Cur->Option β):rws (Zm Own.shr) [[.slc Own.own 1 (v_b.map yR.enc),I v_i,I v_h]] K=K [(⟨v_b,v_i,v_h⟩:L1Cur)]:=Zai (o0:= .shr) (p0:= .own) rfl v_b v_i v_h K
@[simp] theorem ZKs (v_b:(List Int)) (v_i:Int) (v_h:Int) {β:Type} (m:Nat) (K:List L1Cur->Option β):rws (Zm Own.shr) (List.replicate m [.slc Own.own 1 (v_b.map yR.enc),I v_i,I v_h]) K=K (List.replicate m (⟨v_b,v_i,v_h⟩:L1Cur)):=Zaj (o0:= .shr) (p0:= .own) rfl m v_b v_i v_h K
@[simp] theorem ZKt (v_i:Int) (v_h:Int) {β:Type} (K:List L1Cur->Option β):rws (Zm Own.shr) [[.slc Own.own 1 [],I v_i,I v_h]] K=K [(⟨[],v_i,v_h⟩:L1Cur)]:=Zai (o0:= .shr) (p0:= .own) rfl [] v_i v_h K
@[simp] theorem ZKu (v_i:Int) (v_h:Int) {β:Type} (m:Nat) (K:List L1Cur->Option β):rws (Zm Own.shr) (List.replicate m [.slc Own.own 1 [],I v_i,I v_h]) K=K (List.replicate m (⟨[],v_i,v_h⟩:L1Cur)):=Zaj (o0:= .shr) (p0:= .own) rfl m [] v_i v_h K
@[simp] theorem ZKv {β:Type} (l:List L1Cur) (i:Nat) (v_b:(List Int)) (v_i:Int) (v_h:Int) (K:List L1Cur->Option β):rws (Zm Own.shr) ((l.map (Zm Own.own).enc).set i [.slc Own.shr 1 (v_b.map yR.enc),I v_i,I v_h]) K=K (l.set i (⟨v_b,v_i,v_h⟩:L1Cur)):=ZcE (o0:= .shr) (p0:= .own) (q0:= .shr) rfl rfl l i v_b v_i v_h K
@[simp] theorem ZKw {β:Type} (l:List L1Cur) (i:Nat) (v_b:(List Int)) (v_i:Int) (v_h:Int) (K:List L1Cur->Option β):rws (Zm Own.shr) ((l.map (Zm Own.own).enc).set i [.slc Own.own 1 (v_b.map yR.enc),I v_i,I v_h]) K=K (l.set i (⟨v_b,v_i,v_h⟩:L1Cur)):=ZcE (o0:= .shr) (p0:= .own) (q0:= .own) rfl rfl l i v_b v_i v_h K
@[simp] theorem ZKx {β:Type} (l:List L1Cur) (K:List L1Cur->Option β):rws (Zm Own.own) (l.map (Zm Own.own).enc) K=K l:=ZgT rfl l K
@[simp] theorem ZKy {β:Type} (l:List L1Cur) (i:Int) (K:L1Cur->Option β):Zz (Zm Own.own) (l.map (Zm Own.own).enc) i K=ZU l i K:=ZgU rfl l i K
@[simp] theorem ZKz {β:Type} (l:List L1Cur) (i:Nat) (K:L1Cur->Option β):ZS (Zm Own.own) (l.map (Zm Own.own).enc) i K=Yf l i K:=ZgV rfl l i K
@[simp] theorem ZKA (v_b:(List Int)) (v_i:Int) (v_h:Int) {β:Type} (K:List L1Cur->Option β):rws (Zm Own.own) [[.slc Own.own 1 (v_b.map yR.enc),I v_i,I v_h]] K=K [(⟨v_b,v_i,v_h⟩:L1Cur)]:=Zai (o0:= .own) (p0:= .own) rfl v_b v_i v_h K
@[simp] theorem ZKB (v_b:(List Int)) (v_i:Int) (v_h:Int) {β:Type} (m:Nat) (K:List L1Cur->Option β):rws (Zm Own.own) (List.replicate m [.slc Own.own 1 (v_b.map yR.enc),I v_i,I v_h]) K=K (List.replicate m (⟨v_b,v_i,v_h⟩:L1Cur)):=Zaj (o0:= .own) (p0:= .own) rfl m v_b v_i v_h K
@[simp] theorem ZKC (v_i:Int) (v_h:Int) {β:Type} (K:List L1Cur->Option β):rws (Zm Own.own) [[.slc Own.own 1 [],I v_i,I v_h]] K=K [(⟨[],v_i,v_h⟩:L1Cur)]:=Zai (o0:= .own) (p0:= .own) rfl [] v_i v_h K
@[simp] theorem ZKD (v_i:Int) (v_h:Int) {β:Type} (m:Nat) (K:List L1Cur->Option β):rws (Zm Own.own) (List.replicate m [.slc Own.own 1 [],I v_i,I v_h]) K=K (List.replicate m (⟨[],v_i,v_h⟩:L1Cur)):=Zaj (o0:= .own) (p0:= .own) rfl m [] v_i v_h K
@[simp] theorem ZKE {β:Type} (l:List L1Cur) (i:Nat) (v_b:(List Int)) (v_i:Int) (v_h:Int) (K:List L1Cur->Option β):rws (Zm Own.own) ((l.map (Zm Own.own).enc).set i [.slc Own.own 1 (v_b.map yR.enc),I v_i,I v_h]) K=K (l.set i (⟨v_b,v_i,v_h⟩:L1Cur)):=ZcE (o0:= .own) (p0:= .own) (q0:= .own) rfl rfl l i v_b v_i v_h K
@[simp] theorem ZKF {β:Type} (l:List L1Cur) (K:List L1Cur->Option β):rws (Zm Own.unq) (l.map (Zm Own.unq).enc) K=K l:=ZgT rfl l K
@[simp] theorem ZKG {β:Type} (l:List L1Cur) (i:Int) (K:L1Cur->Option β):Zz (Zm Own.unq) (l.map (Zm Own.unq).enc) i K=ZU l i K:=ZgU rfl l i K
@[simp] theorem ZKH {β:Type} (l:List L1Cur) (i:Nat) (K:L1Cur->Option β):ZS (Zm Own.unq) (l.map (Zm Own.unq).enc) i K=Yf l i K:=ZgV rfl l i K
@[simp] theorem ZKI (v_b:(List Int)) (v_i:Int) (v_h:Int) {β:Type} (K:List L1Cur->Option β):rws (Zm Own.unq) [[.slc Own.unq 1 (v_b.map yR.enc),I v_i,I v_h]] K=K [(⟨v_b,v_i,v_h⟩:L1Cur)]:=Zai (o0:= .unq) (p0:= .unq) rfl v_b v_i v_h K
@[simp] theorem ZKJ (v_b:(List Int)) (v_i:Int) (v_h:Int) {β:Type} (m:Nat) (K:List L1Cur->Option β):rws (Zm Own.unq) (List.replicate m [.slc Own.unq 1 (v_b.map yR.enc),I v_i,I v_h]) K=K (List.replicate m (⟨v_b,v_i,v_h⟩:L1Cur)):=Zaj (o0:= .unq) (p0:= .unq) rfl m v_b v_i v_h K
@[simp] theorem ZKK (v_i:Int) (v_h:Int) {β:Type} (K:List L1Cur->Option β):rws (Zm Own.unq) [[.slc Own.unq 1 [],I v_i,I v_h]] K=K [(⟨[],v_i,v_h⟩:L1Cur)]:=Zai (o0:= .unq) (p0:= .unq) rfl [] v_i v_h K
@[simp] theorem ZKL (v_i:Int) (v_h:Int) {β:Type} (m:Nat) (K:List L1Cur->Option β):rws (Zm Own.unq) (List.replicate m [.slc Own.unq 1 [],I v_i,I v_h]) K=K (List.replicate m (⟨[],v_i,v_h⟩:L1Cur)):=Zaj (o0:= .unq) (p0:= .unq) rfl m [] v_i v_h K
@[simp] theorem ZKM {β:Type} (l:List L1Cur) (i:Nat) (v_b:(List Int)) (v_i:Int) (v_h:Int) (K:List L1Cur->Option β):rws (Zm Own.unq) ((l.map (Zm Own.unq).enc).set i [.slc Own.unq 1 (v_b.map yR.enc),I v_i,I v_h]) K=K (l.set i (⟨v_b,v_i,v_h⟩:L1Cur)):=ZcE (o0:= .unq) (p0:= .unq) (q0:= .unq) rfl rfl l i v_b v_i v_h K
@[simp] theorem ZKN (v:Part):(⟨v.stage,v.green⟩:Part)=v:=rfl
theorem ZlS {o0 p0:Own} (h0:okO o0 p0=true) (v_stage:(List Int)) (v_green:Int) {β:Type} (K:Part->Option β):(Zo o0).get [.slc p0 1 (v_stage.map iR.enc),I v_green] K=K (⟨v_stage,v_green⟩:Part):=by
 cases o0 <;> cases p0 <;> first | (exact Zr _ _) | (exact YI _ _) | (simp [okO] at h0)
theorem Zep {o0 p0:Own} (h0:okO o0 p0=true) (v:Part) {β:Type} (K:Part->Option β):(Zo o0).get ((Zo p0).enc v) K=K v:=ZlS h0 v.stage v.green K
theorem ZgW {o0 p0:Own} (h0:okO o0 p0=true) {β:Type} (l:List Part) (K:List Part->Option β):rws (Zo o0) (l.map (Zo p0).enc) K=K l:=by
 have:=Jm (Zo o0) (Zo p0).enc (fun x:Part=>x) (fun x _ K=>Zep h0 x K) l K;rw [this];exact Ux K (MA l)
theorem ZgX {o0 p0:Own} (h0:okO o0 p0=true) {β:Type} (l:List Part) (i:Int) (K:Part->Option β):Zz (Zo o0) (l.map (Zo p0).enc) i K=ZU l i K:=ZgM (Zo o0) (Zo p0).enc (fun x:Part=>x) (fun x _ K=>Zep h0 x K) l i K
theorem ZgY {o0 p0:Own} (h0:okO o0 p0=true) {β:Type} (l:List Part) (i:Nat) (K:Part->Option β):ZS (Zo o0) (l.map (Zo p0).enc) i K=Yf l i K:=Zej (Zo o0) (Zo p0).enc (fun x:Part=>x) (fun x _ K=>Zep h0 x K) l i K
theorem ZcF {o0 p0:Own} {q0:Own} (h0:okO o0 p0=true) (g0:okO o0 q0=true) {β:Type} (l:List Part) (i:Nat) (v_stage:(List Int)) (v_green:Int) (K:List Part->Option β):rws (Zo o0) ((l.map (Zo p0).enc).set i [.slc q0 1 (v_stage.map iR.enc),I v_green]) K=K (l.set i (⟨v_stage,v_green⟩:Part)):=by
 have:=Zei (Zo o0) (Zo p0).enc (fun x:Part=>x) (fun x _ K=>Zep h0 x K) [.slc q0 1 (v_stage.map iR.enc),I v_green] (⟨v_stage,v_green⟩:Part) (fun K=>ZlS g0 _ _ K) l i K;rw [this];exact Ux K (MA _)
theorem Zak {o0 p0:Own} (h0:okO o0 p0=true) (v_stage:(List Int)) (v_green:Int) {β:Type} (K:List Part->Option β):rws (Zo o0) [[.slc p0 1 (v_stage.map iR.enc),I v_green]] K=K [(⟨v_stage,v_green⟩:Part)]:=ZlS h0 _ _ (fun y=>K [y])
theorem Zal {o0 p0:Own} (h0:okO o0 p0=true) {β:Type} (m:Nat) (v_stage:(List Int)) (v_green:Int) (K:List Part->Option β):rws (Zo o0) (List.replicate m [.slc p0 1 (v_stage.map iR.enc),I v_green]) K=K (List.replicate m (⟨v_stage,v_green⟩:Part)):=by
 have:=Jm (Zo o0) (Zo p0).enc (fun x:Part=>x) (fun x _ K=>Zep h0 x K) (List.replicate m (⟨v_stage,v_green⟩:Part)) K;have e:(List.replicate m (⟨v_stage,v_green⟩:Part)).map (Zo p0).enc=List.replicate m [.slc p0 1 (v_stage.map iR.enc),I v_green]:=MY;exact (Ux (fun z=>rws (Zo o0) z K) e).symm.trans (this.trans (Ux K (MA _)))
@[simp] theorem Zq4 {p0:Own} (l:List Part):(l.map (Zo p0).enc).length=l.length:=Uv _
@[simp] theorem ZKO {p0:Own} (l:List Part) (n:Nat):(l.map (Zo p0).enc).take n=(l.take n).map (Zo p0).enc:=List.map_take.symm
@[simp] theorem ZKP {p0:Own} (l:List Part) (n:Nat):(l.map (Zo p0).enc).drop n=(l.drop n).map (Zo p0).enc:=List.map_drop.symm
@[simp] theorem ZKQ (l:List Part):Ym (l.map (Zo Own.own).enc)=l.map (Zo Own.unq).enc:=Qy (fun x=>by show Xc [.slc Own.own 1 (x.stage.map iR.enc),I x.green]= [.slc Own.unq 1 (x.stage.map iR.enc),I x.green];simp [Xc,AV.toU]) l
@[simp] theorem ZKR (l:List Part) (i:Nat) (v_stage:(List Int)) (v_green:Int):(l.map (Zo Own.unq).enc).set i [.slc Own.unq 1 (v_stage.map iR.enc),I v_green]=(l.set i (⟨v_stage,v_green⟩:Part)).map (Zo Own.unq).enc:=(Mm (f:=(Zo Own.unq).enc) (l:=l) (i:=i) (a:=(⟨v_stage,v_green⟩:Part))).symm
@[simp] theorem ZKS (l:List Part):Yo (l.map (Zo Own.unq).enc)=l.map (Zo Own.shr).enc:=Qz (fun x=>by show Xb [.slc Own.unq 1 (x.stage.map iR.enc),I x.green]= [.slc Own.shr 1 (x.stage.map iR.enc),I x.green];simp [Xb,AV.bor]) l
@[simp] theorem ZKT (l:List Part):Y6 (l.map (Zo Own.own).enc)=true:=QA (fun x=>by show YG [.slc Own.own 1 (x.stage.map iR.enc),I x.green]=true;simp [YG,AV.okU]) l
@[simp] theorem Jo {β:Type} (l:List Part) (K:List Part->Option β):rws (Zo Own.shr) (l.map (Zo Own.shr).enc) K=K l:=ZgW rfl l K
@[simp] theorem ZKU {β:Type} (l:List Part) (i:Int) (K:Part->Option β):Zz (Zo Own.shr) (l.map (Zo Own.shr).enc) i K=ZU l i K:=ZgX rfl l i K
@[simp] theorem ZKV {β:Type} (l:List Part) (i:Nat) (K:Part->Option β):ZS (Zo Own.shr) (l.map (Zo Own.shr).enc) i K=Yf l i K:=ZgY rfl l i K
@[simp] theorem ZKW (v_stage:(List Int)) (v_green:Int) {β:Type} (K:List Part->Option β):rws (Zo Own.shr) [[.slc Own.shr 1 (v_stage.map iR.enc),I v_green]] K=K [(⟨v_stage,v_green⟩:Part)]:=Zak (o0:= .shr) (p0:= .shr) rfl v_stage v_green K
@[simp] theorem ZKX (v_stage:(List Int)) (v_green:Int) {β:Type} (m:Nat) (K:List Part->Option β):rws (Zo Own.shr) (List.replicate m [.slc Own.shr 1 (v_stage.map iR.enc),I v_green]) K=K (List.replicate m (⟨v_stage,v_green⟩:Part)):=Zal (o0:= .shr) (p0:= .shr) rfl m v_stage v_green K
@[simp] theorem ZKY (v_green:Int) {β:Type} (K:List Part->Option β):rws (Zo Own.shr) [[.slc Own.shr 1 [],I v_green]] K=K [(⟨[],v_green⟩:Part)]:=Zak (o0:= .shr) (p0:= .shr) rfl [] v_green K
@[simp] theorem ZKZ (v_green:Int) {β:Type} (m:Nat) (K:List Part->Option β):rws (Zo Own.shr) (List.replicate m [.slc Own.shr 1 [],I v_green]) K=K (List.replicate m (⟨[],v_green⟩:Part)):=Zal (o0:= .shr) (p0:= .shr) rfl m [] v_green K
@[simp] theorem ZK0 {β:Type} (l:List Part) (i:Nat) (v_stage:(List Int)) (v_green:Int) (K:List Part->Option β):rws (Zo Own.shr) ((l.map (Zo Own.shr).enc).set i [.slc Own.shr 1 (v_stage.map iR.enc),I v_green]) K=K (l.set i (⟨v_stage,v_green⟩:Part)):=ZcF (o0:= .shr) (p0:= .shr) (q0:= .shr) rfl rfl l i v_stage v_green K
@[simp] theorem ZK1 {β:Type} (l:List Part) (i:Nat) (v_stage:(List Int)) (v_green:Int) (K:List Part->Option β):rws (Zo Own.shr) ((l.map (Zo Own.shr).enc).set i [.slc Own.own 1 (v_stage.map iR.enc),I v_green]) K=K (l.set i (⟨v_stage,v_green⟩:Part)):=ZcF (o0:= .shr) (p0:= .shr) (q0:= .own) rfl rfl l i v_stage v_green K
@[simp] theorem ZK2 {β:Type} (l:List Part) (K:List Part->Option β):rws (Zo Own.shr) (l.map (Zo Own.own).enc) K=K l:=ZgW rfl l K
@[simp] theorem ZK3 {β:Type} (l:List Part) (i:Int) (K:Part->Option β):Zz (Zo Own.shr) (l.map (Zo Own.own).enc) i K=ZU l i K:=ZgX rfl l i K
@[simp] theorem ZK4 {β:Type} (l:List Part) (i:Nat) (K:Part->Option β):ZS (Zo Own.shr) (l.map (Zo Own.own).enc) i K=Yf l i K:=ZgY rfl l i K
@[simp] theorem ZK5 (v_stage:(List Int)) (v_green:Int) {β:Type} (K:List Part->Option β):rws (Zo Own.shr) [[.slc Own.own 1 (v_stage.map iR.enc),I v_green]] K=K [(⟨v_stage,v_green⟩:Part)]:=Zak (o0:= .shr) (p0:= .own) rfl v_stage v_green K
@[simp] theorem ZK6 (v_stage:(List Int)) (v_green:Int) {β:Type} (m:Nat) (K:List Part->Option β):rws (Zo Own.shr) (List.replicate m [.slc Own.own 1 (v_stage.map iR.enc),I v_green]) K=K (List.replicate m (⟨v_stage,v_green⟩:Part)):=Zal (o0:= .shr) (p0:= .own) rfl m v_stage v_green K
@[simp] theorem ZK7 (v_green:Int) {β:Type} (K:List Part->Option β):rws (Zo Own.shr) [[.slc Own.own 1 [],I v_green]] K=K [(⟨[],v_green⟩:Part)]:=Zak (o0:= .shr) (p0:= .own) rfl [] v_green K
@[simp] theorem ZK8 (v_green:Int) {β:Type} (m:Nat) (K:List Part->Option β):rws (Zo Own.shr) (List.replicate m [.slc Own.own 1 [],I v_green]) K=K (List.replicate m (⟨[],v_green⟩:Part)):=Zal (o0:= .shr) (p0:= .own) rfl m [] v_green K
@[simp] theorem ZK9 {β:Type} (l:List Part) (i:Nat) (v_stage:(List Int)) (v_green:Int) (K:List Part->Option β):rws (Zo Own.shr) ((l.map (Zo Own.own).enc).set i [.slc Own.shr 1 (v_stage.map iR.enc),I v_green]) K=K (l.set i (⟨v_stage,v_green⟩:Part)):=ZcF (o0:= .shr) (p0:= .own) (q0:= .shr) rfl rfl l i v_stage v_green K
@[simp] theorem ZLa {β:Type} (l:List Part) (i:Nat) (v_stage:(List Int)) (v_green:Int) (K:List Part->Option β):rws (Zo Own.shr) ((l.map (Zo Own.own).enc).set i [.slc Own.own 1 (v_stage.map iR.enc),I v_green]) K=K (l.set i (⟨v_stage,v_green⟩:Part)):=ZcF (o0:= .shr) (p0:= .own) (q0:= .own) rfl rfl l i v_stage v_green K
@[simp] theorem ZLb {β:Type} (l:List Part) (K:List Part->Option β):rws (Zo Own.own) (l.map (Zo Own.own).enc) K=K l:=ZgW rfl l K
@[simp] theorem ZLc {β:Type} (l:List Part) (i:Int) (K:Part->Option β):Zz (Zo Own.own) (l.map (Zo Own.own).enc) i K=ZU l i K:=ZgX rfl l i K
@[simp] theorem ZLd {β:Type} (l:List Part) (i:Nat) (K:Part->Option β):ZS (Zo Own.own) (l.map (Zo Own.own).enc) i K=Yf l i K:=ZgY rfl l i K
@[simp] theorem ZLe (v_stage:(List Int)) (v_green:Int) {β:Type} (K:List Part->Option β):rws (Zo Own.own) [[.slc Own.own 1 (v_stage.map iR.enc),I v_green]] K=K [(⟨v_stage,v_green⟩:Part)]:=Zak (o0:= .own) (p0:= .own) rfl v_stage v_green K
@[simp] theorem ZLf (v_stage:(List Int)) (v_green:Int) {β:Type} (m:Nat) (K:List Part->Option β):rws (Zo Own.own) (List.replicate m [.slc Own.own 1 (v_stage.map iR.enc),I v_green]) K=K (List.replicate m (⟨v_stage,v_green⟩:Part)):=Zal (o0:= .own) (p0:= .own) rfl m v_stage v_green K
@[simp] theorem ZLg (v_green:Int) {β:Type} (K:List Part->Option β):rws (Zo Own.own) [[.slc Own.own 1 [],I v_green]] K=K [(⟨[],v_green⟩:Part)]:=Zak (o0:= .own) (p0:= .own) rfl [] v_green K
@[simp] theorem ZLh (v_green:Int) {β:Type} (m:Nat) (K:List Part->Option β):rws (Zo Own.own) (List.replicate m [.slc Own.own 1 [],I v_green]) K=K (List.replicate m (⟨[],v_green⟩:Part)):=Zal (o0:= .own) (p0:= .own) rfl m [] v_green K
@[simp] theorem ZLi {β:Type} (l:List Part) (i:Nat) (v_stage:(List Int)) (v_green:Int) (K:List Part->Option β):rws (Zo Own.own) ((l.map (Zo Own.own).enc).set i [.slc Own.own 1 (v_stage.map iR.enc),I v_green]) K=K (l.set i (⟨v_stage,v_green⟩:Part)):=ZcF (o0:= .own) (p0:= .own) (q0:= .own) rfl rfl l i v_stage v_green K
@[simp] theorem ZLj {β:Type} (l:List Part) (K:List Part->Option β):rws (Zo Own.unq) (l.map (Zo Own.unq).enc) K=K l:=ZgW rfl l K
@[simp] theorem ZLk {β:Type} (l:List Part) (i:Int) (K:Part->Option β):Zz (Zo Own.unq) (l.map (Zo Own.unq).enc) i K=ZU l i K:=ZgX rfl l i K
@[simp] theorem ZLl {β:Type} (l:List Part) (i:Nat) (K:Part->Option β):ZS (Zo Own.unq) (l.map (Zo Own.unq).enc) i K=Yf l i K:=ZgY rfl l i K
@[simp] theorem ZLm (v_stage:(List Int)) (v_green:Int) {β:Type} (K:List Part->Option β):rws (Zo Own.unq) [[.slc Own.unq 1 (v_stage.map iR.enc),I v_green]] K=K [(⟨v_stage,v_green⟩:Part)]:=Zak (o0:= .unq) (p0:= .unq) rfl v_stage v_green K
@[simp] theorem ZLn (v_stage:(List Int)) (v_green:Int) {β:Type} (m:Nat) (K:List Part->Option β):rws (Zo Own.unq) (List.replicate m [.slc Own.unq 1 (v_stage.map iR.enc),I v_green]) K=K (List.replicate m (⟨v_stage,v_green⟩:Part)):=Zal (o0:= .unq) (p0:= .unq) rfl m v_stage v_green K
@[simp] theorem ZLo (v_green:Int) {β:Type} (K:List Part->Option β):rws (Zo Own.unq) [[.slc Own.unq 1 [],I v_green]] K=K [(⟨[],v_green⟩:Part)]:=Zak (o0:= .unq) (p0:= .unq) rfl [] v_green K
@[simp] theorem ZLp (v_green:Int) {β:Type} (m:Nat) (K:List Part->Option β):rws (Zo Own.unq) (List.replicate m [.slc Own.unq 1 [],I v_green]) K=K (List.replicate m (⟨[],v_green⟩:Part)):=Zal (o0:= .unq) (p0:= .unq) rfl m [] v_green K
@[simp] theorem ZLq {β:Type} (l:List Part) (i:Nat) (v_stage:(List Int)) (v_green:Int) (K:List Part->Option β):rws (Zo Own.unq) ((l.map (Zo Own.unq).enc).set i [.slc Own.unq 1 (v_stage.map iR.enc),I v_green]) K=K (l.set i (⟨v_stage,v_green⟩:Part)):=ZcF (o0:= .unq) (p0:= .unq) (q0:= .unq) rfl rfl l i v_stage v_green K
@[simp] theorem ZLr (v:Report):(⟨v.path,v.second,v.light,v.since,v.other⟩:Report)=v:=rfl
instance:Lw Ye:=⟨fun _ _ _=>rfl⟩
@[simp] theorem ZLs {β:Type} (l:List Report) (K:List Report->Option β):rws Ye (l.map Ye.enc) K=K l:=Qi Ye l K
@[simp] theorem ZLt {β:Type} (l:List Report) (n:Int) (K:Report->Option β):Zz Ye (l.map Ye.enc) n K=ZU l n K:=Kg Ye l n K
@[simp] theorem ZLu {β:Type} (l:List Report) (n:Nat) (K:Report->Option β):ZS Ye (l.map Ye.enc) n K=Yf l n K:=Jl Ye l n K
@[simp] theorem ZLv (l:List Report):(l.map Ye.enc).length=l.length:=Uv _
@[simp] theorem ZLw (l:List Report) (n:Nat):(l.map Ye.enc).take n=(l.take n).map Ye.enc:=List.map_take.symm
@[simp] theorem ZLx (l:List Report) (n:Nat):(l.map Ye.enc).drop n=(l.drop n).map Ye.enc:=List.map_drop.symm
@[simp] theorem ZLy (l:List Report):Ym (l.map Ye.enc)=l.map Ye.enc:=Qy (fun _=>rfl) l
@[simp] theorem ZLz (l:List Report):Yo (l.map Ye.enc)=l.map Ye.enc:=Qz (fun _=>rfl) l
@[simp] theorem ZLA (l:List Report):Y6 (l.map Ye.enc)=true:=QA (fun _=>rfl) l
@[simp] theorem ZLB (l:List Report) (i:Nat) (v0:Int) (v1:Int) (v2:Int) (v3:Int) (v4:Int):(l.map Ye.enc).set i [I v0,I v1,I v2,I v3,I v4]=(l.set i (⟨v0,v1,v2,v3,v4⟩:Report)).map Ye.enc:=(Mm (f:=Ye.enc) (l:=l) (i:=i) (a:=(⟨v0,v1,v2,v3,v4⟩:Report))).symm
@[simp] theorem ZLC {β:Type} (l:List Report) (i:Nat) (v0:Int) (v1:Int) (v2:Int) (v3:Int) (v4:Int) (K:List Report->Option β):rws Ye ((l.map Ye.enc).set i [I v0,I v1,I v2,I v3,I v4]) K=K (l.set i (⟨v0,v1,v2,v3,v4⟩:Report)):=Kf Ye l i (⟨v0,v1,v2,v3,v4⟩:Report) K
@[simp] theorem ZLD {β:Type} (i:Nat) (v0:Int) (v1:Int) (v2:Int) (v3:Int) (v4:Int) (K:List Report->Option β):rws Ye (List.replicate i [I v0,I v1,I v2,I v3,I v4]) K=K (List.replicate i (⟨v0,v1,v2,v3,v4⟩:Report)):=Ke Ye (⟨v0,v1,v2,v3,v4⟩:Report) i K
@[simp] theorem ZLE {β:Type} (v0:Int) (v1:Int) (v2:Int) (v3:Int) (v4:Int) (K:List Report->Option β):rws Ye [[I v0,I v1,I v2,I v3,I v4]] K=K [(⟨v0,v1,v2,v3,v4⟩:Report)]:=rfl
@[simp] theorem ZLF (l:List Report):(l.map Ye.enc).map clrs=l.map Ye.enc:=Mq (f:=Ye.enc) (g:=clrs) (l:=l)
@[simp] theorem Zz4 {β:Type} (x:Option β):b2 x=x:=by unfold b2;exact Kh x
@[simp] theorem Zz5 {β:Type} (x:Option β):b3 x=x:=by unfold b3;rw [Zz4];exact Kh x
@[simp] theorem Zz6 {β:Type} (x:Option β):b4 x=x:=by unfold b4;rw [Zz5];exact Kh x
@[simp] theorem Zz7 {β:Type} (x:Option β):b5 x=x:=by unfold b5;rw [Zz6];exact Kh x
@[simp] theorem Zz8 {β:Type} (x:Option β):b6 x=x:=by unfold b6;rw [Zz7];exact Kh x
@[simp] theorem Zz9 {β:Type} (x:Option β):b7 x=x:=by unfold b7;rw [Zz8];exact Kh x
@[simp] theorem ZLG {β:Type} (x:Option β):b8 x=x:=by unfold b8;rw [Zz9];exact Kh x
@[simp] theorem Zt {β:Type} (x:Control) (K:Control->Option β):rC x K=K x:=(Zr x.stage _).trans (Zr x.next _)
@[simp] theorem Zl {β:Type} (x:Town) (K:Town->Option β):rT Own.shr Own.shr x K=K x:=(Zw x.paths _).trans ((Zr x.control.stage _).trans ((Zr x.control.next _).trans ((ZT x.wants _).trans ((Z5 x.lamps _).trans (Z6 x.record _)))))
@[simp] theorem Zn {β:Type} (x:Town) (K:Town->Option β):rT Own.shr Own.own x K=K x:=(Zw x.paths _).trans ((Zr x.control.stage _).trans ((Zr x.control.next _).trans ((ZT x.wants _).trans ((Z5 x.lamps _).trans (Yc x.record _)))))
@[simp] theorem Zu {β:Type} (x:Town) (K:Town->Option β):rT Own.own Own.own x K=K x:=(Zw x.paths _).trans ((Zr x.control.stage _).trans ((Zr x.control.next _).trans ((ZT x.wants _).trans ((Z5 x.lamps _).trans (Z3 x.record _)))))
@[simp] theorem Zv {β:Type} (x:Town) (K:Town->Option β):rT Own.unq Own.unq x K=K x:=(Zw x.paths _).trans ((Zr x.control.stage _).trans ((Zr x.control.next _).trans ((ZT x.wants _).trans ((Z5 x.lamps _).trans (ZlQ x.record _)))))
end Go.Sh
