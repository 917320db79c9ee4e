/- Part of the proof: see the last text of the claim. -/
import Derived.Test.YthkckbidcpmckaaGreatDoorGTyQ
set_option linter.all false
/- Plain tools: the shallow functions' words, loops. -/
namespace Go.Sh
open Go.Fx
theorem Zd {α β:Type} (v:α) (K:α->Option β):bnd (some v) K=K v:=rfl
theorem Zs {β:Type} (x y:Option β):cnd true x y=x:=rfl
theorem Zh {β:Type} (x y:Option β):cnd false x y=y:=rfl
theorem ZB {β:Type} (b:Bool) (x y:Option β):cnd b x y=if b=true then x else y:=by cases b <;> rfl
theorem Zt {β:Type} {c:Prop} [Decidable c] (h:c) (x:Option β):ifA c x=x:=Ul h
@[simp] theorem ZMN {β:Type} [Decidable True] (x:Option β):ifA True x=x:=Ul trivial
@[simp] theorem ZMO {β:Type} [Decidable False] (x:Option β):ifA False x=none:=Uf id
def Z4 {α β:Type} (l:List α) (n:Int) (K:α->Option β):Option β:=
 if 0<=n then (match l[n.toNat]? with |some x=>K x |none=>none) else none
theorem Zi {α β:Type} {l:List α} {k:Nat} {x:α} (h:l[k]? =some x) (K:α->Option β):Z4 l (k:Int) K=K x:=by
 unfold Z4;rw [Ul (by omega),Ux,h]
theorem ZsY {α β:Type} (x:α) (l:List α) (K:α->Option β):Z4 (x::l) 0 K=K x:=rfl
def Xl {α β:Type} (l:List α) (n:Nat) (K:α->Option β):Option β:=match l[n]? with |some x=>K x |none=>none
theorem X0 {α β:Type} {l:List α} {k:Nat} {x:α} (h:l[k]? =some x) (K:α->Option β):Xl l k K=K x:=by
 unfold Xl;rw [h]
class Lw (R:RR):Prop where
 ge:∀(x:R.τ) {β:Type} (K:R.τ->Option β),R.get (R.enc x) K=K x
instance:Lw iR:=⟨fun _ _ _=>rfl⟩
instance:Lw yR:=⟨fun _ _ _=>rfl⟩
instance:Lw bR:=⟨fun _ _ _=>rfl⟩
instance:Lw sR:=⟨fun _ _ _=>rfl⟩
theorem Vd (R:RR) [Lw R] {β:Type}:∀(l:List R.τ) (K:List R.τ->Option β),rws R (l.map R.enc) K=K l
 | [],K=>rfl
 |x::l,K=>by
  show R.get (R.enc x) (fun y=>rws R (l.map R.enc) fun ys=>K (y::ys))=_;rw [Lw.ge,Vd R l]
theorem Zaq (R:RR) {β:Type}:∀(xs ys:List (List AV)) (K:List R.τ->Option β),rws R (xs ++ ys) K=rws R xs fun l=>rws R ys fun l'=>K (l ++ l')
 | [],ys,K=>rfl
 |x::xs,ys,K=>by
  show R.get x (fun y=>rws R (xs ++ ys) fun l=>K (y::l))=R.get x fun y=>rws R xs fun l=>rws R ys fun l'=>K (y::l ++ l')
  congr 1
  funext y
  rw [Zaq R xs ys];rfl
theorem ZeL (R:RR) [Lw R] {β:Type} (x:R.τ) (n:Nat) (K:List R.τ->Option β):rws R (List.replicate n (R.enc x)) K=K (List.replicate n x):=by
 rw [←List.map_replicate,Vd]
theorem ZeM (R:RR) [Lw R] {β:Type} (l:List R.τ) (i:Nat) (x:R.τ) (K:List R.τ->Option β):rws R ((l.map R.enc).set i (R.enc x)) K=K (l.set i x):=by
 rw [←Fo,Vd]
theorem Zc3 (R:RR) [Lw R] {β:Type} (l:List R.τ) (i:Nat) (K:R.τ->Option β):ZZ R (l.map R.enc) i K=Xl l i K:=by
 unfold ZZ Xl;rw [Mf];cases l[i]? with
 |none=>rfl
 |some x=>exact Lw.ge x K
theorem Zc4 (R:RR) [Lw R] {β:Type} (l:List R.τ) (n:Int) (K:R.τ->Option β):ZO R (l.map R.enc) n K=Z4 l n K:=by
 cases n with
 |ofNat m=>
  show ZZ R (l.map R.enc) m K=_;rw [Zc3];unfold Xl Z4;rw [Ul (show (0:Int)<=Int.ofNat m from Fw m)];rfl
 |negSucc m=>rfl
theorem Zc5 (R:RR) {σ:Type} (e:σ->List AV) (f:σ->R.τ) (h:∀(x:σ) {γ:Type} (K:R.τ->Option γ),R.get (e x) K=K (f x)) {β:Type}:∀(l:List σ) (K:List R.τ->Option β),rws R (l.map e) K=K (l.map f)
 | [],K=>rfl
 |x::l,K=>by
  show R.get (e x) (fun y=>rws R (l.map e) fun ys=>K (y::ys))=_;rw [h,Zc5 R e f h l];rfl
theorem ZsZ (R:RR) {σ:Type} (e:σ->List AV) (f:σ->R.τ) (h:∀(x:σ) {γ:Type} (K:R.τ->Option γ),R.get (e x) K=K (f x)) (row:List AV) (y:σ) (hy:∀{γ:Type} (K:R.τ->Option γ),R.get row K=K (f y)) {β:Type}:
  ∀(l:List σ) (i:Nat) (K:List R.τ->Option β),rws R ((l.map e).set i row) K=K ((l.set i y).map f)
 | [],i,K=>rfl
 |x::l,0,K=>by
  show R.get row (fun y=>rws R (l.map e) fun ys=>K (y::ys))=_;rw [hy,Zc5 R e f h l];rfl
 |x::l,i + 1,K=>by
  show R.get (e x) (fun y=>rws R ((l.map e).set i row) fun ys=>K (y::ys))=_;rw [h,ZsZ R e f h row y hy l i];rfl
theorem Zs0 (R:RR) {σ:Type} (e:σ->List AV) (f:σ->R.τ) (h:∀(x:σ) {γ:Type} (K:R.τ->Option γ),R.get (e x) K=K (f x)) {β:Type} (l:List σ) (i:Nat) (K:R.τ->Option β):ZZ R (l.map e) i K=Xl l i fun x=>K (f x):=by
 unfold ZZ Xl;rw [Mf];cases l[i]? with
 |none=>rfl
 |some x=>exact h x K
theorem Znq (R:RR) {σ:Type} (e:σ->List AV) (f:σ->R.τ) (h:∀(x:σ) {γ:Type} (K:R.τ->Option γ),R.get (e x) K=K (f x)) {β:Type} (l:List σ) (n:Int) (K:R.τ->Option β):ZO R (l.map e) n K=Z4 l n fun x=>K (f x):=by
 cases n with
 |ofNat m=>
  show ZZ R (l.map e) m K=_;rw [Zs0 R e f h];unfold Xl Z4;rw [Ul (show (0:Int)<=Int.ofNat m from Fw m)];rfl
 |negSucc m=>rfl
@[simp] theorem ZMP:okO .shr .shr=true:=rfl
@[simp] theorem ZMQ:okO .shr .own=true:=rfl
@[simp] theorem ZMR:okO .own .own=true:=rfl
@[simp] theorem Ky {β:Type} (x:Option β):ZF x x=x:=by unfold ZF;simp
@[simp] theorem ZMS:okO .unq .unq=true:=rfl
theorem ZbL {σ:Type} {e e':σ->List AV} (h:∀x,Q4 (e x)=e' x):∀l:List σ,YK (l.map e)=l.map e'
 | []=>rfl
 |x::l=>by simp only [Mb,YK,h,ZbL h l]
theorem Zar {σ:Type} {e e':σ->List AV} (h:∀x,Ql (e x)=e' x):∀l:List σ,Yh (l.map e)=l.map e'
 | []=>rfl
 |x::l=>by simp only [Mb,Yh,h,Zar h l]
theorem ZbM {σ:Type} {e:σ->List AV} (h:∀x,Y7 (e x)=true):∀l:List σ,Q5 (l.map e)=true
 | []=>rfl
 |x::l=>by simp only [Mb,Q5,h,ZbM h l,Mz]
@[simp] theorem ZMT (k:Nat) (xs:List (List AV)):AV.okU (.slc .own k xs)=Q5 xs:=rfl
theorem Ve {V β:Type} (F:(V->Option β)->V->Option β) (n:Nat) (v:V):Zf F (n + 1) v=F (Zf F n) v:=rfl
theorem ZhO {V β:Type} {F:(V->Option β)->V->Option β} {R:V->Option β} (μ:V->Nat) (inv:V->Prop)
  (step:∀rec v,inv v->(∀v',inv v'->μ v' < μ v->rec v'=R v')->F rec v=R v):∀n v,inv v->μ v < n->Zf F n v=R v
 | 0,v,_,h=>by omega
 |n + 1,v,hi,h=>by
  rw [Ve];exact step _ v hi fun v' hi' hlt=>ZhO μ inv step n v' hi' (by omega)
theorem Zs1 {α A V β:Type} {F:(V->Option β)->V->Option β} (l:List α) (st:Nat->A->V) (G:List α->Nat->A->Option β)
  (h0:∀rec acc,F rec (st l.length acc)=G [] l.length acc)
  (h1:∀rec k x acc,l[k]? =some x->k < l.length->(∀acc',rec (st (k + 1) acc')=G (l.drop (k + 1)) (k + 1) acc')->F rec (st k acc)=G (x::l.drop (k + 1)) k acc):
  ∀n k acc,k<=l.length->l.length - k < n->Zf F n (st k acc)=G (l.drop k) k acc
 | 0,k,acc,_,h=>by omega
 |n + 1,k,acc,hk,h=>by
  rw [Ve];rcases U2 k l.length with hlt |hge
  ·have hx:l[k]? =some l[k]:=Ua hlt;rw [UF hlt];exact h1 _ k _ acc hx hlt fun acc'=>Zs1 l st G h0 h1 n (k + 1) acc' hlt (by omega)
  ·have:k=l.length:=by omega
   subst this;rw [M6];exact h0 _ acc
theorem Kz {n:Nat} (h:n<=4611686018427387903):n < NN:=by rw [Zl9];omega
theorem Yc {α A V β:Type} {F:(V->Option β)->V->Option β} (l:List α) (hl:l.length<=1152921504606846976) (st:Nat->A->V) (acc:A) (G:List α->Nat->A->Option β) {v:V} (hv:v=st 0 acc)
  (h0:∀rec acc,F rec (st l.length acc)=G [] l.length acc)
  (h1:∀rec k x acc,l[k]? =some x->k < l.length->(∀acc',rec (st (k + 1) acc')=G (l.drop (k + 1)) (k + 1) acc')->F rec (st k acc)=G (x::l.drop (k + 1)) k acc):
  Zf F NN v=G l 0 acc:=by
 rw [hv];exact Zs1 l st G h0 h1 NN 0 acc (Mm _) (Kz (by omega))
theorem Zs2 {α A V β:Type} {F:(V->Option β)->V->Option β} (l:List α) (st:Nat->A->V) (J:Nat->A->Prop) (G:List α->Nat->A->Option β)
  (h0:∀rec acc,J l.length acc->F rec (st l.length acc)=G [] l.length acc)
  (h1:∀rec k x acc,J k acc->l[k]? =some x->k < l.length->(∀acc',J (k + 1) acc'->rec (st (k + 1) acc')=G (l.drop (k + 1)) (k + 1) acc')->F rec (st k acc)=G (x::l.drop (k + 1)) k acc):
  ∀n k acc,J k acc->k<=l.length->l.length - k < n->Zf F n (st k acc)=G (l.drop k) k acc
 | 0,k,acc,_,_,h=>by omega
 |n + 1,k,acc,hJ,hk,h=>by
  rw [Ve];rcases U2 k l.length with hlt |hge
  ·have hx:l[k]? =some l[k]:=Ua hlt;rw [UF hlt];exact h1 _ k _ acc hJ hx hlt fun acc' hJ'=>Zs2 l st J G h0 h1 n (k + 1) acc' hJ' hlt (by omega)
  ·have:k=l.length:=by omega
   subst this;rw [M6];exact h0 _ acc hJ
theorem Yj {α A V β:Type} {F:(V->Option β)->V->Option β} (l:List α) (hl:l.length<=1152921504606846976) (st:Nat->A->V) (acc:A) (J:Nat->A->Prop) (hJ:J 0 acc) (G:List α->Nat->A->Option β) {v:V} (hv:v=st 0 acc)
  (h0:∀rec acc,J l.length acc->F rec (st l.length acc)=G [] l.length acc)
  (h1:∀rec k x acc,J k acc->l[k]? =some x->k < l.length->(∀acc',J (k + 1) acc'->rec (st (k + 1) acc')=G (l.drop (k + 1)) (k + 1) acc')->F rec (st k acc)=G (x::l.drop (k + 1)) k acc):
  Zf F NN v=G l 0 acc:=by
 rw [hv];exact Zs2 l st J G h0 h1 NN 0 acc hJ (Mm _) (Kz (by omega))
theorem Zz {n:Int} (h: -9223372036854775808<=n) (h':n<=9223372036854775807):W n=n:=by
 show IntKind.i64.wrap n=n;have e:IntKind.i64.wrap n=if n % 18446744073709551616>=9223372036854775808 then n % 18446744073709551616 - 18446744073709551616 else n % 18446744073709551616:=by
  unfold IntKind.wrap;rw [show IntKind.i64.signed=true from rfl,show IntKind.i64.bits=64 from rfl];simp only [UW,UI];rfl
 rw [e];split <;> omega
theorem Xb {k:Nat} (h:k<=9223372036854775806):W ((k:Int) + 1)=((k + 1:Nat):Int):=by
 rw [Zz (by omega) (by omega)];omega
theorem Zhl {α:Type} {a:List α} {x z:α} {k:Nat} (h:a[k]? =some x):(a.take k ++ List.replicate (a.length - k) z).set k x=a.take (k + 1) ++ List.replicate (a.length - (k + 1)) z:=by
 have hk:k < a.length:=(List.getElem?_eq_some_iff.1 h).1;have hx:a[k]=x:=(List.getElem?_eq_some_iff.1 h).2;have hl:(a.take k).length=k:=by rw [Uc];omega
 rw [List.set_append_right _ _ (by omega),hl,Nat.sub_self];obtain ⟨m,hm⟩:∃m,a.length - k=m + 1:=⟨a.length - k - 1,by omega⟩
 rw [hm,show a.length - (k + 1)=m by omega,MO,List.set_cons_zero,List.take_succ_eq_append_getElem hk,hx,Uw];rfl
theorem ZeN {α:Type} (a:List α) (z:α) (h:a.length<=1099511627776) {F:((List α×Int)×List α->Option (List α))->(List α×Int)×List α->Option (List α)}
  (h0:∀rec o,F rec ((a,(a.length:Int)),o)=some o) (h1:∀rec k x o,a[k]? =some x->k < a.length->o.length=a.length->F rec ((a,(k:Int)),o)=rec ((a,((k + 1:Nat):Int)),o.set k x)):
  Zf F NN ((a,0),List.replicate a.length z)=some a:=by
 refine Yc a (by omega) (fun k (_:Unit)=>((a,(k:Int)),a.take k ++ List.replicate (a.length - k) z)) () (fun _ _ _=>some a) (by simp) ?_ ?_
 ·intro rec _;rw [h0];simp
 ·intro rec k x _ hx hk hr;rw [h1 rec k x _ hx hk (by simp;omega),Zhl hx];exact hr ()
theorem ZeO {α:Type} [DecidableEq α] (a b:List α) (hl:a.length=b.length) (h:a.length<=1099511627776) {F:(List α×List α×Int->Option Bool)->List α×List α×Int->Option Bool}
  (h0:∀rec,F rec (a,b,(a.length:Int))=some true) (h1:∀rec k x y,a[k]? =some x->b[k]? =some y->k < a.length->F rec (a,b,(k:Int))=if x=y then rec (a,b,((k + 1:Nat):Int)) else some false):
  Zf F NN (a,b,0)=some (decide (a=b)):=by
 refine (Yc a (by omega) (fun k (_:Unit)=>(a,b,(k:Int))) () (fun l k _=>some (decide (l=b.drop k))) rfl ?_ ?_).trans (by simp)
 ·intro rec _;rw [h0,hl,M6];simp
 ·intro rec k x _ hx hk hr;have hkb:k < b.length:=by omega
  have hy:b[k]? =some b[k]:=Ua hkb;rw [h1 rec k x _ hx hy hk,hr (),UF hkb];by_cases e:x=b[k]
  ·rw [Ul e,e];congr 1;exact decide_eq_decide.2 (by simp only [FN,FQ])
  ·rw [Uf e];congr 1;exact (Um (by simp only [FN];exact fun h=>e h.1)).symm
def JG {α:Type} (S:α->Int->Option Int) (a:α) (P:Prop):Prop:=∀left,0<=left->left<=1048576->∃r,S a left=some r/\(r < 0\/(0<=r/\r<=left/\P))
theorem ZDh {α:Type} (a:List α) (P:α->Prop) (h:a.length<=1099511627776) {S:α->Int->Option Int} (hS:∀x∈a,JG S x (P x)) {F:(List α×Int×Int->Option Int)->List α×Int×Int->Option Int}
  (h0:∀rec left,F rec (a,left,(a.length:Int))=some left) (h1:∀rec k x left r,a[k]? =some x->k < a.length->S x left=some r->F rec (a,left,(k:Int))=if r < 0 then some (-1) else rec (a,r,((k + 1:Nat):Int)))
  {left:Int} (hl0:0<=left) (hl1:left<=1048576):∃r,Zf F NN (a,left,0)=some r/\(r < 0\/(0<=r/\r<=left/\∀x∈a,P x)):=by
 have key:∀n k left,k<=a.length->a.length - k < n->0<=left->left<=1048576->∃r,Zf F n (a,left,(k:Int))=some r/\(r < 0\/(0<=r/\r<=left/\∀x∈a.drop k,P x)):=by
  intro n
  induction n with
  |zero=>intro k left _ h;omega
  |succ n ih=>
   intro k left hk hn hl0 hl1;rw [Ve];rcases U2 k a.length with hlt |hge
   ·have hx:a[k]? =some a[k]:=Ua hlt;obtain ⟨r,e1,e2⟩:=hS a[k] (List.getElem_mem hlt) left hl0 hl1;rw [h1 _ k _ left r hx hlt e1];by_cases hr:r < 0
    ·exact ⟨-1,by rw [Ul hr], .inl (by omega)⟩
    ·rw [Uf hr];rcases e2 with e2 | ⟨e2,e3,e4⟩
     ·exact absurd e2 hr
     obtain ⟨r',e5,e6⟩:=ih (k + 1) r hlt (by omega) e2 (by omega);refine ⟨r',e5,?_⟩;rcases e6 with e6 | ⟨e6,e7,e8⟩
     ·exact .inl e6
     ·refine .inr ⟨e6,by omega,fun x hx=> ?_⟩;rw [UF hlt] at hx;rcases List.mem_cons.1 hx with rfl |hx
      ·exact e4
      ·exact e8 x hx
   ·have:k=a.length:=by omega
    subst this;rw [h0];exact ⟨left,rfl, .inr ⟨hl0,Fj _,by simp⟩⟩
 have:=key NN 0 left (Mm _) (Kz (by omega)) hl0 hl1;simpa using this
theorem ZDi {α:Type} (a:List α) (P:α->Prop) (h:a.length<=1099511627776) {S:α->Int->Option Int} (hS:∀x∈a,JG S x (P x)) {F:(List α×Int×Int->Option Int)->List α×Int×Int->Option Int}
  (h0:∀rec left,F rec (a,left,(a.length:Int))=some left) (h1:∀rec k x left r,a[k]? =some x->k < a.length->S x left=some r->F rec (a,left,(k:Int))=if r < 0 then some (-1) else rec (a,r,((k + 1:Nat):Int)))
  {left left':Int} {Q:Prop} (hl0:0<=left) (hl1:left<=left') (hl2:left'<=1048576) (hq:Q):∃r,Zf F NN (a,left,0)=some r/\(r < 0\/(0<=r/\r<=left'/\Q/\∀x∈a,P x)):=by
 obtain ⟨r,e1,e2⟩:=ZDh a P h hS h0 h1 hl0 (by omega);exact ⟨r,e1,e2.imp_right fun e2=>⟨e2.1,by omega,hq,e2.2.2⟩⟩
end Go.Sh
/- The typed views, and what is to be said of them once. -/
namespace Go.Sh
open Go.Fx
attribute [simp] Zd Zs Zh Zaq
theorem ZDj (R:RR) {β:Type} (K:List R.τ->Option β):rws R [] K=K []:=rfl
attribute [simp] ZDj
def Sm {α:Type} (l:List α):Prop:=l.length<=1048576
@[simp] theorem Zq {β:Type} (l:List Int) (K:List Int->Option β):rws iR (l.map iR.enc) K=K l:=Vd iR l K
@[simp] theorem Yu {β:Type} (l:List Int) (n:Int) (K:Int->Option β):ZO iR (l.map iR.enc) n K=Z4 l n K:=Zc4 iR l n K
@[simp] theorem ZDk {β:Type} (l:List Int) (n:Nat) (K:Int->Option β):ZZ iR (l.map iR.enc) n K=Xl l n K:=Zc3 iR l n K
@[simp] theorem ZV (l:List Int):(l.map iR.enc).length=l.length:=Uy _
@[simp] theorem Zs3 (l:List Int) (n:Nat):(l.map iR.enc).take n=(l.take n).map iR.enc:=List.map_take.symm
@[simp] theorem Zs4 (l:List Int) (n:Nat):(l.map iR.enc).drop n=(l.drop n).map iR.enc:=List.map_drop.symm
@[simp] theorem Znr (l:List Int):YK (l.map iR.enc)=l.map iR.enc:=ZbL (fun _=>rfl) l
@[simp] theorem ZDl (l:List Int):Yh (l.map iR.enc)=l.map iR.enc:=Zar (fun _=>rfl) l
@[simp] theorem Zs5 (l:List Int):Q5 (l.map iR.enc)=true:=ZbM (fun _=>rfl) l
@[simp] theorem ZMU {β:Type} (l:List Int) (i:Nat) (v:Int) (K:List Int->Option β):rws iR ((l.map iR.enc).set i [I v]) K=K (l.set i v):=ZeM iR l i v K
@[simp] theorem ZDm {β:Type} (i:Nat) (v:Int) (K:List Int->Option β):rws iR (List.replicate i [I v]) K=K (List.replicate i v):=ZeL iR v i K
@[simp] theorem Zs6 {β:Type} (v:Int) (K:List Int->Option β):rws iR [[I v]] K=K [v]:=rfl
@[simp] theorem Zas (l:List Int):(l.map iR.enc).map clrs=l.map iR.enc:=MP (f:=iR.enc) (g:=clrs) (l:=l)
@[simp] theorem ZhP {β:Type} (l:List Int) (K:List Int->Option β):rws yR (l.map yR.enc) K=K l:=Vd yR l K
@[simp] theorem Zns {β:Type} (l:List Bool) (K:List Bool->Option β):rws bR (l.map bR.enc) K=K l:=Vd bR l K
@[simp] theorem ZMV {β:Type} (l:List Bool) (n:Int) (K:Bool->Option β):ZO bR (l.map bR.enc) n K=Z4 l n K:=Zc4 bR l n K
@[simp] theorem ZMW {β:Type} (l:List Bool) (n:Nat) (K:Bool->Option β):ZZ bR (l.map bR.enc) n K=Xl l n K:=Zc3 bR l n K
@[simp] theorem ZDn (l:List Bool):(l.map bR.enc).length=l.length:=Uy _
@[simp] theorem ZMX (l:List Bool) (n:Nat):(l.map bR.enc).take n=(l.take n).map bR.enc:=List.map_take.symm
@[simp] theorem ZMY (l:List Bool) (n:Nat):(l.map bR.enc).drop n=(l.drop n).map bR.enc:=List.map_drop.symm
@[simp] theorem ZMZ (l:List Bool):YK (l.map bR.enc)=l.map bR.enc:=ZbL (fun _=>rfl) l
@[simp] theorem ZM0 (l:List Bool):Yh (l.map bR.enc)=l.map bR.enc:=Zar (fun _=>rfl) l
@[simp] theorem ZM1 (l:List Bool):Q5 (l.map bR.enc)=true:=ZbM (fun _=>rfl) l
@[simp] theorem ZM2 (l:List Bool) (i:Nat) (v:Bool):(l.map bR.enc).set i [Bl v]=(l.set i v).map bR.enc:=(Fo (f:=bR.enc) (l:=l) (i:=i) (a:=v)).symm
@[simp] theorem ZM3 {β:Type} (l:List Bool) (i:Nat) (v:Bool) (K:List Bool->Option β):rws bR ((l.map bR.enc).set i [Bl v]) K=K (l.set i v):=ZeM bR l i v K
@[simp] theorem ZM4 {β:Type} (i:Nat) (v:Bool) (K:List Bool->Option β):rws bR (List.replicate i [Bl v]) K=K (List.replicate i v):=ZeL bR v i K
@[simp] theorem ZM5 {β:Type} (v:Bool) (K:List Bool->Option β):rws bR [[Bl v]] K=K [v]:=rfl
@[simp] theorem ZM6 (l:List Bool):(l.map bR.enc).map clrs=l.map bR.enc:=MP (f:=bR.enc) (g:=clrs) (l:=l)
@[simp] theorem Vf {β:Type} (l:List ByteArray) (K:List ByteArray->Option β):rws sR (l.map sR.enc) K=K l:=Vd sR l K
@[simp] theorem ZbN {β:Type} (l:List ByteArray) (n:Int) (K:ByteArray->Option β):ZO sR (l.map sR.enc) n K=Z4 l n K:=Zc4 sR l n K
@[simp] theorem ZbO (l:List ByteArray):(l.map sR.enc).length=l.length:=Uy _
@[simp] theorem Zs7 (l:List ByteArray) (n:Nat):(l.map sR.enc).take n=(l.take n).map sR.enc:=List.map_take.symm
@[simp] theorem Zs8 (l:List ByteArray) (n:Nat):(l.map sR.enc).drop n=(l.drop n).map sR.enc:=List.map_drop.symm
theorem ZDo {o0 p0:Own} (h0:okO o0 p0=true) (v_l:List Int) {β:Type} (K:(List Int)->Option β):(Zg (rX o0 1 iR)).get [.slc p0 1 (v_l.map iR.enc)] K=K v_l:=by
 cases o0 <;> cases p0 <;> first | (exact Zq _ _) | (exact ZhP _ _) | (simp [okO] at h0)
theorem Zs9 {o0 p0:Own} (h0:okO o0 p0=true) (v:(List Int)) {β:Type} (K:(List Int)->Option β):(Zg (rX o0 1 iR)).get ((Zg (rX p0 1 iR)).enc v) K=K v:=ZDo h0 v K
theorem ZeP {o0 p0:Own} (h0:okO o0 p0=true) {β:Type} (l:List (List Int)) (K:List (List Int)->Option β):rws (Zg (rX o0 1 iR)) (l.map (Zg (rX p0 1 iR)).enc) K=K l:=by
 have:=Zc5 (Zg (rX o0 1 iR)) (Zg (rX p0 1 iR)).enc (fun x:(List Int)=>x) (fun x _ K=>Zs9 h0 x K) l K;rw [this];exact UC K (FC l)
theorem Znt {o0 p0:Own} (h0:okO o0 p0=true) {β:Type} (l:List (List Int)) (i:Int) (K:(List Int)->Option β):ZO (Zg (rX o0 1 iR)) (l.map (Zg (rX p0 1 iR)).enc) i K=Z4 l i K:=Znq (Zg (rX o0 1 iR)) (Zg (rX p0 1 iR)).enc (fun x:(List Int)=>x) (fun x _ K=>Zs9 h0 x K) l i K
@[simp] theorem Vg {p0:Own} (l:List (List Int)):(l.map (Zg (rX p0 1 iR)).enc).length=l.length:=Uy _
@[simp] theorem Zta {p0:Own} (l:List (List Int)) (n:Nat):(l.map (Zg (rX p0 1 iR)).enc).take n=(l.take n).map (Zg (rX p0 1 iR)).enc:=List.map_take.symm
@[simp] theorem Zat {β:Type} (l:List (List Int)) (K:List (List Int)->Option β):rws (Zg (rX Own.shr 1 iR)) (l.map (Zg (rX Own.shr 1 iR)).enc) K=K l:=ZeP rfl l K
@[simp] theorem ZhQ {β:Type} (l:List (List Int)) (i:Int) (K:(List Int)->Option β):ZO (Zg (rX Own.shr 1 iR)) (l.map (Zg (rX Own.shr 1 iR)).enc) i K=Z4 l i K:=Znt rfl l i K
@[simp] theorem ZbP {β:Type} (l:List (List Int)) (K:List (List Int)->Option β):rws (Zg (rX Own.shr 1 iR)) (l.map (Zg (rX Own.own 1 iR)).enc) K=K l:=ZeP rfl l K
@[simp] theorem Ztb {β:Type} (l:List (List Int)) (i:Int) (K:(List Int)->Option β):ZO (Zg (rX Own.shr 1 iR)) (l.map (Zg (rX Own.own 1 iR)).enc) i K=Z4 l i K:=Znt rfl l i K
@[simp] theorem JH {β:Type} (l:List (List Int)) (K:List (List Int)->Option β):rws (Zg (rX Own.own 1 iR)) (l.map (Zg (rX Own.own 1 iR)).enc) K=K l:=ZeP rfl l K
@[simp] theorem ZDp {β:Type} (l:List (List Int)) (i:Int) (K:(List Int)->Option β):ZO (Zg (rX Own.own 1 iR)) (l.map (Zg (rX Own.own 1 iR)).enc) i K=Z4 l i K:=Znt rfl l i K
@[simp] theorem ZM7 (v:Path):(⟨v.id,v.kind,v.src,v.dst⟩:Path)=v:=rfl
instance:Lw Ze:=⟨fun _ _ _=>rfl⟩
@[simp] theorem Zu {β:Type} (l:List Path) (K:List Path->Option β):rws Ze (l.map Ze.enc) K=K l:=Vd Ze l K
@[simp] theorem Xs {β:Type} (l:List Path) (n:Int) (K:Path->Option β):ZO Ze (l.map Ze.enc) n K=Z4 l n K:=Zc4 Ze l n K
@[simp] theorem ZM8 {β:Type} (l:List Path) (n:Nat) (K:Path->Option β):ZZ Ze (l.map Ze.enc) n K=Xl l n K:=Zc3 Ze l n K
@[simp] theorem Yp (l:List Path):(l.map Ze.enc).length=l.length:=Uy _
@[simp] theorem ZM9 (l:List Path) (n:Nat):(l.map Ze.enc).take n=(l.take n).map Ze.enc:=List.map_take.symm
@[simp] theorem ZNa (l:List Path) (n:Nat):(l.map Ze.enc).drop n=(l.drop n).map Ze.enc:=List.map_drop.symm
@[simp] theorem Ztc (l:List Path):YK (l.map Ze.enc)=l.map Ze.enc:=ZbL (fun _=>rfl) l
@[simp] theorem ZNb (l:List Path):Yh (l.map Ze.enc)=l.map Ze.enc:=Zar (fun _=>rfl) l
@[simp] theorem Ztd (l:List Path):Q5 (l.map Ze.enc)=true:=ZbM (fun _=>rfl) l
@[simp] theorem ZNc (l:List Path) (i:Nat) (v0:Int) (v1:Int) (v2:Int) (v3:Int):(l.map Ze.enc).set i [I v0,I v1,I v2,I v3]=(l.set i (⟨v0,v1,v2,v3⟩:Path)).map Ze.enc:=(Fo (f:=Ze.enc) (l:=l) (i:=i) (a:=(⟨v0,v1,v2,v3⟩:Path))).symm
@[simp] theorem ZNd {β:Type} (l:List Path) (i:Nat) (v0:Int) (v1:Int) (v2:Int) (v3:Int) (K:List Path->Option β):rws Ze ((l.map Ze.enc).set i [I v0,I v1,I v2,I v3]) K=K (l.set i (⟨v0,v1,v2,v3⟩:Path)):=ZeM Ze l i (⟨v0,v1,v2,v3⟩:Path) K
@[simp] theorem ZDq {β:Type} (i:Nat) (v0:Int) (v1:Int) (v2:Int) (v3:Int) (K:List Path->Option β):rws Ze (List.replicate i [I v0,I v1,I v2,I v3]) K=K (List.replicate i (⟨v0,v1,v2,v3⟩:Path)):=ZeL Ze (⟨v0,v1,v2,v3⟩:Path) i K
@[simp] theorem ZNe {β:Type} (v0:Int) (v1:Int) (v2:Int) (v3:Int) (K:List Path->Option β):rws Ze [[I v0,I v1,I v2,I v3]] K=K [(⟨v0,v1,v2,v3⟩:Path)]:=rfl
@[simp] theorem Zte (l:List Path):(l.map Ze.enc).map clrs=l.map Ze.enc:=MP (f:=Ze.enc) (g:=clrs) (l:=l)
@[simp] theorem Zy (v:Control):(⟨v.stage,v.since,v.next,v.left⟩:Control)=v:=rfl
theorem ZNf {o0 o1 p0 p1:Own} (h0:okO o0 p0=true) (h1:okO o1 p1=true) (v_stage:(List Int)) (v_since:Int) (v_next:(List Int)) (v_left:Int) {β:Type} (K:Control->Option β):(XD o0 o1).get [.slc p0 1 (v_stage.map iR.enc),I v_since, .slc p1 1 (v_next.map iR.enc),I v_left] K=K (⟨v_stage,v_since,v_next,v_left⟩:Control):=by
 cases o0 <;> cases p0 <;> cases o1 <;> cases p1 <;> first | (exact (Zq _ _).trans (Zq _ _)) | (exact ZhP _ _) | (simp [okO] at h0 h1)
@[simp] theorem ZNg (v:Want):(⟨v.path,v.wait⟩:Want)=v:=rfl
instance:Lw Zc:=⟨fun _ _ _=>rfl⟩
@[simp] theorem ZK {β:Type} (l:List Want) (K:List Want->Option β):rws Zc (l.map Zc.enc) K=K l:=Vd Zc l K
@[simp] theorem Zau {β:Type} (l:List Want) (n:Int) (K:Want->Option β):ZO Zc (l.map Zc.enc) n K=Z4 l n K:=Zc4 Zc l n K
@[simp] theorem ZNh {β:Type} (l:List Want) (n:Nat) (K:Want->Option β):ZZ Zc (l.map Zc.enc) n K=Xl l n K:=Zc3 Zc l n K
@[simp] theorem Xc (l:List Want):(l.map Zc.enc).length=l.length:=Uy _
@[simp] theorem Ztf (l:List Want) (n:Nat):(l.map Zc.enc).take n=(l.take n).map Zc.enc:=List.map_take.symm
@[simp] theorem Ztg (l:List Want) (n:Nat):(l.map Zc.enc).drop n=(l.drop n).map Zc.enc:=List.map_drop.symm
@[simp] theorem Znu (l:List Want):YK (l.map Zc.enc)=l.map Zc.enc:=ZbL (fun _=>rfl) l
@[simp] theorem ZNi (l:List Want):Yh (l.map Zc.enc)=l.map Zc.enc:=Zar (fun _=>rfl) l
@[simp] theorem Zth (l:List Want):Q5 (l.map Zc.enc)=true:=ZbM (fun _=>rfl) l
@[simp] theorem ZNj (l:List Want) (i:Nat) (v0:Int) (v1:Int):(l.map Zc.enc).set i [I v0,I v1]=(l.set i (⟨v0,v1⟩:Want)).map Zc.enc:=(Fo (f:=Zc.enc) (l:=l) (i:=i) (a:=(⟨v0,v1⟩:Want))).symm
@[simp] theorem ZNk {β:Type} (l:List Want) (i:Nat) (v0:Int) (v1:Int) (K:List Want->Option β):rws Zc ((l.map Zc.enc).set i [I v0,I v1]) K=K (l.set i (⟨v0,v1⟩:Want)):=ZeM Zc l i (⟨v0,v1⟩:Want) K
@[simp] theorem ZDr {β:Type} (i:Nat) (v0:Int) (v1:Int) (K:List Want->Option β):rws Zc (List.replicate i [I v0,I v1]) K=K (List.replicate i (⟨v0,v1⟩:Want)):=ZeL Zc (⟨v0,v1⟩:Want) i K
@[simp] theorem ZDs {β:Type} (v0:Int) (v1:Int) (K:List Want->Option β):rws Zc [[I v0,I v1]] K=K [(⟨v0,v1⟩:Want)]:=rfl
@[simp] theorem Zc6 (l:List Want):(l.map Zc.enc).map clrs=l.map Zc.enc:=MP (f:=Zc.enc) (g:=clrs) (l:=l)
@[simp] theorem ZNl (v:Prio):(⟨v.path,v.left⟩:Prio)=v:=rfl
instance:Lw V4:=⟨fun _ _ _=>rfl⟩
@[simp] theorem ZNm (v:Lamp):(⟨v.path,v.colour,v.broken⟩:Lamp)=v:=rfl
instance:Lw Zl:=⟨fun _ _ _=>rfl⟩
@[simp] theorem ZT {β:Type} (l:List Lamp) (K:List Lamp->Option β):rws Zl (l.map Zl.enc) K=K l:=Vd Zl l K
@[simp] theorem ZNn {β:Type} (l:List Lamp) (n:Int) (K:Lamp->Option β):ZO Zl (l.map Zl.enc) n K=Z4 l n K:=Zc4 Zl l n K
@[simp] theorem ZNo {β:Type} (l:List Lamp) (n:Nat) (K:Lamp->Option β):ZZ Zl (l.map Zl.enc) n K=Xl l n K:=Zc3 Zl l n K
@[simp] theorem JI (l:List Lamp):(l.map Zl.enc).length=l.length:=Uy _
@[simp] theorem ZNp (l:List Lamp) (n:Nat):(l.map Zl.enc).take n=(l.take n).map Zl.enc:=List.map_take.symm
@[simp] theorem ZNq (l:List Lamp) (n:Nat):(l.map Zl.enc).drop n=(l.drop n).map Zl.enc:=List.map_drop.symm
@[simp] theorem Zti (l:List Lamp):YK (l.map Zl.enc)=l.map Zl.enc:=ZbL (fun _=>rfl) l
@[simp] theorem ZDt (l:List Lamp):Yh (l.map Zl.enc)=l.map Zl.enc:=Zar (fun _=>rfl) l
@[simp] theorem Ztj (l:List Lamp):Q5 (l.map Zl.enc)=true:=ZbM (fun _=>rfl) l
@[simp] theorem ZNr (l:List Lamp) (i:Nat) (v0:Int) (v1:Int) (v2:Bool):(l.map Zl.enc).set i [I v0,I v1,Bl v2]=(l.set i (⟨v0,v1,v2⟩:Lamp)).map Zl.enc:=(Fo (f:=Zl.enc) (l:=l) (i:=i) (a:=(⟨v0,v1,v2⟩:Lamp))).symm
@[simp] theorem ZNs {β:Type} (l:List Lamp) (i:Nat) (v0:Int) (v1:Int) (v2:Bool) (K:List Lamp->Option β):rws Zl ((l.map Zl.enc).set i [I v0,I v1,Bl v2]) K=K (l.set i (⟨v0,v1,v2⟩:Lamp)):=ZeM Zl l i (⟨v0,v1,v2⟩:Lamp) K
@[simp] theorem ZDu {β:Type} (i:Nat) (v0:Int) (v1:Int) (v2:Bool) (K:List Lamp->Option β):rws Zl (List.replicate i [I v0,I v1,Bl v2]) K=K (List.replicate i (⟨v0,v1,v2⟩:Lamp)):=ZeL Zl (⟨v0,v1,v2⟩:Lamp) i K
@[simp] theorem ZNt {β:Type} (v0:Int) (v1:Int) (v2:Bool) (K:List Lamp->Option β):rws Zl [[I v0,I v1,Bl v2]] K=K [(⟨v0,v1,v2⟩:Lamp)]:=rfl
@[simp] theorem Ztk (l:List Lamp):(l.map Zl.enc).map clrs=l.map Zl.enc:=MP (f:=Zl.enc) (g:=clrs) (l:=l)
@[simp] theorem Ztl (v:Note):(⟨v.second,v.lights,v.sig⟩:Note)=v:=rfl
theorem Znv {o0 p0:Own} (h0:okO o0 p0=true) (v_second:Int) (v_lights:(List Int)) (v_sig:Int) {β:Type} (K:Note->Option β):(Zb o0).get [I v_second, .slc p0 1 (v_lights.map iR.enc),I v_sig] K=K (⟨v_second,v_lights,v_sig⟩:Note):=by
 cases o0 <;> cases p0 <;> first | (exact Zq _ _) | (exact ZhP _ _) | (simp [okO] at h0)
theorem ZeQ {o0 p0:Own} (h0:okO o0 p0=true) (v:Note) {β:Type} (K:Note->Option β):(Zb o0).get ((Zb p0).enc v) K=K v:=Znv h0 v.second v.lights v.sig K
theorem ZeR {o0 p0:Own} (h0:okO o0 p0=true) {β:Type} (l:List Note) (K:List Note->Option β):rws (Zb o0) (l.map (Zb p0).enc) K=K l:=by
 have:=Zc5 (Zb o0) (Zb p0).enc (fun x:Note=>x) (fun x _ K=>ZeQ h0 x K) l K;rw [this];exact UC K (FC l)
theorem Znw {o0 p0:Own} (h0:okO o0 p0=true) {β:Type} (l:List Note) (i:Int) (K:Note->Option β):ZO (Zb o0) (l.map (Zb p0).enc) i K=Z4 l i K:=Znq (Zb o0) (Zb p0).enc (fun x:Note=>x) (fun x _ K=>ZeQ h0 x K) l i K
theorem ZhR {o0 p0:Own} (h0:okO o0 p0=true) {β:Type} (l:List Note) (i:Nat) (K:Note->Option β):ZZ (Zb o0) (l.map (Zb p0).enc) i K=Xl l i K:=Zs0 (Zb o0) (Zb p0).enc (fun x:Note=>x) (fun x _ K=>ZeQ h0 x K) l i K
theorem Zc7 {o0 p0:Own} {q0:Own} (h0:okO o0 p0=true) (g0:okO o0 q0=true) {β:Type} (l:List Note) (i:Nat) (v_second:Int) (v_lights:(List Int)) (v_sig:Int) (K:List Note->Option β):rws (Zb o0) ((l.map (Zb p0).enc).set i [I v_second, .slc q0 1 (v_lights.map iR.enc),I v_sig]) K=K (l.set i (⟨v_second,v_lights,v_sig⟩:Note)):=by
 have:=ZsZ (Zb o0) (Zb p0).enc (fun x:Note=>x) (fun x _ K=>ZeQ h0 x K) [I v_second, .slc q0 1 (v_lights.map iR.enc),I v_sig] (⟨v_second,v_lights,v_sig⟩:Note) (fun K=>Znv g0 _ _ _ K) l i K;rw [this];exact UC K (FC _)
theorem KA {o0 p0:Own} (h0:okO o0 p0=true) (v_second:Int) (v_lights:(List Int)) (v_sig:Int) {β:Type} (K:List Note->Option β):rws (Zb o0) [[I v_second, .slc p0 1 (v_lights.map iR.enc),I v_sig]] K=K [(⟨v_second,v_lights,v_sig⟩:Note)]:=Znv h0 _ _ _ (fun y=>K [y])
theorem Zav {o0 p0:Own} (h0:okO o0 p0=true) {β:Type} (m:Nat) (v_second:Int) (v_lights:(List Int)) (v_sig:Int) (K:List Note->Option β):rws (Zb o0) (List.replicate m [I v_second, .slc p0 1 (v_lights.map iR.enc),I v_sig]) K=K (List.replicate m (⟨v_second,v_lights,v_sig⟩:Note)):=by
 have:=Zc5 (Zb o0) (Zb p0).enc (fun x:Note=>x) (fun x _ K=>ZeQ h0 x K) (List.replicate m (⟨v_second,v_lights,v_sig⟩:Note)) K;have e:(List.replicate m (⟨v_second,v_lights,v_sig⟩:Note)).map (Zb p0).enc=List.replicate m [I v_second, .slc p0 1 (v_lights.map iR.enc),I v_sig]:=List.map_replicate;exact (UC (fun z=>rws (Zb o0) z K) e).symm.trans (this.trans (UC K (FC _)))
@[simp] theorem XE {p0:Own} (l:List Note):(l.map (Zb p0).enc).length=l.length:=Uy _
@[simp] theorem Ztm {p0:Own} (l:List Note) (n:Nat):(l.map (Zb p0).enc).take n=(l.take n).map (Zb p0).enc:=List.map_take.symm
@[simp] theorem Ztn (l:List Note):YK (l.map (Zb Own.own).enc)=l.map (Zb Own.unq).enc:=ZbL (fun x=>by show Q4 [I x.second, .slc Own.own 1 (x.lights.map iR.enc),I x.sig]= [I x.second, .slc Own.unq 1 (x.lights.map iR.enc),I x.sig];simp [Q4,AV.toU]) l
@[simp] theorem ZNu (l:List Note) (i:Nat) (v_second:Int) (v_lights:(List Int)) (v_sig:Int):(l.map (Zb Own.unq).enc).set i [I v_second, .slc Own.unq 1 (v_lights.map iR.enc),I v_sig]=(l.set i (⟨v_second,v_lights,v_sig⟩:Note)).map (Zb Own.unq).enc:=(Fo (f:=(Zb Own.unq).enc) (l:=l) (i:=i) (a:=(⟨v_second,v_lights,v_sig⟩:Note))).symm
@[simp] theorem ZNv (l:List Note):Yh (l.map (Zb Own.unq).enc)=l.map (Zb Own.shr).enc:=Zar (fun x=>by show Ql [I x.second, .slc Own.unq 1 (x.lights.map iR.enc),I x.sig]= [I x.second, .slc Own.shr 1 (x.lights.map iR.enc),I x.sig];simp [Ql,AV.bor]) l
@[simp] theorem Zto (l:List Note):Q5 (l.map (Zb Own.own).enc)=true:=ZbM (fun x=>by show Y7 [I x.second, .slc Own.own 1 (x.lights.map iR.enc),I x.sig]=true;simp [Y7,AV.okU]) l
@[simp] theorem ZS {β:Type} (l:List Note) (K:List Note->Option β):rws (Zb Own.shr) (l.map (Zb Own.shr).enc) K=K l:=ZeR rfl l K
@[simp] theorem JJ {β:Type} (l:List Note) (i:Int) (K:Note->Option β):ZO (Zb Own.shr) (l.map (Zb Own.shr).enc) i K=Z4 l i K:=Znw rfl l i K
@[simp] theorem ZNw {β:Type} (l:List Note) (i:Nat) (K:Note->Option β):ZZ (Zb Own.shr) (l.map (Zb Own.shr).enc) i K=Xl l i K:=ZhR rfl l i K
@[simp] theorem ZNx (v_second:Int) (v_lights:(List Int)) (v_sig:Int) {β:Type} (K:List Note->Option β):rws (Zb Own.shr) [[I v_second, .slc Own.shr 1 (v_lights.map iR.enc),I v_sig]] K=K [(⟨v_second,v_lights,v_sig⟩:Note)]:=KA (o0:= .shr) (p0:= .shr) rfl v_second v_lights v_sig K
@[simp] theorem ZNy (v_second:Int) (v_lights:(List Int)) (v_sig:Int) {β:Type} (m:Nat) (K:List Note->Option β):rws (Zb Own.shr) (List.replicate m [I v_second, .slc Own.shr 1 (v_lights.map iR.enc),I v_sig]) K=K (List.replicate m (⟨v_second,v_lights,v_sig⟩:Note)):=Zav (o0:= .shr) (p0:= .shr) rfl m v_second v_lights v_sig K
@[simp] theorem ZNz (v_second:Int) (v_sig:Int) {β:Type} (K:List Note->Option β):rws (Zb Own.shr) [[I v_second, .slc Own.shr 1 [],I v_sig]] K=K [(⟨v_second,[],v_sig⟩:Note)]:=KA (o0:= .shr) (p0:= .shr) rfl v_second [] v_sig K
@[simp] theorem ZNA (v_second:Int) (v_sig:Int) {β:Type} (m:Nat) (K:List Note->Option β):rws (Zb Own.shr) (List.replicate m [I v_second, .slc Own.shr 1 [],I v_sig]) K=K (List.replicate m (⟨v_second,[],v_sig⟩:Note)):=Zav (o0:= .shr) (p0:= .shr) rfl m v_second [] v_sig K
@[simp] theorem ZNB {β:Type} (l:List Note) (i:Nat) (v_second:Int) (v_lights:(List Int)) (v_sig:Int) (K:List Note->Option β):rws (Zb Own.shr) ((l.map (Zb Own.shr).enc).set i [I v_second, .slc Own.shr 1 (v_lights.map iR.enc),I v_sig]) K=K (l.set i (⟨v_second,v_lights,v_sig⟩:Note)):=Zc7 (o0:= .shr) (p0:= .shr) (q0:= .shr) rfl rfl l i v_second v_lights v_sig K
@[simp] theorem ZNC {β:Type} (l:List Note) (i:Nat) (v_second:Int) (v_lights:(List Int)) (v_sig:Int) (K:List Note->Option β):rws (Zb Own.shr) ((l.map (Zb Own.shr).enc).set i [I v_second, .slc Own.own 1 (v_lights.map iR.enc),I v_sig]) K=K (l.set i (⟨v_second,v_lights,v_sig⟩:Note)):=Zc7 (o0:= .shr) (p0:= .shr) (q0:= .own) rfl rfl l i v_second v_lights v_sig K
@[simp] theorem Z3 {β:Type} (l:List Note) (K:List Note->Option β):rws (Zb Own.shr) (l.map (Zb Own.own).enc) K=K l:=ZeR rfl l K
@[simp] theorem V5 {β:Type} (l:List Note) (i:Int) (K:Note->Option β):ZO (Zb Own.shr) (l.map (Zb Own.own).enc) i K=Z4 l i K:=Znw rfl l i K
@[simp] theorem ZND {β:Type} (l:List Note) (i:Nat) (K:Note->Option β):ZZ (Zb Own.shr) (l.map (Zb Own.own).enc) i K=Xl l i K:=ZhR rfl l i K
@[simp] theorem ZNE (v_second:Int) (v_lights:(List Int)) (v_sig:Int) {β:Type} (K:List Note->Option β):rws (Zb Own.shr) [[I v_second, .slc Own.own 1 (v_lights.map iR.enc),I v_sig]] K=K [(⟨v_second,v_lights,v_sig⟩:Note)]:=KA (o0:= .shr) (p0:= .own) rfl v_second v_lights v_sig K
@[simp] theorem ZNF (v_second:Int) (v_lights:(List Int)) (v_sig:Int) {β:Type} (m:Nat) (K:List Note->Option β):rws (Zb Own.shr) (List.replicate m [I v_second, .slc Own.own 1 (v_lights.map iR.enc),I v_sig]) K=K (List.replicate m (⟨v_second,v_lights,v_sig⟩:Note)):=Zav (o0:= .shr) (p0:= .own) rfl m v_second v_lights v_sig K
@[simp] theorem ZNG (v_second:Int) (v_sig:Int) {β:Type} (K:List Note->Option β):rws (Zb Own.shr) [[I v_second, .slc Own.own 1 [],I v_sig]] K=K [(⟨v_second,[],v_sig⟩:Note)]:=KA (o0:= .shr) (p0:= .own) rfl v_second [] v_sig K
@[simp] theorem ZNH (v_second:Int) (v_sig:Int) {β:Type} (m:Nat) (K:List Note->Option β):rws (Zb Own.shr) (List.replicate m [I v_second, .slc Own.own 1 [],I v_sig]) K=K (List.replicate m (⟨v_second,[],v_sig⟩:Note)):=Zav (o0:= .shr) (p0:= .own) rfl m v_second [] v_sig K
@[simp] theorem ZNI {β:Type} (l:List Note) (i:Nat) (v_second:Int) (v_lights:(List Int)) (v_sig:Int) (K:List Note->Option β):rws (Zb Own.shr) ((l.map (Zb Own.own).enc).set i [I v_second, .slc Own.shr 1 (v_lights.map iR.enc),I v_sig]) K=K (l.set i (⟨v_second,v_lights,v_sig⟩:Note)):=Zc7 (o0:= .shr) (p0:= .own) (q0:= .shr) rfl rfl l i v_second v_lights v_sig K
@[simp] theorem ZNJ {β:Type} (l:List Note) (i:Nat) (v_second:Int) (v_lights:(List Int)) (v_sig:Int) (K:List Note->Option β):rws (Zb Own.shr) ((l.map (Zb Own.own).enc).set i [I v_second, .slc Own.own 1 (v_lights.map iR.enc),I v_sig]) K=K (l.set i (⟨v_second,v_lights,v_sig⟩:Note)):=Zc7 (o0:= .shr) (p0:= .own) (q0:= .own) rfl rfl l i v_second v_lights v_sig K
@[simp] theorem Z0 {β:Type} (l:List Note) (K:List Note->Option β):rws (Zb Own.own) (l.map (Zb Own.own).enc) K=K l:=ZeR rfl l K
@[simp] theorem JK {β:Type} (l:List Note) (i:Int) (K:Note->Option β):ZO (Zb Own.own) (l.map (Zb Own.own).enc) i K=Z4 l i K:=Znw rfl l i K
@[simp] theorem ZNK {β:Type} (l:List Note) (i:Nat) (K:Note->Option β):ZZ (Zb Own.own) (l.map (Zb Own.own).enc) i K=Xl l i K:=ZhR rfl l i K
@[simp] theorem ZNL (v_second:Int) (v_lights:(List Int)) (v_sig:Int) {β:Type} (K:List Note->Option β):rws (Zb Own.own) [[I v_second, .slc Own.own 1 (v_lights.map iR.enc),I v_sig]] K=K [(⟨v_second,v_lights,v_sig⟩:Note)]:=KA (o0:= .own) (p0:= .own) rfl v_second v_lights v_sig K
@[simp] theorem ZNM (v_second:Int) (v_lights:(List Int)) (v_sig:Int) {β:Type} (m:Nat) (K:List Note->Option β):rws (Zb Own.own) (List.replicate m [I v_second, .slc Own.own 1 (v_lights.map iR.enc),I v_sig]) K=K (List.replicate m (⟨v_second,v_lights,v_sig⟩:Note)):=Zav (o0:= .own) (p0:= .own) rfl m v_second v_lights v_sig K
@[simp] theorem ZNN (v_second:Int) (v_sig:Int) {β:Type} (K:List Note->Option β):rws (Zb Own.own) [[I v_second, .slc Own.own 1 [],I v_sig]] K=K [(⟨v_second,[],v_sig⟩:Note)]:=KA (o0:= .own) (p0:= .own) rfl v_second [] v_sig K
@[simp] theorem ZDv (v_second:Int) (v_sig:Int) {β:Type} (m:Nat) (K:List Note->Option β):rws (Zb Own.own) (List.replicate m [I v_second, .slc Own.own 1 [],I v_sig]) K=K (List.replicate m (⟨v_second,[],v_sig⟩:Note)):=Zav (o0:= .own) (p0:= .own) rfl m v_second [] v_sig K
@[simp] theorem ZNO {β:Type} (l:List Note) (i:Nat) (v_second:Int) (v_lights:(List Int)) (v_sig:Int) (K:List Note->Option β):rws (Zb Own.own) ((l.map (Zb Own.own).enc).set i [I v_second, .slc Own.own 1 (v_lights.map iR.enc),I v_sig]) K=K (l.set i (⟨v_second,v_lights,v_sig⟩:Note)):=Zc7 (o0:= .own) (p0:= .own) (q0:= .own) rfl rfl l i v_second v_lights v_sig K
@[simp] theorem Zc8 {β:Type} (l:List Note) (K:List Note->Option β):rws (Zb Own.unq) (l.map (Zb Own.unq).enc) K=K l:=ZeR rfl l K
@[simp] theorem ZNP {β:Type} (l:List Note) (i:Nat) (K:Note->Option β):ZZ (Zb Own.unq) (l.map (Zb Own.unq).enc) i K=Xl l i K:=ZhR rfl l i K
@[simp] theorem ZNQ (v_second:Int) (v_lights:(List Int)) (v_sig:Int) {β:Type} (K:List Note->Option β):rws (Zb Own.unq) [[I v_second, .slc Own.unq 1 (v_lights.map iR.enc),I v_sig]] K=K [(⟨v_second,v_lights,v_sig⟩:Note)]:=KA (o0:= .unq) (p0:= .unq) rfl v_second v_lights v_sig K
@[simp] theorem ZNR (v_second:Int) (v_lights:(List Int)) (v_sig:Int) {β:Type} (m:Nat) (K:List Note->Option β):rws (Zb Own.unq) (List.replicate m [I v_second, .slc Own.unq 1 (v_lights.map iR.enc),I v_sig]) K=K (List.replicate m (⟨v_second,v_lights,v_sig⟩:Note)):=Zav (o0:= .unq) (p0:= .unq) rfl m v_second v_lights v_sig K
@[simp] theorem ZNS (v_second:Int) (v_sig:Int) {β:Type} (K:List Note->Option β):rws (Zb Own.unq) [[I v_second, .slc Own.unq 1 [],I v_sig]] K=K [(⟨v_second,[],v_sig⟩:Note)]:=KA (o0:= .unq) (p0:= .unq) rfl v_second [] v_sig K
@[simp] theorem ZNT (v_second:Int) (v_sig:Int) {β:Type} (m:Nat) (K:List Note->Option β):rws (Zb Own.unq) (List.replicate m [I v_second, .slc Own.unq 1 [],I v_sig]) K=K (List.replicate m (⟨v_second,[],v_sig⟩:Note)):=Zav (o0:= .unq) (p0:= .unq) rfl m v_second [] v_sig K
@[simp] theorem ZNU {β:Type} (l:List Note) (i:Nat) (v_second:Int) (v_lights:(List Int)) (v_sig:Int) (K:List Note->Option β):rws (Zb Own.unq) ((l.map (Zb Own.unq).enc).set i [I v_second, .slc Own.unq 1 (v_lights.map iR.enc),I v_sig]) K=K (l.set i (⟨v_second,v_lights,v_sig⟩:Note)):=Zc7 (o0:= .unq) (p0:= .unq) (q0:= .unq) rfl rfl l i v_second v_lights v_sig K
@[simp] theorem ZW (v:Town):(⟨v.paths,v.control,v.wants,v.prio,v.lamps,v.power,v.record,v.books,v.now⟩:Town)=v:=rfl
@[simp] theorem ZNV (v:Evt):(⟨v.kind,v.path,v.n,v.on⟩:Evt)=v:=rfl
instance:Lw Znp:=⟨fun _ _ _=>rfl⟩
@[simp] theorem ZNW (v:Report):(⟨v.path,v.second,v.light,v.since,v.other⟩:Report)=v:=rfl
instance:Lw Vc:=⟨fun _ _ _=>rfl⟩
@[simp] theorem ZNX (v:Part):(⟨v.stage,v.green⟩:Part)=v:=rfl
theorem ZDw {o0 p0:Own} (h0:okO o0 p0=true) (v_stage:(List Int)) (v_green:Int) {β:Type} (K:Part->Option β):(ZI o0).get [.slc p0 1 (v_stage.map iR.enc),I v_green] K=K (⟨v_stage,v_green⟩:Part):=by
 cases o0 <;> cases p0 <;> first | (exact Zq _ _) | (exact ZhP _ _) | (simp [okO] at h0)
theorem Ztp {o0 p0:Own} (h0:okO o0 p0=true) (v:Part) {β:Type} (K:Part->Option β):(ZI o0).get ((ZI p0).enc v) K=K v:=ZDw h0 v.stage v.green K
theorem Znx {o0 p0:Own} (h0:okO o0 p0=true) {β:Type} (l:List Part) (K:List Part->Option β):rws (ZI o0) (l.map (ZI p0).enc) K=K l:=by
 have:=Zc5 (ZI o0) (ZI p0).enc (fun x:Part=>x) (fun x _ K=>Ztp h0 x K) l K;rw [this];exact UC K (FC l)
theorem Zny {o0 p0:Own} (h0:okO o0 p0=true) {β:Type} (l:List Part) (i:Int) (K:Part->Option β):ZO (ZI o0) (l.map (ZI p0).enc) i K=Z4 l i K:=Znq (ZI o0) (ZI p0).enc (fun x:Part=>x) (fun x _ K=>Ztp h0 x K) l i K
@[simp] theorem ZeS {p0:Own} (l:List Part):(l.map (ZI p0).enc).length=l.length:=Uy _
@[simp] theorem Xm {β:Type} (l:List Part) (K:List Part->Option β):rws (ZI Own.shr) (l.map (ZI Own.shr).enc) K=K l:=Znx rfl l K
@[simp] theorem ZNY {β:Type} (l:List Part) (i:Int) (K:Part->Option β):ZO (ZI Own.shr) (l.map (ZI Own.shr).enc) i K=Z4 l i K:=Zny rfl l i K
@[simp] theorem ZNZ {β:Type} (l:List Part) (K:List Part->Option β):rws (ZI Own.shr) (l.map (ZI Own.own).enc) K=K l:=Znx rfl l K
@[simp] theorem ZN0 {β:Type} (l:List Part) (i:Int) (K:Part->Option β):ZO (ZI Own.shr) (l.map (ZI Own.own).enc) i K=Z4 l i K:=Zny rfl l i K
@[simp] theorem ZN1 {β:Type} (l:List Part) (K:List Part->Option β):rws (ZI Own.own) (l.map (ZI Own.own).enc) K=K l:=Znx rfl l K
@[simp] theorem ZN2 {β:Type} (l:List Part) (i:Int) (K:Part->Option β):ZO (ZI Own.own) (l.map (ZI Own.own).enc) i K=Z4 l i K:=Zny rfl l i K
@[simp] theorem ZDx {β:Type} (x:Option β):b2 x=x:=by unfold b2;exact Ky x
@[simp] theorem ZDy {β:Type} (x:Option β):b3 x=x:=by unfold b3;rw [ZDx];exact Ky x
@[simp] theorem ZDz {β:Type} (x:Option β):b4 x=x:=by unfold b4;rw [ZDy];exact Ky x
@[simp] theorem ZDA {β:Type} (x:Option β):b5 x=x:=by unfold b5;rw [ZDz];exact Ky x
@[simp] theorem ZDB {β:Type} (x:Option β):b6 x=x:=by unfold b6;rw [ZDA];exact Ky x
@[simp] theorem ZDC {β:Type} (x:Option β):b7 x=x:=by unfold b7;rw [ZDB];exact Ky x
@[simp] theorem ZN3 {β:Type} (x:Option β):b8 x=x:=by unfold b8;rw [ZDC];exact Ky x
@[simp] theorem Zp {β:Type} (x:Control) (K:Control->Option β):rC x K=K x:=(Zq x.stage _).trans (Zq x.next _)
@[simp] theorem Zk {β:Type} (x:Town) (K:Town->Option β):rT Own.shr Own.shr x K=K x:=(Zu x.paths _).trans ((Zq x.control.stage _).trans ((Zq x.control.next _).trans ((ZK x.wants _).trans ((ZT x.lamps _).trans (ZS x.record _)))))
@[simp] theorem Zo {β:Type} (x:Town) (K:Town->Option β):rT Own.shr Own.own x K=K x:=(Zu x.paths _).trans ((Zq x.control.stage _).trans ((Zq x.control.next _).trans ((ZK x.wants _).trans ((ZT x.lamps _).trans (Z3 x.record _)))))
@[simp] theorem Zn {β:Type} (x:Town) (K:Town->Option β):rT Own.own Own.own x K=K x:=(Zu x.paths _).trans ((Zq x.control.stage _).trans ((Zq x.control.next _).trans ((ZK x.wants _).trans ((ZT x.lamps _).trans (Z0 x.record _)))))
@[simp] theorem Zr {β:Type} (x:Town) (K:Town->Option β):rT Own.unq Own.unq x K=K x:=(Zu x.paths _).trans ((Zq x.control.stage _).trans ((Zq x.control.next _).trans ((ZK x.wants _).trans ((ZT x.lamps _).trans (Zc8 x.record _)))))
end Go.Sh
