/- Part of the proof: see the last text of the claim. -/
import Derived.Test.YtnpgbpkogmniaaaGreatDoorGTyX
set_option linter.all false
/- Plain tools: the shallow functions' words, loops. -/
namespace Go.Sh
open Go.Fx
theorem Zc {α β:Type} (v:α) (K:α->Option β):bnd (some v) K=K v:=rfl
theorem Zn {β:Type} (x y:Option β):cnd true x y=x:=rfl
theorem Zf {β:Type} (x y:Option β):cnd false x y=y:=rfl
theorem ZG {β:Type} (b:Bool) (x y:Option β):cnd b x y=if b=true then x else y:=by cases b <;> rfl
theorem Zl {β:Type} {c:Prop} [Decidable c] (h:c) (x:Option β):ifA c x=x:=Uh h
@[simp] theorem ZJM {β:Type} [Decidable True] (x:Option β):ifA True x=x:=Uh trivial
@[simp] theorem ZJN {β:Type} [Decidable False] (x:Option β):ifA False x=none:=Uf id
def Z6 {α β:Type} (l:List α) (n:Int) (K:α->Option β):Option β:=
 if 0<=n then (match l[n.toNat]? with |some x=>K x |none=>none) else none
theorem Zh {α β:Type} {l:List α} {k:Nat} {x:α} (h:l[k]? =some x) (K:α->Option β):Z6 l (k:Int) K=K x:=by
 unfold Z6;rw [Uh (by omega),Uy,h]
theorem ZrD {α β:Type} (x:α) (l:List α) (K:α->Option β):Z6 (x::l) 0 K=K x:=rfl
def Qw {α β:Type} (l:List α) (n:Nat) (K:α->Option β):Option β:=match l[n]? with |some x=>K x |none=>none
theorem ZbP {α β:Type} {l:List α} {k:Nat} {x:α} (h:l[k]? =some x) (K:α->Option β):Qw l k K=K x:=by
 unfold Qw;rw [h]
class Lw (R:RR):Prop where
 ge:∀(x:R.τ) {β:Type} (K:R.τ->Option β),R.get (R.enc x) K=K x
instance:Lw iR:=⟨fun _ _ _=>rfl⟩
instance:Lw yR:=⟨fun _ _ _=>rfl⟩
instance:Lw bR:=⟨fun _ _ _=>rfl⟩
instance:Lw sR:=⟨fun _ _ _=>rfl⟩
theorem Qx (R:RR) [Lw R] {β:Type}:∀(l:List R.τ) (K:List R.τ->Option β),rws R (l.map R.enc) K=K l
 | [],K=>rfl
 |x::l,K=>by
  show R.get (R.enc x) (fun y=>rws R (l.map R.enc) fun ys=>K (y::ys))=_;rw [Lw.ge,Qx R l]
theorem ZaD (R:RR) {β:Type}:∀(xs ys:List (List AV)) (K:List R.τ->Option β),rws R (xs ++ ys) K=rws R xs fun l=>rws R ys fun l'=>K (l ++ l')
 | [],ys,K=>rfl
 |x::xs,ys,K=>by
  show R.get x (fun y=>rws R (xs ++ ys) fun l=>K (y::l))=R.get x fun y=>rws R xs fun l=>rws R ys fun l'=>K (y::l ++ l')
  congr 1
  funext y
  rw [ZaD R xs ys];rfl
theorem ZBg (R:RR) [Lw R] {β:Type} (x:R.τ) (n:Nat) (K:List R.τ->Option β):rws R (List.replicate n (R.enc x)) K=K (List.replicate n x):=by
 rw [←List.map_replicate,Qx]
theorem Zhn (R:RR) [Lw R] {β:Type} (l:List R.τ) (i:Nat) (x:R.τ) (K:List R.τ->Option β):rws R ((l.map R.enc).set i (R.enc x)) K=K (l.set i x):=by
 rw [←List.map_set,Qx]
theorem Zc3 (R:RR) [Lw R] {β:Type} (l:List R.τ) (i:Nat) (K:R.τ->Option β):Ye R (l.map R.enc) i K=Qw l i K:=by
 unfold Ye Qw;rw [Mf];cases l[i]? with
 |none=>rfl
 |some x=>exact Lw.ge x K
theorem Zc4 (R:RR) [Lw R] {β:Type} (l:List R.τ) (n:Int) (K:R.τ->Option β):Zz R (l.map R.enc) n K=Z6 l n K:=by
 cases n with
 |ofNat m=>
  show Ye R (l.map R.enc) m K=_;rw [Zc3];unfold Qw Z6;rw [Uh (show (0:Int)<=Int.ofNat m from Fw m)];rfl
 |negSucc m=>rfl
theorem Zho (R:RR) {σ:Type} (e:σ->List AV) (f:σ->R.τ) (h:∀(x:σ) {γ:Type} (K:R.τ->Option γ),R.get (e x) K=K (f x)) {β:Type}:∀(l:List σ) (K:List R.τ->Option β),rws R (l.map e) K=K (l.map f)
 | [],K=>rfl
 |x::l,K=>by
  show R.get (e x) (fun y=>rws R (l.map e) fun ys=>K (y::ys))=_;rw [h,Zho R e f h l];rfl
theorem ZBh (R:RR) {σ:Type} (e:σ->List AV) (f:σ->R.τ) (h:∀(x:σ) {γ:Type} (K:R.τ->Option γ),R.get (e x) K=K (f x)) {β:Type} (l:List σ) (i:Nat) (K:R.τ->Option β):Ye R (l.map e) i K=Qw l i fun x=>K (f x):=by
 unfold Ye Qw;rw [Mf];cases l[i]? with
 |none=>rfl
 |some x=>exact h x K
theorem Zmt (R:RR) {σ:Type} (e:σ->List AV) (f:σ->R.τ) (h:∀(x:σ) {γ:Type} (K:R.τ->Option γ),R.get (e x) K=K (f x)) {β:Type} (l:List σ) (n:Int) (K:R.τ->Option β):Zz R (l.map e) n K=Z6 l n fun x=>K (f x):=by
 cases n with
 |ofNat m=>
  show Ye R (l.map e) m K=_;rw [ZBh R e f h];unfold Qw Z6;rw [Uh (show (0:Int)<=Int.ofNat m from Fw m)];rfl
 |negSucc m=>rfl
@[simp] theorem ZJO:okO .shr .shr=true:=rfl
@[simp] theorem ZJP:okO .shr .own=true:=rfl
@[simp] theorem ZJQ:okO .own .own=true:=rfl
@[simp] theorem KF {β:Type} (x:Option β):ZF x x=x:=by unfold ZF;simp
@[simp] theorem ZJR:okO .unq .unq=true:=rfl
theorem ZaE {σ:Type} {e e':σ->List AV} (h:∀x,Q6 (e x)=e' x):∀l:List σ,Yk (l.map e)=l.map e'
 | []=>rfl
 |x::l=>by simp only [Md,Yk,h,ZaE h l]
theorem Zc5 {σ:Type} {e e':σ->List AV} (h:∀x,Q5 (e x)=e' x):∀l:List σ,Yn (l.map e)=l.map e'
 | []=>rfl
 |x::l=>by simp only [Md,Yn,h,Zc5 h l]
theorem ZaF {σ:Type} {e:σ->List AV} (h:∀x,Y6 (e x)=true):∀l:List σ,QL (l.map e)=true
 | []=>rfl
 |x::l=>by simp only [Md,QL,h,ZaF h l,Mw]
@[simp] theorem ZJS (k:Nat) (xs:List (List AV)):AV.okU (.slc .own k xs)=QL xs:=rfl
theorem Vd {V β:Type} (F:(V->Option β)->V->Option β) (n:Nat) (v:V):Ze F (n + 1) v=F (Ze F n) v:=rfl
theorem Zhp {V β:Type} {F:(V->Option β)->V->Option β} {R:V->Option β} (μ:V->Nat) (inv:V->Prop)
  (step:∀rec v,inv v->(∀v',inv v'->μ v' < μ v->rec v'=R v')->F rec v=R v):∀n v,inv v->μ v < n->Ze F n v=R v
 | 0,v,_,h=>by omega
 |n + 1,v,hi,h=>by
  rw [Vd];exact step _ v hi fun v' hi' hlt=>Zhp μ inv step n v' hi' (by omega)
theorem ZrE {α A V β:Type} {F:(V->Option β)->V->Option β} (l:List α) (st:Nat->A->V) (G:List α->Nat->A->Option β)
  (h0:∀rec acc,F rec (st l.length acc)=G [] l.length acc)
  (h1:∀rec k x acc,l[k]? =some x->k < l.length->(∀acc',rec (st (k + 1) acc')=G (l.drop (k + 1)) (k + 1) acc')->F rec (st k acc)=G (x::l.drop (k + 1)) k acc):
  ∀n k acc,k<=l.length->l.length - k < n->Ze F n (st k acc)=G (l.drop k) k acc
 | 0,k,acc,_,h=>by omega
 |n + 1,k,acc,hk,h=>by
  rw [Vd];rcases U7 k l.length with hlt |hge
  ·have hx:l[k]? =some l[k]:=Ua hlt;rw [UH hlt];exact h1 _ k _ acc hx hlt fun acc'=>ZrE l st G h0 h1 n (k + 1) acc' hlt (by omega)
  ·have:k=l.length:=by omega
   subst this;rw [M5];exact h0 _ acc
theorem KG {n:Nat} (h:n<=4611686018427387903):n < NN:=by rw [Zlc];omega
theorem Yd {α A V β:Type} {F:(V->Option β)->V->Option β} (l:List α) (hl:l.length<=1152921504606846976) (st:Nat->A->V) (acc:A) (G:List α->Nat->A->Option β) {v:V} (hv:v=st 0 acc)
  (h0:∀rec acc,F rec (st l.length acc)=G [] l.length acc)
  (h1:∀rec k x acc,l[k]? =some x->k < l.length->(∀acc',rec (st (k + 1) acc')=G (l.drop (k + 1)) (k + 1) acc')->F rec (st k acc)=G (x::l.drop (k + 1)) k acc):
  Ze F NN v=G l 0 acc:=by
 rw [hv];exact ZrE l st G h0 h1 NN 0 acc (Mb _) (KG (by omega))
theorem ZrF {α A V β:Type} {F:(V->Option β)->V->Option β} (l:List α) (st:Nat->A->V) (J:Nat->A->Prop) (G:List α->Nat->A->Option β)
  (h0:∀rec acc,J l.length acc->F rec (st l.length acc)=G [] l.length acc)
  (h1:∀rec k x acc,J k acc->l[k]? =some x->k < l.length->(∀acc',J (k + 1) acc'->rec (st (k + 1) acc')=G (l.drop (k + 1)) (k + 1) acc')->F rec (st k acc)=G (x::l.drop (k + 1)) k acc):
  ∀n k acc,J k acc->k<=l.length->l.length - k < n->Ze F n (st k acc)=G (l.drop k) k acc
 | 0,k,acc,_,_,h=>by omega
 |n + 1,k,acc,hJ,hk,h=>by
  rw [Vd];rcases U7 k l.length with hlt |hge
  ·have hx:l[k]? =some l[k]:=Ua hlt;rw [UH hlt];exact h1 _ k _ acc hJ hx hlt fun acc' hJ'=>ZrF l st J G h0 h1 n (k + 1) acc' hJ' hlt (by omega)
  ·have:k=l.length:=by omega
   subst this;rw [M5];exact h0 _ acc hJ
theorem Yf {α A V β:Type} {F:(V->Option β)->V->Option β} (l:List α) (hl:l.length<=1152921504606846976) (st:Nat->A->V) (acc:A) (J:Nat->A->Prop) (hJ:J 0 acc) (G:List α->Nat->A->Option β) {v:V} (hv:v=st 0 acc)
  (h0:∀rec acc,J l.length acc->F rec (st l.length acc)=G [] l.length acc)
  (h1:∀rec k x acc,J k acc->l[k]? =some x->k < l.length->(∀acc',J (k + 1) acc'->rec (st (k + 1) acc')=G (l.drop (k + 1)) (k + 1) acc')->F rec (st k acc)=G (x::l.drop (k + 1)) k acc):
  Ze F NN v=G l 0 acc:=by
 rw [hv];exact ZrF l st J G h0 h1 NN 0 acc hJ (Mb _) (KG (by omega))
theorem ZB {n:Int} (h: -9223372036854775808<=n) (h':n<=9223372036854775807):W n=n:=by
 show IntKind.i64.wrap n=n;have e:IntKind.i64.wrap n=if n % 18446744073709551616>=9223372036854775808 then n % 18446744073709551616 - 18446744073709551616 else n % 18446744073709551616:=by
  unfold IntKind.wrap;rw [show IntKind.i64.signed=true from rfl,show IntKind.i64.bits=64 from rfl];simp only [UV,UG];rfl
 rw [e];split <;> omega
theorem ZBi {k:Nat} (h:k<=9223372036854775806):W ((k:Int) + 1)=((k + 1:Nat):Int):=by
 rw [ZB (by omega) (by omega)];omega
theorem ZlQ {α:Type} {a:List α} {x z:α} {k:Nat} (h:a[k]? =some x):(a.take k ++ List.replicate (a.length - k) z).set k x=a.take (k + 1) ++ List.replicate (a.length - (k + 1)) z:=by
 have hk:k < a.length:=(List.getElem?_eq_some_iff.1 h).1;have hx:a[k]=x:=(List.getElem?_eq_some_iff.1 h).2;have hl:(a.take k).length=k:=by rw [Uc];omega
 rw [List.set_append_right _ _ (by omega),hl,Nat.sub_self];obtain ⟨m,hm⟩:∃m,a.length - k=m + 1:=⟨a.length - k - 1,by omega⟩
 rw [hm,show a.length - (k + 1)=m by omega,MP,List.set_cons_zero,List.take_succ_eq_append_getElem hk,hx,Ux];rfl
theorem ZBj {α:Type} [DecidableEq α] (a b:List α) (hl:a.length=b.length) (h:a.length<=1099511627776) {F:(List α×List α×Int->Option Bool)->List α×List α×Int->Option Bool}
  (h0:∀rec,F rec (a,b,(a.length:Int))=some true) (h1:∀rec k x y,a[k]? =some x->b[k]? =some y->k < a.length->F rec (a,b,(k:Int))=if x=y then rec (a,b,((k + 1:Nat):Int)) else some false):
  Ze F NN (a,b,0)=some (decide (a=b)):=by
 refine (Yd a (by omega) (fun k (_:Unit)=>(a,b,(k:Int))) () (fun l k _=>some (decide (l=b.drop k))) rfl ?_ ?_).trans (by simp)
 ·intro rec _;rw [h0,hl,M5];simp
 ·intro rec k x _ hx hk hr;have hkb:k < b.length:=by omega
  have hy:b[k]? =some b[k]:=Ua hkb;rw [h1 rec k x _ hx hy hk,hr (),UH hkb];by_cases e:x=b[k]
  ·rw [Uh e,e];congr 1;exact decide_eq_decide.2 (by simp only [FN,FT])
  ·rw [Uf e];congr 1;exact (Ug (by simp only [FN];exact fun h=>e h.1)).symm
end Go.Sh
/- The typed views, and what is to be said of them once. -/
namespace Go.Sh
open Go.Fx
attribute [simp] Zc Zn Zf ZaD
theorem ZBk (R:RR) {β:Type} (K:List R.τ->Option β):rws R [] K=K []:=rfl
attribute [simp] ZBk
def Sm {α:Type} (l:List α):Prop:=l.length<=1048576
@[simp] theorem Zo {β:Type} (l:List Int) (K:List Int->Option β):rws iR (l.map iR.enc) K=K l:=Qx iR l K
@[simp] theorem Yw {β:Type} (l:List Int) (n:Int) (K:Int->Option β):Zz iR (l.map iR.enc) n K=Z6 l n K:=Zc4 iR l n K
@[simp] theorem ZBl {β:Type} (l:List Int) (n:Nat) (K:Int->Option β):Ye iR (l.map iR.enc) n K=Qw l n K:=Zc3 iR l n K
@[simp] theorem ZZ (l:List Int):(l.map iR.enc).length=l.length:=Ut _
@[simp] theorem ZrG (l:List Int) (n:Nat):(l.map iR.enc).take n=(l.take n).map iR.enc:=List.map_take.symm
@[simp] theorem ZrH (l:List Int) (n:Nat):(l.map iR.enc).drop n=(l.drop n).map iR.enc:=List.map_drop.symm
@[simp] theorem Zmu (l:List Int):Yk (l.map iR.enc)=l.map iR.enc:=ZaE (fun _=>rfl) l
@[simp] theorem ZBm (l:List Int):Yn (l.map iR.enc)=l.map iR.enc:=Zc5 (fun _=>rfl) l
@[simp] theorem ZrI (l:List Int):QL (l.map iR.enc)=true:=ZaF (fun _=>rfl) l
@[simp] theorem ZJT {β:Type} (l:List Int) (i:Nat) (v:Int) (K:List Int->Option β):rws iR ((l.map iR.enc).set i [I v]) K=K (l.set i v):=Zhn iR l i v K
@[simp] theorem ZrJ {β:Type} (v:Int) (K:List Int->Option β):rws iR [[I v]] K=K [v]:=rfl
@[simp] theorem ZaG (l:List Int):(l.map iR.enc).map clrs=l.map iR.enc:=MQ (f:=iR.enc) (g:=clrs) (l:=l)
@[simp] theorem Zhq {β:Type} (l:List Int) (K:List Int->Option β):rws yR (l.map yR.enc) K=K l:=Qx yR l K
@[simp] theorem Zmv {β:Type} (l:List Bool) (K:List Bool->Option β):rws bR (l.map bR.enc) K=K l:=Qx bR l K
@[simp] theorem ZJU {β:Type} (l:List Bool) (n:Int) (K:Bool->Option β):Zz bR (l.map bR.enc) n K=Z6 l n K:=Zc4 bR l n K
@[simp] theorem ZJV {β:Type} (l:List Bool) (n:Nat) (K:Bool->Option β):Ye bR (l.map bR.enc) n K=Qw l n K:=Zc3 bR l n K
@[simp] theorem ZBn (l:List Bool):(l.map bR.enc).length=l.length:=Ut _
@[simp] theorem ZJW (l:List Bool) (n:Nat):(l.map bR.enc).take n=(l.take n).map bR.enc:=List.map_take.symm
@[simp] theorem ZJX (l:List Bool) (n:Nat):(l.map bR.enc).drop n=(l.drop n).map bR.enc:=List.map_drop.symm
@[simp] theorem ZJY (l:List Bool):Yk (l.map bR.enc)=l.map bR.enc:=ZaE (fun _=>rfl) l
@[simp] theorem ZJZ (l:List Bool):Yn (l.map bR.enc)=l.map bR.enc:=Zc5 (fun _=>rfl) l
@[simp] theorem ZJ0 (l:List Bool):QL (l.map bR.enc)=true:=ZaF (fun _=>rfl) l
@[simp] theorem ZJ1 (l:List Bool) (i:Nat) (v:Bool):(l.map bR.enc).set i [Bl v]=(l.set i v).map bR.enc:=(List.map_set (f:=bR.enc) (l:=l) (i:=i) (a:=v)).symm
@[simp] theorem ZJ2 {β:Type} (l:List Bool) (i:Nat) (v:Bool) (K:List Bool->Option β):rws bR ((l.map bR.enc).set i [Bl v]) K=K (l.set i v):=Zhn bR l i v K
@[simp] theorem ZJ3 {β:Type} (i:Nat) (v:Bool) (K:List Bool->Option β):rws bR (List.replicate i [Bl v]) K=K (List.replicate i v):=ZBg bR v i K
@[simp] theorem ZJ4 {β:Type} (v:Bool) (K:List Bool->Option β):rws bR [[Bl v]] K=K [v]:=rfl
@[simp] theorem ZJ5 (l:List Bool):(l.map bR.enc).map clrs=l.map bR.enc:=MQ (f:=bR.enc) (g:=clrs) (l:=l)
@[simp] theorem YF {β:Type} (l:List ByteArray) (K:List ByteArray->Option β):rws sR (l.map sR.enc) K=K l:=Qx sR l K
@[simp] theorem QO {β:Type} (l:List ByteArray) (n:Int) (K:ByteArray->Option β):Zz sR (l.map sR.enc) n K=Z6 l n K:=Zc4 sR l n K
@[simp] theorem Xm (l:List ByteArray):(l.map sR.enc).length=l.length:=Ut _
@[simp] theorem Zmw (l:List ByteArray) (n:Nat):(l.map sR.enc).take n=(l.take n).map sR.enc:=List.map_take.symm
@[simp] theorem Zmx (l:List ByteArray) (n:Nat):(l.map sR.enc).drop n=(l.drop n).map sR.enc:=List.map_drop.symm
@[simp] theorem ZBo (l:List ByteArray):Yk (l.map sR.enc)=l.map sR.enc:=ZaE (fun _=>rfl) l
@[simp] theorem ZBp (l:List ByteArray):Yn (l.map sR.enc)=l.map sR.enc:=Zc5 (fun _=>rfl) l
@[simp] theorem ZBq (l:List ByteArray):QL (l.map sR.enc)=true:=ZaF (fun _=>rfl) l
theorem ZBr {o0 p0:Own} (h0:okO o0 p0=true) (v_l:List Int) {β:Type} (K:(List Int)->Option β):(Zb (rX o0 1 iR)).get [.slc p0 1 (v_l.map iR.enc)] K=K v_l:=by
 cases o0 <;> cases p0 <;> first | (exact Zo _ _) | (exact Zhq _ _) | (simp [okO] at h0)
theorem ZrK {o0 p0:Own} (h0:okO o0 p0=true) (v:(List Int)) {β:Type} (K:(List Int)->Option β):(Zb (rX o0 1 iR)).get ((Zb (rX p0 1 iR)).enc v) K=K v:=ZBr h0 v K
theorem ZeA {o0 p0:Own} (h0:okO o0 p0=true) {β:Type} (l:List (List Int)) (K:List (List Int)->Option β):rws (Zb (rX o0 1 iR)) (l.map (Zb (rX p0 1 iR)).enc) K=K l:=by
 have:=Zho (Zb (rX o0 1 iR)) (Zb (rX p0 1 iR)).enc (fun x:(List Int)=>x) (fun x _ K=>ZrK h0 x K) l K;rw [this];exact UC K (FS l)
theorem Zmy {o0 p0:Own} (h0:okO o0 p0=true) {β:Type} (l:List (List Int)) (i:Int) (K:(List Int)->Option β):Zz (Zb (rX o0 1 iR)) (l.map (Zb (rX p0 1 iR)).enc) i K=Z6 l i K:=Zmt (Zb (rX o0 1 iR)) (Zb (rX p0 1 iR)).enc (fun x:(List Int)=>x) (fun x _ K=>ZrK h0 x K) l i K
@[simp] theorem Ve {p0:Own} (l:List (List Int)):(l.map (Zb (rX p0 1 iR)).enc).length=l.length:=Ut _
@[simp] theorem ZrL {p0:Own} (l:List (List Int)) (n:Nat):(l.map (Zb (rX p0 1 iR)).enc).take n=(l.take n).map (Zb (rX p0 1 iR)).enc:=List.map_take.symm
@[simp] theorem ZaH {β:Type} (l:List (List Int)) (K:List (List Int)->Option β):rws (Zb (rX Own.shr 1 iR)) (l.map (Zb (rX Own.shr 1 iR)).enc) K=K l:=ZeA rfl l K
@[simp] theorem Zhr {β:Type} (l:List (List Int)) (i:Int) (K:(List Int)->Option β):Zz (Zb (rX Own.shr 1 iR)) (l.map (Zb (rX Own.shr 1 iR)).enc) i K=Z6 l i K:=Zmy rfl l i K
@[simp] theorem ZbQ {β:Type} (l:List (List Int)) (K:List (List Int)->Option β):rws (Zb (rX Own.shr 1 iR)) (l.map (Zb (rX Own.own 1 iR)).enc) K=K l:=ZeA rfl l K
@[simp] theorem ZrM {β:Type} (l:List (List Int)) (i:Int) (K:(List Int)->Option β):Zz (Zb (rX Own.shr 1 iR)) (l.map (Zb (rX Own.own 1 iR)).enc) i K=Z6 l i K:=Zmy rfl l i K
@[simp] theorem JM {β:Type} (l:List (List Int)) (K:List (List Int)->Option β):rws (Zb (rX Own.own 1 iR)) (l.map (Zb (rX Own.own 1 iR)).enc) K=K l:=ZeA rfl l K
@[simp] theorem ZBs {β:Type} (l:List (List Int)) (i:Int) (K:(List Int)->Option β):Zz (Zb (rX Own.own 1 iR)) (l.map (Zb (rX Own.own 1 iR)).enc) i K=Z6 l i K:=Zmy rfl l i K
@[simp] theorem ZJ6 (v:Path):(⟨v.id,v.kind,v.src,v.dst⟩:Path)=v:=rfl
instance:Lw Zi:=⟨fun _ _ _=>rfl⟩
@[simp] theorem Zs {β:Type} (l:List Path) (K:List Path->Option β):rws Zi (l.map Zi.enc) K=K l:=Qx Zi l K
@[simp] theorem Xn {β:Type} (l:List Path) (n:Int) (K:Path->Option β):Zz Zi (l.map Zi.enc) n K=Z6 l n K:=Zc4 Zi l n K
@[simp] theorem YG (l:List Path):(l.map Zi.enc).length=l.length:=Ut _
@[simp] theorem ZJ7 (l:List Path) (n:Nat):(l.map Zi.enc).take n=(l.take n).map Zi.enc:=List.map_take.symm
@[simp] theorem ZJ8 (l:List Path) (n:Nat):(l.map Zi.enc).drop n=(l.drop n).map Zi.enc:=List.map_drop.symm
@[simp] theorem ZrN (l:List Path):Yk (l.map Zi.enc)=l.map Zi.enc:=ZaE (fun _=>rfl) l
@[simp] theorem ZrO (l:List Path):QL (l.map Zi.enc)=true:=ZaF (fun _=>rfl) l
@[simp] theorem ZrP (l:List Path):(l.map Zi.enc).map clrs=l.map Zi.enc:=MQ (f:=Zi.enc) (g:=clrs) (l:=l)
@[simp] theorem Zy (v:Control):(⟨v.stage,v.since,v.next,v.left⟩:Control)=v:=rfl
theorem ZJ9 {o0 o1 p0 p1:Own} (h0:okO o0 p0=true) (h1:okO o1 p1=true) (v_stage:(List Int)) (v_since:Int) (v_next:(List Int)) (v_left:Int) {β:Type} (K:Control->Option β):(Qv o0 o1).get [.slc p0 1 (v_stage.map iR.enc),I v_since, .slc p1 1 (v_next.map iR.enc),I v_left] K=K (⟨v_stage,v_since,v_next,v_left⟩:Control):=by
 cases o0 <;> cases p0 <;> cases o1 <;> cases p1 <;> first | (exact (Zo _ _).trans (Zo _ _)) | (exact Zhq _ _) | (simp [okO] at h0 h1)
@[simp] theorem ZKa (v:Want):(⟨v.path,v.wait⟩:Want)=v:=rfl
instance:Lw Zd:=⟨fun _ _ _=>rfl⟩
@[simp] theorem ZP {β:Type} (l:List Want) (K:List Want->Option β):rws Zd (l.map Zd.enc) K=K l:=Qx Zd l K
@[simp] theorem ZaI {β:Type} (l:List Want) (n:Int) (K:Want->Option β):Zz Zd (l.map Zd.enc) n K=Z6 l n K:=Zc4 Zd l n K
@[simp] theorem ZKb {β:Type} (l:List Want) (n:Nat) (K:Want->Option β):Ye Zd (l.map Zd.enc) n K=Qw l n K:=Zc3 Zd l n K
@[simp] theorem X7 (l:List Want):(l.map Zd.enc).length=l.length:=Ut _
@[simp] theorem ZrQ (l:List Want) (n:Nat):(l.map Zd.enc).take n=(l.take n).map Zd.enc:=List.map_take.symm
@[simp] theorem ZrR (l:List Want) (n:Nat):(l.map Zd.enc).drop n=(l.drop n).map Zd.enc:=List.map_drop.symm
@[simp] theorem Zmz (l:List Want):Yk (l.map Zd.enc)=l.map Zd.enc:=ZaE (fun _=>rfl) l
@[simp] theorem ZrS (l:List Want):QL (l.map Zd.enc)=true:=ZaF (fun _=>rfl) l
@[simp] theorem ZKc {β:Type} (l:List Want) (i:Nat) (v0:Int) (v1:Int) (K:List Want->Option β):rws Zd ((l.map Zd.enc).set i [I v0,I v1]) K=K (l.set i (⟨v0,v1⟩:Want)):=Zhn Zd l i (⟨v0,v1⟩:Want) K
@[simp] theorem ZBt {β:Type} (v0:Int) (v1:Int) (K:List Want->Option β):rws Zd [[I v0,I v1]] K=K [(⟨v0,v1⟩:Want)]:=rfl
@[simp] theorem Zc6 (l:List Want):(l.map Zd.enc).map clrs=l.map Zd.enc:=MQ (f:=Zd.enc) (g:=clrs) (l:=l)
@[simp] theorem ZKd (v:Prio):(⟨v.path,v.left⟩:Prio)=v:=rfl
instance:Lw ZaC:=⟨fun _ _ _=>rfl⟩
@[simp] theorem ZKe (v:Lamp):(⟨v.path,v.colour,v.broken⟩:Lamp)=v:=rfl
instance:Lw Zu:=⟨fun _ _ _=>rfl⟩
@[simp] theorem Z3 {β:Type} (l:List Lamp) (K:List Lamp->Option β):rws Zu (l.map Zu.enc) K=K l:=Qx Zu l K
@[simp] theorem ZKf {β:Type} (l:List Lamp) (n:Int) (K:Lamp->Option β):Zz Zu (l.map Zu.enc) n K=Z6 l n K:=Zc4 Zu l n K
@[simp] theorem ZKg {β:Type} (l:List Lamp) (n:Nat) (K:Lamp->Option β):Ye Zu (l.map Zu.enc) n K=Qw l n K:=Zc3 Zu l n K
@[simp] theorem ZeB (l:List Lamp):(l.map Zu.enc).length=l.length:=Ut _
@[simp] theorem ZKh (l:List Lamp) (n:Nat):(l.map Zu.enc).take n=(l.take n).map Zu.enc:=List.map_take.symm
@[simp] theorem ZKi (l:List Lamp) (n:Nat):(l.map Zu.enc).drop n=(l.drop n).map Zu.enc:=List.map_drop.symm
@[simp] theorem ZrT (l:List Lamp):Yk (l.map Zu.enc)=l.map Zu.enc:=ZaE (fun _=>rfl) l
@[simp] theorem ZBu (l:List Lamp):Yn (l.map Zu.enc)=l.map Zu.enc:=Zc5 (fun _=>rfl) l
@[simp] theorem ZrU (l:List Lamp):QL (l.map Zu.enc)=true:=ZaF (fun _=>rfl) l
@[simp] theorem ZKj {β:Type} (l:List Lamp) (i:Nat) (v0:Int) (v1:Int) (v2:Bool) (K:List Lamp->Option β):rws Zu ((l.map Zu.enc).set i [I v0,I v1,Bl v2]) K=K (l.set i (⟨v0,v1,v2⟩:Lamp)):=Zhn Zu l i (⟨v0,v1,v2⟩:Lamp) K
@[simp] theorem ZrV (l:List Lamp):(l.map Zu.enc).map clrs=l.map Zu.enc:=MQ (f:=Zu.enc) (g:=clrs) (l:=l)
@[simp] theorem ZrW (v:Note):(⟨v.second,v.lights,v.sig⟩:Note)=v:=rfl
theorem ZrX {o0 p0:Own} (h0:okO o0 p0=true) (v_second:Int) (v_lights:(List Int)) (v_sig:Int) {β:Type} (K:Note->Option β):(Zg o0).get [I v_second, .slc p0 1 (v_lights.map iR.enc),I v_sig] K=K (⟨v_second,v_lights,v_sig⟩:Note):=by
 cases o0 <;> cases p0 <;> first | (exact Zo _ _) | (exact Zhq _ _) | (simp [okO] at h0)
theorem ZrY {o0 p0:Own} (h0:okO o0 p0=true) (v:Note) {β:Type} (K:Note->Option β):(Zg o0).get ((Zg p0).enc v) K=K v:=ZrX h0 v.second v.lights v.sig K
theorem ZeC {o0 p0:Own} (h0:okO o0 p0=true) {β:Type} (l:List Note) (K:List Note->Option β):rws (Zg o0) (l.map (Zg p0).enc) K=K l:=by
 have:=Zho (Zg o0) (Zg p0).enc (fun x:Note=>x) (fun x _ K=>ZrY h0 x K) l K;rw [this];exact UC K (FS l)
theorem ZmA {o0 p0:Own} (h0:okO o0 p0=true) {β:Type} (l:List Note) (i:Int) (K:Note->Option β):Zz (Zg o0) (l.map (Zg p0).enc) i K=Z6 l i K:=Zmt (Zg o0) (Zg p0).enc (fun x:Note=>x) (fun x _ K=>ZrY h0 x K) l i K
theorem ZBv {o0 p0:Own} (h0:okO o0 p0=true) (v_second:Int) (v_lights:(List Int)) (v_sig:Int) {β:Type} (K:List Note->Option β):rws (Zg o0) [[I v_second, .slc p0 1 (v_lights.map iR.enc),I v_sig]] K=K [(⟨v_second,v_lights,v_sig⟩:Note)]:=ZrX h0 _ _ _ (fun y=>K [y])
@[simp] theorem Vf {p0:Own} (l:List Note):(l.map (Zg p0).enc).length=l.length:=Ut _
@[simp] theorem ZrZ {p0:Own} (l:List Note) (n:Nat):(l.map (Zg p0).enc).take n=(l.take n).map (Zg p0).enc:=List.map_take.symm
@[simp] theorem Zr0 (l:List Note):Yk (l.map (Zg Own.own).enc)=l.map (Zg Own.unq).enc:=ZaE (fun x=>by show Q6 [I x.second, .slc Own.own 1 (x.lights.map iR.enc),I x.sig]= [I x.second, .slc Own.unq 1 (x.lights.map iR.enc),I x.sig];simp [Q6,AV.toU]) l
@[simp] theorem Zr1 (l:List Note):QL (l.map (Zg Own.own).enc)=true:=ZaF (fun x=>by show Y6 [I x.second, .slc Own.own 1 (x.lights.map iR.enc),I x.sig]=true;simp [Y6,AV.okU]) l
@[simp] theorem Z0 {β:Type} (l:List Note) (K:List Note->Option β):rws (Zg Own.shr) (l.map (Zg Own.shr).enc) K=K l:=ZeC rfl l K
@[simp] theorem JN {β:Type} (l:List Note) (i:Int) (K:Note->Option β):Zz (Zg Own.shr) (l.map (Zg Own.shr).enc) i K=Z6 l i K:=ZmA rfl l i K
@[simp] theorem Z5 {β:Type} (l:List Note) (K:List Note->Option β):rws (Zg Own.shr) (l.map (Zg Own.own).enc) K=K l:=ZeC rfl l K
@[simp] theorem Ja {β:Type} (l:List Note) (i:Int) (K:Note->Option β):Zz (Zg Own.shr) (l.map (Zg Own.own).enc) i K=Z6 l i K:=ZmA rfl l i K
@[simp] theorem Z1 {β:Type} (l:List Note) (K:List Note->Option β):rws (Zg Own.own) (l.map (Zg Own.own).enc) K=K l:=ZeC rfl l K
@[simp] theorem JO {β:Type} (l:List Note) (i:Int) (K:Note->Option β):Zz (Zg Own.own) (l.map (Zg Own.own).enc) i K=Z6 l i K:=ZmA rfl l i K
@[simp] theorem ZeD {β:Type} (l:List Note) (K:List Note->Option β):rws (Zg Own.unq) (l.map (Zg Own.unq).enc) K=K l:=ZeC rfl l K
@[simp] theorem ZX (v:Town):(⟨v.paths,v.control,v.wants,v.prio,v.lamps,v.power,v.record,v.books,v.now⟩:Town)=v:=rfl
@[simp] theorem ZKk (v:Evt):(⟨v.kind,v.path,v.n,v.on⟩:Evt)=v:=rfl
instance:Lw Zc2:=⟨fun _ _ _=>rfl⟩
@[simp] theorem ZKl {β:Type} (l:List Evt) (K:List Evt->Option β):rws Zc2 (l.map Zc2.enc) K=K l:=Qx Zc2 l K
@[simp] theorem ZKm (v:Report):(⟨v.path,v.second,v.light,v.since,v.other⟩:Report)=v:=rfl
instance:Lw XW:=⟨fun _ _ _=>rfl⟩
@[simp] theorem ZKn {β:Type} (l:List Report) (K:List Report->Option β):rws XW (l.map XW.enc) K=K l:=Qx XW l K
@[simp] theorem ZKo {β:Type} (v0:Int) (v1:Int) (v2:Int) (v3:Int) (v4:Int) (K:List Report->Option β):rws XW [[I v0,I v1,I v2,I v3,I v4]] K=K [(⟨v0,v1,v2,v3,v4⟩:Report)]:=rfl
@[simp] theorem ZKp (v:Part):(⟨v.stage,v.green⟩:Part)=v:=rfl
theorem ZBw {o0 p0:Own} (h0:okO o0 p0=true) (v_stage:(List Int)) (v_green:Int) {β:Type} (K:Part->Option β):(ZJ o0).get [.slc p0 1 (v_stage.map iR.enc),I v_green] K=K (⟨v_stage,v_green⟩:Part):=by
 cases o0 <;> cases p0 <;> first | (exact Zo _ _) | (exact Zhq _ _) | (simp [okO] at h0)
theorem Zr2 {o0 p0:Own} (h0:okO o0 p0=true) (v:Part) {β:Type} (K:Part->Option β):(ZJ o0).get ((ZJ p0).enc v) K=K v:=ZBw h0 v.stage v.green K
theorem ZmB {o0 p0:Own} (h0:okO o0 p0=true) {β:Type} (l:List Part) (K:List Part->Option β):rws (ZJ o0) (l.map (ZJ p0).enc) K=K l:=by
 have:=Zho (ZJ o0) (ZJ p0).enc (fun x:Part=>x) (fun x _ K=>Zr2 h0 x K) l K;rw [this];exact UC K (FS l)
theorem ZmC {o0 p0:Own} (h0:okO o0 p0=true) {β:Type} (l:List Part) (i:Int) (K:Part->Option β):Zz (ZJ o0) (l.map (ZJ p0).enc) i K=Z6 l i K:=Zmt (ZJ o0) (ZJ p0).enc (fun x:Part=>x) (fun x _ K=>Zr2 h0 x K) l i K
@[simp] theorem ZeE {p0:Own} (l:List Part):(l.map (ZJ p0).enc).length=l.length:=Ut _
@[simp] theorem Xh {β:Type} (l:List Part) (K:List Part->Option β):rws (ZJ Own.shr) (l.map (ZJ Own.shr).enc) K=K l:=ZmB rfl l K
@[simp] theorem ZKq {β:Type} (l:List Part) (i:Int) (K:Part->Option β):Zz (ZJ Own.shr) (l.map (ZJ Own.shr).enc) i K=Z6 l i K:=ZmC rfl l i K
@[simp] theorem ZKr {β:Type} (l:List Part) (K:List Part->Option β):rws (ZJ Own.shr) (l.map (ZJ Own.own).enc) K=K l:=ZmB rfl l K
@[simp] theorem ZKs {β:Type} (l:List Part) (i:Int) (K:Part->Option β):Zz (ZJ Own.shr) (l.map (ZJ Own.own).enc) i K=Z6 l i K:=ZmC rfl l i K
@[simp] theorem ZKt {β:Type} (l:List Part) (K:List Part->Option β):rws (ZJ Own.own) (l.map (ZJ Own.own).enc) K=K l:=ZmB rfl l K
@[simp] theorem ZKu {β:Type} (l:List Part) (i:Int) (K:Part->Option β):Zz (ZJ Own.own) (l.map (ZJ Own.own).enc) i K=Z6 l i K:=ZmC rfl l i K
@[simp] theorem ZBx {β:Type} (x:Option β):b2 x=x:=by unfold b2;exact KF x
@[simp] theorem ZBy {β:Type} (x:Option β):b3 x=x:=by unfold b3;rw [ZBx];exact KF x
@[simp] theorem ZBz {β:Type} (x:Option β):b4 x=x:=by unfold b4;rw [ZBy];exact KF x
@[simp] theorem ZBA {β:Type} (x:Option β):b5 x=x:=by unfold b5;rw [ZBz];exact KF x
@[simp] theorem ZBB {β:Type} (x:Option β):b6 x=x:=by unfold b6;rw [ZBA];exact KF x
@[simp] theorem ZBC {β:Type} (x:Option β):b7 x=x:=by unfold b7;rw [ZBB];exact KF x
@[simp] theorem ZKv {β:Type} (x:Option β):b8 x=x:=by unfold b8;rw [ZBC];exact KF x
@[simp] theorem Zt {β:Type} (x:Control) (K:Control->Option β):rC x K=K x:=(Zo x.stage _).trans (Zo x.next _)
@[simp] theorem Zk {β:Type} (x:Town) (K:Town->Option β):rT Own.shr Own.shr x K=K x:=(Zs x.paths _).trans ((Zo x.control.stage _).trans ((Zo x.control.next _).trans ((ZP x.wants _).trans ((Z3 x.lamps _).trans (Z0 x.record _)))))
@[simp] theorem Zp {β:Type} (x:Town) (K:Town->Option β):rT Own.shr Own.own x K=K x:=(Zs x.paths _).trans ((Zo x.control.stage _).trans ((Zo x.control.next _).trans ((ZP x.wants _).trans ((Z3 x.lamps _).trans (Z5 x.record _)))))
@[simp] theorem Zr {β:Type} (x:Town) (K:Town->Option β):rT Own.own Own.own x K=K x:=(Zs x.paths _).trans ((Zo x.control.stage _).trans ((Zo x.control.next _).trans ((ZP x.wants _).trans ((Z3 x.lamps _).trans (Z1 x.record _)))))
@[simp] theorem Zv {β:Type} (x:Town) (K:Town->Option β):rT Own.unq Own.unq x K=K x:=(Zs x.paths _).trans ((Zo x.control.stage _).trans ((Zo x.control.next _).trans ((ZP x.wants _).trans ((Z3 x.lamps _).trans (ZeD x.record _)))))
end Go.Sh
