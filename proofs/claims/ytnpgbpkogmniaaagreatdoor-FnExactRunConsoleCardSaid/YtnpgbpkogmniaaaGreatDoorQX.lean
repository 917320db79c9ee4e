/- Plain facts: what the functions compute. -/
import Derived.Test.YtnpgbpkogmniaaaGreatDoorHpX
import Derived.Lib.ItoaLen
set_option linter.all false
namespace Go.Sh
open Go.Fx
theorem Jd (x a b:Int):Yh x a b=some (decide (a<=x) && decide (x<=b)):=by
 unfold Yh;by_cases h:a<=x <;> simp [h,ZG]
theorem KK (x a b:Int):Yt x a b=some (decide (a<=x) && decide (x<=b)):=by
 unfold Yt;by_cases h:a<=x <;> simp [h,ZG]
theorem ZBY (r s:Report):∃v,Ze3 r s=some v/\Zi5 r s=some v:=by
 unfold Ze3 Zi5;simp only [Jd,KK,Zc];by_cases h0:r.second=s.second
 ·cases h1:(decide (0<=r.light) && decide (r.light<=2)) with
  |false=>exact ⟨_,by simp [h0,ZG];rfl,by simp [h0,ZG]⟩
  |true=>
   cases h2:(decide (0<=s.light) && decide (s.light<=2)) with
   |false=>exact ⟨_,by simp [h0,ZG];rfl,by simp [h0,ZG]⟩
   |true=>by_cases h3:r.light=0 <;> by_cases h4:s.light=0 <;> exact ⟨_,by simp [h0,h3,h4,ZG];rfl,by simp [h0,h3,h4,ZG]⟩
 ·exact ⟨_,by simp [h0,ZG];rfl,by simp [h0,ZG]⟩
theorem Zq {n:Nat} (h:n<=9223372036854775806):W ((n:Int) + 1)=(n:Int) + 1:=ZB (by omega) (by omega)
def inR (n a b:Int):Bool:=decide (a<=n) && decide (n<=b)
def Z8 (p:Path):Bool:=inR p.id 1 20 && inR p.kind 1 3 && inR p.src 0 3 && inR p.dst 0 3 && ((p.src==p.dst)==(p.kind==2))
theorem Zfs (p:Path):KH p=some (Z8 p):=by
 unfold KH Z8 inR;simp only [Jd,Zc];cases (decide (1<=p.id) && decide (p.id<=20)) <;> cases (decide (1<=p.kind) && decide (p.kind<=3)) <;> cases (decide (0<=p.src) && decide (p.src<=3)) <;> cases (decide (0<=p.dst) && decide (p.dst<=3)) <;> simp
theorem Zjg (p:Path):ZaS p=some (Z8 p):=by
 unfold ZaS Z8 inR;simp only [KK,Zc];cases (decide (1<=p.id) && decide (p.id<=20)) <;> cases (decide (1<=p.kind) && decide (p.kind<=3)) <;> cases (decide (0<=p.src) && decide (p.src<=3)) <;> cases (decide (0<=p.dst) && decide (p.dst<=3)) <;> simp
def goP:Option Int->List Path->Bool
 | _,[]=>true
 |none,p::r=>Z8 p && goP (some p.id) r
 |some i,p::r=>Z8 p && decide (i < p.id) && goP (some p.id) r
def ZK (l:List Path):Bool:=decide (l.length<=12) && goP none l
def X9 (l:List Path) (k:Nat):Option Int:=if k=0 then none else (l[k - 1]?).map (·.id)
theorem Zsf {l:List Path} {k:Nat} {x:Path} (h:l[k]? =some x):X9 l (k + 1)=some x.id:=by
 unfold X9;simp [h]
theorem Je (l:List Path) (h:Sm l):QP l=some (ZK l):=by
 unfold Sm at h;unfold QP;simp;refine (Yd l (by omega) (fun k (_:Unit)=>(l,(k:Int))) () (fun s k _=>some (goP (X9 l k) s && decide (l.length<=12))) rfl ?_ ?_).trans ?_
 ·intro rec _;simp [goP];omega
 ·intro rec k x _ hx hk hr;have hr':=hr ();simp [hk,Zh hx,Zfs,Zq (show k<=9223372036854775806 by omega)] at hr' ⊢;cases hp:Z8 x with
  |false=>cases hq:X9 l k <;> simp [goP,hp]
  |true=>
   simp;by_cases h0:k=0
   ·subst h0;simp [X9,hx] at hr';simp [hr',X9,goP,hp,hx]
   ·have hz:l[k - 1]? =some l[k - 1]:=Ua (by omega);have hk1:W ((k:Int) - 1)=((k - 1:Nat):Int):=by rw [ZB (by omega) (by omega)];omega
    simp [show 0 < k by omega,hk1,Zh hz,hr',Zsf hx];rw [show X9 l k=some (l[k - 1]).id by unfold X9;simp [h0,hz]];simp [goP,hp,ZG];by_cases h1:x.id<=(l[k - 1]).id
    ·simp [h1,show ¬((l[k - 1]).id < x.id) by omega]
    ·simp [h1,show (l[k - 1]).id < x.id by omega]
 ·simp [X9,ZK,Bool.and_comm]
theorem JZ (l:List Path) (h:Sm l):Vh l=some (ZK l):=by
 unfold Sm at h;unfold Vh;simp;by_cases h12:(12:Int) < (l.length:Int)
 ·simp [h12,ZK,show ¬(l.length<=12) by omega]
 simp [h12];refine (Yd l (by omega) (fun k (_:Unit)=>(l,l,(l.length:Int),(k:Int))) () (fun s k _=>some (goP (X9 l k) s)) rfl ?_ ?_).trans ?_
 ·intro rec _;simp [goP]
 ·intro rec k x _ hx hk hr;have hr':=hr ();simp [hk,Zh hx,Zjg,Zq (show k<=9223372036854775806 by omega)] at hr' ⊢;cases hp:Z8 x with
  |false=>cases hq:X9 l k <;> simp [goP,hp]
  |true=>
   simp;by_cases h0:k=0
   ·subst h0;simp [X9,hx] at hr';simp [hr',X9,goP,hp,hx]
   ·have hz:l[k - 1]? =some l[k - 1]:=Ua (by omega);have hk1:W ((k:Int) - 1)=((k - 1:Nat):Int):=by rw [ZB (by omega) (by omega)];omega
    simp [show 0 < k by omega,hk1,Zh hz,hr',Zsf hx];rw [show X9 l k=some (l[k - 1]).id by unfold X9;simp [h0,hz]];simp [goP,hp,ZG];by_cases h1:x.id<=(l[k - 1]).id
    ·simp [h1,show ¬((l[k - 1]).id < x.id) by omega]
    ·simp [h1,show (l[k - 1]).id < x.id by omega]
 ·simp [X9,ZK,show l.length<=12 by omega]
def YY (p:Path):Int:=if Z8 p then (if p.kind=1 then 2 else if p.kind=2 then 5 else 3) else 0
theorem ZaW {p:Path} (h:Z8 p=true):p.kind=1\/p.kind=2\/p.kind=3:=by
 simp [Z8,inR] at h;omega
theorem Zm2 (p:Path):ZbT p=some (YY p):=by
 unfold ZbT YY;rw [Zfs,Zc];cases h:Z8 p with
 |false=>rfl
 |true=>rcases ZaW h with e |e |e <;> rw [e] <;> rfl
theorem Zm3 (p:Path):Zdk p=some (YY p):=by
 unfold Zdk YY;rw [Zjg,Zc];cases h:Z8 p with
 |false=>rfl
 |true=>rcases ZaW h with e |e |e <;> rw [e] <;> rfl
def Zft (l:List Path):Int:=if ZK l then l.foldl (fun n p=>if n < YY p then YY p else n) 0 else 0
theorem Zm4 (a b:Int):ZbU a b=some (if a < b then b else a):=by
 unfold ZbU;rw [ZG];split <;> simp_all <;> omega
theorem ZBZ (l:List Path) (h:Sm l):Zh6 l=some (Zft l):=by
 have h':=h;unfold Sm at h;unfold Zh6 Zft;simp;refine (Yd l (by omega) (fun k n=>(l,n,(k:Int))) 0 (fun s _ n=>some (if ZK l then s.foldl (fun n p=>if n < YY p then YY p else n) n else n)) rfl ?_ ?_).trans rfl
 ·intro rec n;simp
 ·intro rec k x n hx hk hr;simp only [Up] at hr;simp [hk,Zh hx,Je l h',Zm2,Zm4,Zq (show k<=9223372036854775806 by omega),hr];cases ZK l <;> simp
theorem ZB0 (l:List Path) (h:Sm l):Zi9 l=some (Zft l):=by
 have h':=h;unfold Sm at h;unfold Zi9 Zft;simp [JZ l h'];cases ZK l with
 |false=>rfl
 |true=>
  simp;refine (Yd l (by omega) (fun k n=>(n,l,(l.length:Int),(k:Int))) 0 (fun s _ n=>some (s.foldl (fun n p=>if n < YY p then YY p else n) n)) rfl ?_ ?_).trans rfl
  ·intro rec n;simp
  ·intro rec k x n hx hk hr;simp only [Up] at hr;simp [hk,Zh hx,Zm3,Zq (show k<=9223372036854775806 by omega),hr]
def Vj (l:List Path):Int:=W (W ((l.length:Int) + 1) * W (W (W (60 + Zft l) + 20) + 1))
theorem ZB1 (l:List Path) (h:Sm l):Zh7 l=some (Vj l):=by
 unfold Zh7 Vj;simp [ZBZ l h]
theorem ZB2 (l:List Path) (h:Sm l):Zja l=some (Vj l):=by
 unfold Zja Vj;simp [ZB0 l h]
theorem Zsg {a m:Int} (h:0<=a):Int.tmod a m=a % m:=Int.tmod_eq_emod_of_nonneg h
theorem ZB3 {x a b:Int} (h:a<=x) (h':x<=b):Yh x a b=some true:=by rw [Jd];simp [h,h']
theorem ZB4 {x a b:Int} (h:a<=x) (h':x<=b):Yt x a b=some true:=by rw [KK];simp [h,h']
theorem Zsh (n:Int) {m:Int} (h:0 < m):(0<=Int.tmod n m/\Int.tmod n m < m/\Int.tmod n m=n % m)\/(Int.tmod n m < 0/\ -m < Int.tmod n m/\Int.tmod n m + m=n % m):=by
 have h1:=Int.tmod_lt_of_pos n h;have h2:=Int.lt_tmod_of_pos n h;have h3:n=m * Int.tdiv n m + Int.tmod n m:=by have:=Int.mul_tdiv_add_tmod n m;omega
 have h4:n % m=Int.tmod n m % m:=by
  conv=>lhs;rw [h3]
  rw [Int.add_comm,Int.add_mul_emod_self_left]
 rcases (by omega:Int.tmod n m < 0\/0<=Int.tmod n m) with hn |hp
 ·right;refine ⟨hn,h2,?_⟩;rw [h4,←Int.add_emod_right,Int.emod_eq_of_lt (by omega) (by omega)]
 ·left;exact ⟨hp,h1,by rw [h4,Int.emod_eq_of_lt hp h1]⟩
theorem ZB5 (n m:Int) (h:1<=m) (h':m<=1000000000000):Zhw n m=some (n % m):=by
 unfold Zhw;rw [ZB3 h h',Zc];rw [show (!true)=false from rfl,Zf,Zl (by omega),Zl (by omega)];rcases Zsh n (show 0 < m by omega) with ⟨a,b,c⟩ | ⟨a,b,c⟩
 ·rw [ZB (by omega) (by omega),Zsg (by omega),c,Int.add_emod_right,Int.emod_emod_of_dvd _ (Int.dvd_refl m)]
 ·rw [ZB (by omega) (by omega),Zsg (by omega),c,Int.emod_emod_of_dvd _ (Int.dvd_refl m)]
theorem ZB6 (n m:Int) (h:1<=m) (h':m<=1000000000000):Zis n m=some (n % m):=by
 unfold Zis;rw [ZB4 h h',Zc];rw [show (!true)=false from rfl,Zf,Zl (by omega),ZG];rcases Zsh n (show 0 < m by omega) with ⟨a,b,c⟩ | ⟨a,b,c⟩
 ·rw [Uf (by simp;omega),c]
 ·rw [Uh (by simp;omega),ZB (by omega) (by omega),c]
def mix (a v:Int):Int:=Int.tmod (W (W (W (a * 1000003) + v % 2147483647) + 13)) 2147483647
def Zfu (l:List Int):Int:=l.foldl mix 11
theorem ZB7 (a v:Int):Zit a v=some (mix a v):=by
 unfold Zit mix;rw [ZB6 _ _ (by decide) (by decide)];rfl
theorem ZB8 (l:List Int) (h:l.length<=2097152):Zhx l=some (Zfu l):=by
 unfold Zhx Zfu;simp;refine (Yd l (by omega) (fun k n=>(l,n,(k:Int))) 11 (fun s _ n=>some (s.foldl mix n)) rfl ?_ ?_).trans rfl
 ·intro rec n;simp
 ·intro rec k x n hx hk hr;simp only [Up] at hr;simp [hk,Zh hx,ZB5 _ 2147483647,Zq (show k<=9223372036854775806 by omega)];exact hr _
theorem ZB9 (l:List Int) (h:l.length<=2097152):Ziu l=some (Zfu l):=by
 unfold Ziu Zfu;simp;refine (Yd l (by omega) (fun k n=>(n,l,(l.length:Int),(k:Int))) 11 (fun s _ n=>some (s.foldl mix n)) rfl ?_ ?_).trans rfl
 ·intro rec n;simp
 ·intro rec k x n hx hk hr;simp only [Up] at hr;simp [hk,Zh hx,ZB7,Zq (show k<=9223372036854775806 by omega)];exact hr _
def XD (b s:Int) (l:List Int):Int:=Zfu (b::s::l)
theorem Zsi (b s:Int) (l:List Int) (h:Sm l):ZeL b s l=some (XD b s l):=by
 unfold Sm at h;unfold ZeL XD;simp;rw [Zl (by omega),ZB8 _ (by simp;omega)];rfl
theorem Zsj (b s:Int) (l:List Int) (h:Sm l):Zdl b s l=some (XD b s l):=by
 unfold Sm at h;unfold Zdl XD;simp;rw [Zl (by omega),ZB9 _ (by simp;omega)];rfl
theorem J1 (x a b:Int):Yh x a b=some (inR x a b):=Jd x a b
theorem ZaX (x a b:Int):Yt x a b=some (inR x a b):=KK x a b
theorem Xq {α V β:Type} (l:List α) (p:α->Bool) (hl:l.length<=1099511627776) (st:Nat->V) (K no:Option β) {F:(V->Option β)->V->Option β} {v:V} (hv:v=st 0)
  (h0:∀rec,F rec (st l.length)=K)
  (h1:∀rec k x,l[k]? =some x->k < l.length->F rec (st k)=if p x=true then rec (st (k + 1)) else no):Ze F NN v=if l.all p=true then K else no:=by
 refine (Yd l (by omega) (fun k (_:Unit)=>st k) () (fun s _ _=>if s.all p=true then K else no) hv ?_ ?_).trans rfl
 ·intro rec _;rw [h0];simp
 ·intro rec k x _ hx hk hr;rw [h1 rec k x hx hk,MA];cases p x with
  |true=>simpa using hr ()
  |false=>simp
theorem Zfv {α β:Type} {l:List α} {x:α} (h:l[0]? =some x) (K:α->Option β):Z6 l 0 K=K x:=Zh h K
def Zjh (b:Int) (n:Nat) (x:Note):Bool:=inR x.second 0 1000000 && decide (x.lights.length<=12) && decide (x.lights.length=n) && decide (x.sig=XD b x.second x.lights) && x.lights.all (fun v=>inR v 0 2)
def later (pv:Option Int) (s:Int):Bool:=match pv with |none=>true |some p=>decide (p < s)
def goR (n:Nat):Int->Option Int->List Note->Bool
 | _,_,[]=>true
 |b,pv,x::r=>Zjh b n x && later pv x.second && goR n x.sig (some x.second) r
def KL (l:List Note):Nat:=match l with | []=>0 |x::_=>x.lights.length
def YC (l:List Note):Bool:=decide (l.length<=60) && goR (KL l) 0 none l
def J3 (l:List Note) (k:Nat):Option Int:=if k=0 then none else (l[k - 1]?).map (·.second)
theorem Zsk {l:List Note} {k:Nat} {x:Note} (h:l[k]? =some x):J3 l (k + 1)=some x.second:=by
 unfold J3;simp [h]
theorem Zfw {l:List Note} {x:Note} (h:l[0]? =some x):KL l=x.lights.length:=by
 cases l with
 |nil=>simp at h
 |cons y t=>simp at h;rw [KL,h]
theorem Yb {α:Type} {l:List α} {k:Nat} {x:α} (h:l[k]? =some x):x∈l:=Um h
theorem Zfx (l:List Note) (h:Sm l/\∀y∈l,XC y):ZaO l=some (YC l):=by
 obtain ⟨h,hs⟩:=h;unfold Sm at h;unfold ZaO;simp;refine (Yd l (by omega) (fun k b=>(l,b,(k:Int))) 0 (fun s k b=>some (decide (l.length<=60) && goR (KL l) b (J3 l k) s)) rfl ?_ ?_).trans rfl
 ·intro rec b;simp [goR];omega
 ·intro rec k x b hx hk hr;simp only [Up,Zsk hx] at hr;have hsx:Sm x.lights:=hs x (Yb hx);have hz:l[0]? =some l[0]:=Ua (by omega);by_cases h60:(l.length:Int)<=60
  ·have h60':l.length<=60:=by omega
   simp [hk,h60,h60',Zh hx,Zsi b x.second x.lights hsx,J1,Zfv hz,goR,Zjh,later,Zfw hz];cases inR x.second 0 1000000 with
   |false=>simp
   |true=>
   simp;generalize hI:Ze (_:(List Note×Int×Int×Int->Option Bool)->_->Option Bool) NN (l,XD b x.second x.lights,(k:Int),(0:Int))=I;have hI':I=if x.lights.all (fun v=>inR v 0 2)=true then some (goR l[0].lights.length (XD b x.second x.lights) (some x.second) (l.drop (k + 1))) else some false:=by
    rw [←hI];refine Xq x.lights (fun v=>inR v 0 2) (by unfold Sm at hsx;omega) (fun j=>(l,XD b x.second x.lights,(k:Int),(j:Int))) _ _ rfl ?_ ?_
    ·intro rec';simp [Zh hx,Zq (show k<=9223372036854775806 by omega),hr,h60',Zfw hz]
    ·intro rec' j v hv hj;have hj2:j<=9223372036854775806:=by unfold Sm at hsx;omega
     simp [Zh hx,Zh hv,hj,J1,Zq hj2];cases inR v 0 2 <;> simp
   rw [hI'];clear hI' hI;generalize x.lights.all (fun v=>inR v 0 2)=A;by_cases c1:(12:Int) < (x.lights.length:Int)
   ·simp [c1,show ¬x.lights.length<=12 by omega]
   simp only [c1,U3,Zf,show x.lights.length<=12 by omega,Mo,UV];by_cases c2:x.lights.length=l[0].lights.length
   ·simp only [c2,MO,Zf,Mo,UV];by_cases c3:x.sig=XD b x.second x.lights
    ·simp only [←c3,MO,Zf,Mo,UV];by_cases h0:k=0
     ·subst h0;simp [J3];cases A <;> simp
     ·have hz1:l[k - 1]? =some l[k - 1]:=Ua (by omega);have hk1:W ((k:Int) - 1)=((k - 1:Nat):Int):=by rw [ZB (by omega) (by omega)];omega
      simp [show 0 < k by omega,hk1,Zh hz1];rw [show J3 l k=some (l[k - 1]).second by unfold J3;simp [h0,hz1]];by_cases c4:x.second<=l[k - 1].second
      ·simp [c4,show ¬l[k - 1].second < x.second by omega]
      ·simp [c4,show l[k - 1].second < x.second by omega];cases A <;> simp
    ·rw [show (x.sig != XD b x.second x.lights)=true by simpa using c3,Zn];simp [c3]
   ·rw [show ((x.lights.length:Int) != (l[0].lights.length:Int))=true by simp;omega,Zn];simp [c2]
  ·have h60':¬l.length<=60:=by omega
   simp [hk,h60,h60']
theorem Zfy (l:List Note) (h:Sm l/\∀y∈l,XC y):ZaT l=some (YC l):=by
 obtain ⟨h,hs⟩:=h;unfold Sm at h;unfold ZaT YC;by_cases h60:(60:Int) < (l.length:Int)
 ·have h60':¬l.length<=60:=by omega
  simp [h60,h60']
 have h60':l.length<=60:=by omega
 simp [h60,h60'];refine (Yd l (by omega) (fun k b=>(l,b,l,(l.length:Int),(k:Int))) 0 (fun s k b=>some (goR (KL l) b (J3 l k) s)) rfl ?_ ?_).trans rfl
 ·intro rec b;simp [goR]
 ·intro rec k x b hx hk hr;simp only [Up,Zsk hx] at hr;have hsx:Sm x.lights:=hs x (Yb hx);have hz:l[0]? =some l[0]:=Ua (by omega);simp [hk,Zh hx,Zsj b x.second x.lights hsx,ZaX,Zfv hz,goR,Zjh,later,Zfw hz];cases inR x.second 0 1000000 with
  |false=>simp
  |true=>
  simp;generalize hI:Ze (_:((List Note×List Note×Int×Int×List Int×Int×Int)×Note->Option Bool)->_->Option Bool) NN ((l,l,(l.length:Int),(k:Int),x.lights,(x.lights.length:Int),(0:Int)),x)=I;have hI':I=if x.lights.all (fun v=>inR v 0 2)=true then some (goR l[0].lights.length x.sig (some x.second) (l.drop (k + 1))) else some false:=by
   rw [←hI];refine Xq x.lights (fun v=>inR v 0 2) (by unfold Sm at hsx;omega) (fun j=>((l,l,(l.length:Int),(k:Int),x.lights,(x.lights.length:Int),(j:Int)),x)) _ _ rfl ?_ ?_
   ·intro rec';simp [Zq (show k<=9223372036854775806 by omega),hr,Zfw hz]
   ·intro rec' j v hv hj;have hj2:j<=9223372036854775806:=by unfold Sm at hsx;omega
    simp [Zh hv,hj,ZaX,Zq hj2];cases inR v 0 2 <;> simp
  rw [hI'];clear hI' hI;generalize x.lights.all (fun v=>inR v 0 2)=A;generalize hB:cnd (decide ((12:Int) < (x.lights.length:Int))) (some false) _=B;have hB':B=some ((decide (x.lights.length<=12) && decide (x.lights.length=l[0].lights.length) && decide (x.sig=XD b x.second x.lights) && A) && goR l[0].lights.length x.sig (some x.second) (l.drop (k + 1))):=by
   rw [←hB];by_cases c1:(12:Int) < (x.lights.length:Int)
   ·simp [c1,show ¬x.lights.length<=12 by omega]
   simp only [c1,U3,Zf,show x.lights.length<=12 by omega,Mo,UV];by_cases c2:x.lights.length=l[0].lights.length
   ·simp only [c2,MO,Zf,Mo,UV];by_cases c3:x.sig=XD b x.second x.lights
    ·simp only [←c3,MO,Zf,Mo,UV];cases A <;> simp
    ·rw [show (x.sig != XD b x.second x.lights)=true by simpa using c3,Zn];simp [c3]
   ·rw [show ((x.lights.length:Int) != (l[0].lights.length:Int))=true by simp;omega,Zn];simp [c2]
  rw [hB'];by_cases h0:k=0
  ·subst h0;simp [J3]
  ·have hz1:l[k - 1]? =some l[k - 1]:=Ua (by omega);have hk1:W ((k:Int) - 1)=((k - 1:Nat):Int):=by rw [ZB (by omega) (by omega)];omega
   simp [show 0 < k by omega,hk1,Zh hz1];rw [show J3 l k=some (l[k - 1]).second by unfold J3;simp [h0,hz1]];by_cases c4:x.second<=l[k - 1].second
   ·simp [c4,show ¬l[k - 1].second < x.second by omega]
   ·simp [c4,show l[k - 1].second < x.second by omega]
theorem Zsl {n:Nat}:∀{l:List Note} {b:Int} {pv:Option Int},goR n b pv l=true->∀x∈l,x.lights.length=n/\0<=x.second/\x.second<=1000000/\∀v∈x.lights,0<=v
 | [],_,_,_=>fun x hx=>by cases hx
 |y::l,b,pv,h=>fun x hx=>by
  simp [goR,Zjh,inR] at h;rcases List.mem_cons.1 hx with rfl |hx
  ·exact ⟨h.1.1.1.1.2,by omega,by omega,fun v hv=>(h.1.1.2 v hv).1⟩
  ·exact Zsl h.2 x hx
theorem Zfz {l:List Note} (h:YC l=true):∀x∈l,x.lights.length=KL l/\0<=x.second/\x.second<=1000000/\∀v∈x.lights,0<=v:=by
 simp [YC] at h;exact Zsl h.2
theorem Zcd (a b:Int):VM a b=some (if b < a then b else a):=by
 unfold VM;rw [ZG];simp only [UG];split <;> rfl
def Qa (e:Note) (i:Int):Int:=if 0<=i then (match e.lights[i.toNat]? with |some v=>v |none=> -1) else -1
theorem Zsm (e:Note) (i:Int):Zdv e i=some (Qa e i):=by
 unfold Zdv Qa;simp;by_cases h:i < 0
 ·simp [h,show ¬0<=i by omega]
 obtain ⟨m,rfl⟩:∃m:Nat,i=(m:Int):=⟨i.toNat,by omega⟩
 by_cases h2:m < e.lights.length
 ·have hv:e.lights[m]? =some e.lights[m]:=Ua h2;simp [h2,Zh hv,hv,h,ZG];omega
 ·simp [show e.lights.length<=m by omega,ZG]
@[simp] theorem ZKw {α:Type} (x:Option α):bnd x (fun r=>some r)=x:=by cases x <;> rfl
theorem ZfA {α γ β V:Type} (l:List α) (f:α->γ) (hl:l.length<=1099511627776) (st:Nat->List γ->V) (K:List γ->Option β) {F:(V->Option β)->V->Option β} {v:V} (hv:v=st 0 [])
  (h0:∀rec acc,acc.length=l.length->F rec (st l.length acc)=K acc)
  (h1:∀rec k x acc,l[k]? =some x->k < l.length->acc.length=k->F rec (st k acc)=rec (st (k + 1) (acc ++ [f x]))):Ze F NN v=K (l.map f):=by
 refine (Yf l (by omega) st [] (fun k acc=>acc.length=k) rfl (fun s _ acc=>K (acc ++ s.map f)) hv ?_ ?_).trans (by simp)
 ·intro rec acc h;rw [h0 rec acc h];simp
 ·intro rec k x acc h hx hk hr;rw [h1 rec k x acc hx hk h,hr _ (by simp [h])];simp
theorem Zji {α γ β V:Type} (l:List α) (f:α->Option γ) (hl:l.length<=1099511627776) (st:Nat->List γ->V) (K:List γ->Option β) {F:(V->Option β)->V->Option β} {v:V} (hv:v=st 0 [])
  (h0:∀rec acc,acc.length<=l.length->F rec (st l.length acc)=K acc)
  (h1:∀rec k x acc,l[k]? =some x->k < l.length->acc.length<=k->F rec (st k acc)=rec (st (k + 1) (match f x with |some y=>acc ++ [y] |none=>acc))):Ze F NN v=K (l.filterMap f):=by
 refine (Yf l (by omega) st [] (fun k acc=>acc.length<=k) (Ur _) (fun s _ acc=>K (acc ++ s.filterMap f)) hv ?_ ?_).trans (by simp)
 ·intro rec acc h;rw [h0 rec acc h];simp
 ·intro rec k x acc h hx hk hr;rw [h1 rec k x acc hx hk h];cases hf:f x with
  |none=>rw [hr _ (by simp;omega)];simp [hf]
  |some y=>rw [hr _ (by simp;omega)];simp [hf]
theorem Zsn {β:Type} (x:Option β):ifA (true=true) x=x:=rfl
def ZfB (t:Town):Bool:=t.wants.all fun x=>decide (x.wait<=Vj t.paths)
theorem ZCa (t:Town) (h:Zw t):Zh8 t=some (ZfB t):=by
 obtain ⟨h0,h1,h2,h3,h4⟩:=h;unfold Sm at h2;unfold Zh8 ZfB;simp;refine (Xq t.wants (fun x=>decide (x.wait<=Vj t.paths)) (by omega) (fun k=>((k:Int),t)) (some true) (some false) rfl ?_ ?_).trans (by cases t.wants.all _ <;> rfl)
 ·intro rec;simp
 ·intro rec k x hx hk;simp [hk,Zh hx,ZB1 t.paths h0,Zq (show k<=9223372036854775806 by omega),ZG];by_cases c:Vj t.paths < x.wait
  ·simp [c,show ¬x.wait<=Vj t.paths by omega]
  ·simp [c,show x.wait<=Vj t.paths by omega]
theorem ZCb (t:Town) (h:Zw t):Zjb t=some (ZfB t):=by
 obtain ⟨h0,h1,h2,h3,h4⟩:=h;unfold Sm at h2;unfold Zjb ZfB;simp;refine (Xq t.wants (fun x=>decide (x.wait<=Vj t.paths)) (by omega) (fun k=>((t.wants,(t.wants.length:Int),(k:Int)),t)) (some true) (some false) rfl ?_ ?_).trans (by cases t.wants.all _ <;> rfl)
 ·intro rec;simp
 ·intro rec k x hx hk;simp [hk,Zh hx,ZB2 t.paths h0,Zq (show k<=9223372036854775806 by omega),ZG];by_cases c:Vj t.paths < x.wait
  ·simp [c,show ¬x.wait<=Vj t.paths by omega]
  ·simp [c,show x.wait<=Vj t.paths by omega]
theorem Zso {α V β:Type} [DecidableEq α] (a b:List α) (hl:a.length=b.length) (h:a.length<=1099511627776) (st:Nat->V) (K no:Option β) {F:(V->Option β)->V->Option β} {v:V} (hv:v=st 0)
  (h0:∀rec,F rec (st a.length)=K) (h1:∀rec k x y,a[k]? =some x->b[k]? =some y->k < a.length->F rec (st k)=if x=y then rec (st (k + 1)) else no):
  Ze F NN v=if a=b then K else no:=by
 refine (Yd a (by omega) (fun k (_:Unit)=>st k) () (fun l k _=>if l=b.drop k then K else no) hv ?_ ?_).trans (by simp)
 ·intro rec _;rw [h0,hl,M5];simp
 ·intro rec k x _ hx hk hr;have hkb:k < b.length:=by omega
  have hy:b[k]? =some b[k]:=Ua hkb;rw [h1 rec k x _ hx hy hk,hr (),UH hkb];by_cases e:x=b[k]
  ·rw [Uh e];simp only [FN,e,FT]
  ·rw [Uf e,Uf fun h=>e (List.cons.inj h).1]
theorem Zsp {α:Type} {a b:List α} (h:a.length=b.length):(((a.length:Nat):Int) != ((b.length:Nat):Int))=false:=by simp [h]
theorem Zsq {α:Type} {a b:List α} (h:¬a.length=b.length):(((a.length:Nat):Int) != ((b.length:Nat):Int))=true:=by simp;omega
theorem Zsr {α:Type} {a b:List α} (h:¬a.length=b.length):¬a=b:=fun e=>h (by rw [e])
theorem Zm5 (a b:List Int) (h:Sm a):Zdd a b=some (decide (a=b)):=by
 unfold Sm at h;unfold Zdd;simp only [Zt,Zk,Zp,Zr,Zv,ZZ,Zo,Yw];by_cases hl:a.length=b.length
 ·rw [Zsp hl,Zf];refine (Zso a b hl (by omega) (fun k=>(a,b,(k:Int))) (some true) (some false) rfl ?_ ?_).trans (by split <;> simp_all)
  ·intro rec;simp
  ·intro rec k x y hx hy hk;simp [hk,Zh hx,Zh hy,Zq (show k<=9223372036854775806 by omega),ZG]
 ·rw [Zsq hl,Zn];simp [Zsr hl]
theorem Zm6 (a b:List Int) (h:Sm a):Zdq a b=some (decide (a=b)):=by
 unfold Sm at h;unfold Zdq;simp only [Zt,Zk,Zp,Zr,Zv,ZZ,Zo,Yw];by_cases hl:a.length=b.length
 ·rw [Zsp hl,Zf];refine (Zso a b hl (by omega) (fun k=>(a,b,(a.length:Int),(k:Int))) (some true) (some false) rfl ?_ ?_).trans (by split <;> simp_all)
  ·intro rec;simp
  ·intro rec k x y hx hy hk;simp [hk,Zh hx,Zh hy,Zq (show k<=9223372036854775806 by omega),ZG]
 ·rw [Zsq hl,Zn];simp [Zsr hl]
theorem Zjj:∃n,NN=n + 64:=⟨NN - 64,by rw [Zlc]⟩
def ZaY (a b c d:Int):Bool:=if a=b\/a=c\/a=d\/b=c\/b=d\/c=d then false else (decide (Int.tmod (c - a + 8) 8 < Int.tmod (b - a + 8) 8) != decide (Int.tmod (d - a + 8) 8 < Int.tmod (b - a + 8) 8))
theorem ZCc {a b c d:Int} (ha:0<=a/\a<=7) (hb:0<=b/\b<=7) (hc:0<=c/\c<=7) (hd:0<=d/\d<=7):Zb2 a b c d=some (ZaY a b c d):=by
 unfold Zb2 ZaY;obtain ⟨n,hn⟩:=Zjj;rw [hn];have e:∀K:List Int->Option Bool,rws iR [[I a],[I b],[I c],[I d]] K=K [a,b,c,d]:=fun _=>rfl
 have w1:W (c - a)=c - a:=ZB (by omega) (by omega);have w2:W (b - a)=b - a:=ZB (by omega) (by omega);have w3:W (d - a)=d - a:=ZB (by omega) (by omega);have w4:W (c - a + 8)=c - a + 8:=ZB (by omega) (by omega);have w5:W (b - a + 8)=b - a + 8:=ZB (by omega) (by omega);have w6:W (d - a + 8)=d - a + 8:=ZB (by omega) (by omega);simp only [Zt,Zk,Zp,Zr,Zv,e,Yw,ZZ,Zo];simp [Ze,KK,Z6,ZB,ha,hb,hc,hd,w1,w2,w3,w4,w5,w6,ZG]
 grind
def arm (n:Int):Prop:=n=0\/n=1\/n=2\/n=3
set_option maxRecDepth 100000 in
theorem ZCd {a b c d:Int} (ha:arm a) (hb:arm b) (hc:arm c) (hd:arm d):ZeI (2 * a) (2 * b + 1) (2 * c) (2 * d + 1)=some (ZaY (2 * a) (2 * b + 1) (2 * c) (2 * d + 1)):=by
 unfold ZeI;obtain ⟨n,hn⟩:=Zjj;rw [hn];rcases ha with rfl |rfl |rfl |rfl <;> rcases hb with rfl |rfl |rfl |rfl <;> rcases hc with rfl |rfl |rfl |rfl <;> rcases hd with rfl |rfl |rfl |rfl <;> rfl
def Z2 (a b:Path):Bool:=
 if Z8 a=false\/Z8 b=false then false
 else if a.kind=2/\b.kind=2 then false
 else if a.kind=2 then b.src==a.src || b.dst==a.src
 else if b.kind=2 then a.src==b.src || a.dst==b.src
 else if a.src=b.src then false
 else if a.dst=b.dst then true
 else ZaY (2 * a.src) (2 * a.dst + 1) (2 * b.src) (2 * b.dst + 1)
theorem ZaZ {p:Path} (h:Z8 p=true):arm p.src:=by
 simp [Z8,inR] at h;unfold arm;omega
theorem Za0 {p:Path} (h:Z8 p=true):arm p.dst:=by
 simp [Z8,inR] at h;unfold arm;omega
theorem Zjk {n:Int} (h:arm n):0<=n/\n<=3:=by unfold arm at h;omega
theorem Zss {n:Int} (h:arm n):Zc8 n=some (2 * n):=by rcases h with rfl |rfl |rfl |rfl <;> rfl
theorem Zst {n:Int} (h:arm n):Zc9 n=some (2 * n + 1):=by rcases h with rfl |rfl |rfl |rfl <;> rfl
theorem Zsu {n:Int} (h:arm n):JV n=some (2 * n):=by rcases h with rfl |rfl |rfl |rfl <;> rfl
theorem Zsv {n:Int} (h:arm n):JW n=some (2 * n + 1):=by rcases h with rfl |rfl |rfl |rfl <;> rfl
theorem ZfC (a b:Path):KI a b=some (Z2 a b):=by
 unfold KI Z2;simp only [Zfs,Zc];cases ha:Z8 a with
 |false=>simp
 |true=>
 cases hb:Z8 b with
 |false=>simp
 |true=>
 simp [Zss (ZaZ ha),Zst (Za0 ha),Zss (ZaZ hb),Zst (Za0 hb),ZCd (ZaZ ha) (Za0 ha) (ZaZ hb) (Za0 hb),ZG]
 grind
theorem Zdx (a b:Path):JX a b=some (Z2 a b):=by
 unfold JX Z2;simp only [Zjg,Zc];cases ha:Z8 a with
 |false=>simp
 |true=>
 cases hb:Z8 b with
 |false=>simp
 |true=>
 have r1:=Zjk (ZaZ ha);have r2:=Zjk (Za0 ha);have r3:=Zjk (ZaZ hb);have r4:=Zjk (Za0 hb);have hi:=ZCc (a:=2 * a.src) (b:=2 * a.dst + 1) (c:=2 * b.src) (d:=2 * b.dst + 1) (by omega) (by omega) (by omega) (by omega);have hz:a.src=b.src->ZaY (2 * a.src) (2 * a.dst + 1) (2 * b.src) (2 * b.dst + 1)=false:=fun h=>by simp [ZaY,h]
 simp [Zsu (ZaZ ha),Zsv (Za0 ha),Zsu (ZaZ hb),Zsv (Za0 hb),hi,ZG]
 grind
def has (l:List Int) (n:Int):Bool:=l.any fun x=>x==n
theorem QW (l:List Int) (n:Int) (h:Sm l):Xo l n=some (has l n):=by
 unfold Sm at h;unfold Xo has;simp;refine (Yd l (by omega) (fun k (_:Unit)=>(l,n,(k:Int))) () (fun s _ _=>some (s.any fun x=>x==n)) rfl ?_ ?_).trans (by simp)
 ·intro rec _;simp
 ·intro rec k x _ hx hk hr;have hr':=hr ();simp only [Up] at hr';simp [hk,Zh hx,Zq (show k<=9223372036854775806 by omega),ZG];by_cases e:x=n
  ·simp [e]
  ·simp [e,hr']
theorem Zce {α:Type} (p:α->Bool):∀l:List α,(l.findIdx? p).isSome=l.any p
 | []=>rfl
 |x::l=>by
  rw [List.findIdx?_cons,Ff];cases p x with
  |true=>rfl
  |false=>simp [Zce p l]
theorem Jf (l:List Int) (n:Int) (h:Sm l):QT l n=some (has l n):=by
 unfold Sm at h;unfold QT ZmK has;simp;generalize hI:Ze (_:(List Int×Int×Int×Int->Option Int)->_->Option Int) NN _=I;have hI':I=match l.findIdx? (fun x=>x==n) with |some i=>some (i:Int) |none=>some (-1):=by
  rw [←hI];refine (Yd l (by omega) (fun k (_:Unit)=>(l,n,(l.length:Int),(k:Int))) () (fun s k _=>match s.findIdx? (fun x=>x==n) with |some i=>some ((k + i:Nat):Int) |none=>some (-1)) rfl ?_ ?_).trans (by cases l.findIdx? _ <;> simp)
  ·intro rec _;simp
  ·intro rec k x _ hx hk hr;have hr':=hr ();simp only [Up] at hr';rw [List.findIdx?_cons];simp [hk,Zh hx,Zq (show k<=9223372036854775806 by omega),ZG];by_cases e:x=n
   ·simp [e]
   ·rw [Uf (fun h=>e h.symm),hr'];simp [e];cases (l.drop (k + 1)).findIdx? (fun x=>x==n) with
    |none=>simp
    |some i=>simp;omega
 rw [hI',←Zce];cases l.findIdx? (fun x=>x==n) <;> simp
theorem Zcf {α V β:Type} (l:List α) (p:α->Bool) (hl:l.length<=1099511627776) (st:Nat->V) (K:Nat->Option β) (no:Option β) {F:(V->Option β)->V->Option β} {v:V} (hv:v=st 0)
  (h0:∀rec,F rec (st l.length)=no)
  (h1:∀rec k x,l[k]? =some x->k < l.length->F rec (st k)=if p x=true then K k else rec (st (k + 1))):Ze F NN v=match l.findIdx? p with |some i=>K i |none=>no:=by
 refine (Yd l (by omega) (fun k (_:Unit)=>st k) () (fun s k _=>match s.findIdx? p with |some i=>K (k + i) |none=>no) hv ?_ ?_).trans ?_
 ·intro rec _;rw [h0];simp
 ·intro rec k x _ hx hk hr;rw [h1 rec k x hx hk,List.findIdx?_cons];cases p x with
  |true=>simp
  |false=>
   rw [Uf (by simp),hr ()];cases (l.drop (k + 1)).findIdx? p with
   |none=>simp
   |some i=>simp;congr 1;omega
 ·cases l.findIdx? p <;> simp
def ZD (l:List Path) (id:Int):Int:=match l.findIdx? (fun p=>p.id==id) with |some i=>(i:Int) |none=> -1
theorem XE (l:List Path) (id:Int) (h:Sm l):YR l id=some (ZD l id):=by
 unfold Sm at h;unfold YR ZD;simp;refine (Zcf l (fun p=>p.id==id) (by omega) (fun k=>(l,id,(k:Int))) (fun k=>some (k:Int)) (some (-1)) rfl ?_ ?_).trans ?_
 ·intro rec;simp
 ·intro rec k x hx hk;simp [hk,Zh hx,Zq (show k<=9223372036854775806 by omega),ZG]
 ·cases l.findIdx? _ <;> rfl
theorem Qb (l:List Path) (id:Int) (h:Sm l):Xp l id=some (ZD l id):=by
 unfold Sm at h;unfold Xp ZmP ZmO ZD;simp;refine (Zcf l (fun p=>p.id==id) (by omega) (fun k=>(l,id,(l.length:Int),(k:Int))) (fun k=>some (k:Int)) (some (-1)) rfl ?_ ?_).trans ?_
 ·intro rec;simp
 ·intro rec k x hx hk;simp [hk,Zh hx,Zq (show k<=9223372036854775806 by omega),ZG]
 ·cases l.findIdx? _ <;> rfl
theorem J4 {l:List Path} {id:Int} (h:¬ZD l id < 0):∃(i:Nat) (x:Path),l[i]? =some x/\ZD l id=(i:Int)/\x.id=id:=by
 unfold ZD at h ⊢;cases hf:l.findIdx? (fun p=>p.id==id) with
 |none=>rw [hf] at h;simp at h
 |some i=>
  have:=List.findIdx?_eq_some_iff_getElem.1 hf;obtain ⟨h1,h2,_⟩:=this;exact ⟨i,l[i],Ua h1,rfl,by simpa using h2⟩
def ZQ (l:List Path) (id:Int):Path:=(l[(ZD l id).toNat]?).getD default
theorem Y8 {β:Type} {l:List Path} {id:Int} (h:¬ZD l id < 0) (K:Path->Option β):Z6 l (ZD l id) K=K (ZQ l id):=by
 obtain ⟨i,x,h1,h2,_⟩:=J4 h;unfold ZQ;rw [h2,Zh h1,Uy,h1];rfl
def Vk (ids:List Int) (k:Nat) (x:Int):Bool:=if k=0 then true else match ids[k - 1]? with |some y=>decide (y < x) |none=>true
def Vl (l:List Path) (x y:Int):Bool:= !Z2 (ZQ l x) (ZQ l y)
def goT (l:List Path) (ids:List Int):Nat->List Int->Bool
 | _,[]=>true
 |k,x::r=> !decide (ZD l x < 0) && Vk ids k x && (ids.take k).all (Vl l x) && goT l ids (k + 1) r
def ZI (l:List Path) (ids:List Int):Bool:=goT l ids 0 ids && ZK l
theorem Zm7 {α:Type} {l:List α} {k j:Nat} {x:α} (h:(l.take k)[j]? =some x):l[j]? =some x:=by
 rw [UA] at h;split at h
 ·exact h
 ·cases h
theorem Zsw {α:Type} {l:List α} {k:Nat} {x y:α} (hx:l[k]? =some x) (h:y∈l.take (k + 1)):y∈l.take k\/y=x:=by
 rw [MF,hx] at h;simpa using h
theorem VR (l:List Path) (ids:List Int) (h:Sm l) (hi:Sm ids):Qy l ids=some (ZI l ids):=by
 unfold Qy ZI;simp;have hi':=hi;unfold Sm at hi';refine (Yf ids (by omega) (fun k (_:Unit)=>(l,ids,(k:Int))) () (fun k _=>∀y∈ids.take k,¬ZD l y < 0) (by simp) (fun s k _=>some (goT l ids k s && ZK l)) rfl ?_ ?_).trans rfl
 ·intro rec _ _;simp [Je l h,goT]
 ·intro rec k x _ hJ hx hk hr;simp only [Up] at hr;have hk2:k<=9223372036854775806:=by omega
  simp [hk,Zh hx,XE l _ h,goT];by_cases c1:ZD l x < 0
  ·simp [c1]
  have hr':=hr () fun y hy=>by
   rcases Zsw hx hy with h1 |rfl
   ·exact hJ y h1
   ·exact c1
  simp only [c1,U3,Zf,UT,UV];have hlen:(ids.take k).length=k:=by rw [Uc];omega
  generalize hI:Ze (_:(List Path×List Int×Int×Int×Int->Option Bool)->_->Option Bool) NN _=I;have hI':I=if (ids.take k).all (Vl l x)=true then some (goT l ids (k + 1) (ids.drop (k + 1)) && ZK l) else some false:=by
   rw [←hI];refine Xq (ids.take k) (Vl l x) (by omega) (fun j=>(l,ids,(k:Int),ZD l x,(j:Int))) _ _ rfl ?_ ?_
   ·intro rec';simp [hlen,Zq hk2,hr']
   ·intro rec' j y hy hj;have hy':=Zm7 hy;have hj':j < k:=by omega
    simp [hj',Y8 c1,Zh hy',XE l _ h,Y8 (hJ y (Yb hy)),ZfC,Zq (show j<=9223372036854775806 by omega),ZG,Vl];cases Z2 (ZQ l x) (ZQ l y) <;> simp
  rw [hI'];generalize (ids.take k).all (Vl l x)=A;by_cases h0:k=0
  ·subst h0;simp [Vk];cases A <;> simp
  ·have hz:ids[k - 1]? =some ids[k - 1]:=Ua (by omega);have hk1:W ((k:Int) - 1)=((k - 1:Nat):Int):=by rw [ZB (by omega) (by omega)];omega
   simp [show 0 < k by omega,hk1,Zh hz];rw [show Vk ids k x=decide (ids[k - 1] < x) by unfold Vk;simp [h0,hz]];by_cases c4:x<=ids[k - 1]
   ·simp [c4,show ¬ids[k - 1] < x by omega]
   ·simp [c4,show ids[k - 1] < x by omega];cases A <;> simp
theorem KM (l:List Path) (ids:List Int) (h:Sm l) (hi:Sm ids):VN l ids=some (ZI l ids):=by
 unfold VN ZI;simp [JZ l h];have hi':=hi;unfold Sm at hi';cases hp:ZK l with
 |false=>simp
 |true=>
 simp;refine (Yf ids (by omega) (fun k (_:Unit)=>(l,ids,ids,(ids.length:Int),(k:Int))) () (fun k _=>∀y∈ids.take k,¬ZD l y < 0) (by simp) (fun s k _=>some (goT l ids k s)) rfl ?_ ?_).trans rfl
 ·intro rec _ _;simp [goT]
 ·intro rec k x _ hJ hx hk hr;simp only [Up] at hr;have hk2:k<=9223372036854775806:=by omega
  simp [hk,Zh hx,Qb l _ h,goT];by_cases c1:ZD l x < 0
  ·simp [c1]
  have hr':=hr () fun y hy=>by
   rcases Zsw hx hy with h1 |rfl
   ·exact hJ y h1
   ·exact c1
  simp only [c1,U3,Zf,UT,UV];have hlen:(ids.take k).length=k:=by rw [Uc];omega
  generalize hI:Ze (_:(List Path×List Int×Int×List Int×Int×Int×List Int×Int×Int->Option Bool)->_->Option Bool) NN _=I;have hI':I=if (ids.take k).all (Vl l x)=true then some (goT l ids (k + 1) (ids.drop (k + 1))) else some false:=by
   rw [←hI];refine Xq (ids.take k) (Vl l x) (by omega) (fun j=>(l,ids,ZD l x,ids,(ids.length:Int),(k:Int),ids.take k,((ids.take k).length:Int),(j:Int))) _ _ (by simp) ?_ ?_
   ·intro rec';simp [hlen,Zq hk2,hr']
   ·intro rec' j y hy hj;have hj':j < k:=by omega
    simp [hlen,hj',Y8 c1,Zh hy,Qb l _ h,Y8 (hJ y (Yb hy)),Zdx,Zq (show j<=9223372036854775806 by omega),ZG,Vl];cases Z2 (ZQ l x) (ZQ l y) <;> simp
  rw [hI'];generalize (ids.take k).all (Vl l x)=A;have hkl:k<=ids.length:=by omega
  by_cases h0:k=0
  ·subst h0;simp [Vk];cases A <;> simp
  ·have hz:ids[k - 1]? =some ids[k - 1]:=Ua (by omega);have hk1:W ((k:Int) - 1)=((k - 1:Nat):Int):=by rw [ZB (by omega) (by omega)];omega
   simp [show 0 < k by omega,hk1,Zh hz,hkl];rw [show Vk ids k x=decide (ids[k - 1] < x) by unfold Vk;simp [h0,hz]];by_cases c4:x<=ids[k - 1]
   ·simp [c4,show ¬ids[k - 1] < x by omega]
   ·simp [c4,show ids[k - 1] < x by omega];cases A <;> simp
@[simp] theorem Zcg {β:Type} (l:List Int) (s:Int) (K:List Int->Option β):rws iR (l.map iR.enc ++ [[I s]]) K=K (l ++ [s]):=
 (UC (fun z=>rws iR z K) (UW (f:=iR.enc) (l₁:=l) (l₂:= [s])).symm).trans (Qx iR (l ++ [s]) K)
@[simp] theorem Za1 {α:Type} (x:Option α):bnd x (fun r=>some r)=x:=by cases x <;> rfl
theorem Zsx {α β V:Type} (l:List α) (p:α->Bool) (hl:l.length<=1099511627776) (st:Nat->List α->V) (K:List α->Option β) {F:(V->Option β)->V->Option β} {v:V} (hv:v=st 0 [])
  (h0:∀rec acc,acc.length<=l.length->F rec (st l.length acc)=K acc)
  (h1:∀rec k x acc,l[k]? =some x->k < l.length->acc.length<=k->F rec (st k acc)=rec (st (k + 1) (if p x=true then acc ++ [x] else acc))):Ze F NN v=K (l.filter p):=by
 refine (Yf l (by omega) st [] (fun k acc=>acc.length<=k) (Ur _) (fun s _ acc=>K (acc ++ s.filter p)) hv ?_ ?_).trans (by simp)
 ·intro rec acc h;rw [h0 rec acc h];simp
 ·intro rec k x acc h hx hk hr;rw [h1 rec k x acc hx hk h];cases hp:p x with
  |true=>rw [Uh rfl,hr _ (by simp;omega),M6 hp];simp
  |false=>rw [Uf (by simp),hr _ (by omega),FC (by simp [hp])]
def Yy (a b:List Int):List Int:=a.filter fun x=> !has b x
theorem Zsy (a b:List Int) (h:Sm a) (hb:Sm b):ZeK a b=some (Yy a b):=by
 have h':=h;unfold Sm at h';unfold ZeK Yy;simp;refine (Zsx a (fun x=> !has b x) (by omega) (fun k acc=>(a,b,acc,(k:Int))) some rfl ?_ ?_)
 ·intro rec acc ha;simp
 ·intro rec k x acc hx hk ha;simp [hk,Zh hx,QW b _ hb,Zq (show k<=9223372036854775806 by omega),show (acc.length + 1) * 8<=140737488355328 by omega,show acc.length<=1152921504606846975 by omega];cases has b x <;> simp
theorem Zm8 (a b:List Int) (h:Sm a) (hb:Sm b):Ze8 a b=some (Yy a b):=by
 have h':=h;unfold Sm at h';unfold Ze8 ZmQ Yy;simp;refine (Zsx a (fun x=> !has b x) (by omega) (fun k acc=>(b,false,acc,a,(a.length:Int),(k:Int))) some rfl ?_ ?_)
 ·intro rec acc ha;simp
 ·intro rec k x acc hx hk ha;simp [hk,Zh hx,Jf b _ hb,Zq (show k<=9223372036854775806 by omega),show (acc.length + 1) * 8<=140737488355328 by omega,show acc.length<=1152921504606846975 by omega];cases has b x <;> simp
theorem Zsz {l:List Path} {ids:List Int}:∀{s:List Int} {k:Nat},goT l ids k s=true->∀x∈s,¬ZD l x < 0
 | [],_,_=>fun x hx=>by cases hx
 |y::s,k,h=>fun x hx=>by
  simp only [goT,Ub,UI,U9] at h;rcases List.mem_cons.1 hx with rfl |hx
  ·exact h.1.1.1
  ·exact Zsz h.2 x hx
theorem Za2 {l:List Path} {ids:List Int} (h:ZI l ids=true):∀x∈ids,¬ZD l x < 0:=by
 simp only [ZI,Ub] at h;exact Zsz h.1
theorem Zjl {a b:List Int} {x:Int} (h:x∈Yy a b):x∈a:=(List.mem_filter.1 h).1
theorem Zjm {a b:List Int} (h:Sm a):Sm (Yy a b):=Mm (Fi _ _) h
def KN (n c:Int):Int:=if n < c then c else n
def Vm (l:List Path) (x:Int) (n y:Int):Int:=if Z2 (ZQ l x) (ZQ l y) then KN n (YY (ZQ l x)) else n
def Yz (l:List Path) (a b:List Int):Int:=
 if ZI l a=true/\ZI l b=true then (Yy a b).foldl (fun n x=>(Yy b a).foldl (Vm l x) n) 0 else 0
theorem Zjn (l:List Path) (a b:List Int) (h:Sm l) (ha:Sm a) (hb:Sm b):Zb3 l a b=some (Yz l a b):=by
 unfold Zb3 Yz;simp [KM l _ h ha,KM l _ h hb,Zm8 _ _ ha hb,Zm8 _ _ hb ha];cases t1:ZI l a with
 |false=>simp
 |true=>
 cases t2:ZI l b with
 |false=>simp
 |true=>
 simp;have hA:=Zjm (b:=b) ha;have hB:=Zjm (b:=a) hb;unfold Sm at hA hB;refine (Yd (Yy a b) (by omega) (fun k n=>(l,a,b,n,Yy a b,((Yy a b).length:Int),(k:Int))) 0 (fun s _ n=>some (s.foldl (fun n x=>(Yy b a).foldl (Vm l x) n) n)) rfl ?_ ?_).trans rfl
 ·intro rec n;simp
 ·intro rec k x n hx hk hr;simp only [Up] at hr;have hfx:=Za2 t1 x (Zjl (Yb hx));simp [hk,Zh hx,Zm8 _ _ hb ha];refine (Yd (Yy b a) (by omega) (fun j n=>(l,a,b,n,x,Yy a b,((Yy a b).length:Int),(k:Int),Yy b a,((Yy b a).length:Int),(j:Int))) n (fun s _ n=>rec (l,a,b,s.foldl (Vm l x) n,Yy a b,((Yy a b).length:Int),(k:Int) + 1)) rfl ?_ ?_).trans ?_
  ·intro rec' n;simp [Zq (show k<=9223372036854775806 by omega)]
  ·intro rec' j y n hy hj hr';simp only [Up] at hr';have hfy:=Za2 t2 y (Zjl (Yb hy));simp [hj,Zh hy,Qb l _ h,Y8 hfx,Y8 hfy,Zdx,Zm3,Zq (show j<=9223372036854775806 by omega),ZG];cases hc:Z2 (ZQ l x) (ZQ l y) <;> simp [Vm,KN,hc,hr']
  ·simp [hr]
theorem Zjo (l:List Path) (a b:List Int) (h:Sm l) (ha:Sm a) (hb:Sm b):ZbV l a b=some (Yz l a b):=by
 unfold ZbV Yz;simp [Zsy _ _ ha hb,Zsy _ _ hb ha];have hA:=Zjm (b:=b) ha;have hB:=Zjm (b:=a) hb;unfold Sm at hA hB;refine (Yd (Yy a b) (by omega) (fun k n=>(l,a,b,n,Yy a b,Yy b a,(k:Int))) 0 (fun s _ n=>some (if ZI l a=true/\ZI l b=true then s.foldl (fun n x=>(Yy b a).foldl (Vm l x) n) n else n)) rfl ?_ ?_).trans rfl
 ·intro rec n;simp
 ·intro rec k x n hx hk hr;simp only [Up] at hr;simp [hk,Zh hx,VR l _ h ha,VR l _ h hb];cases t1:ZI l a with
  |false=>simp
  |true=>
  cases t2:ZI l b with
  |false=>simp
  |true=>
  simp only [t1,t2,and_self,U2] at hr;simp;have hfx:=Za2 t1 x (Zjl (Yb hx));refine (Yd (Yy b a) (by omega) (fun j n=>(l,a,b,n,Yy a b,Yy b a,(k:Int),(j:Int))) n (fun s _ n=>rec (l,a,b,s.foldl (Vm l x) n,Yy a b,Yy b a,(k:Int) + 1)) rfl ?_ ?_).trans ?_
  ·intro rec' n;simp [Zq (show k<=9223372036854775806 by omega)]
  ·intro rec' j y n hy hj hr';simp only [Up] at hr';have hfy:=Za2 t2 y (Zjl (Yb hy));simp [hj,Zh hx,Zh hy,XE l _ h,Y8 hfx,Y8 hfy,ZfC,Zm2,Zm4,Zq (show j<=9223372036854775806 by omega),ZG];cases hc:Z2 (ZQ l x) (ZQ l y) <;> simp [Vm,KN,hc,hr']
  ·simp [hr]
def ZR (l:List Path) (x:Control):Bool:=
 !x.stage.isEmpty && ZI l x.stage && ZI l x.next && inR x.since 0 1000000 && (if x.next= [] then x.left==0 else inR x.left 1 (Yz l x.stage x.next))
theorem Qc {α:Type} (l:List α):(((l.length:Nat):Int)==0)=l.isEmpty:=by
 cases l with
 |nil=>rfl
 |cons x l=>simp;omega
theorem Jg (l:List Path) (x:Control) (h:Sm l) (hx:ZY x):QQ l x=some (ZR l x):=by
 obtain ⟨h1,h2⟩:=hx;unfold QQ ZR;simp only [Zt,Zk,Zp,Zr,Zv,Zs,Zo,ZZ,Qc,VR l _ h h1,VR l _ h h2,Zjo l _ _ h h1 h2,J1,Zc];cases x.stage.isEmpty <;> cases ZI l x.stage <;> cases ZI l x.next <;> cases inR x.since 0 1000000 <;> cases hn:x.next <;> simp
theorem KO (l:List Path) (x:Control) (h:Sm l) (hx:ZY x):VO l x=some (ZR l x):=by
 obtain ⟨h1,h2⟩:=hx;unfold VO ZR;simp only [Zt,Zk,Zp,Zr,Zv,Zs,Zo,ZZ,Qc,KM l _ h h1,KM l _ h h2,Zjn l _ _ h h1 h2,ZaX,Zc];cases x.stage.isEmpty <;> cases ZI l x.stage <;> cases ZI l x.next <;> cases inR x.since 0 1000000 <;> cases hn:x.next <;> simp
theorem Zdy {α β V:Type} (l:List α) (f:α->Int) (hl:l.length<=1099511627776) (st:Nat->List Int->V) (K:List Int->Option β) {F:(V->Option β)->V->Option β} {v:V} (hv:v=st 0 [])
  (h0:∀rec acc,acc.length=l.length->F rec (st l.length acc)=K acc)
  (h1:∀rec k x acc,l[k]? =some x->k < l.length->acc.length=k->F rec (st k acc)=rec (st (k + 1) (acc ++ [f x]))):Ze F NN v=K (l.map f):=by
 refine (Yf l (by omega) st [] (fun k acc=>acc.length=k) rfl (fun s _ acc=>K (acc ++ s.map f)) hv ?_ ?_).trans (by simp)
 ·intro rec acc h;rw [h0 rec acc h];simp
 ·intro rec k x acc h hx hk hr;rw [h1 rec k x acc hx hk h,hr _ (by simp [h])];simp
def XF (x:Control) (id:Int):Int:=if has x.stage id then (if x.next.isEmpty=false/\has x.next id=false then 2 else 1) else 0
def XG (l:List Path) (x:Control):List Int:=if ZR l x then l.map (fun p=>XF x p.id) else []
theorem Zm9 {α:Type} (l:List α):decide (((l.length:Nat):Int) > 0)= !l.isEmpty:=by
 cases l with
 |nil=>rfl
 |cons x l=>simp
theorem Zjp (l:List Path) (x:Control) (h:Sm l) (hx:ZY x):Zb4 l x=some (XG l x):=by
 have hx':=hx;obtain ⟨h1,h2⟩:=hx;have hl:=h;unfold Sm at hl;unfold Zb4 XG;simp only [Zt,Zk,Zp,Zr,Zv,Zs,Zo,YG,Zy,KO l x h hx',Zc];cases ZR l x with
 |false=>simp
 |true=>
 simp only [Uk,Zf,U2];refine Zdy l (fun p=>XF x p.id) (by omega) (fun k acc=>((acc,l,(l.length:Int),(k:Int)),x)) some rfl ?_ ?_
 ·intro rec acc ha;simp
 ·intro rec k p acc hp hk ha;simp [hk,Zh hp,Jf _ _ h1,Jf _ _ h2,Zq (show k<=9223372036854775806 by omega),ha,show (k + 1) * 8<=140737488355328 by omega,show k<=1152921504606846975 by omega,Zm9];unfold XF;cases has x.stage p.id with
  |false=>simp
  |true=>
   cases hn:x.next with
   |nil=>simp
   |cons y r=>
    simp [ZG];cases has (y::r) p.id <;> simp
theorem ZfD (l:List Path) (x:Control) (h:Sm l) (hx:ZY x):ZaN l x=some (XG l x):=by
 have hx':=hx;obtain ⟨h1,h2⟩:=hx;have hl:=h;unfold Sm at hl;unfold ZaN XG;simp only [Zt,Zk,Zp,Zr,Zv,Zs,Zo,YG,Zy];cases hc:ZR l x with
 |false=>
  refine (Yd l (by omega) (fun k (_:Unit)=>((l,([]:List Int),(k:Int)),x)) () (fun _ _ _=>some []) rfl ?_ ?_).trans rfl
  ·intro rec _;simp
  ·intro rec k p _ hp hk _;simp [hk,Jg l x h hx',hc]
 |true=>
 simp only [U2];refine Zdy l (fun p=>XF x p.id) (by omega) (fun k acc=>((l,acc,(k:Int)),x)) some rfl ?_ ?_
 ·intro rec acc ha;simp
 ·intro rec k p acc hp hk ha;simp [hk,Zh hp,Jg l x h hx',hc,QW _ _ h1,QW _ _ h2,Zq (show k<=9223372036854775806 by omega),ha,show (k + 1) * 8<=140737488355328 by omega,show k<=1152921504606846975 by omega,Zm9];unfold XF;cases has x.stage p.id with
  |false=>simp
  |true=>
   cases hn:x.next with
   |nil=>simp
   |cons y r=>
    simp [ZG];cases has (y::r) p.id <;> simp
theorem ZsA (l:List Path) (n:Int) (h:Sm l):Zfc l n=some (l.map fun _=>n):=by
 unfold Sm at h;unfold Zfc;simp only [Zt,Zk,Zp,Zr,Zv,Zs,Zo,YG];refine Zdy l (fun _=>n) (by omega) (fun k acc=>(n,acc,(l.length:Int),(k:Int))) some rfl ?_ ?_
 ·intro rec acc ha;simp
 ·intro rec k p acc hp hk ha;simp [hk,Zq (show k<=9223372036854775806 by omega),ha,show (k + 1) * 8<=140737488355328 by omega,show k<=1152921504606846975 by omega]
theorem ZsB (t:Town) (n:Int) (h:Sm t.paths):ZeQ t n=some (t.paths.map fun _=>n):=by
 unfold Sm at h;unfold ZeQ;simp;refine Zdy t.paths (fun _=>n) (by omega) (fun k acc=>((n,acc,(k:Int)),t)) some rfl ?_ ?_
 ·intro rec acc ha;simp
 ·intro rec k p acc hp hk ha;simp [hk,Zq (show k<=9223372036854775806 by omega),ha,show (k + 1) * 8<=140737488355328 by omega,show k<=1152921504606846975 by omega]
theorem ZCe {α:Type} (p:α->Bool) (l:List α):(l.findIdx? p).isSome=l.any p:=Zce p l
def Zdz (l:List Path) (p:Lamp):Bool:= !decide (ZD l p.path < 0) && inR p.colour 0 1
def J5 (p q:Lamp):Bool:= !(q.path==p.path && q.colour==p.colour)
def goL (l:List Path) (x:List Lamp):Nat->List Lamp->Bool
 | _,[]=>true
 |k,p::r=>Zdz l p && (x.take k).all (J5 p) && goL l x (k + 1) r
def QX (l:List Path) (x:List Lamp):Bool:=goL l x 0 x && ZK l
theorem ZCf {α:Type} {l:List α} {k j:Nat} {x:α} (h:(l.take k)[j]? =some x):l[j]? =some x:=by
 rw [UA] at h;split at h
 ·exact h
 ·cases h
theorem ZsC (l:List Path) (x:List Lamp) (h:Sm l) (hx:Sm x):ZeM l x=some (QX l x):=by
 unfold ZeM QX;simp;have hx':=hx;unfold Sm at hx';refine (Yd x (by omega) (fun k (_:Unit)=>(l,x,(k:Int))) () (fun s k _=>some (goL l x k s && ZK l)) rfl ?_ ?_).trans rfl
 ·intro rec _;simp [Je l h,goL]
 ·intro rec k p _ hp hk hr;simp only [Up] at hr;have hk2:k<=9223372036854775806:=by omega
  simp [hk,Zh hp,XE l _ h,J1,goL,Zdz];by_cases c1:ZD l p.path < 0
  ·simp [c1]
  simp only [c1,U3,Zf,UT,UV];cases c2:inR p.colour 0 1 with
  |false=>simp
  |true=>
  simp only [Uk,Zf,UV];have hlen:(x.take k).length=k:=by rw [Uc];omega
  refine (Xq (x.take k) (J5 p) (by omega) (fun j=>(l,x,(k:Int),(j:Int))) (some (goL l x (k + 1) (x.drop (k + 1)) && ZK l)) (some false) rfl ?_ ?_).trans ?_
  ·intro rec';simp [hlen,Zq hk2];exact hr ()
  ·intro rec' j q hq hj;have hq':=ZCf hq;have hj':j < k:=by omega
   simp [hj',Zh hq',Zh hp,Zq (show j<=9223372036854775806 by omega),ZG];by_cases e1:q.path=p.path <;> by_cases e2:q.colour=p.colour <;> simp [e1,e2,J5]
  ·generalize (x.take k).all (J5 p)=A;cases A <;> simp
theorem ZsD (l:List Path) (x:List Lamp) (h:Sm l) (hx:Sm x):Ze9 l x=some (QX l x):=by
 unfold Ze9 QX;simp [JZ l h];have hx':=hx;unfold Sm at hx';cases hp:ZK l with
 |false=>simp
 |true=>
 simp;refine (Yd x (by omega) (fun k (_:Unit)=>(l,x,x,(x.length:Int),(k:Int))) () (fun s k _=>some (goL l x k s)) rfl ?_ ?_).trans rfl
 ·intro rec _;simp [goL]
 ·intro rec k p _ hp hk hr;simp only [Up] at hr;have hk2:k<=9223372036854775806:=by omega
  simp [hk,Zh hp,Qb l _ h,goL,Zdz];by_cases c1:ZD l p.path < 0
  ·simp [c1]
  simp only [c1,U3,Zf,UT,UV];have hlen:(x.take k).length=k:=by rw [Uc];omega
  generalize hI:Ze (_:((List Path×List Lamp×List Lamp×Int×Int×List Lamp×Int×Int)×Lamp->Option Bool)->_->Option Bool) NN _=I;have hI':I=if (x.take k).all (J5 p)=true then some (goL l x (k + 1) (x.drop (k + 1))) else some false:=by
   rw [←hI];refine Xq (x.take k) (J5 p) (by omega) (fun j=>((l,x,x,(x.length:Int),(k:Int),x.take k,((x.take k).length:Int),(j:Int)),p)) _ _ (by simp) ?_ ?_
   ·intro rec';simp [hlen,Zq hk2];exact hr ()
   ·intro rec' j q hq hj;have hj':j < k:=by omega
    simp [hlen,hj',Zh hq,Zq (show j<=9223372036854775806 by omega),ZG];by_cases e1:p.path=q.path <;> by_cases e2:p.colour=q.colour <;> simp [e1,e2,J5,show k<=x.length by omega]
    all_goals first |done | (intro h1;exact absurd h1.symm e1) |grind
  rw [hI'];generalize (x.take k).all (J5 p)=A;by_cases e0:p.colour=0
  ·simp [e0,inR,show k<=x.length by omega];cases A <;> simp
  ·by_cases e1:p.colour=1
   ·simp [e1,inR,show k<=x.length by omega];cases A <;> simp
   ·rw [show inR p.colour 0 1=false by simp [inR];omega];simp [e0,e1,ZG]
def J6 (q:Lamp):Bool:=q.colour==0 && q.broken
def ZdA (x:List Lamp):Bool:=x.any J6
def Yc (l:List Path) (x:List Lamp) (p:Bool):Int:=if p=false then 2 else if ZdA x then 1 else if QX l x then 0 else 1
theorem Zjq (l:List Path) (x:List Lamp) (p:Bool) (h:Sm l) (hx:Sm x):ZhH l x p=some (Yc l x p):=by
 unfold ZhH Yc;have hx':=hx;unfold Sm at hx';cases p with
 |false=>rfl
 |true=>
 simp;refine (Xq x (fun q=> !J6 q) (by omega) (fun k=>(l,x,(k:Int))) (some (if QX l x then 0 else 1)) (some 1) rfl ?_ ?_).trans ?_
 ·intro rec;simp [ZsC l x h hx];cases QX l x <;> rfl
 ·intro rec k q hq hk;simp [hk,Zh hq,Zq (show k<=9223372036854775806 by omega),ZG];by_cases e1:q.colour=0 <;> cases e2:q.broken <;> simp [e1,e2,J6]
 ·have hB:ZdA x= !x.all (fun q=> !J6 q):=by rw [List.not_all_eq_any_not];simp [ZdA]
  generalize x.all (fun q=> !J6 q)=A at hB ⊢;rw [hB];cases A <;> simp
theorem Zjr (l:List Path) (x:List Lamp) (p:Bool) (h:Sm l) (hx:Sm x):ZiF l x p=some (Yc l x p):=by
 unfold ZiF Yc;have hx':=hx;unfold Sm at hx';cases p with
 |false=>rfl
 |true=>
 have key:ZiE x=some (ZdA x):=by
  unfold ZiE ZmU ZmT;simp;generalize hI:Ze (_:(List Lamp×Unit×Int×Int->Option Int)->_->Option Int) NN _=I;have hI':I=match x.findIdx? J6 with |some i=>some (i:Int) |none=>some (-1):=by
   rw [←hI];refine Zcf x J6 (by omega) (fun k=>(x,(),(x.length:Int),(k:Int))) (fun k=>some (k:Int)) (some (-1)) rfl ?_ ?_
   ·intro rec;simp
   ·intro rec k q hq hk;simp [hk,Zh hq,Zq (show k<=9223372036854775806 by omega),ZG];by_cases e1:q.colour=0 <;> cases e2:q.broken <;> simp [e1,e2,J6]
  rw [hI'];have hB:ZdA x=(x.findIdx? J6).isSome:=by rw [ZCe];rfl
  rw [hB];cases x.findIdx? J6 <;> simp
 simp [ZsD l x h hx,key];cases QX l x <;> cases ZdA x <;> rfl
def YA (t:Town):List Int:=if Yc t.paths t.lamps t.power=0 then XG t.paths t.control else t.paths.map fun _=>0
theorem ZfE (t:Town) (h:Zw t):ZaQ t=some (YA t):=by
 obtain ⟨h0,h1,h2,h3,h4⟩:=h;have e1:QR t=some (Yc t.paths t.lamps t.power):=by unfold QR;simp [Zjq _ _ _ h0 h3]
 unfold ZaQ YA;simp only [Zt,Zk,Zp,Zr,Zv,Zs,ZP,Z3,Zo,Z0,Z5,Z1,Zy,ZX,e1,Zc,Za1,ZfD _ _ h0 h1,ZsB t 0 h0,ZG,Fz];split <;> rfl
theorem ZfF (t:Town) (h:Zw t):ZaV t=some (YA t):=by
 obtain ⟨h0,h1,h2,h3,h4⟩:=h;have e1:QV t=some (Yc t.paths t.lamps t.power):=by unfold QV;simp [Zjr _ _ _ h0 h3]
 unfold ZaV YA;simp only [Zt,Zk,Zp,Zr,Zv,Zs,ZP,Z3,Zo,Z0,Z5,Z1,Zy,ZX,e1,Zc,Za1,Zjp _ _ h0 h1,ZsA _ 0 h0,ZG,bne_iff_ne];by_cases c:Yc t.paths t.lamps t.power=0 <;> simp [c]
def Za3 (x q:Path×Int):Bool:= !(x.2 != 0 && q.2 != 0 && Z2 x.1 q.1)
def goS (z:List (Path×Int)):Nat->List (Path×Int)->Bool
 | _,[]=>true
 |k,x::r=>inR x.2 0 2 && (z.take k).all (Za3 x) && goS z (k + 1) r
def Vn (l:List Path) (v:List Int):Bool:=ZK l && decide (v.length=l.length) && goS (l.zip v) 0 (l.zip v)
theorem Za4 {l:List Path} {v:List Int} {k:Nat} {x:Path×Int} (h:(l.zip v)[k]? =some x):l[k]? =some x.1/\v[k]? =some x.2:=by
 rw [List.getElem?_zip_eq_some] at h;exact h
theorem ZsE (l:List Path) (v:List Int) (h:Sm l):ZeN l v=some (Vn l v):=by
 have hl:=h;unfold Sm at hl;unfold ZeN Vn;simp only [Zt,Zk,Zp,Zr,Zv,Zs,Zo,YG,ZZ,Je l h,Zc];cases hp:ZK l with
 |false=>simp
 |true=>
 by_cases hn:v.length=l.length
 ·have hz:(l.zip v).length=l.length:=by rw [Fe];omega
  rw [show (((v.length:Nat):Int) != ((l.length:Nat):Int))=false by simp [hn]];simp [hn];refine (Yd (l.zip v) (by omega) (fun k (_:Unit)=>(l,v,(k:Int))) () (fun s k _=>some (goS (l.zip v) k s)) rfl ?_ ?_).trans rfl
  ·intro rec _;simp [goS,hz]
  ·intro rec k x _ hx hk hr;obtain ⟨x1,x2⟩:=Za4 hx;have hr':=hr ();simp only [Up] at hr';have hk':k < l.length:=by omega
   have hlen:((l.zip v).take k).length=k:=by rw [Uc];omega
   simp [hk',Zh x2,J1,goS];cases inR x.2 0 2 with
   |false=>simp
   |true=>
   simp;refine (Xq ((l.zip v).take k) (Za3 x) (by omega) (fun j=>(l,v,(k:Int),(j:Int))) (some (goS (l.zip v) (k + 1) ((l.zip v).drop (k + 1)))) (some false) rfl ?_ ?_).trans ?_
   ·intro rec';simp [hlen,Zq (show k<=9223372036854775806 by omega),hr']
   ·intro rec' j y hy hj;obtain ⟨y1,y2⟩:=Za4 (Zm7 hy);have hj':j < k:=by omega
    simp [hj',Zh x2,Zh y2,Zh x1,Zh y1,ZfC,Zq (show j<=9223372036854775806 by omega),Za3,ZG];by_cases c1:x.2=0 <;> by_cases c2:y.2=0 <;> cases c3:Z2 x.1 y.1 <;> simp [c1,c2,c3]
   ·generalize ((l.zip v).take k).all (Za3 x)=A;cases A <;> simp
 ·rw [show (((v.length:Nat):Int) != ((l.length:Nat):Int))=true by simp;omega];simp [hn]
theorem ZsF (l:List Path) (v:List Int) (h:Sm l):Zfa l v=some (Vn l v):=by
 have hl:=h;unfold Sm at hl;unfold Zfa Vn;simp only [Zt,Zk,Zp,Zr,Zv,Zs,Zo,YG,ZZ,JZ l h,Zc];cases hp:ZK l with
 |false=>simp
 |true=>
 by_cases hn:v.length=l.length
 ·have hz:(l.zip v).length=l.length:=by rw [Fe];omega
  rw [show (((v.length:Nat):Int) != ((l.length:Nat):Int))=false by simp [hn]];simp [hn];refine (Yd (l.zip v) (by omega) (fun k (_:Unit)=>(l,v,l,(l.length:Int),(k:Int))) () (fun s k _=>some (goS (l.zip v) k s)) rfl ?_ ?_).trans rfl
  ·intro rec _;simp [goS,hz]
  ·intro rec k x _ hx hk hr;obtain ⟨x1,x2⟩:=Za4 hx;have hr':=hr ();simp only [Up] at hr';have hk':k < l.length:=by omega
   have hkl:k<=l.length:=by omega
   have hlen:((l.zip v).take k).length=k:=by rw [Uc];omega
   have hlen2:(l.take k).length=k:=by rw [Uc];omega
   simp [hk',hkl,Zh x1,Zh x2,ZaX,goS];cases inR x.2 0 2 with
   |false=>simp
   |true=>
   simp;refine (Xq ((l.zip v).take k) (Za3 x) (by omega) (fun j=>((l,v,(k:Int),l,(l.length:Int),(k:Int),l.take k,((l.take k).length:Int),(j:Int)),x.1)) (some (goS (l.zip v) (k + 1) ((l.zip v).drop (k + 1)))) (some false) (by simp;omega) ?_ ?_).trans ?_
   ·intro rec';simp [hlen,hlen2,Zq (show k<=9223372036854775806 by omega),hr']
   ·intro rec' j y hy hj;obtain ⟨y1,y2⟩:=Za4 (Zm7 hy);have hj':j < k:=by omega
    have y3:(l.take k)[j]? =some y.1:=by rw [UA,Uh hj'];exact y1
    simp [hlen2,hj',Zh x2,Zh y2,Zh y3,Zdx,Zq (show j<=9223372036854775806 by omega),Za3,ZG,hkl];by_cases c1:x.2=0 <;> by_cases c2:y.2=0 <;> cases c3:Z2 x.1 y.1 <;> simp [c1,c2,c3]
   ·generalize ((l.zip v).take k).all (Za3 x)=A;cases A <;> simp
 ·rw [show (((v.length:Nat):Int) != ((l.length:Nat):Int))=true by simp;omega];simp [hn]
def Zch (l:List Path) (x:Want):Bool:= !decide (ZD l x.path < 0) && inR x.wait 0 100000
def goW (l:List Path):Option Int->List Want->Bool
 | _,[]=>true
 |pv,x::r=>Zch l x && later pv x.path && goW l (some x.path) r
def Yo (l:List Path) (w:List Want):Bool:=ZK l && goW l none w
def VT (l:List Want) (k:Nat):Option Int:=if k=0 then none else (l[k - 1]?).map (·.path)
theorem Zjs {l:List Want} {k:Nat} {x:Want} (h:l[k]? =some x):VT l (k + 1)=some x.path:=by
 unfold VT;simp [h]
theorem Zna (l:List Path) (w:List Want) (hl:Sm l) (h:w.length<=2097152):JR l w=some (Yo l w):=by
 unfold JR Yo;simp;refine (Yd w (by omega) (fun k (_:Unit)=>(l,w,(k:Int))) () (fun s k _=>some (ZK l && goW l (VT w k) s)) rfl ?_ ?_).trans ?_
 ·intro rec _;simp [goW,Je l hl]
 ·intro rec k x _ hx hk hr;have hr':=hr ();simp only [Up] at hr';simp [hk,Zh hx,XE _ _ hl,J1,Zq (show k<=9223372036854775806 by omega),goW,Zch];by_cases hf:ZD l x.path < 0
  ·simp [hf]
  cases inR x.wait 0 100000 with
  |false=>simp [hf]
  |true=>
   simp [hf];by_cases h0:k=0
   ·subst h0;have hr'':rec (l,w,1)=some (ZK l && goW l (some x.path) (List.drop 1 w)):=by simpa [Zjs hx] using hr'
    simp [hr'',VT,later]
   ·have hz:w[k - 1]? =some w[k - 1]:=Ua (by omega);have hk1:W ((k:Int) - 1)=((k - 1:Nat):Int):=by rw [ZB (by omega) (by omega)];omega
    rw [show VT w k=some (w[k - 1]).path by unfold VT;simp [h0,hz]];simp [show 0 < k by omega,hk1,Zh hz,hr',Zjs hx,later,ZG];by_cases h1:x.path<=(w[k - 1]).path
    ·simp [h1,show ¬((w[k - 1]).path < x.path) by omega]
    ·simp [h1,show (w[k - 1]).path < x.path by omega]
 ·simp [VT]
theorem Zjt (l:List Path) (w:List Want) (hl:Sm l) (h:Sm w):JR l w=some (Yo l w):=Zna l w hl (by unfold Sm at h;omega)
theorem Znb (l:List Path) (w:List Want) (hl:Sm l) (h:w.length<=2097152):KJ l w=some (Yo l w):=by
 unfold KJ Yo;simp [JZ l hl];cases ZK l with
 |false=>rfl
 |true=>
 simp;refine (Yd w (by omega) (fun k (_:Unit)=>(l,w,w,(w.length:Int),(k:Int))) () (fun s k _=>some (goW l (VT w k) s)) rfl ?_ ?_).trans ?_
 ·intro rec _;simp [goW]
 ·intro rec k x _ hx hk hr;have hr':=hr ();simp only [Up] at hr';simp [hk,Zh hx,Qb _ _ hl,ZaX,Zq (show k<=9223372036854775806 by omega),goW,Zch];by_cases hf:ZD l x.path < 0
  ·simp [hf]
  cases inR x.wait 0 100000 with
  |false=>simp [hf]
  |true=>
   simp [hf];by_cases h0:k=0
   ·subst h0;have hr'':rec (l,w,w,(w.length:Int),1)=some (goW l (some x.path) (List.drop 1 w)):=by simpa [Zjs hx] using hr'
    simp [hr'',VT,later]
   ·have hz:w[k - 1]? =some w[k - 1]:=Ua (by omega);have hk1:W ((k:Int) - 1)=((k - 1:Nat):Int):=by rw [ZB (by omega) (by omega)];omega
    rw [show VT w k=some (w[k - 1]).path by unfold VT;simp [h0,hz]];simp [show 0 < k by omega,hk1,Zh hz,hr',Zjs hx,later,ZG];by_cases h1:x.path<=(w[k - 1]).path
    ·simp [h1,show ¬((w[k - 1]).path < x.path) by omega]
    ·simp [h1,show (w[k - 1]).path < x.path by omega]
 ·simp [VT]
theorem Znc (l:List Path) (w:List Want) (hl:Sm l) (h:Sm w):KJ l w=some (Yo l w):=Znb l w hl (by unfold Sm at h;omega)
def KP (l:List Path) (id:Int):Bool:= !decide (ZD l id < 0) && (ZQ l id).kind==3
def YZ (l:List Path) (x:Prio):Bool:=ZK l && (decide (x=⟨0,0⟩) || (KP l x.path && inR x.left 1 20))
theorem ZsG (p:Prio):eqB [I p.path,I p.left] [I 0,I 0]=decide (p=⟨0,0⟩):=by
 cases p;simp [eqB,eqV];grind
theorem Zju (l:List Path) (x:Prio) (hl:Sm l):ZaP l x=some (YZ l x):=by
 unfold ZaP YZ KP;simp only [Zt,Zk,Zp,Zr,Zv,Zs,ZsG,Je l hl,XE _ _ hl,Zc,Xn,J1,ZG];by_cases h0:x=⟨0,0⟩
 ·simp [h0]
 ·simp only [h0,U3,FJ,MW,Mx];by_cases hf:ZD l x.path < 0
  ·simp [hf,show ¬(ZD l x.path>=0) by omega]
  ·simp [hf,show (0:Int)<=ZD l x.path by omega,Y8 hf];cases ZK l <;> simp
   by_cases hk:(ZQ l x.path).kind=3 <;> simp [hk]
theorem Zjv (l:List Path) (x:Prio) (hl:Sm l):Zb5 l x=some (YZ l x):=by
 unfold Zb5 YZ KP Zdn;simp only [Zt,Zk,Zp,Zr,Zv,Zs,ZsG,JZ l hl,Qb _ _ hl,Zc,Xn,ZaX,ZG];by_cases h0:x=⟨0,0⟩
 ·simp [h0];cases ZK l <;> simp
 ·simp only [h0,U3,FJ,MW,Mx];by_cases hf:ZD l x.path < 0
  ·simp [hf,show ¬(ZD l x.path>=0) by omega]
  ·simp [hf,show (0:Int)<=ZD l x.path by omega,Y8 hf];cases ZK l <;> simp
   by_cases hk:(ZQ l x.path).kind=3 <;> simp [hk]
def goU (p:List Path):List Note->Int
 | []=> -1
 |x::r=>if Vn p x.lights=true then goU p r else x.second
def Za5 (p:List Path) (l:List Note):Int:=if YC l=true then goU p l else -1
theorem ZCg (p:List Path) (l:List Note) (hp:Sm p) (h:Sm l/\∀y∈l,XC y):Zhy p l=some (Za5 p l):=by
 have h1:=h.1;unfold Sm at h1;unfold Zhy Za5;simp;refine (Yd l (by omega) (fun k (_:Unit)=>(p,l,(k:Int))) () (fun s _ _=>some (if YC l=true then goU p s else -1)) rfl ?_ ?_).trans rfl
 ·intro rec _;simp [goU]
 ·intro rec k x _ hx hk hr;have hr':=hr ();simp only [Up] at hr';simp [hk,Zh hx,Zfx l h,ZsE _ _ hp,Zq (show k<=9223372036854775806 by omega),hr',goU,ZG];cases YC l <;> simp
  cases Vn p x.lights <;> simp
theorem ZCh (p:List Path) (l:List Note) (hp:Sm p) (h:Sm l/\∀y∈l,XC y):Ziv p l=some (Za5 p l):=by
 have h1:=h.1;unfold Sm at h1;unfold Ziv Za5;simp [Zfy l h];cases YC l with
 |false=>rfl
 |true=>
 simp;refine (Yd l (by omega) (fun k (_:Unit)=>(p,l,(l.length:Int),(k:Int))) () (fun s _ _=>some (goU p s)) rfl ?_ ?_).trans rfl
 ·intro rec _;simp [goU]
 ·intro rec k x _ hx hk hr;have hr':=hr ();simp only [Up] at hr';simp [hk,Zh hx,ZsF _ _ hp,Zq (show k<=9223372036854775806 by omega),hr',goU,ZG];cases Vn p x.lights <;> simp
def Znd (l:List Note):Int:=match l.getLast? with |some e=>e.second |none=>0
def ZS (t:Town):Bool:=
 ZR t.paths t.control && Yo t.paths t.wants && YZ t.paths t.prio && QX t.paths t.lamps && YC t.record && !t.record.isEmpty &&
 decide (Za5 t.paths t.record= -1) && decide (KL t.record=t.paths.length) && decide (Znd t.record<=t.now) && inR t.books 0 1000 && inR t.now 0 1000000
theorem ZsH {l:List Note} (h:l≠ []):∃e,l[l.length - 1]? =some e/\Znd l=e.second/\e∈l:=by
 refine ⟨l.getLast h,?_,?_,List.getLast_mem h⟩
 ·rw [List.getLast_eq_getElem h];exact Ua _
 ·unfold Znd;rw [M8 h]
theorem KQ (t:Town) (h:Zw t):VL t=some (ZS t):=by
 obtain ⟨h0,h1,h2,h3,h4⟩:=h;have h5:=h4.1;unfold Sm at h5;unfold VL ZS;simp only [Zt,Zk,Zp,Zr,Zv,Zs,Zo,ZP,Z3,Z0,Zy,Vf,ZZ,YG,Qc,Jg _ _ h0 h1,Zjt _ _ h0 h2,Zju _ _ h0,ZsC _ _ h0 h3,Zfx _ h4,ZCg _ _ h0 h4,J1,Zc];cases ZR t.paths t.control <;> simp
 cases Yo t.paths t.wants <;> simp
 cases YZ t.paths t.prio <;> simp
 cases QX t.paths t.lamps <;> simp
 cases hR:YC t.record <;> simp
 cases he:t.record.isEmpty <;> simp
 have hne:t.record≠ []:=by intro e;rw [e] at he;cases he
 obtain ⟨e,e1,e2,e3⟩:=ZsH hne;have hpos:=List.length_pos_iff.2 hne;have hk1:W ((t.record.length:Int) - 1)=((t.record.length - 1:Nat):Int):=by rw [ZB (by omega) (by omega)];omega
 rw [hk1,Zh e1,e2,(Zfz hR e e3).1];by_cases c1:Za5 t.paths t.record= -1 <;> simp [c1,ZG]
 by_cases c2:KL t.record=t.paths.length
 case neg=>
  simp [c2];intro hc;omega
 simp only [c2];by_cases c3:e.second<=t.now <;> simp [c3]
 cases inR t.books 0 1000 <;> simp
theorem KR (t:Town) (h:Zw t):VP t=some (ZS t):=by
 obtain ⟨h0,h1,h2,h3,h4⟩:=h;have h5:=h4.1;unfold Sm at h5;unfold VP ZS;simp only [Zt,Zk,Zp,Zr,Zv,Zs,Zo,ZP,Z3,Z0,Zy,Vf,ZZ,YG,KO _ _ h0 h1,Znc _ _ h0 h2,Zjv _ _ h0,ZsD _ _ h0 h3,Zfy _ h4,ZCh _ _ h0 h4,ZaX,Zc];cases ZR t.paths t.control <;> simp
 cases Yo t.paths t.wants <;> simp
 cases YZ t.paths t.prio <;> simp
 cases QX t.paths t.lamps <;> simp
 cases hR:YC t.record <;> simp
 by_cases c1:Za5 t.paths t.record= -1 <;> simp [c1,ZG]
 cases he:t.record.isEmpty with
 |true=>
  have:t.record= []:=List.isEmpty_iff.1 he;simp [this]
 |false=>
 have hne:t.record≠ []:=by intro e;rw [e] at he;cases he
 obtain ⟨e,e1,e2,e3⟩:=ZsH hne;have hpos:=List.length_pos_iff.2 hne;have hk1:W ((t.record.length:Int) - 1)=((t.record.length - 1:Nat):Int):=by rw [ZB (by omega) (by omega)];omega
 have hz:t.record[0]? =some t.record[0]:=Ua hpos;simp only [hpos,Mo,Zn,Zfv hz,hk1,Zh e1,e2,←Zfw hz];by_cases c2:KL t.record=t.paths.length
 case neg=>
  simp [c2];intro hc;omega
 simp only [c2];by_cases c3:e.second<=t.now <;> simp [c3]
 cases inR t.books 0 1000 <;> simp
def Vo (s:Int):List Note->Nat->Int->Int
 | [],_,a=>a
 |x::r,k,a=>Vo s r (k + 1) (if x.second<=s then (k:Int) else a)
def QY (l:List Note) (s:Int):Int:=if YC l=true then Vo s l 0 (-1) else -1
theorem Zne {s:Int}:∀(l:List Note) (k:Nat) (a:Int),Vo s l k a=a\/∃i,i < l.length/\Vo s l k a=((k + i:Nat):Int)
 | [],k,a=> .inl rfl
 |x::r,k,a=>by
  rw [Vo];rcases Zne (s:=s) r (k + 1) (if x.second<=s then (k:Int) else a) with h | ⟨i,h1,h2⟩
  ·rw [h];split
   ·exact .inr ⟨0,by simp,by simp⟩
   ·exact .inl rfl
  ·exact .inr ⟨i + 1,by simp;omega,by rw [h2];congr 1;omega⟩
theorem ZCi (l:List Note) (s:Int):QY l s= -1\/∃(i:Nat) (x:Note),l[i]? =some x/\QY l s=(i:Int)/\YC l=true:=by
 unfold QY;cases hR:YC l with
 |false=>exact .inl (by simp)
 |true=>
  simp only [U2];rcases Zne (s:=s) l 0 (-1) with h | ⟨i,h1,h2⟩
  ·exact .inl h
  ·exact .inr ⟨i,l[i],Ua h1,by rw [h2];simp,trivial⟩
theorem ZsI (l:List Note) (s:Int) (h:Sm l/\∀y∈l,XC y):Ze0 l s=some (QY l s):=by
 have h1:=h.1;unfold Sm at h1;unfold Ze0 QY;simp;refine (Yd l (by omega) (fun k a=>(l,s,a,(k:Int))) (-1) (fun x k a=>some (if YC l=true then Vo s x k a else a)) rfl ?_ ?_).trans rfl
 ·intro rec a;simp [Vo]
 ·intro rec k x a hx hk hr;simp only [Up] at hr;simp [hk,Zh hx,Zfx l h,Zq (show k<=9223372036854775806 by omega),hr,Vo,ZG];cases YC l <;> simp
  by_cases c:x.second<=s <;> simp [c]
theorem Znf (l:List Note) (s:Int) (h:Sm l/\∀y∈l,XC y):Zdu l s=some (QY l s):=by
 have h1:=h.1;unfold Sm at h1;unfold Zdu QY;simp [Zfy l h];cases YC l with
 |false=>rfl
 |true=>
 simp;refine (Yd l (by omega) (fun k a=>(s,a,l,(l.length:Int),(k:Int))) (-1) (fun x k a=>some (Vo s x k a)) rfl ?_ ?_).trans rfl
 ·intro rec a;simp [Vo]
 ·intro rec k x a hx hk hr;simp only [Up] at hr;simp [hk,Zh hx,Zq (show k<=9223372036854775806 by omega),hr,Vo,ZG];by_cases c:x.second<=s <;> simp [c]
theorem Zjw {β:Type} (xs:List (List AV)) (x y:Option β) (h:xs= []->x=y):Zak xs x y=y:=by
 unfold Zak;split
 ·unfold ZF;have:=h rfl;rw [Uh this,this]
 ·rfl
theorem KS (l:List Int) (h:Sm l):Vg l=some l:=by
 unfold Sm at h;unfold Vg;have e:ifA (((((List.length ([]:List (List AV))) + (List.length (l.map iR.enc))) * 8)<=140737488355328)/\(((List.length ([]:List (List AV))) + (List.length (l.map iR.enc)))<=1152921504606846976)) (rws iR (List.map clrs (l.map iR.enc)) (fun (l1:(List Int))=>(some l1)))=some l:=by
  rw [Zl (by simp;omega),ZaG,Zo]
 rw [e];refine Zjw _ _ _ fun h0=> ?_
 have:l= []:=by cases l with |nil=>rfl |cons a l=>cases h0
 rw [this]
def Zci (l:List Note) (s:Int):Option Note:=if QY l s < 0 then none else l[(QY l s).toNat]?
def Qd (l:List Note) (s:Int):List Int×Bool:=match Zci l s with |some e=>(e.lights,true) |none=>([],false)
theorem J7 (l:List Note) (s:Int):(Zci l s=none/\QY l s= -1)\/∃(i:Nat) (x:Note),l[i]? =some x/\QY l s=(i:Int)/\Zci l s=some x/\YC l=true:=by
 unfold Zci;rcases ZCi l s with h | ⟨i,x,h1,h2,h3⟩
 ·rw [h];exact .inl ⟨rfl,rfl⟩
 ·rw [h2];exact .inr ⟨i,x,h1,rfl,by rw [Uf (by omega),Uy,h1],h3⟩
theorem Zjx (l:List Note) (s:Int) (h:Sm l/\∀y∈l,XC y):Zb0 l s=some (Qd l s):=by
 unfold Zb0 Qd;simp only [Zt,Zk,Zp,Zr,Zv,Z0,Z5,Z1,ZsI l s h,Zc,JN,Ja,JO];rcases J7 l s with ⟨h1,h2⟩ | ⟨i,x,h1,h2,h3,_⟩
 ·simp [h1,h2]
 ·have hx:=h.2 x (Yb h1);unfold XC Sm at hx;simp only [Zt,Zk,Zp,Zr,Zv,h2,h3,show ¬((i:Int) < 0) by omega,U3,Zf,Zh h1,ZZ,ZaG,Zo];rw [Zl (by simp;omega)]
theorem ZsJ (l:List Note) (s:Int) (h:Sm l/\∀y∈l,XC y):Zfn l s=some (Qd l s):=by
 unfold Zfn Qd;simp only [Zt,Zk,Zp,Zr,Zv,Z0,Z5,Z1,Znf l s h,Zc,JN,Ja,JO,Zo];rcases J7 l s with ⟨h1,h2⟩ | ⟨i,x,h1,h2,h3,_⟩
 ·simp [h1,h2]
 ·have hx:=h.2 x (Yb h1);simp only [h2,h3,show ¬((i:Int) < 0) by omega,U3,Zf,Zh h1,KS _ hx,Zc]
def ZfG (t:Town):Bool:=(Qd t.record t.now).2 && decide ((Qd t.record t.now).1=YA t)
theorem Zng {l:List Note} (s:Int) (h:Sm l/\∀y∈l,XC y):Sm (Qd l s).1:=by
 unfold Qd;rcases J7 l s with ⟨h1,h2⟩ | ⟨i,x,h1,h2,h3,_⟩
 ·rw [h1];unfold Sm;simp
 ·rw [h3];exact h.2 x (Yb h1)
theorem ZCj (t:Town) (h:Zw t):Zh5 t=some (ZfG t):=by
 have h4:=h.2.2.2.2;unfold Zh5 ZfG;simp only [Zt,Zk,Zp,Zr,Zv,Zs,Zo,ZP,Z3,Z0,Z5,Z1,Zy,ZX,Zjx _ _ h4,ZfE t h,Zm5 _ _ (Zng t.now h4),Zc];cases (Qd t.record t.now).2 <;> simp
theorem ZCk (t:Town) (h:Zw t):Zi8 t=some (ZfG t):=by
 have h4:=h.2.2.2.2;unfold Zi8 ZfG;simp only [Zt,Zk,Zp,Zr,Zv,Zs,Zo,ZP,Z3,Z0,Z5,Z1,Zy,ZX,ZsJ _ _ h4,ZfF t h,Zm6 _ _ (Zng t.now h4),Zc];cases (Qd t.record t.now).2 <;> simp
theorem ZsK {V β:Type} {F:(V->Option β)->V->Option β} (st:Nat->V) (G:Nat->Option β) (B:Nat) (h0:∀rec,F rec (st 0)=G 0)
  (h1:∀rec k,k < B->rec (st k)=G k->F rec (st (k + 1))=G (k + 1)):∀n k,k<=B->k < n->Ze F n (st k)=G k
 | 0,k,_,h=>by omega
 |n + 1,0,_,_=>by rw [Vd];exact h0 _
 |n + 1,k + 1,hk,h=>by
  rw [Vd];exact h1 _ k (by omega) (ZsK st G B h0 h1 n k (by omega) (by omega))
theorem ZsL {V β:Type} {F:(V->Option β)->V->Option β} (st:Nat->V) (G:Nat->Option β) (k:Nat) (hk:k<=4611686018427387903) {v:V} (hv:v=st k) (h0:∀rec,F rec (st 0)=G 0)
  (h1:∀rec j,j < k->rec (st j)=G j->F rec (st (j + 1))=G (j + 1)):Ze F NN v=G k:=by
 rw [hv];exact ZsK st G k h0 h1 NN k (Ur _) (KG hk)
def Jh (l:List Note) (i s:Int):Int:=match Zci l s with |some e=>Qa e i |none=> -1
theorem ZCl {e:Note} {i:Int} (h:Qa e i≠ -1):∃m:Nat,i=(m:Int)/\m < e.lights.length:=by
 unfold Qa at h;split at h
 ·rename_i h0;refine ⟨i.toNat,by omega,?_⟩;split at h
  ·rename_i v hv;exact (List.getElem?_eq_some_iff.1 hv).1
  ·exact absurd rfl h
 ·exact absurd rfl h
theorem Zjy {e:Note} {m:Nat} {v:Int} (h:e.lights[m]? =some v):Qa e (m:Int)=v:=by
 unfold Qa;rw [Uh (by omega),Uy,h]
theorem ZCm (l:List Note) (i s:Int) (h:Sm l/\∀y∈l,XC y):Zif l i s=some (Jh l i s):=by
 unfold Zif Jh;simp only [Zt,Zk,Zp,Zr,Zv,Z0,Z5,Z1,Zjx l s h,Zc,ZZ,J1,Yw,Qd];rcases J7 l s with ⟨h1,h2⟩ | ⟨j,x,h1,h2,h3,_⟩
 ·simp only [h1,UQ];rw [show inR i 0 (W (((0:Nat):Int) - 1))=false by rw [ZB (by omega) (by omega)];unfold inR;by_cases c:0<=i <;> simp [c];omega];rfl
 ·simp only [h3];have hx:=h.2 x (Yb h1);unfold XC Sm at hx;rw [ZB (by omega) (by omega)];unfold inR Qa;by_cases c:0<=i
  ·obtain ⟨m,rfl⟩:∃m:Nat,i=(m:Int):=⟨i.toNat,by omega⟩
   by_cases c2:m < x.lights.length
   ·have hv:x.lights[m]? =some x.lights[m]:=Ua c2;simp [show (m:Int)<=(x.lights.length:Int) - 1 by omega,Zh hv,hv]
   ·have hv:x.lights[m]? =none:=UP (by omega);simp [show ¬(m:Int)<=(x.lights.length:Int) - 1 by omega,hv]
  ·simp [c]
theorem ZsM (l:List Note) (i s:Int) (h:Sm l/\∀y∈l,XC y):Zfo l i s=some (Jh l i s):=by
 unfold Zfo Jh;simp only [Zt,Zk,Zp,Zr,Zv,Z0,Z5,Z1,Znf l s h,Zc,JN,Ja,JO,Zo,ZrW,Zsm];rcases J7 l s with ⟨h1,h2⟩ | ⟨j,x,h1,h2,h3,_⟩
 ·simp [h1,h2]
 ·simp only [h2,h3,show ¬((j:Int) < 0) by omega,U3,Zf,Zh h1]
def Ji (l:List Note) (i:Int):Nat->Nat
 | 0=>0
 |k + 1=>match l[k]? with
  |some e=>if Qa e i=1 then Ji l i k else k + 1
  |none=>k + 1
def Zcj (l:List Note) (k:Nat):Int:=match l[k]? with |some e=>e.second |none=>0
def VU (l:List Note) (i s:Int):Int:=if Jh l i s=1 then W (s - Zcj l (Ji l i (QY l s).toNat)) else -1
theorem ZCn (l:List Note) (i s:Int) (h:Sm l/\∀y∈l,XC y):Zi3 l i s=some (VU l i s):=by
 have hl:=h.1;unfold Sm at hl;unfold Zi3 VU Jh;simp only [Zt,Zk,Zp,Zr,Zv,Z0,Z5,Z1,Znf l s h,Zc,JN,Ja,JO,Zo,ZrW,Zsm];rcases J7 l s with ⟨h1,h2⟩ | ⟨j,x,h1,h2,h3,_⟩
 ·simp [h1,h2]
 ·have hj:=(List.getElem?_eq_some_iff.1 h1).1;simp only [h2,h3,show ¬((j:Int) < 0) by omega,U3,Zf,Zh h1,Uy];by_cases c:Qa x i=1
  ·simp only [c,MO,Zf,U2];refine (ZsL (fun k=>(l,i,s,(k:Int))) (fun k=>if k<=j then some (W (s - Zcj l (Ji l i k))) else none) j (by omega) rfl ?_ ?_).trans (by simp)
   ·intro rec;have hz:l[0]? =some l[0]:=Ua (by omega);simp [Ji,Zcj,Zfv hz,hz]
   ·intro rec k hk hr;have hk1:W (((k + 1:Nat):Int) - 1)=(k:Int):=by rw [ZB (by omega) (by omega)];omega
    have hz:l[k]? =some l[k]:=Ua (by omega);have hz1:l[k + 1]? =some l[k + 1]:=Ua (by omega);simp only [hk1,Zh hz,Zh hz1,show ((k + 1:Nat):Int) > 0 by omega,Mo,Zn,hr,Ji,hz,Uh (show k + 1<=j by omega),Uh (show k<=j by omega)];by_cases c2:Qa l[k] i=1
    ·simp [c2]
    ·have c3:(Qa l[k] i==1)=false:=by simp [c2]
     simp only [c3,Zf,Uf c2];simp [Zcj,hz1]
  ·have:(Qa x i != 1)=true:=by simp [c]
   simp [this,c]
theorem ZCo (l:List Note) (i s:Int) (h:Sm l/\∀y∈l,XC y):Zig l i s=some (VU l i s):=by
 have hl:=h.1;unfold Sm at hl;unfold Zig VU;simp only [Zt,Zk,Zp,Zr,Zv,Z0,Z5,Z1,ZCm l i s h,ZsI l s h,Zc,JN,Ja,JO,Yw];by_cases c:Jh l i s=1
 ·simp only [c,MO,Zf,U2];unfold Jh at c;rcases J7 l s with ⟨h1,h2⟩ | ⟨j,x,h1,h2,h3,hR⟩
  ·rw [h1] at c;simp at c
  rw [h3] at c;have hj:=(List.getElem?_eq_some_iff.1 h1).1;have hL:=Zfz hR;obtain ⟨m,rfl,hm⟩:=ZCl (e:=x) (i:=i) (by simp only at c;rw [c];omega);rw [(hL x (Yb h1)).1] at hm;rw [h2];refine (ZsL (fun k=>(l,(m:Int),s,(k:Int))) (fun k=>if k<=j then some (W (s - Zcj l (Ji l (m:Int) k))) else none) j (by omega) rfl ?_ ?_).trans (by simp)
  ·intro rec;have hz:l[0]? =some l[0]:=Ua (by omega);simp [Ji,Zcj,Zfv hz,hz]
  ·intro rec k hk hr;have hk1:W (((k + 1:Nat):Int) - 1)=(k:Int):=by rw [ZB (by omega) (by omega)];omega
   have hz:l[k]? =some l[k]:=Ua (by omega);have hz1:l[k + 1]? =some l[k + 1]:=Ua (by omega);have hmk:m < l[k].lights.length:=by rw [(hL _ (Yb hz)).1];exact hm
   have hv:l[k].lights[m]? =some l[k].lights[m]:=Ua hmk;simp only [hk1,Zh hz,Zh hz1,Zh hv,show ((k + 1:Nat):Int) > 0 by omega,Mo,Zn,hr,Ji,hz,Zjy hv,Uh (show k + 1<=j by omega),Uh (show k<=j by omega)];by_cases c2:l[k].lights[m]=1
   ·simp [c2]
   ·have c3:(l[k].lights[m]==1)=false:=by simp [c2]
    simp only [c3,Zf,Uf c2];simp [Zcj,hz1]
 ·have:(Jh l i s != 1)=true:=by simp [c]
  simp [this,c]
def goO (a:Path):List (Path×Int)->Int->Int
 | [],o=>o
 |x::r,o=>goO a r (if o=0/\x.2≠0/\Z2 a x.1=true then x.1.id else o)
def ZfH:Report:=⟨0,0,0,0,0⟩
def Y0 (t:Town) (p s:Int):Report×Bool:=
 if ZS t=false\/ZD t.paths p < 0\/t.now < s then (ZfH,false) else
 match Zci t.record s with
 |none=>(ZfH,false)
 |some e=>(⟨p,s,Qa e (ZD t.paths p),VU t.record (ZD t.paths p) s,goO (ZQ t.paths p) (t.paths.zip e.lights) 0⟩,true)
theorem Znh {t:Town} (h:ZS t=true) {e:Note} (he:e∈t.record):e.lights.length=t.paths.length/\∀v∈e.lights,0<=v:=by
 simp only [ZS,Ub,UG] at h;obtain ⟨⟨⟨⟨⟨⟨⟨⟨⟨⟨h1,h2⟩,h3⟩,h4⟩,h5⟩,h6⟩,h7⟩,h8⟩,h9⟩,h10⟩,h11⟩:=h;have:=Zfz h5 e he;exact ⟨this.1.trans h8,this.2.2.2⟩
theorem Zni (t:Town) (p s:Int) (h:Zw t):ZaR t p s=some (Y0 t p s):=by
 obtain ⟨h0,h1,h2,h3,h4⟩:=h;have hp:=h0;unfold Sm at hp;unfold ZaR ZmJ Y0;simp only [Zt,Zk,Zp,Zr,Zv,Zs,Zo,ZP,Z3,Z0,Z5,Z1,Zy,ZX,XE _ _ h0,KQ t ⟨h0,h1,h2,h3,h4⟩,Zjx _ _ h4,ZCo _ _ _ h4,Zc,ZZ,Yw,Xn];cases hT:ZS t with
 |false=>rfl
 |true=>
 by_cases hf:ZD t.paths p < 0
 ·simp [hf];rfl
 by_cases hn:t.now < s
 ·simp [hf,hn];rfl
 simp only [hf,hn,U3,Zf,Uk,gt_iff_lt,false_or,Bool.true_eq_false,Mx,Qd];rcases J7 t.record s with ⟨c1,c2⟩ | ⟨j,x,c1,c2,c3,_⟩
 ·simp only [c1];rfl
 simp only [c3,Uk,Zf];obtain ⟨k,y,k1,k2,k3⟩:=J4 hf;obtain ⟨q1,q2⟩:=Znh hT (Yb c1);have hkl:=(List.getElem?_eq_some_iff.1 k1).1;have hv:x.lights[k]? =some x.lights[k]:=Ua (by omega);have hpa:ZQ t.paths p=y:=by unfold ZQ;rw [k2,Uy,k1];rfl
 rw [k2,Zh hv,Zjy hv,hpa];have hz:(t.paths.zip x.lights).length=t.paths.length:=by rw [Fe];omega
 refine (Yd (t.paths.zip x.lights) (by omega) (fun n o=>(((k:Int),x.lights,(n:Int)),t,ZfH,(⟨p,s,x.lights[k],VU t.record (k:Int) s,o⟩:Report))) 0 (fun r _ o=>some ((⟨p,s,x.lights[k],VU t.record (k:Int) s,goO y r o⟩:Report),true)) ?_ ?_ ?_).trans rfl
 ·rfl
 ·intro rec o;simp [goO,hz,q1]
 ·intro rec n z o hz1 hn1 hr;simp only [Up] at hr;obtain ⟨z1,z2⟩:=Za4 hz1;have hn2:n < x.lights.length:=by omega
  simp [hn2,Zh z1,Zh z2,Zh k1,ZfC,Zq (show n<=9223372036854775806 by omega),goO];by_cases o0:o=0
  ·subst o0;by_cases l0:z.2=0
   ·simp [l0,hr]
   ·have:(z.2 != 0)=true:=by simp [l0]
    simp [this,l0];cases Z2 y z.1 <;> simp [hr]
  ·have:(o==0)=false:=by simp [o0]
   simp [this,o0,hr]
theorem Znj (t:Town) (p s:Int) (h:Zw t):Zdw t p s=some (Y0 t p s):=by
 obtain ⟨h0,h1,h2,h3,h4⟩:=h;have hp:=h0;unfold Sm at hp;unfold Zdw Y0;simp only [Zt,Zk,Zp,Zr,Zv,Zs,Zo,ZP,Z3,Z0,Z5,Z1,Zy,ZX,Qb _ _ h0,KR t ⟨h0,h1,h2,h3,h4⟩,ZsM _ _ _ h4,ZCn _ _ _ h4,Zc,YG,Yw,Xn];cases hT:ZS t with
 |false=>rfl
 |true=>
 by_cases hf:ZD t.paths p < 0
 ·simp [hf];rfl
 by_cases hn:t.now < s
 ·simp [hf,hn];rfl
 simp only [hf,hn,U3,Zf,Uk,gt_iff_lt,false_or,Bool.true_eq_false,Mx,Jh];rcases J7 t.record s with ⟨c1,c2⟩ | ⟨j,x,c1,c2,c3,_⟩
 ·simp only [c1];rfl
 simp only [c3];obtain ⟨k,y,k1,k2,k3⟩:=J4 hf;obtain ⟨q1,q2⟩:=Znh hT (Yb c1);have hkl:=(List.getElem?_eq_some_iff.1 k1).1;have hv:x.lights[k]? =some x.lights[k]:=Ua (by omega);have hpa:ZQ t.paths p=y:=by unfold ZQ;rw [k2,Uy,k1];rfl
 rw [k2,Zjy hv,hpa];have hge:¬x.lights[k] < 0:=by have:=q2 _ (Yb hv);omega
 simp only [hge,U3,Zf];have hz:(t.paths.zip x.lights).length=t.paths.length:=by rw [Fe];omega
 refine (Yd (t.paths.zip x.lights) (by omega) (fun n o=>((s,(k:Int),t.paths,(t.paths.length:Int),(n:Int)),t,ZfH,(⟨p,s,x.lights[k],VU t.record (k:Int) s,o⟩:Report))) 0 (fun r _ o=>some ((⟨p,s,x.lights[k],VU t.record (k:Int) s,goO y r o⟩:Report),true)) ?_ ?_ ?_).trans rfl
 ·rfl
 ·intro rec o;simp [goO,hz]
 ·intro rec n z o hz1 hn1 hr;simp only [Up] at hr;obtain ⟨z1,z2⟩:=Za4 hz1;have hn2:n < t.paths.length:=by omega
  simp [hn2,Zh z1,Zh k1,Zdx,ZsM _ _ _ h4,Jh,c3,Zjy z2,Zq (show n<=9223372036854775806 by omega),goO];by_cases o0:o=0
  ·subst o0;by_cases l0:z.2=0
   ·simp [l0];cases Z2 y z.1 <;> simp [hr]
   ·have:(z.2 != 0)=true:=by simp [l0]
    simp [this,l0];cases Z2 y z.1 <;> simp [hr]
  ·have:(o==0)=false:=by simp [o0]
   simp [this,o0,hr]
def brk (a:Lamp) (path colour:Int):Bool:=a.path==path && (a.colour==colour && a.broken)
def broken (x:List Lamp) (path colour:Int):Bool:=x.any fun a=>brk a path colour
theorem ZCp {α V:Type} (l:List α) (p:α->Bool) (hl:l.length<=1099511627776) (st:Nat->V) {F:(V->Option Bool)->V->Option Bool} {v:V} (hv:v=st 0)
  (h0:∀rec,F rec (st l.length)=some false)
  (h1:∀rec k x,l[k]? =some x->k < l.length->F rec (st k)=if p x=true then some true else rec (st (k + 1))):Ze F NN v=some (l.any p):=by
 refine (Yd l (by omega) (fun k (_:Unit)=>st k) () (fun s _ _=>some (s.any p)) hv ?_ ?_).trans rfl
 ·intro rec _;rw [h0];rfl
 ·intro rec k x _ hx hk hr;rw [h1 rec k x hx hk,Ff];cases p x with
  |true=>simp
  |false=>simpa using hr ()
theorem ZCq (x:List Lamp) (path colour:Int) (h:Sm x):ZeV x path colour=some (broken x path colour):=by
 unfold Sm at h;unfold ZeV broken;simp only [Z3,ZeB];refine ZCp x (fun a=>brk a path colour) (by omega) (fun k=>(x,path,colour,(k:Int))) rfl ?_ ?_
 ·intro rec;simp
 ·intro rec k a ha hk;simp only [brk];simp [hk,Zh ha,Zq (show k<=9223372036854775806 by omega)];by_cases c1:a.path=path
  ·by_cases c2:a.colour=colour
   ·cases hb:a.broken <;> simp [c1,c2]
   ·simp [c1,c2,show (a.colour==colour)=false by simp [c2]]
  ·simp [c1,show (a.path==path)=false by simp [c1]]
theorem ZCr (x:List Lamp) (path colour:Int) (h:Sm x):Zfh x path colour=some (broken x path colour):=by
 unfold Sm at h;unfold Zfh ZmX ZmW broken;simp only [Z3,ZeB,Za1];generalize hI:Ze (_:((List Lamp×Int×Int)×Lamp->Option Int)->_->Option Int) NN _=J0;have hI':J0=match x.findIdx? (fun a=>brk a path colour) with |some i=>some (i:Int) |none=>some (-1):=by
  rw [←hI];refine Zcf x (fun a=>brk a path colour) (by omega) (fun k=>((x,(x.length:Int),(k:Int)),(⟨path,colour,true⟩:Lamp))) (fun i=>some (i:Int)) (some (-1)) rfl ?_ ?_
  ·intro rec;simp
  ·intro rec k a ha hk;have e:eqB [I path,I colour,Bl true] [I a.path,I a.colour,Bl a.broken]=brk a path colour:=by
    show (path==a.path && (colour==a.colour && (true==a.broken)))=(a.path==path && (a.colour==colour && a.broken))
    rw [Bool.eq_iff_iff];simp only [Ub,Fz];exact ⟨fun ⟨h1,h2,h3⟩=>⟨h1.symm,h2.symm,h3.symm⟩,fun ⟨h1,h2,h3⟩=>⟨h1.symm,h2.symm,h3.symm⟩⟩
   simp [hk,Zh ha,e,Zq (show k<=9223372036854775806 by omega),ZG]
 rw [hI',←Zce];cases x.findIdx? (fun a=>brk a path colour) <;> simp
def ZfI (x:List Lamp) (z:Path×Int):Int:=if (z.2=0\/z.2=1)/\broken x z.1.id z.2=true then -1 else z.2
def ZdB (l:List Path) (x:List Lamp) (v:List Int):List Int:=if v.length=l.length then (l.zip v).map (ZfI x) else []
theorem ZCs (l:List Path) (x:List Lamp) (v:List Int) (h:Sm l) (hx:Sm x):ZhU l x v=some (ZdB l x v):=by
 have hl:=h;unfold Sm at hl;unfold ZhU ZdB;simp only [Zt,Zk,Zp,Zr,Zv,Zs,Z3,Zo,YG,ZZ];by_cases c:v.length=l.length
 ·rw [Uh c];have hz:(l.zip v).length=l.length:=by rw [Fe];omega
  refine Zdy (l.zip v) (ZfI x) (by omega) (fun k acc=>(l,x,v,acc,(k:Int))) some rfl ?_ ?_
  ·intro rec acc ha;simp [hz]
  ·intro rec k z acc hzk hk ha;obtain ⟨z1,z2⟩:=Za4 hzk;simp [show k < l.length by omega,c,Zh z1,Zh z2,ZCq x _ _ hx,Zq (show k<=9223372036854775806 by omega),ha,show (k + 1) * 8<=140737488355328 by omega,show k<=1152921504606846975 by omega,ZfI];by_cases a0:z.2=0
   ·simp [a0];cases broken x z.1.id 0 <;> simp
   ·by_cases a1:z.2=1
    ·simp [a1];cases broken x z.1.id 1 <;> simp
    ·simp [a0,a1,show (z.2==0)=false by simp [a0],show (z.2==1)=false by simp [a1]]
 ·rw [Uf c];refine (Yd l (by omega) (fun k (_:Unit)=>(l,x,v,([]:List Int),(k:Int))) () (fun _ _ _=>some []) rfl ?_ ?_).trans rfl
  ·intro rec _;simp
  ·intro rec k p _ hp hk hr;have:((v.length:Int)==(l.length:Int))=false:=by simp;omega
   simp [hk,this]
theorem ZCt (l:List Path) (x:List Lamp) (v:List Int) (h:Sm l) (hx:Sm x):ZiS l x v=some (ZdB l x v):=by
 have hl:=h;unfold Sm at hl;unfold ZiS ZdB;simp only [Zt,Zk,Zp,Zr,Zv,Zs,Z3,Zo,YG,ZZ];by_cases c:v.length=l.length
 ·rw [Uh c,show (((v.length:Nat):Int) != ((l.length:Nat):Int))=false by simp [c],Zf];have hz:(l.zip v).length=l.length:=by rw [Fe];omega
  refine Zdy (l.zip v) (ZfI x) (by omega) (fun k acc=>(x,v,acc,l,(l.length:Int),(k:Int))) some rfl ?_ ?_
  ·intro rec acc ha;simp [hz]
  ·intro rec k z acc hzk hk ha;obtain ⟨z1,z2⟩:=Za4 hzk;simp [show k < l.length by omega,Zh z1,Zh z2,ZCr x _ _ hx,Zq (show k<=9223372036854775806 by omega),ha,show (k + 1) * 8<=140737488355328 by omega,show k<=1152921504606846975 by omega,ZfI];by_cases a0:z.2=0
   ·simp [a0];cases broken x z.1.id 0 <;> simp
   ·by_cases a1:z.2=1
    ·simp [a1];cases broken x z.1.id 1 <;> simp
    ·simp [a0,a1,show (z.2==0)=false by simp [a0],show (z.2==1)=false by simp [a1]]
 ·rw [Uf c,show (((v.length:Nat):Int) != ((l.length:Nat):Int))=true by simp;omega,Zn]
def Zck (t:Town):List Int:=if Yc t.paths t.lamps t.power=0 then ZdB t.paths t.lamps (YA t) else t.paths.map fun _=> -1
theorem ZCu (t:Town) (h:Zw t):ZhV t=some (Zck t):=by
 have h':=h;obtain ⟨h0,h1,h2,h3,h4⟩:=h;have e1:QR t=some (Yc t.paths t.lamps t.power):=by unfold QR;simp [Zjq _ _ _ h0 h3]
 unfold ZhV Zck;simp only [Zt,Zk,Zp,Zr,Zv,Zs,ZP,Z3,Zo,Z0,Z5,Z1,Zy,ZX,e1,Zc,Za1,ZfE t h',ZCs _ _ _ h0 h3,ZsB t _ h0,ZG,Fz];split <;> rfl
theorem ZCv (t:Town) (h:Zw t):ZiT t=some (Zck t):=by
 have h':=h;obtain ⟨h0,h1,h2,h3,h4⟩:=h;have e1:QV t=some (Yc t.paths t.lamps t.power):=by unfold QV;simp [Zjr _ _ _ h0 h3]
 unfold ZiT Zck;simp only [Zt,Zk,Zp,Zr,Zv,Zs,ZP,Z3,Zo,Z0,Z5,Z1,Zy,ZX,e1,Zc,Za1,ZfF t h',ZCt _ _ _ h0 h3,ZsA _ _ h0,ZG,bne_iff_ne];by_cases c:Yc t.paths t.lamps t.power=0 <;> simp [c]
theorem ZCw (t:Town) (h:Zw t):Sm (Zck t):=by
 have h0:=h.1;unfold Sm Zck ZdB at *
 split
 ·split
  ·simp;omega
  ·simp
 ·simpa using h0
def Vp (l:List Path) (x:Int):Bool:= !decide (ZD l x < 0) && (ZQ l x).kind==2
def YS (l:List Path) (ids:List Int):Int:=if ids.all (fun x=> !Vp l x)=true then 5 else 7
theorem Zjz (l:List Path) (ids:List Int) (h:Sm l) (hi:Sm ids):ZbX l ids=some (YS l ids):=by
 unfold Sm at hi;unfold ZbX YS;simp only [Zt,Zk,Zp,Zr,Zv,Zs,Zo,ZZ];refine (Xq ids (fun x=> !Vp l x) (by omega) (fun k=>(l,ids,(k:Int))) (some 5) (some 7) rfl ?_ ?_).trans (by split <;> rfl)
 ·intro rec;simp
 ·intro rec k x hx hk;simp [hk,Zh hx,Zq (show k<=9223372036854775806 by omega),XE l _ h,Vp];by_cases c:ZD l x < 0
  ·have:¬(0<=ZD l x):=by omega
   simp [c,this,ZG]
  ·have:0<=ZD l x:=by omega
   simp [c,this,ZG,Y8 c]
theorem ZjA (l:List Path) (ids:List Int) (h:Sm l) (hi:Sm ids):Zb6 l ids=some (YS l ids):=by
 unfold Sm at hi;unfold Zb6 YS;simp only [Zt,Zk,Zp,Zr,Zv,Zs,Zo,ZZ];refine (Xq ids (fun x=> !Vp l x) (by omega) (fun k=>(l,ids,(ids.length:Int),(k:Int))) (some 5) (some 7) rfl ?_ ?_).trans (by split <;> rfl)
 ·intro rec;simp
 ·intro rec k x hx hk;simp [hk,Zh hx,Zq (show k<=9223372036854775806 by omega),Qb l _ h,Vp];by_cases c:ZD l x < 0
  ·have:¬(0<=ZD l x):=by omega
   simp [c,this,ZG]
  ·have:0<=ZD l x:=by omega
   simp [c,this,ZG,Y8 c]
def SmS (st:List (List Int)):Prop:=Sm st/\∀y∈st,Sm y
def cov (st:List (List Int)) (id:Int):Bool:=st.any fun s=>has s id
def Za6 (l:List Path) (st:List (List Int)):Bool:=ZK l && (st.all (ZI l) && l.all fun p=>cov st p.id)
theorem ZsN (st:List (List Int)) (id:Int) (h:SmS st):Ze6 st id=some (cov st id):=by
 obtain ⟨h1,h2⟩:=h;unfold Sm at h1;unfold Ze6 ZmN ZmM cov;simp only [ZaH,Ve,Za1];generalize hI:Ze (_:(List (List Int)×Int×Int×Int->Option Int)->_->Option Int) NN _=I;have hI':I=match st.findIdx? (fun s=>has s id) with |some i=>some (i:Int) |none=>some (-1):=by
  rw [←hI];refine Zcf st (fun s=>has s id) (by omega) (fun k=>(st,id,(st.length:Int),(k:Int))) (fun i=>some (i:Int)) (some (-1)) rfl ?_ ?_
  ·intro rec;simp
  ·intro rec k x hx hk;simp [hk,Zh hx,Zq (show k<=9223372036854775806 by omega),ZmL,Jf x _ (h2 x (Um hx)),ZG]
 rw [hI',←Zce];cases st.findIdx? (fun s=>has s id) <;> simp
theorem ZCx (l:List Path) (st:List (List Int)) (h:Sm l) (hs:SmS st):ZiW l st=some (Za6 l st):=by
 have hs':=hs;obtain ⟨h1,h2⟩:=hs;unfold Sm at h1;have hl:=h;unfold Sm at hl;unfold ZiW Za6;simp only [Zt,Zk,Zp,Zr,Zv,Zs,ZaH,Ve,YG,JZ l h,Zc];cases ZK l with
 |false=>simp
 |true=>
 simp only [Uk,Zf];refine (Xq st (ZI l) (by omega) (fun k=>(l,st,st,(st.length:Int),(k:Int))) (some (l.all fun p=>cov st p.id)) (some false) rfl ?_ ?_).trans (by cases st.all (ZI l) <;> rfl)
 ·intro rec;simp;refine (Xq l (fun p=>cov st p.id) (by omega) (fun k=>(st,l,(l.length:Int),(k:Int))) (some true) (some false) rfl ?_ ?_).trans (by cases l.all (fun p=>cov st p.id) <;> rfl)
  ·intro rec;simp
  ·intro rec k x hx hk;simp [hk,Zh hx,Zq (show k<=9223372036854775806 by omega),ZsN st _ hs'];cases cov st x.id <;> simp
 ·intro rec k x hx hk;simp [hk,Zh hx,Zq (show k<=9223372036854775806 by omega),KM l x h (h2 x (Um hx))];cases ZI l x <;> simp
theorem ZCy (l:List Path) (st:List (List Int)) (h:Sm l) (hs:SmS st):ZhZ l st=some (Za6 l st):=by
 obtain ⟨h1,h2⟩:=hs;unfold Sm at h1;have hl:=h;unfold Sm at hl;unfold ZhZ Za6;simp only [Zt,Zk,Zp,Zr,Zv,Zs,ZaH,Ve,YG];refine (Xq st (ZI l) (by omega) (fun k=>(l,st,(k:Int))) (if (l.all fun p=>cov st p.id)=true then some (ZK l) else some false) (some false) rfl ?_ ?_).trans (by cases st.all (ZI l) <;> cases (l.all fun p=>cov st p.id) <;> cases ZK l <;> rfl)
 ·intro rec;simp;refine (Xq l (fun p=>cov st p.id) (by omega) (fun k=>(l,st,(k:Int))) (some (ZK l)) (some false) rfl ?_ ?_).trans (by simp)
  ·intro rec;simp [Je l h]
  ·intro rec k x hx hk;simp [hk];refine (Yd st (by omega) (fun j (b:Bool)=>(l,st,(k:Int),b,(j:Int))) false (fun s _ b=>if (b || cov s x.id)=true then rec (l,st,(k:Int) + 1) else some false) rfl ?_ ?_).trans (by simp)
   ·intro rec2 b;cases b <;> simp [cov,Zq (show k<=9223372036854775806 by omega)]
   ·intro rec2 j y b hy hj hr;simp only [Up] at hr;cases b with
    |true=>
     simp [hj,Zq (show j<=9223372036854775806 by omega),hr]
    |false=>
     simp [hj,Zh hy,Zh hx,Zq (show j<=9223372036854775806 by omega),QW y _ (h2 y (Um hy)),hr,cov]
 ·intro rec k x hx hk;simp [hk,Zh hx,Zq (show k<=9223372036854775806 by omega),VR l x h (h2 x (Um hx))];cases ZI l x <;> simp
def SmL (p:List Part):Prop:=Sm p/\∀y∈p,Zjf y
def Jj (l:List Path) (x:Part):Bool:= !x.stage.isEmpty && (ZI l x.stage && inR x.green (YS l x.stage) 60)
def XH (p:List Part):List (List Int):=p.map (·.stage)
def Yp (l:List Path) (p:List Part):Bool:=inR p.length 1 6 && (p.all (Jj l) && Za6 l (XH p))
theorem ZsO {p:List Part} (h:SmL p):SmS (XH p):=by
 refine ⟨by have:=h.1;unfold Sm XH at *;simpa using this,fun y hy=> ?_⟩;obtain ⟨x,hx,rfl⟩:=List.mem_map.1 hy;exact h.2 x hx
theorem ZsP (l:List (List Int)) (a:List Int):l.map (Zb (rX .shr 1 iR)).enc ++ [[.slc .shr 1 (a.map iR.enc)]]=(l ++ [a]).map (Zb (rX .shr 1 iR)).enc:=(UW (f:=(Zb (rX .shr 1 iR)).enc) (l₁:=l) (l₂:= [a])).symm
theorem ZCz (p:List Part) (h:SmL p):ZhY p=some (XH p):=by
 have h1:=h.1;unfold Sm at h1;unfold ZhY XH;simp only [Xh,ZeE];refine ZfA p (·.stage) (by omega) (fun k acc=>(p,acc,(k:Int))) some rfl ?_ ?_
 ·intro rec acc ha;simp
 ·intro rec k x acc hx hk ha;simp [ZsP,hk,Zh hx,Zq (show k<=9223372036854775806 by omega),ha,show (k + 1) * 24<=140737488355328 by omega,show k<=1152921504606846975 by omega]
theorem ZsQ (x:List Int):((x.length:Int)==0)=x.isEmpty:=by
 cases x with
 |nil=>rfl
 |cons a x=>simp;omega
theorem Znk (l:List Path) (p:List Part) (h:Sm l) (hp:SmL p):ZeW l p=some (Yp l p):=by
 have h1:=hp.1;unfold Sm at h1;unfold ZeW Yp;simp only [Zt,Zk,Zp,Zr,Zv,Zs,Xh,ZeE,Jd,Zc,inR];cases (decide (1<=(p.length:Int)) && decide ((p.length:Int)<=6)) with
 |false=>simp
 |true=>
 simp only [Uk,Zf];refine (Xq p (Jj l) (by omega) (fun k=>(l,p,(k:Int))) (some (Za6 l (XH p))) (some false) rfl ?_ ?_).trans (by cases p.all (Jj l) <;> rfl)
 ·intro rec;simp [ZCz p hp,ZCy l _ h (ZsO hp)]
 ·intro rec k x hx hk;have hx':Sm x.stage:=hp.2 x (Um hx);simp [hk,Zh hx,Zq (show k<=9223372036854775806 by omega),VR l _ h hx',Zjz l _ h hx',ZsQ,Jd];unfold Jj inR;cases x.stage.isEmpty <;> cases ZI l x.stage <;> cases decide (YS l x.stage<=x.green) <;> cases decide (x.green<=60) <;> simp
theorem ZsR (l:List Path) (p:List Part) (h:Sm l) (hp:SmL p):Zfi l p=some (Yp l p):=by
 have h1:=hp.1;unfold Sm at h1;unfold Zfi Yp;simp only [Zt,Zk,Zp,Zr,Zv,Zs,Xh,ZeE,KK,Zc,inR];cases (decide (1<=(p.length:Int)) && decide ((p.length:Int)<=6)) with
 |false=>simp
 |true=>
 simp only [Uk,Zf];refine (Yf p (by omega) (fun k acc=>(l,acc,p,(p.length:Int),(k:Int))) [] (fun k acc=>acc=XH (p.take k)) rfl (fun s _ _=>if s.all (Jj l)=true then some (Za6 l (XH p)) else some false) rfl ?_ ?_).trans (by cases p.all (Jj l) <;> rfl)
 ·intro rec acc ha;rw [MU] at ha;subst ha;simp [ZCx l _ h (ZsO hp)]
 ·intro rec k x acc ha hx hk hr;have hx':Sm x.stage:=hp.2 x (Um hx);have hal:acc.length=k:=by rw [ha];simp [XH];omega
  simp only [Up] at hr;simp [ZsP,hk,Zh hx,Zq (show k<=9223372036854775806 by omega),KM l _ h hx',ZjA l _ h hx',ZsQ,KK,hal,show (k + 1) * 24<=140737488355328 by omega,show k<=1152921504606846975 by omega,-List.all_cons,-List.all_eq_true];rw [hr _ (by rw [ha];simp [XH,MF,hx])];rw [MA];unfold Jj inR;generalize (List.drop (k + 1) p).all _=b;cases x.stage.isEmpty <;> cases ZI l x.stage <;> cases decide (YS l x.stage<=x.green) <;> cases decide (x.green<=60) <;> cases b <;> simp
theorem Znl (p:Path):0<=YY p/\YY p<=5:=by
 unfold YY;split
 ·split
  ·omega
  ·split <;> omega
 ·omega
theorem Znm {α:Type} (f:Int->α->Int) (hf:∀n x,0<=n/\n<=5->0<=f n x/\f n x<=5):∀(l:List α) (n:Int),0<=n/\n<=5->0<=l.foldl f n/\l.foldl f n<=5
 | [],n,h=>h
 |x::l,n,h=>Znm f hf l _ (hf n x h)
theorem ZCA (l:List Path) (a b:List Int):0<=Yz l a b/\Yz l a b<=5:=by
 unfold Yz;split
 ·refine Znm _ (fun n x hn=>Znm _ (fun n y hn=> ?_) _ n hn) _ 0 (by omega);unfold Vm KN;have:=Znl (ZQ l x);split
  ·split <;> omega
  ·exact hn
 ·omega
theorem ZCB (l:List Path) (ids:List Int):5<=YS l ids/\YS l ids<=7:=by
 unfold YS;split <;> omega
theorem Za7 {l:List Path} {p:List Part} (h:Yp l p=true):1<=p.length/\p.length<=6/\(∀x∈p,5<=x.green/\x.green<=60)/\ZK l=true:=by
 unfold Yp Za6 at h;simp only [Ub,MT] at h;obtain ⟨h1,h2,h3,_⟩:=h;unfold inR at h1;simp at h1;refine ⟨by omega,by omega,fun x hx=> ?_,h3⟩;have:=h2 x hx;unfold Jj inR at this;simp at this;have:=ZCB l x.stage;omega
def Jk (p:List Part) (i:Nat):Part:=(p[(i + 1) % p.length]?).getD default
def lg (l:List Path) (p:List Part) (i:Nat):Nat:=match p[i]? with
 |some x=>(x.green + Yz l x.stage (Jk p i).stage).toNat
 |none=>0
theorem ZsS {p:List Part} (h:1<=p.length) (i:Nat):p[(i + 1) % p.length]? =some (Jk p i):=by
 unfold Jk;have:(i + 1) % p.length < p.length:=Nat.mod_lt _ (by omega);rw [Ua this];rfl
theorem ZfJ {a b:Nat}:Int.tmod (a:Int) (b:Int)=((a % b:Nat):Int):=by
 rw [Int.tmod_eq_emod_of_nonneg (by omega)];omega
theorem Znn {p:List Part} (h:1<=p.length) (i:Nat) {β:Type} (K:Part->Option β):Z6 p (((i:Int) + 1) % (p.length:Int)) K=K (Jk p i):=by
 have:=Zh (ZsS h i) K;rw [Int.natCast_emod] at this;simpa using this
theorem ZsT {α:Type} {p:List α} (h:1<=p.length):¬p= []:=by intro e;rw [e] at h;simp at h
theorem ZjB {p:List Part} (hp:SmL p) (h:1<=p.length) (i:Nat):Sm (Jk p i).stage:=hp.2 _ (Um (ZsS h i))
theorem Zcl {l:List Path} {p:List Part} (h:Yp l p=true) {i:Nat} {x:Part} (hx:p[i]? =some x):((lg l p i:Nat):Int)=x.green + Yz l x.stage (Jk p i).stage/\5<=lg l p i/\lg l p i<=65:=by
 obtain ⟨h1,h2,h3,_⟩:=Za7 h;have:=h3 x (Um hx);have:=ZCA l x.stage (Jk p i).stage;unfold lg;rw [hx];simp only;omega
theorem ZsU (p:List Part) (hp:SmL p) (h1:1<=p.length) (i:Nat) (hi:i < p.length):Zfl p (i:Int)=some (Jk p i).stage:=by
 have hs:=hp.1;unfold Sm at hs;unfold Zfl;have e:Int.tmod ((i:Int) + 1) (p.length:Int)=(((i + 1) % p.length:Nat):Int):=ZfJ (a:=i + 1);simp [Zq (show i<=9223372036854775806 by omega),e,Znn h1 i,show ¬p.length=0 by omega]
theorem ZsV (l:List Path) (p:List Part) (h:Sm l) (hp:SmL p) (hpl:Yp l p=true) (i:Nat) (hi:i < p.length):Zdr l p (i:Int)=some (lg l p i:Int):=by
 obtain ⟨h1,_,_,_⟩:=Za7 hpl;have hx:p[i]? =some p[i]:=Ua hi;obtain ⟨e1,e2,e3⟩:=Zcl hpl hx;unfold Zdr;simp [Zh hx,ZsU p hp h1 i hi,Zjn l _ _ h (hp.2 _ (Um hx)) (ZjB hp h1 i)];rw [←e1,ZB (by omega) (by omega)]
theorem ZsW (l:List Path) (p:List Part) (h:Sm l) (hp:SmL p) (hpl:Yp l p=true) (i:Nat) (hi:i < p.length):Zib l p (i:Int)=some (lg l p i:Int):=by
 have hs:=hp.1;unfold Sm at hs;obtain ⟨h1,_,_,_⟩:=Za7 hpl;have hx:p[i]? =some p[i]:=Ua hi;obtain ⟨e1,e2,e3⟩:=Zcl hpl hx;have e:Int.tmod ((i:Int) + 1) (p.length:Int)=(((i + 1) % p.length:Nat):Int):=ZfJ (a:=i + 1);unfold Zib;simp [Zh hx,Zq (show i<=9223372036854775806 by omega),e,Znn h1 i,Zjo l _ _ h (hp.2 _ (Um hx)) (ZjB hp h1 i)];rw [Zl (ZsT h1),←e1,ZB (by omega) (by omega)]
def Yq (l:List Path) (p:List Part):List Nat:=(List.range p.length).map (lg l p)
def cyc (l:List Path) (p:List Part):Nat:=if Yp l p=true then (Yq l p).sum else 0
theorem ZCC (l:List Nat) (k:Nat) (x:Nat) (hx:l[k]? =some x):(l.take (k + 1)).sum=(l.take k).sum + x:=by
 rw [MF,hx];simp
theorem Zno {l:List Path} {p:List Part} {k:Nat} (h:k < p.length):(Yq l p)[k]? =some (lg l p k):=by
 unfold Yq;simp [h]
theorem ZdC (l:List Path) (p:List Part):(Yq l p).length=p.length:=by unfold Yq;simp
theorem ZCD (l:List Nat) (c:Nat) (h:∀x∈l,x<=c):l.sum<=l.length * c:=by
 induction l with
 |nil=>simp
 |cons x l ih=>
  have h1:=h x (Un ..);have h2:=ih fun y hy=>h y (Ui _ hy)
  simp only [List.sum_cons,UK,UY,MK];omega
theorem ZsX {l:List Path} {p:List Part} (h:Yp l p=true) (k:Nat):((Yq l p).take k).sum<=390:=by
 have h1:=ZCD ((Yq l p).take k) 65 (fun x hx=>by
  have:=MJ hx;unfold Yq at this;obtain ⟨i,hi,rfl⟩:=List.mem_map.1 this;have hi':i < p.length:=by simpa using hi
  exact (Zcl h (Ua hi')).2.2)
 have h2:((Yq l p).take k).length<=6:=by
  have:=(Za7 h).2.1;rw [Uc,ZdC];omega
 have:=UL 65 h2;omega
theorem ZdD {l:List Path} {p:List Part} (h:Yp l p=true):5<=cyc l p/\cyc l p<=390:=by
 have h1:=(Za7 h).1;unfold cyc;rw [Uh h];have e:=ZsX h p.length;rw [U0 (by rw [ZdC];omega)] at e;refine ⟨?_,e⟩;have h0:(Yq l p)[0]? =some (lg l p 0):=Zno (by omega);have h2:=(Zcl h (Ua (show 0 < p.length by omega))).2.1;cases hl:Yq l p with
 |nil=>rw [hl] at h0;cases h0
 |cons x r=>
  rw [hl] at h0;simp at h0;subst h0;simp only [List.sum_cons];omega
theorem Znp (l:List Path) (p:List Part) (h:Sm l) (hp:SmL p):Zfm l p=some (cyc l p:Int):=by
 have hs:=hp.1;unfold Sm at hs;unfold Zfm;simp only [Zs,Xh,ZeE,ZsR l p h hp,Zc];cases hpl:Yp l p with
 |false=>simp [cyc,hpl]
 |true=>
 simp only [Uk,Zf];refine (Yf p (by omega) (fun k acc=>(l,p,acc,(p.length:Int),(k:Int))) (0:Int) (fun k acc=>acc=(((Yq l p).take k).sum:Nat)) (by simp) (fun _ _ _=>some (cyc l p:Int)) rfl ?_ ?_).trans rfl
 ·intro rec acc ha;rw [U0 (by rw [ZdC];omega)] at ha;simp [ha,cyc,hpl]
 ·intro rec k x acc ha hx hk hr;simp only [Up] at hr;have e:=ZsX hpl k;have e2:=(Zcl hpl hx).2.2;simp [hk,ZsV l p h hp hpl k hk,Zq (show k<=9223372036854775806 by omega)];rw [ZB (by omega) (by omega)];exact hr _ (by rw [ha,ZCC _ _ _ (Zno hk)];omega)
def li (l:List Path) (p:List Part) (id:Int) (i s:Nat):Int:=match p[i]? with
 |some x=>if has x.stage id=true then (if (s:Int) < x.green\/has (Jk p i).stage id=true then 1 else if (s:Int) < x.green + YY (ZQ l id) then 2 else 0) else 0
 |none=>0
theorem ZCE (l:List Path) (p:List Part) (h:Sm l) (hp:SmL p) (hpl:Yp l p=true) (id:Int) (hid:¬ZD l id < 0) (i s:Nat) (hi:i < p.length):Zic l p (i:Int) (s:Int) id=some (li l p id i s):=by
 have hs:=hp.1;unfold Sm at hs;obtain ⟨h1,_,h3,_⟩:=Za7 hpl;have hx:p[i]? =some p[i]:=Ua hi;have hg:=h3 _ (Um hx);have hc:=Znl (ZQ l id);have e:Int.tmod ((i:Int) + 1) (p.length:Int)=(((i + 1) % p.length:Nat):Int):=ZfJ (a:=i + 1);unfold Zic li;rw [hx];simp [Zh hx,Zq (show i<=9223372036854775806 by omega),e,Znn h1 i,QW _ _ (hp.2 _ (Um hx)),QW _ _ (ZjB hp h1 i),XE l _ h,Y8 hid,Zm2,ZB (show -9223372036854775808<=p[i].green + YY (ZQ l id) by omega) (by omega)];rw [Zl (ZsT h1)];cases has p[i].stage id with
 |false=>simp
 |true=>
  simp [ZG];by_cases c1:(s:Int) < p[i].green
  ·simp [c1]
  ·simp [c1];cases has (Jk p i).stage id with
   |true=>simp
   |false=>
    simp;by_cases c2:(s:Int) < p[i].green + YY (ZQ l id) <;> simp [c2]
def goA:List Nat->Nat->Nat->Nat×Nat
 | [],s,i=>(i,s)
 |n::r,s,i=>if s < n then (i,s) else goA r (s - n) (i + 1)
theorem ZsY:∀(r:List Nat) (s i:Nat),s < r.sum->(goA r s i).1 < i + r.length/\i<=(goA r s i).1
 | [],s,i,h=>by simp at h
 |n::r,s,i,h=>by
  unfold goA;split
  ·simp
  ·have:=ZsY r (s - n) (i + 1) (by simp at h;omega);simp only [UK];omega
theorem ZsZ {V:Type} {F:(V->Option (Int×Int))->V->Option (Int×Int)} (L:List Nat) (st:Int->Int->V) (hl:L.sum<=390)
  (h1:∀rec (i s:Nat) n,L[i]? =some n->s<=390->F rec (st (s:Int) (i:Int))=if s < n then some ((i:Int),(s:Int)) else rec (st ((s - n:Nat):Int) ((i + 1:Nat):Int))):
  ∀(m:Nat) (i s:Nat),L.length - i < m->s < (L.drop i).sum->Ze F m (st (s:Int) (i:Int))=some (((goA (L.drop i) s i).1:Int),((goA (L.drop i) s i).2:Int))
 | 0,i,s,hm,_=>by omega
 |m + 1,i,s,hm,hs=>by
  rw [Vd];rcases U7 i L.length with hlt |hge
  ·have hx:L[i]? =some L[i]:=Ua hlt;have hle:(L.drop i).sum<=L.sum:=by
    conv=>rhs;rw [←Uq i L]
    rw [List.sum_append];omega
   rw [h1 _ i s _ hx (by omega)];rw [UH hlt] at hs ⊢;simp only [List.sum_cons] at hs;unfold goA;split
   ·rfl
   ·exact ZsZ L st hl h1 m (i + 1) (s - L[i]) (by omega) (by omega)
  ·rw [List.drop_of_length_le hge] at hs;simp at hs
theorem ZCF {V:Type} (L:List Nat) (st:Int->Int->V) (hl:L.sum<=390) (hl2:L.length<=1048576) {F:(V->Option (Int×Int))->V->Option (Int×Int)} {v:V} (t:Nat) (ht:t < L.sum) (hv:v=st (t:Int) 0)
  (h1:∀rec (i s:Nat) n,L[i]? =some n->s<=390->F rec (st (s:Int) (i:Int))=if s < n then some ((i:Int),(s:Int)) else rec (st ((s - n:Nat):Int) ((i + 1:Nat):Int))):
  Ze F NN v=some (((goA L t 0).1:Int),((goA L t 0).2:Int)):=by
 rw [hv];exact ZsZ L st hl h1 NN 0 t (KG (by omega)) (by simpa using ht)
theorem ZCG (l:List Path) (p:List Part) (h:Sm l) (hp:SmL p) (hpl:Yp l p=true) (t:Nat) (ht:t < cyc l p):Zi0 l p (t:Int)=some (((goA (Yq l p) t 0).1:Int),((goA (Yq l p) t 0).2:Int)):=by
 have hs:=hp.1;unfold Sm at hs;obtain ⟨c1,c2⟩:=ZdD hpl;have hc:cyc l p=(Yq l p).sum:=by unfold cyc;rw [Uh hpl]
 have e:Int.tmod (t:Int) (cyc l p:Int)=(t:Int):=by rw [ZfJ,Nat.mod_eq_of_lt ht]
 unfold Zi0;simp [Znp l p h hp,KK,show ¬(cyc l p:Int)=0 by omega,show ((cyc l p:Int)==0)=false by simp;omega,show (t:Int)<=1000000 by omega,e,show ¬cyc l p=0 by omega,show (cyc l p==0)=false by simp;omega];refine ZCF (Yq l p) (fun s i=>(l,p,s,i)) (by omega) (by rw [ZdC];omega) t (by omega) rfl fun rec i s n hn hs'=> ?_
 have hi:i < p.length:=by
  have:=(List.getElem?_eq_some_iff.1 hn).1
  rwa [ZdC] at this
 rw [Zno hi] at hn;cases hn;have e2:=(Zcl hpl (Ua hi)).2.2;simp [ZsV l p h hp hpl i hi,Zq (show i<=9223372036854775806 by omega),ZB (show -9223372036854775808<=(s:Int) - (lg l p i:Int) by omega) (by omega),ZG];by_cases c:lg l p i<=s
 ·rw [Uh c,Uf (by omega),Int.natCast_sub c]
 ·rw [Uf c,Uh (by omega)]
theorem ZCH (l:List Path) (p:List Part) (hpl:Yp l p=true) (t:Nat) (ht:t < cyc l p):(goA (Yq l p) t 0).1 < p.length:=by
 have hc:cyc l p=(Yq l p).sum:=by unfold cyc;rw [Uh hpl]
 have:=ZsY (Yq l p) t 0 (by omega);rw [ZdC] at this;omega
theorem ZCI (l:List Path) (p:List Part) (h:Sm l) (hp:SmL p) (hpl:Yp l p=true) (id:Int) (hid:¬ZD l id < 0) (t:Nat) (ht:t < cyc l p):Zi1 l p (t:Int) id=some (li l p id (goA (Yq l p) t 0).1 (goA (Yq l p) t 0).2):=by
 have hs:=hp.1;unfold Sm at hs;have hi:=ZCH l p hpl t ht;obtain ⟨_,x,_,_,hxid⟩:=J4 hid;have hpid:(ZQ l id).id=id:=by
  obtain ⟨i,x,h1,h2,h3⟩:=J4 hid;unfold ZQ;rw [h2,Uy,h1];exact h3
 unfold Zi1 ZmY;generalize hgi:(goA (Yq l p) t 0).1=i at hi;generalize hgs:(goA (Yq l p) t 0).2=s;have hx:p[i]? =some p[i]:=Ua hi;obtain ⟨h1,_,h3,_⟩:=Za7 hpl;have hg:=h3 _ (Um hx);have hc:=Znl (ZQ l id);unfold li;rw [hx];simp [Qb l _ h,hid,Y8 hid,ZCG l p h hp hpl t ht,hgi,hgs,Zh hx,hpid,Jf _ _ (hp.2 _ (Um hx)),ZsU p hp h1 i hi,Jf _ _ (ZjB hp h1 i),Zm3,ZB (show -9223372036854775808<=p[i].green + YY (ZQ l id) by omega) (by omega),show ¬(i:Int) < 0 by omega];cases has p[i].stage id with
 |false=>simp
 |true=>
  simp [ZG];by_cases c1:(s:Int) < p[i].green
  ·simp [c1]
  ·simp [c1];cases has (Jk p i).stage id with
   |true=>simp
   |false=>
    simp;by_cases c2:(s:Int) < p[i].green + YY (ZQ l id) <;> simp [c2]
def YJ (l:List Path) (p:List Part) (id:Int):List Int:=(List.range p.length).flatMap fun i=>(List.range (lg l p i)).map fun s=>li l p id i s
theorem Zs0 {α:Type} (f:Nat->Nat->α):∀(L:List Nat) (i:Nat),(List.range L.sum).map (fun t=>f (goA L t i).1 (goA L t i).2)=(L.zipIdx i).flatMap fun x=>(List.range x.1).map fun s=>f x.2 s
 | [],i=>rfl
 |n::L,i=>by
  rw [List.sum_cons,List.range_add,UW,MQ,List.zipIdx_cons,List.flatMap_cons,←Zs0 f L (i + 1)];congr 1
  ·refine List.map_congr_left fun t ht=> ?_
   have:t < n:=by simpa using ht
   unfold goA;rw [Uh this]
  ·refine List.map_congr_left fun t _=> ?_
   have e:goA (n::L) (n + t) i=goA L t (i + 1):=by
    rw [goA,Uf (by omega)];congr 1;omega
   simp only [Function.comp_apply];rw [e]
theorem Zs1 (l:List Path) (p:List Part) (id:Int):YJ l p id=(List.range (Yq l p).sum).map fun t=>li l p id (goA (Yq l p) t 0).1 (goA (Yq l p) t 0).2:=by
 rw [Zs0 (fun i s=>li l p id i s) (Yq l p) 0];unfold YJ Yq;rw [List.zipIdx_map,List.flatMap_map];have:(List.range p.length).zipIdx 0=(List.range p.length).map fun i=>(i,i):=by
  apply UX;intro j;rw [List.getElem?_zipIdx,Mf];by_cases hj:j < p.length
  ·simp [hj]
  ·simp [hj]
 rw [this,List.flatMap_map];rfl
theorem ZfK {l:List Path} {p:List Part} (hpl:Yp l p=true) (id:Int):(YJ l p id).length=cyc l p:=by
 rw [Zs1];simp [cyc,hpl]
def QZ (l:List Path) (p:List Part) (id:Int):List Bool:=(YJ l p id).map fun x=>x==1
theorem ZCJ (l:List Path) (p:List Part) (h:Sm l) (hp:SmL p) (hpl:Yp l p=true) (id:Int) (hid:¬ZD l id < 0):Zds l p id=some (QZ l p id):=by
 have hs:=hp.1;unfold Sm at hs;obtain ⟨c1,c2⟩:=ZdD hpl;have hc:cyc l p=(Yq l p).sum:=by unfold cyc;rw [Uh hpl]
 have hgl:(QZ l p id).length=cyc l p:=by unfold QZ;rw [Ut,ZfK hpl]
 unfold Zds;simp [Qb l _ h,hid,Znp l p h hp];rw [Zl (by constructor <;> omega)];refine (Yf (QZ l p id) (by omega) (fun k acc=>((l,p,id,(cyc l p:Int),(k:Int)),acc)) (List.replicate (cyc l p) false) (fun k acc=>acc=(QZ l p id).take k ++ List.replicate ((QZ l p id).length - k) false) (by simp [hgl]) (fun _ _ _=>some (QZ l p id)) rfl ?_ ?_).trans rfl
 ·intro rec acc ha;simp [hgl,ha];rw [←hgl];simp
 ·intro rec k x acc ha hx hk hr;have hk':k < cyc l p:=by omega
  have hx':x=(li l p id (goA (Yq l p) k 0).1 (goA (Yq l p) k 0).2==1):=by
   unfold QZ at hx;rw [Zs1] at hx;simp [show k < (Yq l p).sum by omega] at hx;exact hx.symm
  have hal:k < acc.length:=by rw [ha];simp;omega
  simp only [Up] at hr;have hz:acc[k]? =some acc[k]:=Ua hal;simp [hk',ZCI l p h hp hpl id hid k hk',hal,ZbP hz,Zq (show k<=9223372036854775806 by omega),←hx'];refine hr _ ?_;rw [ha];exact ZlQ hx
theorem ZCK (l:List Path) (p:List Part) (h:Sm l) (hp:SmL p) (hpl:Yp l p=true) (id:Int) (hid:¬ZD l id < 0):Zdg l p id=some (YJ l p id):=by
 have hs:=hp.1;unfold Sm at hs;have hrl:=ZfK hpl id;obtain ⟨c1,c2⟩:=ZdD hpl;unfold Zdg;simp only [Zs,Xh,ZeE,Znk l p h hp,hpl,Zc,Uk,Zf,XE l _ h,show decide (ZD l id < 0)=false by simpa using hid];refine (Yf p (by omega) (fun k acc=>(l,p,id,acc,(k:Int))) [] (fun k acc=>acc=(List.range k).flatMap fun i=>(List.range (lg l p i)).map fun s=>li l p id i s) rfl (fun _ _ _=>some (YJ l p id)) rfl ?_ ?_).trans rfl
 ·intro rec acc ha;simp [ha,YJ]
 ·intro rec k x acc ha hx hk hr;simp only [Up] at hr;have hpre:(acc ++ (List.range (lg l p k)).map fun s=>li l p id k s)=(List.range (k + 1)).flatMap fun i=>(List.range (lg l p i)).map fun s=>li l p id i s:=by
   rw [List.range_succ,List.flatMap_append,ha];simp
  have hle:acc.length + lg l p k<=390:=by
   have e1:(acc ++ (List.range (lg l p k)).map fun s=>li l p id k s).length<=(YJ l p id).length:=by
    rw [hpre];unfold YJ;have:p.length=(k + 1) + (p.length - (k + 1)):=by omega
    conv=>rhs;rw [this,List.range_add,List.flatMap_append]
    rw [Uj];omega
   rw [hrl] at e1;simp at e1;omega
  simp [hk];refine (Yf (List.range (lg l p k)) (by have:=(Zcl hpl hx).2.2;simp;omega) (fun j b=>(l,p,id,b,(k:Int),(j:Int))) acc (fun j b=>b=acc ++ (List.range j).map fun s=>li l p id k s) (by simp) (fun _ _ _=>some (YJ l p id)) rfl ?_ ?_).trans rfl
  ·intro rec2 b hb;simp only [Fj] at hb ⊢;simp [ZsW l p h hp hpl k hk,Zq (show k<=9223372036854775806 by omega)];exact hr _ (hb.trans hpre)
  ·intro rec2 j s b hb hx2 hj hr2;have hj':j < lg l p k:=by simpa using hj
   simp only [Up] at hr2;have hbl:b.length=acc.length + j:=by rw [hb];simp
   simp [ZsW l p h hp hpl k hk,hj',ZCE l p h hp hpl id hid k j hk,Zq (show j<=9223372036854775806 by omega),show (b.length + 1) * 8<=140737488355328 by omega,show b.length<=1152921504606846975 by omega];refine hr2 _ ?_;rw [hb,List.range_succ,UW];simp
def gW (r:List Int):List Nat->Int->Int->Int
 | [],b,_=>if (r.length:Int) < b then r.length else b
 |k::ks,b,n=>if ((r[k % r.length]?).getD 0==1)=true then gW r ks (if b < 0 then 0 else b) 0 else gW r ks (if b < n + 1 then n + 1 else b) (n + 1)
def ZdE (l:List Path) (p:List Part) (id:Int):Int:=gW (YJ l p id) (List.range (2 * cyc l p)) 0 0
theorem Zs2 {k n:Nat}:Int.tmod (k:Int) (n:Int)=((k % n:Nat):Int):=ZfJ
theorem ZCL (l:List Path) (p:List Part) (h:Sm l) (hp:SmL p) (hpl:Yp l p=true) (id:Int) (hid:¬ZD l id < 0):Zdt l p id=some (ZdE l p id):=by
 have hrl:=ZfK hpl id;have hgl:(QZ l p id).length=cyc l p:=by unfold QZ;rw [Ut,ZfK hpl]
 obtain ⟨c1,c2⟩:=ZdD hpl;unfold Zdt ZdE;simp only [Zs,Xh,ZCJ l p h hp hpl id hid,Zc,Zmv,ZBn,hgl];rw [show W (2 * (cyc l p:Int))=((2 * cyc l p:Nat):Int) by rw [ZB (by omega) (by omega)];omega];refine (Yf (List.range (2 * cyc l p)) (by simp;omega) (fun k (z:Int×Int)=>(QZ l p id,z.1,z.2,((2 * cyc l p:Nat):Int),(k:Int))) ((0:Int),(0:Int)) (fun k z=>0<=z.2/\z.2<=k) (by simp) (fun ks _ z=>some (gW (YJ l p id) ks z.1 z.2)) rfl ?_ ?_).trans rfl
 ·intro rec z hz;simp [gW,hgl,hrl]
 ·intro rec k x z hz hx hk hr;have hk':k < 2 * cyc l p:=by simpa using hk
  have hxk:x=k:=by
   rw [List.getElem?_range hk'] at hx;exact (Uo hx).symm
  subst hxk;have hm:x % cyc l p < cyc l p:=Nat.mod_lt _ (by omega);have hg:(QZ l p id)[x % cyc l p]? =some (((YJ l p id)[x % cyc l p]?).getD 0==1):=by
   unfold QZ;rw [Mf,Ua (by omega)];rfl
  have hgz:∀{β:Type} (K:Bool->Option β),Z6 (QZ l p id) ((x:Int) % (cyc l p:Int)) K=K (((YJ l p id)[x % cyc l p]?).getD 0==1):=fun K=>by
   have:=Zh hg K
   rwa [Int.natCast_emod] at this
  simp only [Up] at hr;simp [hgl,show (x:Int) < 2 * (cyc l p:Int) by omega,Zs2,hgz,Zq (show x<=9223372036854775806 by omega),ZB (show -9223372036854775808<=z.2 + 1 by omega) (by omega),show ¬cyc l p=0 by omega,gW,hrl];by_cases c:((YJ l p id)[x % cyc l p]?).getD 0=1
  ·have:=hr (if z.1 < 0 then 0 else z.1,0) (by constructor <;> omega);simp [c];simpa using this
  ·have:=hr (if z.1 < z.2 + 1 then z.2 + 1 else z.1,z.2 + 1) (by constructor <;> simp <;> omega);simp [c,show (((YJ l p id)[x % cyc l p]?).getD 0==1)=false by simp [c]];simpa using this
theorem Zs3 (l:List Path) (h:Sm l):ZV l=some l:=by
 unfold Sm at h;unfold ZV;rw [Zjw]
 ·simp only [Zt,Zk,Zp,Zr,Zv,YG,ZrP,Zs,UQ];rw [Zl (by omega)]
 ·intro h0;have:l= []:=by cases l with |nil=>rfl |cons a l=>cases h0
  subst this;simp
theorem ZfL (l:List Want) (h:Sm l):JT l=some l:=by
 unfold Sm at h;unfold JT;rw [Zjw]
 ·simp only [X7,Zc6,ZP,UQ];rw [Zl (by omega)]
 ·intro h0;have:l= []:=by cases l with |nil=>rfl |cons a l=>cases h0
  subst this;simp
theorem ZCM (l:List Lamp) (h:Sm l):Zij l=some l:=by
 unfold Sm at h;unfold Zij;rw [Zjw]
 ·simp only [ZeB,ZrV,Z3,UQ];rw [Zl (by omega)]
 ·intro h0;have:l= []:=by cases l with |nil=>rfl |cons a l=>cases h0
  subst this;simp
theorem ZdF (x:Control) (h:ZY x):VK x=some x:=by
 obtain ⟨h1,h2⟩:=h;unfold Sm at h1 h2;unfold VK;simp only [Zt,Zk,Zp,Zr,Zv,ZZ,UQ,ZaG,Zo];rw [Zl (by omega),Zl (by omega)]
theorem ZfM (x:Control) (h:ZY x):JU x=some x:=by
 obtain ⟨h1,h2⟩:=h;unfold JU;simp [KS _ h1,KS _ h2]
theorem ZjC {o p q:Own} (h0:okO o p=true) (h1:okO o q=true) (l:List Note) (a:Int) (b:List Int) (c:Int) {β:Type} (K:List Note->Option β):
  rws (Zg o) (l.map (Zg p).enc ++ [[I a, .slc q 1 (b.map iR.enc),I c]]) K=K (l ++ [(⟨a,b,c⟩:Note)]):=
 (ZaD _ _ _ K).trans ((ZeC h0 l _).trans (ZBv h1 a b c fun l'=>K (l ++ l')))
@[simp] theorem ZKx (l:List Note) (a:Int) (b:List Int) (c:Int) {β:Type} (K:List Note->Option β):rws (Zg Own.shr) (l.map (Zg Own.shr).enc ++ [[I a, .slc Own.shr 1 (b.map iR.enc),I c]]) K=K (l ++ [(⟨a,b,c⟩:Note)]):=ZjC (o:= .shr) (p:= .shr) (q:= .shr) rfl rfl l a b c K
@[simp] theorem ZKy (l:List Note) (a:Int) (b:List Int) (c:Int) {β:Type} (K:List Note->Option β):rws (Zg Own.shr) (l.map (Zg Own.shr).enc ++ [[I a, .slc Own.own 1 (b.map iR.enc),I c]]) K=K (l ++ [(⟨a,b,c⟩:Note)]):=ZjC (o:= .shr) (p:= .shr) (q:= .own) rfl rfl l a b c K
@[simp] theorem ZKz (l:List Note) (a:Int) (b:List Int) (c:Int) {β:Type} (K:List Note->Option β):rws (Zg Own.own) (l.map (Zg Own.own).enc ++ [[I a, .slc Own.own 1 (b.map iR.enc),I c]]) K=K (l ++ [(⟨a,b,c⟩:Note)]):=ZjC (o:= .own) (p:= .own) (q:= .own) rfl rfl l a b c K
@[simp] theorem ZKA (l:List Note) (a:Int) (b:List Int) (c:Int) {β:Type} (K:List Note->Option β):rws (Zg Own.shr) (l.map (Zg Own.own).enc ++ [[I a, .slc Own.own 1 (b.map iR.enc),I c]]) K=K (l ++ [(⟨a,b,c⟩:Note)]):=ZjC (o:= .shr) (p:= .own) (q:= .own) rfl rfl l a b c K
abbrev SmR (l:List Note):Prop:=Sm l/\∀y∈l,XC y
theorem ZjD (l:List Note) (h:SmR l):ZaM l=some l:=by
 obtain ⟨h1,h2⟩:=h;unfold Sm at h1;unfold ZaM;simp only [Zt,Zk,Zp,Zr,Zv,Z0,Z5,Z1,Vf];refine (ZfA l id (by omega) (fun k acc=>(l,(acc,(k:Int)))) some rfl ?_ ?_).trans (by simp)
 ·intro rec acc ha;simp
 ·intro rec k x acc hx hk ha;have hs:=h2 x (Yb hx);unfold XC Sm at hs;simp [hk,Zh hx,Zq (show k<=9223372036854775806 by omega),ha,show (k + 1) * 40<=140737488355328 by omega,show k<=1152921504606846975 by omega,show x.lights.length * 8<=140737488355328 by omega,show x.lights.length<=1152921504606846976 by omega]
theorem Znq (l:List Note) (h:SmR l):Zb1 l=some l:=by
 obtain ⟨h1,h2⟩:=h;unfold Sm at h1;unfold Zb1;simp only [Zt,Zk,Zp,Zr,Zv,Z0,Z5,Z1,Vf];refine (ZfA l id (by omega) (fun k acc=>(acc,l,(l.length:Int),(k:Int))) some rfl ?_ ?_).trans (by simp)
 ·intro rec acc ha;simp
 ·intro rec k x acc hx hk ha;simp [hk,Zh hx,KS _ (h2 x (Yb hx)),Zq (show k<=9223372036854775806 by omega),ha,show (k + 1) * 40<=140737488355328 by omega,show k<=1152921504606846975 by omega]
theorem QB (t:Town) (h:Zw t):Yx t=some t:=by
 obtain ⟨h0,h1,h2,h3,h4⟩:=h;unfold Yx;simp only [Zt,Zk,Zp,Zr,Zv,Zo,Zy,ZdF _ h1,ZjD _ h4,Zc,Z0,Z5,Z1,YG,X7,ZeB,UQ,ZrP,Zc6,ZrV,Zs,ZP,Z3,ZX];unfold Sm at h0 h2 h3;rw [Zl (by omega),Zl (by omega),Zl (by omega)]
theorem Jl (t:Town) (h:Zw t):Yv t=some t:=by
 obtain ⟨h0,h1,h2,h3,h4⟩:=h;unfold Yv;simp only [Zt,Zk,Zp,Zr,Zv,Zs3 _ h0,ZfL _ h2,ZCM _ h3,Zo,Zy,ZfM _ h1,Zc,Z0,Z5,Z1,Zs,ZP,Z3,Zo,Znq _ h4,ZX]
def KT (l:List Note):Int:=match l.getLast? with |some e=>e.sig |none=>0
theorem ZdG {l:List Note} {e:Note} (h:l.getLast? =some e):l[l.length - 1]? =some e/\0 < l.length:=by
 cases l with
 |nil=>cases h
 |cons a l=>rw [List.getLast?_eq_getElem?] at h;exact ⟨h,by simp⟩
theorem ZCN (l:List Note) (h:SmR l):Zhv l=some (KT l):=by
 have h1:=h.1;unfold Sm at h1;unfold Zhv KT;simp only [Vf,JN,Ja,JO];cases hl:l.getLast? with
 |none=>
  have:l= []:=by simpa using hl
  subst this;rfl
 |some e=>
  obtain ⟨e1,e2⟩:=ZdG hl;have hk1:W ((l.length:Int) - 1)=((l.length - 1:Nat):Int):=by rw [ZB (by omega) (by omega)];omega
  rw [hk1,Zh e1,show (((l.length:Nat):Int)==0)=false from Mc.2 (by omega),Zf]
theorem ZCO (l:List Note) (h:SmR l):Zir l=some (KT l):=by
 have h1:=h.1;unfold Sm at h1;unfold Zir KT;simp only [Vf,JN,Ja,JO];cases hl:l.getLast? with
 |none=>
  have:l= []:=by simpa using hl
  subst this;rfl
 |some e=>
  obtain ⟨e1,e2⟩:=ZdG hl;have hk1:W ((l.length:Int) - 1)=((l.length - 1:Nat):Int):=by rw [ZB (by omega) (by omega)];omega
  rw [hk1,Zh e1,show (((l.length:Nat):Int)==0)=false from Mc.2 (by omega),Zf]
def ZjE (l:List Note) (s:Int) (v:List Int):Note:=⟨s,v,XD (KT l) s v⟩
def J8 (l:List Note) (s:Int) (v:List Int):List Note×Bool:=if YC (l ++ [ZjE l s v])=true then (l ++ [ZjE l s v],true) else (l,false)
theorem Znr {l:List Note} {e:Note} (h:SmR l) (hl:l.length<=1000) (he:Sm e.lights):SmR (l ++ [e]):=by
 refine ⟨by unfold Sm;simp;omega,fun y hy=> ?_⟩;rcases List.mem_append.1 hy with hy |hy
 ·exact h.2 y hy
 ·rw [Mn] at hy;subst hy;exact he
theorem Zns (l:List Note) (s:Int) (v:List Int) (h:SmR l) (hl:l.length<=1000) (hv:Sm v):JQ l s v=some (J8 l s v):=by
 have hv':=hv;unfold Sm at hv';have ho:SmR (l ++ [(⟨s,v,XD (KT l) s v⟩:Note)]):=Znr h hl hv;unfold JQ J8 ZjE;simp [ZjD l h,ZCN l h,Zsi _ s v hv,Zfx _ ho,show v.length * 8<=140737488355328 by omega,show v.length<=1152921504606846976 by omega,show (l.length + 1) * 40<=140737488355328 by omega,show l.length<=1152921504606846975 by omega];cases YC (l ++ [(⟨s,v,XD (KT l) s v⟩:Note)]) <;> simp
theorem Zs4 (l:List Note) (s:Int) (v:List Int) (h:SmR l) (hl:l.length<=1000) (hv:Sm v):Zdm l s v=some (J8 l s v):=by
 have ho:SmR (l ++ [(⟨s,v,XD (KT l) s v⟩:Note)]):=Znr h hl hv;unfold Zdm J8 ZjE;simp [Znq l h,KS v hv,ZCO l h,Zsj _ s v hv,Zfy _ ho,show (l.length + 1) * 40<=140737488355328 by omega,show l.length<=1152921504606846975 by omega];cases YC (l ++ [(⟨s,v,XD (KT l) s v⟩:Note)]) <;> simp
def XI (l:List Note) (s:Int) (v:List Int):List Note×Bool:=match l.getLast? with
 |some e=>if e.lights=v then (l,YC l && (decide (e.second < s) && inR s 0 1000000)) else J8 l s v
 |none=>J8 l s v
theorem ZCP (l:List Note) (s:Int) (v:List Int) (h:SmR l) (hl:l.length<=1000) (hv:Sm v):ZbW l s v=some (XI l s v):=by
 unfold ZbW XI;simp only [Zt,Zk,Zp,Zr,Zv,Z0,Z5,Z1,Zo,Vf,JN,Ja,JO,Zns l s v h hl hv,ZjD l h,Zfx l h,Zc];cases hg:l.getLast? with
 |none=>
  have:l= []:=by simpa using hg
  subst this;rfl
 |some e=>
  obtain ⟨e1,e2⟩:=ZdG hg;have hk1:W ((l.length:Int) - 1)=((l.length - 1:Nat):Int):=by rw [ZB (by omega) (by omega)];omega
  have he:Sm e.lights:=h.2 e (Yb e1);rw [hk1,Zh e1,show (((l.length:Nat):Int)==0)=false from Mc.2 (by omega),Zf,Zh e1];simp only [Zm5 _ v he,Zc,Jd];by_cases c:e.lights=v
  ·simp only [c,Mo,Uk,Zf];cases YC l <;> by_cases c2:e.second < s <;> simp [c2,inR]
  ·simp [c]
theorem Zs5 (l:List Note) (s:Int) (v:List Int) (h:SmR l) (hl:l.length<=1000) (hv:Sm v):QA l s v=some (XI l s v):=by
 unfold QA XI;simp only [Zt,Zk,Zp,Zr,Zv,Z0,Z5,Z1,Zo,Vf,JN,Ja,JO,Zs4 l s v h hl hv,Znq l h,Zfy l h,Zc];cases hg:l.getLast? with
 |none=>
  have:l= []:=by simpa using hg
  subst this;rfl
 |some e=>
  obtain ⟨e1,e2⟩:=ZdG hg;have hk1:W ((l.length:Int) - 1)=((l.length - 1:Nat):Int):=by rw [ZB (by omega) (by omega)];omega
  have he:Sm e.lights:=h.2 e (Yb e1);rw [hk1,Zh e1,show (((l.length:Nat):Int)==0)=false from Mc.2 (by omega),Zf,Zh e1];simp only [Zm6 _ v he,Zc,KK];by_cases c:e.lights=v
  ·simp only [c,Mo,Uk,Zf];cases YC l <;> by_cases c2:e.second < s <;> simp [c2,inR]
  ·simp [c]
theorem Znt {l:List Note} {s:Int} {v:List Int} (h:SmR l) (hl:l.length<=1000) (hv:Sm v):SmR (J8 l s v).1:=by
 unfold J8;split
 ·exact Znr h hl hv
 ·exact h
theorem Zs6 {l:List Note} {s:Int} {v:List Int} (h:SmR l) (hl:l.length<=1000) (hv:Sm v):SmR (XI l s v).1:=by
 unfold XI;split
 ·split
  ·exact h
  ·exact Znt h hl hv
 ·exact Znt h hl hv
def Vq (t:Town):List Note:=match t.record.getLast? with
 |some e=>if e.second=t.now then t.record.dropLast else t.record
 |none=>t.record
def Xr (t:Town):Town:=
 if (XI (Vq t) t.now (YA t)).2=false/\(Vq t).length=60 then {t with record:=(XI [] t.now (YA t)).1,books:=t.books + 1}
 else {t with record:=(XI (Vq t) t.now (YA t)).1}
theorem KU:SmR []:=⟨by unfold Sm;simp,fun y hy=>by cases hy⟩
theorem Znu {t:Town} (h:SmR t.record):SmR (Vq t):=by
 have h1:=h.1;unfold Sm at h1;unfold Vq;split
 ·split
  ·refine ⟨by unfold Sm;simp;omega,fun y hy=>h.2 y ((List.dropLast_sublist _).subset hy)⟩
  ·exact h
 ·exact h
theorem Znv (t:Town):(Vq t).length<=t.record.length:=by
 unfold Vq;split
 ·split
  ·simp
  ·exact Ur _
 ·exact Ur _
theorem ZjF (x:Town) (h:Zw x):Sm (YA x):=by
 have h0:=h.1;unfold Sm YA XG at *
 split
 ·split
  ·simpa using h0
  ·simp
 ·simpa using h0
theorem ZCQ {t:Town} (h:Zw t) (hl:t.record.length<=1000):Zw (Xr t):=by
 have hv:=ZjF t h;have hc:=Znv t;obtain ⟨h0,h1,h2,h3,h4⟩:=h;unfold Xr;split
 ·exact ⟨h0,h1,h2,h3,Zs6 KU (by simp) hv⟩
 ·exact ⟨h0,h1,h2,h3,Zs6 (Znu h4) (by omega) hv⟩
theorem ZCR {α:Type} (l:List α):l.take (l.length - 1)=l.dropLast:=List.dropLast_eq_take.symm
theorem Zs7 {t:Town} {e:Note} (hg:t.record.getLast? =some e):Vq t=if e.second=t.now then t.record.take (t.record.length - 1) else t.record:=by
 unfold Vq;rw [hg,ZCR]
theorem ZCS (s:Int) (v:List Int):XI [] s v=J8 [] s v:=rfl
theorem ZCT (t:Town) (h:Zw t) (hl:t.record.length<=1000) (hb:0<=t.books/\t.books<=1000):QS t=some (Xr t):=by
 have hv:=ZjF t h;have h4:=h.2.2.2.2;have hc:=Znv t;have hcs:=Znu h4;unfold QS Xr;simp only [Zt,Zk,Zp,Zr,Zv,Zs,Zo,ZP,Z3,Z0,Z5,Z1,Zy,ZX,ZfE t h,Zc,Vf,JN,Ja,JO];have last:∀l:List Note,l.length<=1000->SmR l->(bnd (ZbW l t.now (YA t)) fun r=>cnd (!r.2) (cnd ((l.length:Int)==60) (bnd (JQ [] t.now (YA t)) fun r5=>bnd (VM 1000 t.books) fun r6=>some ({t with record:=r5.1,books:=W (r6 + 1)}:Town)) (some {t with record:=r.1})) (some {t with record:=r.1}))=
   some (if (XI l t.now (YA t)).2=false/\l.length=60 then {t with record:=(XI [] t.now (YA t)).1,books:=t.books + 1} else {t with record:=(XI l t.now (YA t)).1}):=by
  intro l h1 h2;simp only [ZCP l t.now _ h2 h1 hv,Zns [] t.now _ KU (by simp) hv,Zcd,Zc,ZCS,show (if t.books < 1000 then t.books else 1000)=t.books by split <;> omega];rw [ZB (by omega) (by omega)];cases (XI l t.now (YA t)).2 <;> by_cases c:l.length=60 <;> simp [c,ZG] <;> omega
 cases hg:t.record.getLast? with
 |none=>
  have hn:t.record= []:=by simpa using hg
  have hcut:Vq t=t.record:=by unfold Vq;rw [hg]
  rw [hcut];rw [←last t.record hl h4];simp [hn]
 |some e=>
  obtain ⟨e1,e2⟩:=ZdG hg;have hk1:W ((t.record.length:Int) - 1)=((t.record.length - 1:Nat):Int):=by rw [ZB (by omega) (by omega)];omega
  rw [hk1,show decide (((t.record.length:Nat):Int) > 0)=true from Ul (by omega),Zn,Zh e1];rw [Zs7 hg] at hcs ⊢;by_cases c:e.second=t.now
  ·rw [Uh c] at hcs ⊢;simp only [c,M7,Zn];rw [Zl (by omega),Uy,show Int.toNat 0=0 from rfl,ML];simp only [Zt,Zk,Zp,Zr,Zv,ZrZ,Z0,Z5,Z1,ZjD _ hcs,Zc,Vf];exact last _ (by simp;omega) hcs
  ·rw [Uf c];simp only [show (e.second==t.now)=false from Mc.2 c,Zf];exact last _ hl h4
theorem ZCU (t:Town) (h:Zw t) (hl:t.record.length<=1000) (hb:0<=t.books/\t.books<=1000):Vi t=some (Xr t):=by
 have hv:=ZjF t h;have h4:=h.2.2.2.2;have hc:=Znv t;have hcs:=Znu h4;unfold Vi Xr;simp only [Zt,Zk,Zp,Zr,Zv,Zs,Zo,ZP,Z3,Z0,Z5,Z1,Z1,Zy,ZX,ZfF t h,Zc,Vf,Ja];have last:∀l:List Note,l.length<=1000->SmR l->(cnd ((l.length:Int)==60) (bnd (QA l t.now (YA t)) fun r=>cnd r.2 (some ({t with record:=r.1}:Town)) (bnd (QA [] t.now (YA t)) fun r4=>some {t with record:=r4.1,books:=W (t.books + 1)})) (bnd (QA l t.now (YA t)) fun r=>some {t with record:=r.1}))=
   some (if (XI l t.now (YA t)).2=false/\l.length=60 then {t with record:=(XI [] t.now (YA t)).1,books:=t.books + 1} else {t with record:=(XI l t.now (YA t)).1}):=by
  intro l h1 h2;simp only [Zs5 l t.now _ h2 h1 hv,Zs5 [] t.now _ KU (by simp) hv,Zc];rw [ZB (by omega) (by omega)];cases (XI l t.now (YA t)).2 <;> by_cases c:l.length=60 <;> simp [c,ZG] <;> omega
 cases hg:t.record.getLast? with
 |none=>
  have hn:t.record= []:=by simpa using hg
  have hcut:Vq t=t.record:=by unfold Vq;rw [hg]
  rw [hcut];rw [←last t.record hl h4];simp [hn]
 |some e=>
  obtain ⟨e1,e2⟩:=ZdG hg;have hk1:W ((t.record.length:Int) - 1)=((t.record.length - 1:Nat):Int):=by rw [ZB (by omega) (by omega)];omega
  rw [hk1,show decide (((t.record.length:Nat):Int) > 0)=true from Ul (by omega),Zn,Zh e1];rw [Zs7 hg] at hcs ⊢;by_cases c:e.second=t.now
  ·rw [Uh c] at hcs ⊢;simp only [c,M7,Zn];rw [Zl (by omega),Uy,show Int.toNat 0=0 from rfl,ML];simp only [Zt,Zk,Zp,Zr,Zv,ZrZ,Z5,Vf];exact last _ (by simp;omega) hcs
  ·rw [Uf c];simp only [show (e.second==t.now)=false from Mc.2 c,Zf];exact last _ hl h4
def QC (t o:Town) (ok:Bool):Town×Bool:=if ok && (ZS t && ZS o) then (o,true) else (t,false)
theorem KV (t o:Town) (ok:Bool) (h:Zw t) (h':Zw o):Qz t o ok=some (QC t o ok):=by
 unfold Qz QC;simp only [Zt,Zk,Zp,Zr,Zv,Zs,Zo,ZP,Z3,Z0,Z5,Z1,Zy,ZX,QB t h,KQ t h,KQ o h',Zc];cases ok <;> cases ZS t <;> cases ZS o <;> simp [Zy,ZX]
theorem Za8 (t o:Town) (ok:Bool) (h:Zw t) (h':Zw o):QU t o ok=some (QC t o ok):=by
 unfold QU QC;simp only [Zt,Zk,Zp,Zr,Zv,Zs,Zo,ZP,Z3,Z0,Z5,Z1,Z1,Zy,ZX,Jl t h,KR t h,KR o h',Zc];cases ok <;> cases ZS t <;> cases ZS o <;> simp [Zy,ZX]
theorem ZdH {t o:Town} {ok:Bool} (h:Zw t) (h':Zw o):Zw (QC t o ok).1:=by
 unfold QC;split
 ·exact h'
 ·exact h
theorem ZCV (l:List Path) (id:Int) (hl:Sm l):Zdn l id=some (KP l id):=by
 unfold Zdn KP;simp only [Zt,Zk,Zp,Zr,Zv,Zs,Qb _ _ hl,Zc,Xn,ZG];by_cases hf:ZD l id < 0
 ·simp [hf,show ¬(ZD l id>=0) by omega]
 ·simp [hf,show (0:Int)<=ZD l id by omega,Y8 hf]
def J9 (l:List Path) (x:Prio) (p:Int):Prio×Bool:=if YZ l x && (x.path==0 && KP l p) then (⟨p,20⟩,true) else (x,false)
theorem ZCW {l:List Path} {x:Prio} (h:YZ l x=true) (p:Int):YZ l ⟨p,20⟩=KP l p:=by
 unfold YZ at *
 rw [Ub] at h;have:((⟨p,20⟩:Prio)=⟨0,0⟩)=False:=by simp
 simp [h.1,this,inR]
theorem ZCX (l:List Path) (x:Prio) (p:Int) (hl:Sm l):ZhF l x p=some (J9 l x p):=by
 unfold ZhF J9;simp only [Zt,Zk,Zp,Zr,Zv,Zs,Zju _ _ hl,Zc];cases h:YZ l x with
 |false=>simp
 |true=>
  rw [ZCW h];by_cases c:x.path=0
  ·cases KP l p <;> simp [c]
  ·simp [show (x.path != 0)=true by simpa using c,show (x.path==0)=false by simpa using c]
theorem ZCY (l:List Path) (x:Prio) (p:Int) (hl:Sm l):ZiC l x p=some (J9 l x p):=by
 unfold ZiC J9;simp only [Zt,Zk,Zp,Zr,Zv,Zs,Zjv _ _ hl,ZCV _ _ hl,Zc];cases h:YZ l x with
 |false=>simp
 |true=>
  by_cases c:x.path=0
  ·cases KP l p <;> simp [c]
  ·simp [show (x.path != 0)=true by simpa using c,show (x.path==0)=false by simpa using c]
def Jm (t:Town) (p:Int):Town×Bool:=QC t {t with prio:=(J9 t.paths t.prio p).1} (J9 t.paths t.prio p).2
theorem ZCZ (t:Town) (p:Int) (h:Zw t):ZhG t p=some (Jm t p):=by
 have h':Zw {t with prio:=(J9 t.paths t.prio p).1}:=h;unfold ZhG Jm;simp only [Zt,Zk,Zp,Zr,Zv,Zs,Zo,ZP,Z3,Z0,Z5,Z1,Zy,ZX,QB t h,ZCX _ _ _ h.1,Zc,KV t _ _ h h']
theorem ZC0 (t:Town) (p:Int) (h:Zw t):ZiD t p=some (Jm t p):=by
 have h':Zw {t with prio:=(J9 t.paths t.prio p).1}:=h;unfold ZiD Jm;simp only [Zt,Zk,Zp,Zr,Zv,Zs,Zo,ZP,Z3,Z0,Z5,Z1,Zy,ZX,Jl t h,ZCY _ _ _ h.1,Zc,Za8 t _ _ h h']
theorem ZC1 {t:Town} (h:Zw t) (p:Int):Zw (Jm t p).1:=ZdH h h
def XJ (l:List Path) (id:Int):Bool:= !decide (ZD l id < 0) && (ZQ l id).kind != 2
theorem Znw (l:List Path) (id:Int) (hl:Sm l):Zdo l id=some (XJ l id):=by
 unfold Zdo XJ;simp only [Zt,Zk,Zp,Zr,Zv,Zs,Qb _ _ hl,Zc,Xn,ZG];by_cases hf:ZD l id < 0
 ·simp [hf,show ¬(ZD l id>=0) by omega]
 ·simp [hf,show (0:Int)<=ZD l id by omega,Y8 hf]
def QD (l:List Path) (x:Control):Bool:=ZR l x && (x.next.isEmpty && decide (x.since>=if YS l x.stage=7 then 7 else 4))
theorem ZC2 (l:List Path) (x:Control) (h:Sm l) (hx:ZY x):ZhR l x=some (QD l x):=by
 unfold ZhR QD;simp only [Zt,Zk,Zp,Zr,Zv,Zs,Zo,Zy,Zjz l _ h hx.1,Jg l x h hx,Zc,ZZ,Qc];by_cases c:YS l x.stage=7
 ·simp only [c,M7,Zn,U2];cases ZR l x <;> cases x.next.isEmpty <;> simp
 ·simp only [show (YS l x.stage==7)=false from Mc.2 c,Zf,Uf c];cases ZR l x <;> cases x.next.isEmpty <;> simp
theorem ZC3 (l:List Path) (x:Control) (h:Sm l) (hx:ZY x):ZiG l x=some (QD l x):=by
 unfold ZiG QD;simp only [Zt,Zk,Zp,Zr,Zv,Zs,Zo,Zy,ZjA l _ h hx.1,KO l x h hx,Zc,ZZ,Zm9];by_cases c:YS l x.stage=7
 ·simp only [c,M7,Zn,U2];cases ZR l x <;> cases x.next.isEmpty <;> simp
 ·simp only [show (YS l x.stage==7)=false from Mc.2 c,Zf,Uf c];cases ZR l x <;> cases x.next.isEmpty <;> simp
theorem ZC4 (p:Path):0<=YY p/\YY p<=5:=by
 unfold YY;split
 ·split
  ·omega
  ·split <;> omega
 ·omega
theorem ZC5 {n c:Int} (h:0<=n/\n<=5) (h':0<=c/\c<=5):0<=KN n c/\KN n c<=5:=by unfold KN;split <;> omega
theorem Zs8 (l:List Path) (x:Int):∀(s:List Int) (n:Int),0<=n/\n<=5->0<=s.foldl (Vm l x) n/\s.foldl (Vm l x) n<=5
 | [],n,h=>h
 |y::s,n,h=>by
  rw [Mi];refine Zs8 l x s _ ?_;unfold Vm;split
  ·exact ZC5 h (ZC4 _)
  ·exact h
theorem Zs9 (l:List Path) (b:List Int):∀(s:List Int) (n:Int),0<=n/\n<=5->0<=s.foldl (fun n x=>b.foldl (Vm l x) n) n/\s.foldl (fun n x=>b.foldl (Vm l x) n) n<=5
 | [],n,h=>h
 |y::s,n,h=>by
  rw [Mi];exact Zs9 l b s _ (Zs8 l y b n h)
theorem ZdI (l:List Path) (a b:List Int):0<=Yz l a b/\Yz l a b<=5:=by
 unfold Yz;split
 ·exact Zs9 l _ _ 0 (by omega)
 ·omega
def QE (l:List Path) (x:Control) (p:Int):Control×Bool:=
 if QD l x && (XJ l p && !has x.stage p) then
  (if Yz l x.stage [p]=0 then (⟨[p],0,[],0⟩,true) else (⟨x.stage,x.since,[p],Yz l x.stage [p]⟩,true))
 else (x,false)
theorem Xs (p:Int):Sm [p]:=by unfold Sm;simp
theorem ZC6 (l:List Path) (x:Control) (p:Int) (h:Sm l) (hx:ZY x):ZhS l x p=some (QE l x p):=by
 unfold ZhS QE XJ;simp only [Zt,Zk,Zp,Zr,Zv,Zs,Zo,Zy,ZdF x hx,XE _ _ h,ZC2 l x h hx,Zc,QW _ _ hx.1,Xn,ZrJ,Zjo l _ _ h hx.1 (Xs p)];cases QD l x with
 |false=>simp
 |true=>
  by_cases hf:ZD l p < 0
  ·simp [hf]
  ·simp only [hf,U3,Zf,Y8 hf,Uk,UT,UV];by_cases hk:(ZQ l p).kind=2
   ·simp [hk]
   ·simp only [show ((ZQ l p).kind==2)=false from Mc.2 hk,show ((ZQ l p).kind != 2)=true from bne_iff_ne.2 hk,Zf,UV];cases has x.stage p with
    |true=>simp
    |false=>
     by_cases hc:Yz l x.stage [p]=0
     ·simp [hc]
     ·simp [hc,show (Yz l x.stage [p]==0)=false from Mc.2 hc]
theorem ZC7 (l:List Path) (x:Control) (p:Int) (h:Sm l) (hx:ZY x):ZiH l x p=some (QE l x p):=by
 have hc0:=(ZdI l x.stage [p]).1;unfold ZiH QE;simp only [Zt,Zk,Zp,Zr,Zv,Zs,Zo,Zy,ZfM x hx,Znw _ _ h,ZC3 l x h hx,Zc,Jf _ _ hx.1,ZrJ,Zjn l _ _ h hx.1 (Xs p)];cases QD l x with
 |false=>simp
 |true=>
  cases XJ l p with
  |false=>simp
  |true=>
    cases has x.stage p with
    |true=>simp
    |false=>
     by_cases hc:Yz l x.stage [p]=0
     ·simp [hc]
     ·simp [hc,show Yz l x.stage [p] > 0 by omega]
def Xi (l:List Path) (x:Control):Control:=
 if ZR l x=true then
  (if x.next.isEmpty=true then {x with since:=if x.since < 1000000 then x.since + 1 else 1000000} else if x.left > 1 then {x with left:=x.left - 1} else ⟨x.next,0,[],0⟩)
 else x
theorem Za9 {l:List Path} {x:Control} (h:ZR l x=true):(0<=x.since/\x.since<=1000000)/\(x.next.isEmpty=false->1<=x.left/\x.left<=5):=by
 unfold ZR inR at h;simp only [Ub,UG] at h;refine ⟨h.1.2,fun hn=> ?_⟩;have h2:=h.2;rw [Uf (by intro e;rw [e] at hn;cases hn)] at h2;simp only [Ub,UG] at h2;have:=(ZdI l x.stage x.next).2;omega
theorem Znx (l:List Path) (x:Control) (h:Sm l) (hx:ZY x):Zde l x=some (Xi l x):=by
 unfold Zde Xi;simp only [Zt,Zk,Zp,Zr,Zv,Zs,Zo,Zy,ZdF x hx,Jg l x h hx,Zc,ZZ,Qc,Zcd];cases hc:ZR l x with
 |false=>simp
 |true=>
  obtain ⟨h1,h2⟩:=Za9 hc;cases hn:x.next.isEmpty with
  |true=>
   rw [ZB (by omega) (by omega)];simp;by_cases c:x.since < 1000000
   ·rw [Uh c];by_cases c2:x.since + 1 < 1000000
    ·rw [Uh c2]
    ·rw [Uf c2];omega
   ·rw [Uf c,Uf (by omega)]
  |false=>
   obtain ⟨h3,h4⟩:=h2 hn;rw [show W (x.left - 1)=x.left - 1 from ZB (by omega) (by omega)];by_cases c:x.left > 1
   ·simp [c,show (x.left - 1==0)=false from Mc.2 (by omega)]
   ·simp [c,show x.left=1 by omega]
theorem Zny (l:List Path) (x:Control) (h:Sm l) (hx:ZY x):Zdp l x=some (Xi l x):=by
 unfold Zdp Xi;simp only [Zt,Zk,Zp,Zr,Zv,Zs,Zo,Zy,ZfM x hx,KO l x h hx,Zc,ZZ,Qc,KS _ hx.2];cases hc:ZR l x with
 |false=>simp
 |true=>
  obtain ⟨h1,h2⟩:=Za9 hc;cases hn:x.next.isEmpty with
  |true=>
   rw [ZB (by omega) (by omega)];simp;by_cases c:x.since < 1000000
   ·rw [Uh c,Uf (by omega)]
   ·rw [Uf c,Uh (by omega)]
  |false=>
   obtain ⟨h3,h4⟩:=h2 hn;rw [show W (x.left - 1)=x.left - 1 from ZB (by omega) (by omega)];by_cases c:x.left > 1 <;> simp [c]
theorem ZC8 {l:List Path} {x:Control} {p:Int} (hx:ZY x):ZY (QE l x p).1:=by
 unfold QE;split
 ·split
  ·exact ⟨Xs p,by unfold Sm;simp⟩
  ·exact ⟨hx.1,Xs p⟩
 ·exact hx
theorem Znz {l:List Path} {x:Control} (hx:ZY x):ZY (Xi l x):=by
 unfold Xi;split
 ·split
  ·exact hx
  ·split
   ·exact hx
   ·exact ⟨hx.2,by unfold Sm;simp⟩
 ·exact hx
def Y9 (l:List Path) (x:Control) (p:Int):Control:=if (QE l x p).2=true then (QE l x p).1 else Xi l x
theorem Zta (l:List Path) (x:Control) (p:Int) (h:Sm l) (hx:ZY x):ZeT l x p=some (Y9 l x p):=by
 unfold ZeT Y9;simp only [Zt,Zk,Zp,Zr,Zv,Zs,Zo,Zy,ZC6 l x p h hx,Znx l x h hx,Zc];cases (QE l x p).2 <;> simp [Zy]
theorem Ztb (l:List Path) (x:Control) (p:Int) (h:Sm l) (hx:ZY x):Zfb l x p=some (Y9 l x p):=by
 unfold Zfb Y9;simp only [Zt,Zk,Zp,Zr,Zv,Zs,Zo,Zy,ZC7 l x p h hx,Zny l x h hx,Zc];cases (QE l x p).2 <;> simp [Zy]
theorem ZjG {l:List Path} {x:Control} {p:Int} (hx:ZY x):ZY (Y9 l x p):=by
 unfold Y9;split
 ·exact ZC8 hx
 ·exact Znz hx
theorem ZjH {l:List Path}:ZI l []=ZK l:=by unfold ZI;rfl
theorem Zcm {l:List Path} {a:List Int} (h:ZI l a=true):ZK l=true:=by
 unfold ZI at h;rw [Ub] at h;exact h.2
theorem Ztc {l:List Path} {p:Int} (h:ZK l=true) (hp:¬ZD l p < 0):ZI l [p]=true:=by
 unfold ZI;simp [goT,hp,Vk,h]
theorem ZfN {l:List Path} {x:Control} (h:ZR l x=true):x.stage≠ []/\ZI l x.stage=true/\ZI l x.next=true:=by
 unfold ZR at h;simp only [Ub] at h;refine ⟨fun e=> ?_,h.1.1.1.2,h.1.1.2⟩;have:=h.1.1.1.1;rw [e] at this;cases this
theorem ZnA {l:List Path} {x:Control} (h:ZR l x=true):ZR l (Xi l x)=true:=by
 obtain ⟨a1,a2,a3⟩:=ZfN h;obtain ⟨h1,h2⟩:=Za9 h;have ha:=Zcm a2;unfold Xi;rw [Uh h];unfold ZR inR at h ⊢;simp only [Ub,UG] at h;cases hn:x.next with
 |nil=>
  rw [hn] at h;simp at h;simp [a1,a2,ZjH,ha,h];split <;> omega
 |cons b r=>
  rw [hn] at h a3;have h3:=h2 (by rw [hn];rfl);have h4:=h.2;simp at h4;by_cases c:x.left > 1
  ·simp [c,a1,a2,a3,h1];omega
  ·simp [c,a3,ZjH,ha]
theorem ZC9 {l:List Path} {x:Control} {p:Int} (h:ZR l x=true):ZR l (QE l x p).1=true:=by
 unfold QE;split
 ·rename_i hc;simp only [Ub,XJ] at hc;have hp:¬ZD l p < 0:=by simpa using hc.2.1.1
  obtain ⟨a1,a2,a3⟩:=ZfN h;obtain ⟨h1,h2⟩:=Za9 h;have ha:=Zcm a2;have h0:=ZdI l x.stage [p];split
  ·simp [ZR,Ztc ha hp,ZjH,ha,inR]
  ·simp [ZR,Ztc ha hp,a1,a2,inR,h1];omega
 ·exact h
theorem ZnB {l:List Path} {x:Control} {p:Int} (h:ZR l x=true):ZR l (Y9 l x p)=true:=by
 unfold Y9;split
 ·exact ZC9 h
 ·exact ZnA h
theorem Ztd {l:List Path}:∀{w:List Want} {pv:Option Int},goW l pv w=true->∀x∈w,Zch l x=true
 | [],_,_,x,hx=>by cases hx
 |y::w,pv,h,x,hx=>by
  simp only [goW,Ub] at h;rcases List.mem_cons.1 hx with rfl |hx
  ·exact h.1.1
  ·exact Ztd h.2 x hx
theorem ZjI {l:List Path} {w:List Want} (h:Yo l w=true) {x:Want} (hx:x∈w):¬ZD l x.path < 0/\0<=x.wait/\x.wait<=100000:=by
 unfold Yo at h;rw [Ub] at h;have:=Ztd h.2 x hx;unfold Zch inR at this;simpa using this
theorem ZfO {β:Type} {l:List Path} {y:Control} {id:Int} (hc:ZR l y=true) (h:¬ZD l id < 0) (K:Int->Option β):Z6 (XG l y) (ZD l id) K=K (XF y id):=by
 obtain ⟨i,x,h1,h2,h3⟩:=J4 h;have:(XG l y)[i]? =some (XF y x.id):=by
  unfold XG;rw [Uh hc,Mf,h1];rfl
 rw [h2,Zh this,h3]
theorem Zte {l:List Path} {y:Control} (hc:ZR l y=true):(XG l y).length=l.length:=by
 unfold XG;rw [Uh hc,Ut]
def KW (n:Int):Int:=if n < 100000 then n + 1 else 100000
def Ka (y:Control) (w:List Want):List Want:=w.filterMap fun x=>if XF y x.path=1 then none else some ⟨x.path,KW x.wait⟩
theorem ZjJ (l:List Want) (a b:Int) {β:Type} (K:List Want->Option β):rws Zd (l.map Zd.enc ++ [[I a,I b]]) K=K (l ++ [(⟨a,b⟩:Want)]):=
 (ZaD _ _ _ K).trans ((ZP l _).trans (ZBt _ _ fun l'=>K (l ++ l')))
theorem Ztf (l:List Path) (y:Control) (w:List Want) (h:Sm l) (hy:ZY y) (hw:Sm w) (hc:ZR l y=true) (ha:Yo l w=true):Zdf l y w=some (Ka y w):=by
 unfold Sm at hw;unfold Zdf Ka;simp only [Zt,Zk,Zp,Zr,Zv,Zs,Zo,Zy,ZfD l y h hy,Zc,ZP,X7,ZaI,Yw];refine Zji w _ (by omega) (fun k acc=>(l,w,acc,XG l y,(k:Int))) some rfl ?_ ?_
 ·intro rec acc ha;simp
 ·intro rec k x acc hx hk hl;obtain ⟨h1,h2,h3⟩:=ZjI ha (Yb hx);simp [hk,Zh hx,XE _ _ h,ZfO hc h1,Zq (show k<=9223372036854775806 by omega),Zcd,show W (x.wait + 1)=x.wait + 1 from ZB (by omega) (by omega)];by_cases c:XF y x.path=1
  ·simp [c]
  ·have hb:(if x.wait + 1 < 100000 then x.wait + 1 else 100000)=KW x.wait:=by unfold KW;split <;> split <;> omega
   simp [c,show (XF y x.path != 1)=true from bne_iff_ne.2 c,hb,ZjJ,show (acc.length + 1) * 16<=140737488355328 by omega,show acc.length<=1152921504606846975 by omega]
theorem Ztg (l:List Path) (y:Control) (w:List Want) (h:Sm l) (hy:ZY y) (hw:Sm w) (hc:ZR l y=true) (ha:Yo l w=true):Zb7 l y w=some (Ka y w):=by
 unfold Sm at hw;unfold Zb7 Ka;simp only [Zt,Zk,Zp,Zr,Zv,Zs,Zo,Zy,Zjp l y h hy,Zc,ZP,X7,ZaI,Yw,ZZ,Zte hc];refine Zji w _ (by omega) (fun k acc=>(l,acc,XG l y,w,(w.length:Int),(k:Int))) some rfl ?_ ?_
 ·intro rec acc ha;simp
 ·intro rec k x acc hx hk hl;obtain ⟨h1,h2,h3⟩:=ZjI ha (Yb hx);obtain ⟨i,p,i1,i2,_⟩:=J4 h1;have i3:i < l.length:=(List.getElem?_eq_some_iff.1 i1).1;simp [hk,Zh hx,Qb _ _ h,ZfO hc h1,Zq (show k<=9223372036854775806 by omega),Zte hc,h1,show ¬((l.length:Int)<=ZD l x.path) by omega,show W (x.wait + 1)=x.wait + 1 from ZB (by omega) (by omega)];by_cases c:XF y x.path=1
  ·simp [c]
  ·have hb:(if 100000 < x.wait + 1 then 100000 else x.wait + 1)=KW x.wait:=by unfold KW;split <;> split <;> omega
   simp [c,show (XF y x.path != 1)=true from bne_iff_ne.2 c,hb,ZjJ,show (acc.length + 1) * 16<=140737488355328 by omega,show acc.length<=1152921504606846975 by omega]
theorem Zth {y:Control} {w:List Want} (h:Sm w):Sm (Ka y w):=Mm (List.length_filterMap_le _ _) h
def Kb (r:Prio):Prio:=if r.left<=1 then ⟨0,0⟩ else ⟨r.path,r.left - 1⟩
theorem ZjK {l:List Path} {x:Prio} (h:YZ l x=true):0<=x.left/\x.left<=20:=by
 unfold YZ inR at h;simp only [Ub,Me,UG] at h;rcases h.2 with h |h
 ·rw [h];exact ⟨by decide,by decide⟩
 ·omega
theorem Zti (r:Prio) (h:0<=r.left/\r.left<=20):Zb8 r=some (Kb r):=by
 unfold Zb8 Kb;by_cases c:r.left<=1
 ·simp [c]
 ·simp [c];exact ZB (by omega) (by omega)
theorem KX {t:Town} (h:ZS t=true):ZR t.paths t.control=true/\Yo t.paths t.wants=true/\YZ t.paths t.prio=true/\QX t.paths t.lamps=true/\YC t.record=true/\t.record≠ []/\(0<=t.books/\t.books<=1000)/\(0<=t.now/\t.now<=1000000)/\t.record.length<=60:=by
 unfold ZS inR at h;simp only [Ub,UG,UI] at h;have hr:=h.1.1.1.1.1.1.2;refine ⟨h.1.1.1.1.1.1.1.1.1.1,h.1.1.1.1.1.1.1.1.1.2,h.1.1.1.1.1.1.1.1.2,h.1.1.1.1.1.1.1.2,hr,fun e=> ?_,h.1.2,h.2,?_⟩
 ·have:=h.1.1.1.1.1.2;rw [e] at this;cases this
 ·unfold YC at hr;rw [Ub,UG] at hr;exact hr.1
theorem Ztj (t:Town) (h:Zw t):QR t=some (Yc t.paths t.lamps t.power):=by
 unfold QR;simp [Zjq _ _ _ h.1 h.2.2.2.1]
theorem Ztk (t:Town) (h:Zw t):QV t=some (Yc t.paths t.lamps t.power):=by
 unfold QV;simp [Zjr _ _ _ h.1 h.2.2.2.1]
def VV (t:Town) (b:Bool):Town×Bool:=if ZS t && !(t.power==b) then QC t (Xr {t with power:=b}) true else (t,false)
theorem VW {t u:Town} (h:ZS t=true) (hr:u.record=t.record) (hu:Zw u):Zw (Xr u):=ZCQ hu (by rw [hr];have:=(KX h).2.2.2.2.2.2.2.2;omega)
theorem ZjL {t u:Town} (h:ZS t=true) (hr:u.record=t.record) (hb:u.books=t.books) (hu:Zw u):QS u=some (Xr u):=by
 have:=KX h;exact ZCT u hu (by rw [hr];omega) (by rw [hb];omega)
theorem ZjM {t u:Town} (h:ZS t=true) (hr:u.record=t.record) (hb:u.books=t.books) (hu:Zw u):Vi u=some (Xr u):=by
 have:=KX h;exact ZCU u hu (by rw [hr];omega) (by rw [hb];omega)
theorem ZDa (t:Town) (b:Bool) (h:Zw t):ZhJ t b=some (VV t b):=by
 have h':Zw {t with power:=b}:=h;unfold ZhJ VV;simp only [Zt,Zk,Zp,Zr,Zv,Zs,Zo,ZP,Z3,Z0,Z5,Z1,Zy,ZX,QB t h,KQ t h,Zc];cases ht:ZS t with
 |false=>simp
 |true=>
  have e:=ZjL (u:={t with power:=b}) ht rfl rfl h';have hn:=VW (u:={t with power:=b}) ht rfl h';cases hp:t.power==b with
  |true=>simp
  |false=>simp [e,Zy,ZX,KV t _ true h hn]
theorem ZDb (t:Town) (b:Bool) (h:Zw t):ZiJ t b=some (VV t b):=by
 have h':Zw {t with power:=b}:=h;unfold ZiJ VV;simp only [Zt,Zk,Zp,Zr,Zv,Zs,Zo,ZP,Z3,Z0,Z5,Z1,Zy,ZX,Jl t h,KR t h,Zc];cases ht:ZS t with
 |false=>simp
 |true=>
  have e:=ZjM (u:={t with power:=b}) ht rfl rfl h';have hn:=VW (u:={t with power:=b}) ht rfl h';cases hp:t.power==b with
  |true=>simp
  |false=>simp [e,Zy,ZX,Za8 t _ true h hn]
theorem ZDc {t:Town} (h:Zw t) (b:Bool):Zw (VV t b).1:=by
 unfold VV;split
 ·rename_i hc;rw [Ub] at hc;exact ZdH h (VW (t:=t) hc.1 rfl h)
 ·exact h
def KY (t:Town) (p:Int):Town:=
 if Yc t.paths t.lamps t.power=0 then {t with now:=t.now + 1,control:=Y9 t.paths t.control p,wants:=Ka (Y9 t.paths t.control p) t.wants,prio:=Kb t.prio} else {t with now:=t.now + 1}
def VX (t:Town) (p:Int):Town×Bool:=if ZS t && XJ t.paths p then QC t (Xr (KY t p)) true else (t,false)
theorem ZnC {t:Town} (h:Zw t) (p:Int):Zw (KY t p):=by
 obtain ⟨h0,h1,h2,h3,h4⟩:=h;unfold KY;split
 ·exact ⟨h0,ZjG h1,Zth h2,h3,h4⟩
 ·exact ⟨h0,h1,h2,h3,h4⟩
theorem ZnD (t:Town) (p:Int):(KY t p).record=t.record/\(KY t p).books=t.books:=by
 unfold KY;split <;> exact ⟨rfl,rfl⟩
theorem ZDd (t:Town) (p:Int) (h:Zw t):ZhT t p=some (VX t p):=by
 have hh:=ZnC h p;obtain ⟨hr,hb⟩:=ZnD t p;unfold ZhT VX XJ;simp only [Zt,Zk,Zp,Zr,Zv,Zs,Zo,ZP,Z3,Z0,Z5,Z1,Zy,ZX,XE _ _ h.1,QB t h,KQ t h,Ztj t h,Zta _ _ p h.1 h.2.1,Zc,Xn];cases ht:ZS t with
 |false=>simp
 |true=>
  by_cases hf:ZD t.paths p < 0
  ·simp [hf]
  ·simp only [hf,U3,Zf,Y8 hf,Uk,UT,UV];by_cases hk:(ZQ t.paths p).kind=2
   ·simp [hk]
   ·simp only [show ((ZQ t.paths p).kind==2)=false from Mc.2 hk,show ((ZQ t.paths p).kind != 2)=true from bne_iff_ne.2 hk,Zf,U2];obtain ⟨p1,p2,p3,p4,p5,p6,p7,p8,p9⟩:=KX ht;have hl:=ZjK p3;have hw:=Ztf t.paths (Y9 t.paths t.control p) t.wants h.1 (ZjG h.2.1) h.2.2.1 (ZnB p1) p2;have e:=ZjL ht hr hb hh;have hn:=VW ht hr hh;rw [show W (t.now + 1)=t.now + 1 from ZB (by omega) (by omega)];unfold KY at e hn ⊢;by_cases c:Yc t.paths t.lamps t.power=0
    ·simp only [c,U2] at e hn ⊢;simp only [M7,Zn,hw,Zc];by_cases c2:t.prio.left > 1
     ·have hs:Kb t.prio=⟨t.prio.path,t.prio.left - 1⟩:=by unfold Kb;rw [Uf (by omega)]
      rw [hs] at e hn ⊢;simp [c2,e,Zy,ZX,KV t _ true h hn,show W (t.prio.left - 1)=t.prio.left - 1 from ZB (by omega) (by omega)]
     ·have hs:Kb t.prio=⟨0,0⟩:=by unfold Kb;rw [Uh (by omega)]
      rw [hs] at e hn ⊢;simp [c2,e,Zy,ZX,KV t _ true h hn]
    ·simp only [c,Mx] at e hn ⊢;simp [show (Yc t.paths t.lamps t.power==0)=false from Mc.2 c,e,Zy,ZX,KV t _ true h hn]
theorem ZDe (t:Town) (p:Int) (h:Zw t):ZiI t p=some (VX t p):=by
 have hh:=ZnC h p;obtain ⟨hr,hb⟩:=ZnD t p;unfold ZiI VX;simp only [Zt,Zk,Zp,Zr,Zv,Zs,Zo,ZP,Z3,Z0,Z5,Z1,Zy,ZX,Jl t h,KR t h,Ztk t h,Znw _ _ h.1,Ztb _ _ p h.1 h.2.1,Zc,Xn];cases ht:ZS t with
 |false=>simp
 |true=>
  cases hk:XJ t.paths p with
  |false=>simp
  |true=>
    obtain ⟨p1,p2,p3,p4,p5,p6,p7,p8,p9⟩:=KX ht;have hl:=ZjK p3;have hw:=Ztg t.paths (Y9 t.paths t.control p) t.wants h.1 (ZjG h.2.1) h.2.2.1 (ZnB p1) p2;have e:=ZjM ht hr hb hh;have hn:=VW ht hr hh;rw [show W (t.now + 1)=t.now + 1 from ZB (by omega) (by omega)];unfold KY at e hn ⊢;by_cases c:Yc t.paths t.lamps t.power=0
    ·simp only [c,U2] at e hn ⊢;simp [hw,Zti _ hl,e,Zy,ZX,Za8 t _ true h hn]
    ·simp only [c,Mx] at e hn ⊢;simp [show (Yc t.paths t.lamps t.power==0)=false from Mc.2 c,e,Zy,ZX,Za8 t _ true h hn]
theorem ZDf {t:Town} (h:Zw t) (p:Int):Zw (VX t p).1:=by
 unfold VX;split
 ·rename_i hc;rw [Ub] at hc;exact ZdH h (VW hc.1 (ZnD t p).1 (ZnC h p))
 ·exact h
theorem ZnE {α V β:Type} (l:List α) (p:α->Bool) (hl:l.length<=1099511627776) (st:Nat->V) (R:Nat->Option β) {F:(V->Option β)->V->Option β} {v:V} (hv:v=st 0)
  (h0:∀rec,F rec (st l.length)=R l.length)
  (h1:∀rec k x,l[k]? =some x->k < l.length->F rec (st k)=if p x=true then rec (st (k + 1)) else R k):Ze F NN v=R (l.takeWhile p).length:=by
 refine (Yd l (by omega) (fun k (_:Unit)=>st k) () (fun s k _=>R (k + (s.takeWhile p).length)) hv ?_ ?_).trans (by simp)
 ·intro rec _;rw [h0];simp
 ·intro rec k x _ hx hk hr;rw [h1 rec k x hx hk,Fr];cases p x with
  |true=>
   simp only [U2];rw [hr ()];congr 1;simp;omega
  |false=>simp
def Y1 (w:List Want) (p:Int) (k:Nat):List Want:=w.take k ++ [(⟨p,0⟩:Want)] ++ w.drop k
def VY (l:List Path) (w:List Want) (p:Int):List Want×Bool:=
 if Yo l (Y1 w p (w.takeWhile fun x=>decide (x.path < p)).length)=true then (Y1 w p (w.takeWhile fun x=>decide (x.path < p)).length,true) else (w,false)
theorem ZfP (w:List Want) (p:Int) {k:Nat} (hk:k<=w.length):(Y1 w p k).length=w.length + 1:=by
 unfold Y1;simp only [Uj,Uc,Us,Mp];omega
theorem ZjN {α:Type} (p:α->Bool) (l:List α):(l.takeWhile p).length<=l.length:=(List.takeWhile_sublist p).length_le
theorem ZDg (w:List Want) (p:Int) (k:Nat) {β:Type} (K:List Want->Option β):rws Zd (((w.take k).map Zd.enc ++ [[I p,I 0]]) ++ (w.drop k).map Zd.enc) K=K (Y1 w p k):=by
 have e:((w.take k).map Zd.enc ++ [[I p,I 0]]) ++ (w.drop k).map Zd.enc=(Y1 w p k).map Zd.enc:=by
  have h1:=UW (f:=Zd.enc) (l₁:=w.take k ++ [(⟨p,0⟩:Want)]) (l₂:=w.drop k);have h2:=UW (f:=Zd.enc) (l₁:=w.take k) (l₂:= [(⟨p,0⟩:Want)]);exact (h1.trans (UC (· ++ _) h2)).symm
 rw [e];exact ZP _ _
theorem Ztl (w:List Want) (p:Int) (k:Nat) {β:Type} (K:List Want->Option β):rws Zd (((w.take k).map Zd.enc ++ [[I p,I 0]]) ++ ((w.take w.length).drop k).map Zd.enc) K=K (Y1 w p k):=by
 rw [MU];exact ZDg w p k K
theorem ZDh (l:List Path) (w:List Want) (p:Int) (hl:Sm l) (hw:Sm w):ZhD l w p=some (VY l w p):=by
 have hw':=hw;unfold Sm at hw';have hk:=ZjN (fun x:Want=>decide (x.path < p)) w;unfold ZhD;simp only [Zt,Zk,Zp,Zr,Zv,Zs,ZP,X7,ZaI];refine (ZnE w (fun x=>decide (x.path < p)) (by omega) (fun k=>(l,w,p,(k:Int))) (fun k=>some (if Yo l (Y1 w p k)=true then (Y1 w p k,true) else (w,false))) rfl ?_ ?_).trans rfl
 ·intro rec;rw [show decide (((w.length:Nat):Int) < ((w.length:Nat):Int))=false from Ug (by omega),Zf];simp only [Uy,show Int.toNat 0=0 from rfl,ML,ZrQ,ZrR,Zc6,X7,UQ,Uj,Uc,Us,Mp,Ztl,Zna l (Y1 w p w.length) hl (by rw [ZfP w p (Ur _)];omega),Zc];rw [Zl (by omega),Zl (by omega),Zl (by omega),Zl (by omega),Zl (by omega)];cases Yo l (Y1 w p w.length) with
  |true=>simp
  |false=>
   simp only [UT,Zn,ZP];rw [Zl (by omega)];simp
 ·intro rec k x hx hkl;rw [show decide (((k:Nat):Int) < ((w.length:Nat):Int))=true from Ul (by omega),Zn,Zh hx];by_cases c:x.path < p
  ·simp [c,Zq (show k<=9223372036854775806 by omega)]
  rw [Ug c,Zf,Uf (by simp)];simp only [Uy,show Int.toNat 0=0 from rfl,ML,ZrQ,ZrR,Zc6,X7,UQ,Uj,Uc,Us,Mp,Ztl,Zna l (Y1 w p k) hl (by rw [ZfP w p (by omega)];omega),Zc];rw [Zl (by omega),Zl (by omega),Zl (by omega),Zl (by omega),Zl (by omega)];cases Yo l (Y1 w p k) with
  |true=>simp
  |false=>
   simp only [UT,Zn,ZP];rw [Zl (by omega)];simp
theorem ZDi (w:List Want) (p:Int) (h:Sm w):Ziz w p=some (w.any fun x=>x.path==p):=by
 unfold Sm at h;unfold Ziz ZmS;simp only [ZP,X7];generalize hI:Ze (_:_->_->Option Int) NN _=J0;have hI':J0=match w.findIdx? (fun x=>x.path==p) with |some i=>some (i:Int) |none=>some (-1):=by
  rw [←hI];refine Zcf w (fun x=>x.path==p) (by omega) (fun k=>(w,p,(w.length:Int),(k:Int))) (fun i=>some (i:Int)) (some (-1)) rfl ?_ ?_
  ·intro rec;simp
  ·intro rec k a ha hk;unfold ZmR;simp [hk,Zh ha,Zq (show k<=9223372036854775806 by omega),ZG]
 rw [hI',←Zce];cases w.findIdx? (fun x=>x.path==p) <;> simp
theorem Ztm {l:List Path} {p:Int}:∀{w:List Want} {pv:Option Int},goW l pv w=true->∀x∈w,(∀q,pv=some q->q < x.path)
 | [],_,_,x,hx=>by cases hx
 |y::w,pv,h,x,hx=>fun q hq=>by
  simp only [goW,Ub] at h;have h1:q < y.path:=by
   have:=h.1.2;rw [hq] at this;simpa [later] using this
  rcases List.mem_cons.1 hx with rfl |hx
  ·exact h1
  ·have:=Ztm (p:=p) h.2 x hx _ rfl;omega
theorem ZDj {l:List Path} {a:List Want} {y:Want} {b:List Want}:∀{pv:Option Int},goW l pv (a ++ y::b)=true->∀x∈b,y.path < x.path:=by
 induction a with
 |nil=>
  intro pv h x hx;simp only [U5,goW,Ub] at h;exact Ztm (p:=0) h.2 x hx _ rfl
 |cons z a ih=>
  intro pv h x hx;simp only [U6,goW,Ub] at h;exact ih h.2 x hx
theorem Ztn {α:Type} {p:α->Bool}:∀{l:List α} {x:α},x∈l.takeWhile p->p x=true
 | [],_,h=>by cases h
 |y::l,x,h=>by
  rw [Fr] at h;split at h
  ·rename_i hy;rcases List.mem_cons.1 h with rfl |h
   ·exact hy
   ·exact Ztn h
  ·cases h
theorem ZDk {l:List Path} {w:List Want} {p:Int} (h:(w.any fun x=>x.path==p)=true):VY l w p=(w,false):=by
 unfold VY;rw [Uf];intro ha;unfold Yo at ha;rw [Ub] at ha;obtain ⟨x,hx,hp⟩:=List.any_eq_true.1 h;have hp:x.path=p:=by simpa using hp
 have hsplit:w=w.takeWhile (fun x=>decide (x.path < p)) ++ w.dropWhile (fun x=>decide (x.path < p)):=(List.takeWhile_append_dropWhile).symm;have hd:x∈w.dropWhile (fun x=>decide (x.path < p)):=by
  rw [hsplit] at hx;rcases List.mem_append.1 hx with hx |hx
  ·have:=Ztn hx;simp at this;omega
  ·exact hx
 have hdr:w.drop (w.takeWhile (fun x=>decide (x.path < p))).length=w.dropWhile (fun x=>decide (x.path < p)):=by
  have:=List.drop_left (l₁:=w.takeWhile (fun x=>decide (x.path < p))) (l₂:=w.dropWhile (fun x=>decide (x.path < p)));rw [List.takeWhile_append_dropWhile] at this;exact this
 have:=ha.2;unfold Y1 at this;rw [hdr,Ux] at this;have:=ZDj this x hd;simp only at this;omega
theorem ZDl (l:List Path) (w:List Want) (p:Int) (hl:Sm l) (hw:Sm w):ZiA l w p=some (VY l w p):=by
 have hw':=hw;unfold Sm at hw';have hk:=ZjN (fun x:Want=>decide (x.path < p)) w;unfold ZiA;simp only [Zt,Zk,Zp,Zr,Zv,Zs,ZP,X7,ZaI,ZfL _ hw,Zc,Zmz,ZDi _ p hw];rw [Zl (by simp [AV.okU])];cases hd:w.any fun x=>x.path==p with
 |true=>rw [Zn,ZDk hd]
 |false=>
 rw [Zf];have ins:∀k:Nat,k<=w.length->ZeG w (k:Int) [(⟨p,0⟩:Want)]=some (Y1 w p k):=by
  intro k hk;unfold ZeG ZaK Y1;rw [Zl (by simp;omega),Uy]
 refine (ZnE w (fun x=>decide (x.path < p)) (by omega) (fun k=>((l,w,w,(k:Int)),p)) (fun k=>some (if Yo l (Y1 w p k)=true then (Y1 w p k,true) else (w,false))) rfl ?_ ?_).trans rfl
 ·intro rec;rw [show decide (((w.length:Nat):Int) < ((w.length:Nat):Int))=false from Ug (by omega),Zf];simp only [ins _ (Ur _),Zc,ZP,Znb l (Y1 w p w.length) hl (by rw [ZfP w p (Ur _)];omega)];cases Yo l (Y1 w p w.length) <;> simp [ZfL _ hw]
 ·intro rec k x hx hkl;rw [show decide (((k:Nat):Int) < ((w.length:Nat):Int))=true from Ul (by omega),Zn,Zh hx];by_cases c:x.path < p
  ·simp [c,Zq (show k<=9223372036854775806 by omega)]
  rw [Ug c,Zf,Uf (by simp)];simp only [ins k (by omega),Zc,ZP,Znb l (Y1 w p k) hl (by rw [ZfP w p (by omega)];omega)];cases Yo l (Y1 w p k) <;> simp [ZfL _ hw]
theorem ZjO:∀{l:List Path} {pv:Option Int},goP pv l=true->∀x∈l,Z8 x=true
 | [],_,_,x,hx=>by cases hx
 |y::l,none,h,x,hx=>by
  simp only [goP,Ub] at h;rcases List.mem_cons.1 hx with rfl |hx
  ·exact h.1
  ·exact ZjO h.2 x hx
 |y::l,some i,h,x,hx=>by
  simp only [goP,Ub] at h;rcases List.mem_cons.1 hx with rfl |hx
  ·exact h.1.1
  ·exact ZjO h.2 x hx
theorem Zba {l:List Path} (h:ZK l=true) {p:Int} (hp:¬ZD l p < 0):1<=p/\p<=20:=by
 obtain ⟨i,x,h1,h2,h3⟩:=J4 hp;unfold ZK at h;rw [Ub] at h;have:=ZjO h.2 x (Yb h1);unfold Z8 inR at this;simp only [Ub,UG] at this;rw [←h3];exact this.1.1.1.1
theorem Zto {l:List Path} (h:ZK l=true):∀{w:List Want} {q:Int},0<=q->goW l (some q) w=true->q + w.length<=20\/w= []
 | [],_,_,_=> .inr rfl
 |y::w,q,hq,hg=>by
  simp only [goW,Ub] at hg;have h1:q < y.path:=by simpa [later] using hg.1.2
  have h2:¬ZD l y.path < 0:=by
   have:=hg.1.1;unfold Zch at this;simp only [Ub,UI,U9] at this;exact this.1
  have h3:=Zba h h2;refine .inl ?_;rw [UK];rcases Zto h (by omega) hg.2 with h4 |h4
  ·omega
  ·rw [h4];simp;omega
theorem ZDm {l:List Path} {w:List Want} (h:Yo l w=true):w.length<=20:=by
 unfold Yo at h;rw [Ub] at h;cases w with
 |nil=>simp
 |cons y w=>
  have hg:goW l (some 0) (y::w)=true:=by
   have h2:=h.2;simp only [goW,Ub] at h2 ⊢;refine ⟨⟨h2.1.1,?_⟩,h2.2⟩;have:¬ZD l y.path < 0:=by
    have:=h2.1.1;unfold Zch at this;simp only [Ub,UI,U9] at this;exact this.1
   have:=Zba h.1 this;simp [later];omega
  rcases Zto h.1 (by omega) hg with h4 |h4
  ·omega
  ·cases h4
theorem ZnF {l:List Path} {w:List Want} {p:Int} (h:Sm w):Sm (VY l w p).1:=by
 unfold VY;split
 ·rename_i hc;have:=ZDm hc;unfold Sm;simp only;omega
 ·exact h
def Jn (t:Town) (p:Int):Town×Bool:=QC t {t with wants:=(VY t.paths t.wants p).1} (VY t.paths t.wants p).2
theorem ZDn (t:Town) (p:Int) (h:Zw t):ZhE t p=some (Jn t p):=by
 have h':Zw {t with wants:=(VY t.paths t.wants p).1}:=⟨h.1,h.2.1,ZnF h.2.2.1,h.2.2.2⟩
 unfold ZhE Jn;simp only [Zt,Zk,Zp,Zr,Zv,Zs,Zo,ZP,Z3,Z0,Z5,Z1,Zy,ZX,QB t h,ZDh _ _ p h.1 h.2.2.1,Zc,KV t _ _ h h']
theorem ZDo (t:Town) (p:Int) (h:Zw t):ZiB t p=some (Jn t p):=by
 have h':Zw {t with wants:=(VY t.paths t.wants p).1}:=⟨h.1,h.2.1,ZnF h.2.2.1,h.2.2.2⟩
 unfold ZiB Jn;simp only [Zt,Zk,Zp,Zr,Zv,Zs,Zo,ZP,Z3,Z0,Z5,Z1,Zy,ZX,Jl t h,ZDl _ _ p h.1 h.2.2.1,Zc,Za8 t _ _ h h']
theorem ZDp {t:Town} (h:Zw t) (p:Int):Zw (Jn t p).1:=ZdH h ⟨h.1,h.2.1,ZnF h.2.2.1,h.2.2.2⟩
def Jo (s:List Int) (b:Option Want) (y:Want):Option Want:=if has s y.path=true then b else match b with |none=>some y |some x=>if x.wait < y.wait then some y else some x
def Zbb (w:List Want) (s:List Int):Int:=match w.foldl (Jo s) none with |none=>0 |some x=>x.path
def Zbc (w:List Want) (b:Int):Option Want:=if b < 0 then none else w[b.toNat]?
theorem ZDq (w:List Want) (s:List Int) (hw:Sm w) (hs:Sm s):ZhK w s=some (Zbb w s):=by
 have hw':=hw;unfold Sm at hw';unfold ZhK;simp only [Zt,Zk,Zp,Zr,Zv,ZP,Zo,X7,ZaI];refine (Yf w (by omega) (fun k (b:Int)=>(w,s,b,(k:Int))) (-1) (fun _ b=>b= -1\/∃(n:Nat) (x:Want),b=n/\w[n]? =some x) (.inl rfl) (fun r _ b=>some (match r.foldl (Jo s) (Zbc w b) with |none=>0 |some x=>x.path)) rfl ?_ ?_).trans ?_
 ·intro rec b hJ;rcases hJ with rfl | ⟨n,x,rfl,hx⟩
  ·simp [Zbc]
  ·simp [Zbc,Zh hx,hx,show ¬((n:Int) < 0) by omega]
 ·intro rec k x b hJ hx hk hr;simp only [Up] at hr;have hk2:k<=9223372036854775806:=by omega
  simp only [show decide (((k:Nat):Int) < ((w.length:Nat):Int))=true from Ul (by omega),Zn,Zh hx,QW s _ hs,Zc,Zq hk2,Mi];have hk':Zbc w (k:Int)=some x:=by simp [Zbc,hx,show ¬((k:Int) < 0) by omega]
  cases hh:has s x.path with
  |true=>simp [Jo,hh,hr b hJ]
  |false=>
   have h2:=hr (k:Int) (.inr ⟨k,x,rfl,hx⟩);rcases hJ with rfl | ⟨n,y,rfl,hy⟩
   ·simp [Jo,hh,h2,hk',show Zbc w (-1)=none from rfl]
   ·have hn':Zbc w (n:Int)=some y:=by simp [Zbc,hy,show ¬((n:Int) < 0) by omega]
    have h3:=hr (n:Int) (.inr ⟨n,y,rfl,hy⟩);simp only [hn',UT,Zn,show decide ((n:Int) < 0)=false from Ug (by omega),Zf,Zh hy];by_cases c:x.wait > y.wait
    ·simp [Jo,hh,c,h2,hk']
    ·simp [Jo,hh,c,h3,hn',show ¬y.wait < x.wait by omega]
 ·rfl
theorem ZDr (w:List Want) (s:List Int) (hw:Sm w) (hs:Sm s):ZiL w s=some (Zbb w s):=by
 have hw':=hw;unfold Sm at hw';unfold ZiL;simp only [Zt,Zk,Zp,Zr,Zv,ZP,Zo,X7,ZaI];refine (Yf w (by omega) (fun k (b:Bool×Want)=>((s,b.1,w,(w.length:Int),(k:Int)),b.2)) (false,⟨0,0⟩) (fun _ b=>b.1=false->b.2=⟨0,0⟩) (fun _=>rfl) (fun r _ b=>some (match r.foldl (Jo s) (if b.1=true then some b.2 else none) with |none=>0 |some x=>x.path)) rfl ?_ ?_).trans ?_
 ·rintro rec ⟨f,z⟩ hJ;cases f with
  |true=>simp
  |false=>
   obtain rfl:z=⟨0,0⟩:=hJ rfl;simp
 ·rintro rec k x ⟨f,z⟩ hJ hx hk hr;simp only [Up] at hr;have hk2:k<=9223372036854775806:=by omega
  simp only [show decide (((k:Nat):Int) < ((w.length:Nat):Int))=true from Ul (by omega),Zn,Zh hx,Jf s _ hs,Zc,Zq hk2,Mi];have e1:=hr (true,x) (by simp);have e2:=hr (f,z) hJ;cases hh:has s x.path with
  |true=>simpa [Jo,hh] using e2
  |false=>
   cases f with
   |false=>simpa [Jo,hh] using e1
   |true=>
    by_cases c:x.wait > z.wait
    ·simpa [Jo,hh,c] using e1
    ·simpa [Jo,hh,c,show ¬z.wait < x.wait by omega] using e2
 ·rfl
def Q0 (l:List Path) (x:Control):Bool:=ZR l x && (x.next.isEmpty && decide (x.since>=YS l x.stage))
theorem ZnG (l:List Path) (x:Control) (h:Sm l) (hx:ZY x):ZbY l x=some (Q0 l x):=by
 unfold ZbY Q0;simp only [Zt,Zk,Zp,Zr,Zv,Zs,Zo,Zy,Jg l x h hx,Zc,ZZ,Qc,Zjz l _ h hx.1];cases ZR l x <;> cases x.next.isEmpty <;> simp
theorem ZnH (l:List Path) (x:Control) (h:Sm l) (hx:ZY x):Zb9 l x=some (Q0 l x):=by
 unfold Zb9 Q0;simp only [Zt,Zk,Zp,Zr,Zv,Zs,Zo,Zy,KO l x h hx,Zc,ZZ,Qc,ZjA l _ h hx.1];cases ZR l x <;> cases x.next.isEmpty <;> simp
def ZjP:ByteArray:=bs []
def Zbd:ByteArray:=bs [104,111,108,100]
def Zbe:ByteArray:=bs [99,97,108,108]
def Kc (l:List Path) (x:Control) (r:Prio):ByteArray:=
 if ZR l x && (YZ l r && !(r.path==0)) then (if has x.stage r.path && x.next.isEmpty then Zbd else if !has x.stage r.path && Q0 l x then Zbe else ZjP) else ZjP
theorem ZDs (l:List Path) (x:Control) (r:Prio) (h:Sm l) (hx:ZY x):ZhN l x r=some (Kc l x r):=by
 unfold ZhN Kc ZjP Zbd Zbe;simp only [Zt,Zk,Zp,Zr,Zv,Zs,Zo,Zy,Jg l x h hx,Zc,ZZ,Qc,Zju l _ h,QW _ _ hx.1,ZnG l x h hx];cases ZR l x <;> cases YZ l r <;> cases (r.path==0) <;> cases has x.stage r.path <;> cases x.next.isEmpty <;> cases Q0 l x <;> rfl
theorem ZDt (l:List Path) (x:Control) (r:Prio) (h:Sm l) (hx:ZY x):ZiK l x r=some (Kc l x r):=by
 unfold ZiK Kc ZjP Zbd Zbe;simp only [Zt,Zk,Zp,Zr,Zv,Zs,Zo,Zy,KO l x h hx,Zc,ZZ,Qc,Zjv l _ h,Jf _ _ hx.1,ZnH l x h hx];cases ZR l x <;> cases YZ l r <;> cases (r.path==0) <;> cases has x.stage r.path <;> cases x.next.isEmpty <;> cases Q0 l x <;> rfl
theorem ZDu {i j:Nat} (h:i + j<=1099511627776):W (Int.fdiv (Go.IntKind.wrap Go.IntKind.u64 (W ((i:Int) + (j:Int)))) ((2:Int) ^ (Min.min (Int.toNat (1:Int)) (Go.IntKind.bits Go.IntKind.u64))))=(((i + j) / 2:Nat):Int):=by
 rw [show W ((i:Int) + (j:Int))=(i:Int) + j from ZB (by omega) (by omega),show ((2:Int) ^ (Min.min (Int.toNat (1:Int)) (Go.IntKind.bits Go.IntKind.u64)))=2 from rfl];have e:Go.IntKind.wrap Go.IntKind.u64 ((i:Int) + j)=(i:Int) + j:=by
  unfold IntKind.wrap;rw [show IntKind.u64.signed=false from rfl,show IntKind.u64.bits=64 from rfl];simp;omega
 rw [e,Int.fdiv_eq_ediv_of_nonneg _ (by omega),ZB (by omega) (by omega)];omega
def low (l:List Int) (n:Int):Nat:=(l.takeWhile fun x=>decide (x < n)).length
theorem ZjQ (l:List Int) (n:Int):low l n<=l.length:=ZjN _ _
theorem ZjR:∀{l:List Int} {n:Int} {i:Nat} {a:Int},i < low l n->l[i]? =some a->a < n
 | [],n,i,a,h,hx=>by cases hx
 |y::l,n,i,a,h,hx=>by
  unfold low at h;rw [Fr] at h;by_cases c:y < n
  ·rw [Uh (by simp [c])] at h;cases i with
   |zero=>cases hx;exact c
   |succ i=>exact ZjR (i:=i) (by unfold low;simpa using h) hx
  ·rw [Uf (by simp [c])] at h;cases h
theorem ZnI:∀{l:List Int} {n:Int} {a:Int},l[low l n]? =some a->¬a < n
 | [],n,a,h=>by cases h
 |y::l,n,a,h=>by
  unfold low at h;rw [Fr] at h;by_cases c:y < n
  ·rw [Uh (by simp [c])] at h;exact ZnI (l:=l) (n:=n) (by unfold low;simpa using h)
  ·rw [Uf (by simp [c])] at h;cases h;exact c
theorem ZnJ {l:List Int} (hp:l.Pairwise (· < ·)) {n:Int} {i:Nat} {a:Int} (h:low l n<=i) (hx:l[i]? =some a):¬a < n:=by
 obtain ⟨hi,rfl⟩:=List.getElem?_eq_some_iff.1 hx;have h1:l[low l n]? =some l[low l n]:=Ua (by omega);have h2:=ZnI h1;rcases Nat.lt_or_eq_of_le h with h |h
 ·have:=MH.1 hp (low l n) i (by omega) hi h;omega
 ·simp only [←h];exact h2
theorem ZDv (x y:Int):Zin x y=some (decide (x < y)):=by
 unfold Zin Zim;simp
theorem ZDw (l:List Int) (n:Int) (hs:Sm l) (hp:l.Pairwise (· < ·)):Zip l n=some ((low l n:Int),decide (l[low l n]? =some n)):=by
 unfold Sm at hs;unfold Zip;simp only [Zt,Zk,Zp,Zr,Zv,Zo,ZZ,Yw];refine Zhp (R:=fun _=>some ((low l n:Int),decide (l[low l n]? =some n))) (fun v=>(v.2.2.2.2 - v.2.2.2.1).toNat) (fun v=>∃i j:Nat,v=(l,n,(l.length:Int),(i:Int),(j:Int))/\i<=low l n/\low l n<=j/\j<=l.length) ?_ NN _ ⟨0,l.length,rfl,Mb _,ZjQ l n,Ur _⟩ (KG (by simp;omega));rintro rec _ ⟨i,j,rfl,h1,h2,h3⟩ hr;by_cases c:i < j
 ·have hlt:(i + j) / 2 < l.length:=by omega
  have hx:l[(i + j) / 2]? =some l[(i + j) / 2]:=Ua hlt;simp only [show decide ((i:Int) < (j:Int))=true from Ul (by omega),Zn,ZDu (show i + j<=1099511627776 by omega),Zh hx,ZDv,Zc,Zq (show (i + j) / 2<=9223372036854775806 by omega)];by_cases c2:l[(i + j) / 2] < n
  ·rw [Ul c2,Zn];refine hr _ ⟨(i + j) / 2 + 1,j,by simp,?_,h2,h3⟩ (by simp;omega);rcases U7 ((i + j) / 2) (low l n) with h |h
   ·omega
   ·exact absurd c2 (ZnJ hp h hx)
  ·rw [Ug c2,Zf];refine hr _ ⟨i,(i + j) / 2,rfl,h1,?_,by omega⟩ (by simp;omega);rcases U7 ((i + j) / 2) (low l n) with h |h
   ·exact absurd (ZjR h hx) c2
   ·exact h
 ·have hi:i=low l n:=by omega
  subst hi;simp only [show decide (((low l n:Nat):Int) < (j:Int))=false from Ug (by omega),Zf];by_cases c3:low l n < l.length
  ·have hx:l[low l n]? =some l[low l n]:=Ua c3;simp only [show decide (((low l n:Nat):Int) < ((l.length:Nat):Int))=true from Ul (by omega),Zn,Zh hx];unfold Zio;by_cases c4:l[low l n]=n
   ·simp [c4,hx]
   ·simp [c4,hx,show (l[low l n]==n)=false from Mc.2 c4]
  ·have hx:l[low l n]? =none:=UP (by omega);simp only [show decide (((low l n:Nat):Int) < ((l.length:Nat):Int))=false from Ug (by omega),Zf,hx];simp
def ins (l:List Int) (n:Int):List Int:=l.take (low l n) ++ [n] ++ l.drop (low l n)
def YB (l:List Int) (n:Int):List Int:=if l[low l n]? =some n then l else ins l n
theorem Ztp (l:List Int) (n:Int):(ins l n).length=l.length + 1:=by
 have:=ZjQ l n;unfold ins;simp only [Uj,Uc,Us,Mp];omega
theorem ZDx (l:List Int) (n:Int) (k:Nat) {β:Type} (K:List Int->Option β):rws iR (((l.take k).map iR.enc ++ [[I n]]) ++ (l.drop k).map iR.enc) K=K (l.take k ++ [n] ++ l.drop k):=by
 have e:((l.take k).map iR.enc ++ [[I n]]) ++ (l.drop k).map iR.enc=(l.take k ++ [n] ++ l.drop k).map iR.enc:=by
  have h1:=UW (f:=iR.enc) (l₁:=l.take k ++ [n]) (l₂:=l.drop k);have h2:=UW (f:=iR.enc) (l₁:=l.take k) (l₂:= [n]);exact (h1.trans (UC (· ++ _) h2)).symm
 rw [e];exact Zo _ _
theorem Ztq (l:List Int) (n:Int) (k:Nat) {β:Type} (K:List Int->Option β):rws iR (((l.take k).map iR.enc ++ [[I n]]) ++ ((l.take l.length).drop k).map iR.enc) K=K (l.take k ++ [n] ++ l.drop k):=by
 rw [MU];exact ZDx l n k K
theorem ZnK (l:List Int) (n:Int) (h:Sm l):Zda l n=some (YB l n):=by
 have h':=h;unfold Sm at h';unfold Zda;simp only [Zt,Zk,Zp,Zr,Zv,Zo,ZZ,Yw];have hk:=ZjQ l n;refine (ZnE l (fun x=>decide (x < n)) (by omega) (fun k=>(l,n,(k:Int))) (fun k=>some (if l[k]? =some n then l else l.take k ++ [n] ++ l.drop k)) rfl ?_ ?_).trans rfl
 ·intro rec;rw [show decide (((l.length:Nat):Int) < ((l.length:Nat):Int))=false from Ug (by omega),Zf,Zf];simp only [Uy,show Int.toNat 0=0 from rfl,ML,ZrG,ZrH,ZaG,ZZ,UQ,Uj,Uc,Us,Mp,Ztq];rw [Zl (by omega),Zl (by omega),Zl (by omega),Zl (by omega),Zl (by omega)];rw [Uf (by simp)]
 ·intro rec k x hx hkl;rw [show decide (((k:Nat):Int) < ((l.length:Nat):Int))=true from Ul (by omega),Zn,Zh hx];by_cases c:x < n
  ·simp [c,Zq (show k<=9223372036854775806 by omega)]
  rw [Ug c,Zf,Zn,Zh hx,Uf (by simp),hx];simp only [Zt,Zk,Zp,Zr,Zv,Uy,show Int.toNat 0=0 from rfl,ML,ZrG,ZrH,ZaG,ZZ,UQ,Uj,Uc,Us,Mp,Ztq,Zo];by_cases c2:x=n
  ·subst c2;rw [M7,Zn,Zl (by omega),Uh rfl]
  ·rw [show (x==n)=false from Mc.2 c2,Zf,Zl (by omega),Zl (by omega),Zl (by omega),Zl (by omega),Zl (by omega),Uf (by simp [c2])]
theorem ZDy (l:List Int) (n:Int) (h:Sm l) (hp:l.Pairwise (· < ·)):Ziq l n=some (ins l n):=by
 have h':=h;unfold Sm at h';have hk:=ZjQ l n;unfold Ziq;simp only [Zt,Zk,Zp,Zr,Zv,Zo,ZDw l n h hp,KS l h,Zc,Zmu];rw [Zl (by simp)];unfold ZmE ZaK ins;rw [Zl (by simp;omega),Uy];rfl
theorem Ztr {l:List Path} {ids:List Int}:∀{r:List Int} {k:Nat},goT l ids k r=true->∀i x,r[i]? =some x->¬ZD l x < 0/\Vk ids (k + i) x=true
 | [],k,h,i,x,hx=>by cases hx
 |y::r,k,h,i,x,hx=>by
  unfold goT at h;simp only [Ub,UI,U9] at h;cases i with
  |zero=>cases hx;exact ⟨h.1.1.1,h.1.1.2⟩
  |succ i=>
   have:=Ztr h.2 i x hx
   rwa [show k + 1 + i=k + (i + 1) by omega] at this
theorem ZnL {l:List Path} {a:List Int} (h:ZI l a=true):∀(i:Nat) (x:Int),a[i]? =some x->¬ZD l x < 0/\Vk a i x=true:=fun i x hx=>by
 unfold ZI at h;rw [Ub] at h;simpa using Ztr h.1 i x hx
theorem ZnM {l:List Path} {a:List Int} (h:ZI l a=true) {i:Nat} {x y:Int} (hx:a[i]? =some x) (hy:a[i + 1]? =some y):x < y:=by
 have:=(ZnL h (i + 1) y hy).2;unfold Vk at this;rw [Uf (by omega),Nat.add_sub_cancel,hx] at this;simpa using this
theorem Zts {l:List Path} {a:List Int} (h:ZI l a=true):∀(d i:Nat) (x y:Int),a[i]? =some x->a[i + d + 1]? =some y->x < y
 | 0,i,x,y,hx,hy=>ZnM h hx hy
 |d + 1,i,x,y,hx,hy=>by
  have hl:i + (d + 1) + 1 < a.length:=(List.getElem?_eq_some_iff.1 hy).1;have hz:a[i + d + 1]? =some a[i + d + 1]:=Ua (by omega);have h1:=Zts h d i x _ hx hz;have h2:=ZnM h hz (by rw [show i + d + 1 + 1=i + (d + 1) + 1 by omega];exact hy);omega
theorem ZjS {l:List Path} {a:List Int} (h:ZI l a=true):a.Pairwise (· < ·):=by
 rw [MH];intro i j hi hj hij;exact Zts h (j - i - 1) i _ _ (Ua hi) (by rw [show i + (j - i - 1) + 1=j by omega];exact Ua hj)
theorem ZjT {l:List Path} {a:List Int} (h:ZI l a=true):a.length<=20:=by
 have ha:=Zcm h;have ge:∀(i:Nat) (x:Int),a[i]? =some x->(i:Int) + 1<=x:=fun i=>by
  induction i with
  |zero=>
   intro x hx;have:=Zba ha (ZnL h 0 x hx).1;omega
  |succ i ih=>
   intro x hx;have hl:=(List.getElem?_eq_some_iff.1 hx).1;have hz:a[i]? =some a[i]:=Ua (by omega);have h1:=ih _ hz;have h2:=ZnM h hz hx;omega
 rcases MX a.length with h0 |h0
 ·omega
 ·have hz:a[a.length - 1]? =some a[a.length - 1]:=Ua (by omega);have h1:=ge _ _ hz;have h2:=Zba ha (ZnL h _ _ hz).1;omega
theorem ZfQ {l:List Path} {a:List Int} (h:ZI l a=true):Sm a:=by
 have:=ZjT h;unfold Sm;omega
theorem Ztt {l:List Int} (hp:l.Pairwise (· < ·)) {n:Int}:has l n=true↔l[low l n]? =some n:=by
 unfold has;rw [List.any_eq_true];constructor
 ·rintro ⟨x,hx,hxn⟩;have hxn:x=n:=by simpa using hxn
  subst hxn;obtain ⟨i,hi⟩:=Mk hx;rcases FD i (low l x) with h |h |h
  ·have:=ZjR h hi;omega
  ·rw [←h];exact hi
  ·have hl:=(List.getElem?_eq_some_iff.1 hi).1;have hz:l[low l x]? =some l[low l x]:=Ua (by omega);have h1:=ZnI hz;have h2:=MH.1 hp (low l x) i (by omega) hl h;have h3:=(List.getElem?_eq_some_iff.1 hi).2;omega
 ·intro h;exact ⟨n,Um h,by simp⟩
def Kd (l:List Path) (a:List Int) (p:Path):List Int:=if ZI l (YB a p.id)=true then YB a p.id else a
def XY (l:List Path) (ids:List Int):List Int:=if ZI l ids=true then l.foldl (Kd l) ids else ids
theorem ZnN {l:List Path} {a:List Int} {p:Path} (h:ZI l a=true):ZI l (Kd l a p)=true:=by
 unfold Kd;split
 ·assumption
 ·exact h
theorem Ztu {l:List Path} {a:List Int} (h:ZI l a=true) (n:Int):Sm (YB a n):=by
 have:=ZjT h;unfold YB;split
 ·exact ZfQ h
 ·unfold Sm;rw [Ztp];omega
theorem ZDz {l:List Path} {a:List Int} (h:ZI l a=true) {n:Int} (hn:has a n=true):YB a n=a:=by
 unfold YB;rw [Uh ((Ztt (ZjS h)).1 hn)]
theorem ZDA {l:List Path} {a:List Int} (h:ZI l a=true) {n:Int} (hn:has a n=false):YB a n=ins a n:=by
 unfold YB;rw [Uf (fun e=>by rw [(Ztt (ZjS h)).2 e] at hn;cases hn)]
theorem ZnO {l:List Path}:∀{r:List Path} {a:List Int},ZI l a=true->ZI l (r.foldl (Kd l) a)=true
 | [],a,h=>h
 |p::r,a,h=>by
  rw [Mi];exact ZnO (ZnN h)
theorem Zcn {l:List Path} {ids:List Int} (h:Sm ids):Sm (XY l ids):=by
 unfold XY;split
 ·rename_i hc;exact ZfQ (ZnO hc)
 ·exact h
theorem ZjU (l:List Path) (ids:List Int) (hl:Sm l) (hi:Sm ids):Zdb l ids=some (XY l ids):=by
 have hl':=hl;have hi':=hi;unfold Sm at hl' hi';unfold Zdb;simp only [Zt,Zk,Zp,Zr,Zv,Zs,Zo,YG,ZZ,Xn,ZaG];rw [Zl (by simp;omega)];refine (Yf l (by omega) (fun k (a:List Int)=>(l,ids,a,(k:Int))) ids (fun _ a=>(ZI l ids=true->ZI l a=true)/\(ZI l ids=false->a=ids)) ⟨fun h=>h,fun _=>rfl⟩ (fun r _ a=>some (if ZI l ids=true then r.foldl (Kd l) a else ids)) rfl ?_ ?_).trans ?_
 ·intro rec a hJ;rw [show decide (((l.length:Nat):Int) < ((l.length:Nat):Int))=false from Ug (by omega),Zf];cases hc:ZI l ids with
  |true=>simp
  |false=>simp [hJ.2 hc]
 ·intro rec k p a hJ hx hk hr;simp only [Up] at hr;simp only [show decide (((k:Nat):Int) < ((l.length:Nat):Int))=true from Ul (by omega),Zn,VR l ids hl hi,Zc,Zh hx,Zq (show k<=9223372036854775806 by omega)];cases hc:ZI l ids with
  |false=>simp [hJ.2 hc]
  |true=>
   have ha:=hJ.1 hc;have e:=hr (Kd l a p) ⟨fun _=>ZnN ha,fun h=>by rw [hc] at h;cases h⟩;rw [hc,Uh rfl] at e;simp only [Zn,ZnK a p.id (ZfQ ha),Zc,VR l _ hl (Ztu ha p.id),U2,Mi];unfold Kd at e ⊢;cases hd:ZI l (YB a p.id) <;> simp [hd] at e ⊢ <;> exact e
 ·rfl
theorem ZjV (l:List Path) (ids:List Int) (hl:Sm l) (hi:Sm ids):Zdj l ids=some (XY l ids):=by
 have hl':=hl;unfold Sm at hl';unfold Zdj XY;simp only [Zt,Zk,Zp,Zr,Zv,Zs,Zo,YG,ZZ,Xn,KS ids hi,KM l ids hl hi,Zc];cases hc:ZI l ids with
 |false=>simp
 |true=>
 simp only [Uk,Zf,U2];refine (Yf l (by omega) (fun k (a:List Int)=>(l,a,l,(l.length:Int),(k:Int))) ids (fun _ a=>ZI l a=true) hc (fun r _ a=>some (r.foldl (Kd l) a)) rfl ?_ ?_).trans rfl
 ·intro rec a hJ;rw [show decide (((l.length:Nat):Int) < ((l.length:Nat):Int))=false from Ug (by omega),Zf];rfl
 ·intro rec k p a ha hx hk hr;simp only [Up] at hr;have e:=hr (Kd l a p) (ZnN ha);simp only [show decide (((k:Nat):Int) < ((l.length:Nat):Int))=true from Ul (by omega),Zn,Jf a _ (ZfQ ha),Zc,Zh hx,Zq (show k<=9223372036854775806 by omega),Mi];unfold Kd at e ⊢;cases hh:has a p.id with
  |true=>
   have hp:=ZDz ha hh;rw [hp,ha,Uh rfl] at e;rw [Zn,hp,ha,Uh rfl];exact e
  |false=>
   have hp:=ZDA ha hh;have hs:=Ztu ha p.id;rw [hp] at e hs ⊢;simp only [Zf,ZDy a p.id (ZfQ ha) (ZjS ha),Zc,KM l _ hl hs];cases hd:ZI l (ins a p.id) <;> simp [hd] at e ⊢ <;> exact e
def XZ (l:List Path) (x:Control) (w:List Want):List Int:=
 if Zbb w x.stage=0 then [] else if ZR l x && Yo l w then XY l [Zbb w x.stage] else []
theorem Ke:Sm ([]:List Int):=by unfold Sm;simp
theorem ZnP (l:List Path) (x:Control) (w:List Want):Sm (XZ l x w):=by
 unfold XZ;split
 ·exact Ke
 ·split
  ·exact Zcn (Xs _)
  ·exact Ke
theorem Ztv (l:List Path) (x:Control) (w:List Want) (h:Sm l) (hx:ZY x) (hw:Sm w):ZeR l x w=some (XZ l x w):=by
 unfold ZeR XZ;simp only [Zt,Zk,Zp,Zr,Zv,Zs,Zo,ZP,Zy,ZDq w _ hw hx.1,Jg l x h hx,Zjt l w h hw,ZjU l _ h (Xs _),Zc];by_cases c:Zbb w x.stage=0
 ·simp [c]
 ·rw [show (Zbb w x.stage==0)=false from Mc.2 c,Zf,Uf c];cases ZR l x <;> cases Yo l w <;> simp [ZjU l _ h (Xs _)]
theorem Ztw (l:List Path) (x:Control) (w:List Want) (h:Sm l) (hx:ZY x) (hw:Sm w):Zff l x w=some (XZ l x w):=by
 unfold Zff XZ;simp only [Zt,Zk,Zp,Zr,Zv,Zs,Zo,ZP,Zy,ZDr w _ hw hx.1,KO l x h hx,Znc l w h hw,ZjV l _ h (Xs _),Zc];by_cases c:Zbb w x.stage=0
 ·simp [c]
 ·rw [show (Zbb w x.stage==0)=false from Mc.2 c,Zf,Uf c];cases ZR l x <;> cases Yo l w <;> simp [ZjV l _ h (Xs _)]
def Zco (l:List Path) (x:Control) (w:List Want):Bool:=
 Q0 l x && (!(XZ l x w).isEmpty && (decide (x.since>=60) || !w.any fun y=>has x.stage y.path))
theorem gt0 {α:Type} (l:List α):decide (((l.length:Nat):Int) > 0)= !l.isEmpty:=by
 cases l with
 |nil=>rfl
 |cons x l=>simp
theorem ZDB (l:List Path) (x:Control) (w:List Want) (h:Sm l) (hx:ZY x) (hw:Sm w):ZhL l x w=some (Zco l x w):=by
 have hw':=hw;unfold Sm at hw';unfold ZhL Zco;simp only [Zt,Zk,Zp,Zr,Zv,Zs,Zo,ZP,Zy,X7,ZaI];refine (Yd w (by omega) (fun k (b:Bool)=>((l,w,b,(k:Int)),x)) false (fun r _ b=>some (Q0 l x && (!(XZ l x w).isEmpty && (decide (x.since>=60) || !(b || r.any fun y=>has x.stage y.path))))) rfl ?_ ?_).trans (by simp)
 ·intro rec b;rw [show decide (((w.length:Nat):Int) < ((w.length:Nat):Int))=false from Ug (by omega),Zf];simp only [ZnG l x h hx,Zc,Ztv l x w h hx hw,ZZ,gt0];cases Q0 l x <;> cases (XZ l x w).isEmpty <;> cases b <;> simp
 ·intro rec k y b hy hk hr;simp only [Up] at hr;simp only [show decide (((k:Nat):Int) < ((w.length:Nat):Int))=true from Ul (by omega),Zn,Zq (show k<=9223372036854775806 by omega),Zh hy,QW _ _ hx.1,Zc,Ff];cases b with
  |true=>simp [hr true]
  |false=>simp [hr (has x.stage y.path)]
theorem ZDC (y:Want) (x:Control) (hx:ZY x):ZiM y x=some (has x.stage y.path):=by
 unfold ZiM;simp [Jf _ _ hx.1]
theorem ZDD (w:List Want) (x:Control) (h:Sm w) (hx:ZY x):ZiN w x=some (w.any fun y=>has x.stage y.path):=by
 unfold Sm at h;unfold ZiN ZmV;simp only [Zt,Zk,Zp,Zr,Zv,ZP,Zo,Zy,X7,ZaI];generalize hI:Ze (_:_->_->Option Int) NN _=J0;have hI':J0=match w.findIdx? (fun y=>has x.stage y.path) with |some i=>some (i:Int) |none=>some (-1):=by
  rw [←hI];refine Zcf w (fun y=>has x.stage y.path) (by omega) (fun k=>(w,x,(w.length:Int),(k:Int))) (fun i=>some (i:Int)) (some (-1)) rfl ?_ ?_
  ·intro rec;simp
  ·intro rec k a ha hk;simp [hk,Zh ha,Zq (show k<=9223372036854775806 by omega),ZDC a x hx,Zy,ZG]
 rw [hI',←Zce];cases w.findIdx? (fun y=>has x.stage y.path) <;> simp
theorem ZDE (l:List Path) (x:Control) (w:List Want) (h:Sm l) (hx:ZY x) (hw:Sm w):ZiO l x w=some (Zco l x w):=by
 unfold ZiO Zco;simp only [Zt,Zk,Zp,Zr,Zv,Zs,Zo,ZP,Zy,ZnH l x h hx,Zc,Ztw l x w h hx hw,ZZ,Qc,ZDD w x hw hx];cases Q0 l x <;> cases (XZ l x w).isEmpty <;> cases decide (x.since>=60) <;> simp
def Qe (l:List Path) (x:Control) (st:List Int):Control×Bool:=
 if Q0 l x && (!st.isEmpty && (ZI l st && !decide (st=x.stage))) then
  (if Yz l x.stage st=0 then ⟨st,0,[],0⟩ else ⟨x.stage,x.since,st,Yz l x.stage st⟩,true) else (x,false)
theorem Ztx (l:List Path) (x:Control) (st:List Int) (h:Sm l) (hx:ZY x) (hs:Sm st):ZeS l x st=some (Qe l x st):=by
 have hs':=hs;unfold Sm at hs';unfold ZeS Qe;simp only [Zt,Zk,Zp,Zr,Zv,Zs,Zo,Zy,ZdF x hx,ZnG l x h hx,Zc,ZZ,Qc,VR l st h hs,Zm5 st x.stage hs,Zjo l _ _ h hx.1 hs,ZaG];cases Q0 l x with
 |false=>simp [Zy]
 |true=>
 cases st.isEmpty with
 |true=>simp [Zy]
 |false=>
 cases ZI l st with
 |false=>simp [Zy]
 |true=>
 cases decide (st=x.stage) with
 |true=>simp [Zy]
 |false=>
  simp only [Uk,UT,Zf,Zn];rw [Zl (by simp;omega)];by_cases c:Yz l x.stage st=0
  ·simp [c]
  ·simp [c,show (Yz l x.stage st==0)=false from Mc.2 c];rw [Zl (by omega)]
theorem Zty (l:List Path) (x:Control) (st:List Int) (h:Sm l) (hx:ZY x) (hs:Sm st):Zfe l x st=some (Qe l x st):=by
 have h0:=(ZdI l x.stage st).1;unfold Zfe Qe;simp only [Zt,Zk,Zp,Zr,Zv,Zs,Zo,Zy,ZfM x hx,ZnH l x h hx,Zc,ZZ,Qc,KM l st h hs,Zm6 st x.stage hs,Zjn l _ _ h hx.1 hs,KS st hs];cases Q0 l x with
 |false=>simp [Zy]
 |true=>
 cases st.isEmpty with
 |true=>simp [Zy]
 |false=>
 cases ZI l st with
 |false=>simp [Zy]
 |true=>
 cases decide (st=x.stage) with
 |true=>simp [Zy]
 |false=>
  by_cases c:Yz l x.stage st=0
  ·simp [c]
  ·simp [c,show Yz l x.stage st > 0 by omega]
theorem Ztz {l:List Path} {x:Control} {st:List Int} (hx:ZY x) (hs:Sm st):ZY (Qe l x st).1:=by
 unfold Qe;split
 ·simp only;split
  ·exact ⟨hs,Ke⟩
  ·exact ⟨hx.1,hs⟩
 ·exact hx
theorem ZtA {l:List Path} {x:Control} {st:List Int} (h:ZR l x=true):ZR l (Qe l x st).1=true:=by
 unfold Qe;split
 ·rename_i hc;simp only [Ub,UI] at hc;obtain ⟨_,hne,ht,_⟩:=hc;obtain ⟨a1,a2,a3⟩:=ZfN h;obtain ⟨h1,h2⟩:=Za9 h;have ha:=Zcm a2;have h0:=ZdI l x.stage st;have hne':st≠ []:=fun e=>by rw [e] at hne;cases hne
  simp only;split
  ·simp [ZR,ht,hne,ZjH,ha,inR,hne']
  ·simp [ZR,ht,a1,a2,inR,h1,hne'];omega
 ·exact h
def Vr (l:List Path) (x:Control) (w:List Want):Control:=if Zco l x w=true then (Qe l x (XZ l x w)).1 else Xi l x
theorem ZnQ {l:List Path} {x:Control} {w:List Want} (h:ZR l x=true):ZR l (Vr l x w)=true:=by
 unfold Vr;split
 ·exact ZtA h
 ·exact ZnA h
theorem ZnR {l:List Path} {x:Control} {w:List Want} (hx:ZY x):ZY (Vr l x w):=by
 unfold Vr;split
 ·exact Ztz hx (ZnP l x w)
 ·exact Znz hx
theorem ZDF (l:List Path) (x:Control) (w:List Want) (h:Sm l) (hx:ZY x) (hw:Sm w):ZiP l x w=some (Vr l x w):=by
 unfold ZiP Vr;simp only [Zt,Zk,Zp,Zr,Zv,Zs,Zo,ZP,Zy,ZDE l x w h hx hw,Zc,Ztw l x w h hx hw,Zty l x _ h hx (ZnP l x w),Zny l x h hx];cases Zco l x w <;> simp
theorem ZDG (l:List Path) (x:Control) (w:List Want) (h:Sm l) (hx:ZY x) (hw:Sm w):ZhM l x w=some (if ZR l x && Yo l w then (Vr l x w,Ka (Vr l x w) w) else (x,w)):=by
 have hw':=hw;unfold Sm at hw';unfold ZhM;simp only [Zt,Zk,Zp,Zr,Zv,Zs,Zo,ZP,Zy,Jg l x h hx,Zjt l w h hw,ZdF x hx,Znx l x h hx,ZDB l x w h hx hw,Ztv l x w h hx hw,Ztx l x _ h hx (ZnP l x w),Zc,Zc6,X7];cases hc:ZR l x with
 |false=>
  simp only [UT,Zn];rw [Zl (by simp;omega)];simp
 |true=>
 cases ha:Yo l w with
 |false=>
  simp only [UT,Uk,Zn,Zf];rw [Zl (by simp;omega)];simp
 |true=>
 simp only [Uk,Zf,Mw,U2];cases hm:Zco l x w with
 |true=>
  have hy:Vr l x w=(Qe l x (XZ l x w)).1:=by unfold Vr;rw [Uh hm]
  have hyc:=ZnQ (w:=w) hc;have hys:=ZnR (l:=l) (w:=w) hx;rw [hy] at hyc hys;simp only [Zn,ZfD l _ h hys,Zc,hy];unfold Ka;refine Zji w _ (by omega) (fun k acc=>((l,w,acc,XG l (Qe l x (XZ l x w)).1,(k:Int)),((⟨[],0,[],0⟩:Control),(Qe l x (XZ l x w)).1))) (fun acc=>some ((Qe l x (XZ l x w)).1,acc)) rfl ?_ ?_
  ·intro rec acc hl;simp [Zy]
  ·intro rec k z acc hz hk hl;obtain ⟨h1,h2,h3⟩:=ZjI ha (Yb hz);simp [hk,Zh hz,XE _ _ h,ZfO hyc h1,Zq (show k<=9223372036854775806 by omega),Zcd,show W (z.wait + 1)=z.wait + 1 from ZB (by omega) (by omega),Zy];by_cases c:XF (Qe l x (XZ l x w)).1 z.path=1
   ·simp [c]
   ·have hb:(if z.wait + 1 < 100000 then z.wait + 1 else 100000)=KW z.wait:=by unfold KW;split <;> split <;> omega
    simp [c,show (XF (Qe l x (XZ l x w)).1 z.path != 1)=true from bne_iff_ne.2 c,hb,ZjJ,show (acc.length + 1) * 16<=140737488355328 by omega,show acc.length<=1152921504606846975 by omega]
 |false=>
  have hy:Vr l x w=Xi l x:=by unfold Vr;rw [Uf (by rw [hm];simp)]
  have hyc:=ZnQ (w:=w) hc;have hys:=ZnR (l:=l) (w:=w) hx;rw [hy] at hyc hys;simp only [Zf,ZfD l _ h hys,Zc,hy];unfold Ka;refine Zji w _ (by omega) (fun k acc=>((l,w,acc,XG l (Xi l x),(k:Int)),((⟨[],0,[],0⟩:Control),(Xi l x)))) (fun acc=>some ((Xi l x),acc)) rfl ?_ ?_
  ·intro rec acc hl;simp [Zy]
  ·intro rec k z acc hz hk hl;obtain ⟨h1,h2,h3⟩:=ZjI ha (Yb hz);simp [hk,Zh hz,XE _ _ h,ZfO hyc h1,Zq (show k<=9223372036854775806 by omega),Zcd,show W (z.wait + 1)=z.wait + 1 from ZB (by omega) (by omega),Zy];by_cases c:XF (Xi l x) z.path=1
   ·simp [c]
   ·have hb:(if z.wait + 1 < 100000 then z.wait + 1 else 100000)=KW z.wait:=by unfold KW;split <;> split <;> omega
    simp [c,show (XF (Xi l x) z.path != 1)=true from bne_iff_ne.2 c,hb,ZjJ,show (acc.length + 1) * 16<=140737488355328 by omega,show acc.length<=1152921504606846975 by omega]
def Kf (l:List Path) (x:Control) (w:List Want) (r:Prio):Control:=
 if (Kc l x r).toList==Zbd.toList then Xi l x else if (Kc l x r).toList==Zbe.toList then (Qe l x (XY l [r.path])).1 else Vr l x w
def Kg (l:List Path) (x:Control) (w:List Want) (r:Prio):Control×(List Want×Prio):=
 if ZR l x && (Yo l w && YZ l r) then (Kf l x w r,Ka (Kf l x w r) w,Kb r) else (x,w,r)
theorem ZtB {l:List Path} {x:Control} {w:List Want} {r:Prio} (h:ZR l x=true):ZR l (Kf l x w r)=true:=by
 unfold Kf;split
 ·exact ZnA h
 ·split
  ·exact ZtA h
  ·exact ZnQ h
theorem ZnS {l:List Path} {x:Control} {w:List Want} {r:Prio} (h:ZY x):ZY (Kf l x w r):=by
 unfold Kf;split
 ·exact Znz h
 ·split
  ·exact Ztz h (Zcn (Xs _))
  ·exact ZnR h
theorem ZDH (r:Prio):(if r.left > 1 then (⟨r.path,r.left - 1⟩:Prio) else ⟨0,0⟩)=Kb r:=by
 unfold Kb;by_cases c:r.left > 1
 ·rw [Uh c,Uf (by omega)]
 ·rw [Uf c,Uh (by omega)]
theorem ZDI (l:List Path) (x:Control) (w:List Want) (r:Prio) (h:Sm l) (hx:ZY x) (hw:Sm w):ZhO l x w r=some (Kg l x w r):=by
 have hw':=hw;unfold Sm at hw';unfold ZhO Kg;simp only [Zt,Zk,Zp,Zr,Zv,Zs,Zo,ZP,Zy,Jg l x h hx,Zjt l w h hw,Zju l r h,ZdF x hx,Znx l x h hx,ZDG l x w h hx hw,ZDs l x r h hx,ZjU l _ h (Xs _),Ztx l x _ h hx (Zcn (Xs _)),Zc,Zc6,X7];cases hc:ZR l x with
 |false=>
  simp only [UT,Zn];rw [Zl (by simp;omega)];simp
 |true=>
 cases ha:Yo l w with
 |false=>
  simp only [UT,Uk,Zn,Zf];rw [Zl (by simp;omega)];simp
 |true=>
 cases hp:YZ l r with
 |false=>
  simp only [UT,Uk,Zn,Zf];rw [Zl (by simp;omega)];simp
 |true=>
 have hl:=ZjK hp;have hyc:=ZtB (w:=w) (r:=r) hc;have hys:=ZnS (l:=l) (w:=w) (r:=r) hx;have hwt:=Ztf l (Kf l x w r) w h hys hw hyc ha;simp only [Uk,Zf,Mw,U2,show (bs [104,111,108,100])=Zbd from rfl,show (bs [99,97,108,108])=Zbe from rfl,show W (r.left - 1)=r.left - 1 from ZB (by omega) (by omega)];rw [←ZDH r];unfold Kf at hwt ⊢;cases c1:(Kc l x r).toList==Zbd.toList with
 |true=>
  rw [c1,Uh rfl] at hwt;simp only [Zn,U2,hwt,Zc];by_cases c:r.left > 1 <;> simp [c]
 |false=>
  rw [c1,Uf (by simp)] at hwt;cases c2:(Kc l x r).toList==Zbe.toList with
  |true=>
   rw [c2,Uh rfl] at hwt;simp only [Zn,Zf,U2,hwt,Zc];by_cases c:r.left > 1 <;> simp [c]
  |false=>
   simp only [Zf];by_cases c:r.left > 1 <;> simp [c]
theorem ZDJ (l:List Path) (x:Control) (w:List Want) (r:Prio) (h:Sm l) (hx:ZY x) (hw:Sm w):ZiQ l x w r=some (Kg l x w r):=by
 unfold ZiQ Kg;simp only [Zt,Zk,Zp,Zr,Zv,Zs,Zo,ZP,Zy,KO l x h hx,Znc l w h hw,Zjv l r h,ZfM x hx,ZfL w hw,Zny l x h hx,ZDF l x w h hx hw,ZDt l x r h hx,ZjV l _ h (Xs _),Zty l x _ h hx (Zcn (Xs _)),Zc];cases hc:ZR l x with
 |false=>simp
 |true=>
 cases ha:Yo l w with
 |false=>simp
 |true=>
 cases hp:YZ l r with
 |false=>simp
 |true=>
 have hl:=ZjK hp;have hyc:=ZtB (w:=w) (r:=r) hc;have hys:=ZnS (l:=l) (w:=w) (r:=r) hx;have hwt:=Ztg l (Kf l x w r) w h hys hw hyc ha;simp only [Uk,Zf,Mw,U2,show (bs [104,111,108,100])=Zbd from rfl,show (bs [99,97,108,108])=Zbe from rfl,Zti r hl];unfold Kf at hwt ⊢;cases c1:(Kc l x r).toList==Zbd.toList with
 |true=>
  rw [c1,Uh rfl] at hwt;simp [hwt]
 |false=>
  rw [c1,Uf (by simp)] at hwt;cases c2:(Kc l x r).toList==Zbe.toList with
  |true=>
   rw [c2,Uh rfl] at hwt;simp [hwt]
  |false=>
   rw [c2,Uf (by simp)] at hwt;simp [hwt]
def KZ (t:Town):Town:=
 if Yc t.paths t.lamps t.power=0 then {t with now:=t.now + 1,control:=(Kg t.paths t.control t.wants t.prio).1,wants:=(Kg t.paths t.control t.wants t.prio).2.1,prio:=(Kg t.paths t.control t.wants t.prio).2.2} else {t with now:=t.now + 1}
def XK (t:Town):Town×Bool:=if ZS t=true then QC t (Xr (KZ t)) true else (t,false)
theorem ZtC {l:List Path} {x:Control} {w:List Want} {r:Prio} (hx:ZY x) (hw:Sm w):ZY (Kg l x w r).1/\Sm (Kg l x w r).2.1:=by
 unfold Kg;split
 ·exact ⟨ZnS hx,Zth hw⟩
 ·exact ⟨hx,hw⟩
theorem ZnT {t:Town} (h:Zw t):Zw (KZ t):=by
 obtain ⟨h0,h1,h2,h3,h4⟩:=h;unfold KZ;split
 ·exact ⟨h0,(ZtC h1 h2).1,(ZtC h1 h2).2,h3,h4⟩
 ·exact ⟨h0,h1,h2,h3,h4⟩
theorem ZnU (t:Town):(KZ t).record=t.record/\(KZ t).books=t.books:=by
 unfold KZ;split <;> exact ⟨rfl,rfl⟩
theorem ZDK (t:Town) (h:Zw t):ZhP t=some (XK t):=by
 have hh:=ZnT h;obtain ⟨hr,hb⟩:=ZnU t;unfold ZhP XK;simp only [Zt,Zk,Zp,Zr,Zv,Zs,Zo,ZP,Z3,Z0,Z5,Z1,Zy,ZX,QB t h,KQ t h,Ztj t h,ZDI _ _ _ t.prio h.1 h.2.1 h.2.2.1,Zc];cases ht:ZS t with
 |false=>simp
 |true=>
  obtain ⟨p1,p2,p3,p4,p5,p6,p7,p8,p9⟩:=KX ht;have e:=ZjL ht hr hb hh;have hn:=VW ht hr hh;rw [show W (t.now + 1)=t.now + 1 from ZB (by omega) (by omega)];unfold KZ at e hn ⊢;by_cases c:Yc t.paths t.lamps t.power=0
  ·simp only [c,U2] at e hn ⊢;simp [e,Zy,ZX,KV t _ true h hn]
  ·simp only [c,Mx] at e hn ⊢;simp [show (Yc t.paths t.lamps t.power==0)=false from Mc.2 c,e,Zy,ZX,KV t _ true h hn]
theorem ZtD (t:Town) (h:Zw t):Zfg t=some (XK t):=by
 have hh:=ZnT h;obtain ⟨hr,hb⟩:=ZnU t;unfold Zfg XK;simp only [Zt,Zk,Zp,Zr,Zv,Zs,Zo,ZP,Z3,Z0,Z5,Z1,Zy,ZX,Jl t h,KR t h,Ztk t h,ZDJ _ _ _ t.prio h.1 h.2.1 h.2.2.1,Zc];cases ht:ZS t with
 |false=>simp
 |true=>
  obtain ⟨p1,p2,p3,p4,p5,p6,p7,p8,p9⟩:=KX ht;have e:=ZjM ht hr hb hh;have hn:=VW ht hr hh;rw [show W (t.now + 1)=t.now + 1 from ZB (by omega) (by omega)];unfold KZ at e hn ⊢;by_cases c:Yc t.paths t.lamps t.power=0
  ·simp only [c,U2] at e hn ⊢;simp [e,Zy,ZX,Za8 t _ true h hn]
  ·simp only [c,Mx] at e hn ⊢;simp [show (Yc t.paths t.lamps t.power==0)=false from Mc.2 c,e,Zy,ZX,Za8 t _ true h hn]
theorem ZnV {t:Town} (h:Zw t):Zw (XK t).1:=by
 unfold XK;split
 ·rename_i hc;exact ZdH h (VW hc (ZnU t).1 (ZnT h))
 ·exact h
def Vs (t:Town):Nat->Town->Town×Bool
 | 0,u=>(u,true)
 |k + 1,u=>if (XK u).2=true then Vs t k (XK u).1 else (t,false)
def VZ (t:Town) (n:Int):Town×Bool:=if inR n 1 100=true then Vs t n.toNat t else (t,false)
theorem ZtE {t:Town} (ht:Zw t):∀{k:Nat} {u:Town},Zw u->Zw (Vs t k u).1
 | 0,u,hu=>hu
 |k + 1,u,hu=>by
  unfold Vs;split
  ·exact ZtE ht (ZnV hu)
  ·exact ht
theorem ZDL {t:Town} (h:Zw t) (n:Int):Zw (VZ t n).1:=by
 unfold VZ;split
 ·exact ZtE h h
 ·exact h
abbrev Xj:Town:=⟨[],(⟨[],0,[],0⟩:Control),[],(⟨0,0⟩:Prio),[],false,[],0,0⟩
theorem ZtF {F:(((Int×Int)×(Town×(Town×Town)))->Option (Town×Bool))->((Int×Int)×(Town×(Town×Town)))->Option (Town×Bool)} {t:Town} {n:Int} (hn:n<=100)
  (h0:∀rec u (i:Nat),Zw u->¬(i:Int) < n->F rec ((n,(i:Int)),(t,(Xj,u)))=some (u,true))
  (h1:∀rec u (i:Nat),Zw u->(i:Int) < n->F rec ((n,(i:Int)),(t,(Xj,u)))=if (XK u).2=true then rec ((n,((i + 1:Nat):Int)),(t,(Xj,(XK u).1))) else some (t,false))
  {i:Nat} {u:Town} (hu:Zw u):Ze F NN ((n,(i:Int)),(t,(Xj,u)))=some (Vs t (n.toNat - i) u):=by
 refine Zhp (R:=fun v=>some (Vs t (n.toNat - v.1.2.toNat) v.2.2.2)) (fun v=>n.toNat - v.1.2.toNat) (fun v=>∃(i:Nat) (u:Town),v=((n,(i:Int)),(t,(Xj,u)))/\Zw u) ?_ NN _ ⟨i,u,rfl,hu⟩ (KG (by omega));rintro rec _ ⟨i,u,rfl,hu⟩ hr;by_cases c:(i:Int) < n
 ·rw [h1 rec u i hu c];have e:n.toNat - i=n.toNat - (i + 1) + 1:=by omega
  simp only [Uy];rw [e,Vs];split
  ·rw [hr _ ⟨i + 1,_,rfl,ZnV hu⟩ (by simp only [Uy];omega)];simp only [Uy]
  ·rfl
 ·rw [h0 rec u i hu c];simp only [Uy];rw [show n.toNat - i=0 by omega];rfl
theorem ZDM (t:Town) (n:Int) (h:Zw t):ZhQ t n=some (VZ t n):=by
 unfold ZhQ VZ;simp only [Zt,Zk,Zp,Zr,Zv,Zs,Zo,ZP,Z3,Z0,Z5,Z1,Zy,ZX,QB t h,J1,Zc];cases hn:inR n 1 100 with
 |false=>simp
 |true=>
  have hn':1<=n/\n<=100:=by simpa [inR] using hn
  simp only [Uk,Zf,U2];refine (ZtF (t:=t) (n:=n) (i:=0) (u:=t) hn'.2 ?_ ?_ h).trans (by simp)
  ·intro rec u i hu hi;simp [hi,Zy,ZX]
  ·intro rec u i hu hi;simp only [Zt,Zk,Zp,Zr,Zv,Zs,Zo,ZP,Z3,Z0,Z5,Z1,Zy,ZX,Ul hi,Zn,ZDK u hu,Zc,QB t h,Zq (show i<=9223372036854775806 by omega)];cases (XK u).2 <;> simp
theorem ZDN (t:Town) (n:Int) (h:Zw t):ZiR t n=some (VZ t n):=by
 unfold ZiR VZ;simp only [Zt,Zk,Zp,Zr,Zv,Zs,Zo,ZP,Z3,Z0,Z5,Z1,Z1,Zy,ZX,Jl t h,ZaX,Zc,ZtD t h];cases hn:inR n 1 100 with
 |false=>simp
 |true=>
  have hn':1<=n/\n<=100:=by simpa [inR] using hn
  simp only [Uk,Zf,U2,show decide ((0:Int) < n)=true from Ul (by omega),Zn,show W (0 + 1)=((1:Nat):Int) from ZB (by omega) (by omega)];have e:n.toNat=n.toNat - 1 + 1:=by omega
  rw [e,Vs];cases h2:(XK t).2 with
  |false=>simp
  |true=>
   simp only [Uk,Zf,U2];refine ZtF (t:=t) (n:=n) (i:=1) (u:=(XK t).1) hn'.2 ?_ ?_ (ZnV h)
   ·intro rec u i hu hi;simp [hi,Zy,ZX]
   ·intro rec u i hu hi;simp only [Zt,Zk,Zp,Zr,Zv,Zs,Zo,ZP,Z3,Z0,Z5,Z1,Z1,Zy,ZX,Ul hi,Zn,ZtD u hu,Zc,Jl t h,Zq (show i<=9223372036854775806 by omega)];cases (XK u).2 <;> simp
def XL (l:List Path) (c:List (List Int)) (p:Path):List (List Int):=if cov c p.id=true then c else c ++ [XY l [p.id]]
def Y2 (l:List Path):List (List Int):=if ZK l=true then l.foldl (XL l) [] else []
theorem ZtG (a:List Int) (n x:Int):has (YB a n) x=(has a x || n==x):=by
 unfold YB;split
 ·rename_i h;have hm:n∈a:=Um h;by_cases c:n=x
  ·subst c;have:has a n=true:=by unfold has;exact List.any_eq_true.2 ⟨n,hm,by simp⟩
   rw [this];rfl
  ·rw [show (n==x)=false from Mc.2 c,Bool.or_false]
 ·unfold ins has;have e:a.any (fun y=>y==x)=((a.take (low a n)).any (fun y=>y==x) || (a.drop (low a n)).any fun y=>y==x):=by
   rw [←FO,Uq]
  rw [e];simp only [FO,Ff,List.any_nil,Bool.or_false];cases (a.take (low a n)).any (fun y=>y==x) <;> cases (a.drop (low a n)).any (fun y=>y==x) <;> cases (n==x) <;> rfl
theorem ZnW (a:List Int) (n:Int):(YB a n).length<=a.length + 1:=by
 unfold YB;split
 ·omega
 ·rw [Ztp];exact Ur _
theorem ZDO (l:List Path) (p:Int):(XY l [p]).length<=20:=by
 unfold XY;split
 ·rename_i h;exact ZjT (ZnO h)
 ·simp
theorem ZDP (s:List Int):∀(a:List Int) (x:Int),has (s.foldl YB a) x=(has a x || has s x):=by
 induction s with
 |nil=>intro a x;simp [has]
 |cons y s ih=>
  intro a x;rw [Mi,ih,ZtG];unfold has;rw [Ff];cases a.any (fun z=>z==x) <;> cases (y==x) <;> simp
theorem ZDQ (s:List Int):∀(a:List Int),(s.foldl YB a).length<=a.length + s.length:=by
 induction s with
 |nil=>intro a;simp
 |cons y s ih=>
  intro a;rw [Mi,UK];have:=ih (YB a y);have:=ZnW a y;omega
theorem Zcp {l:List Path} (h:ZK l=true):l.length<=12:=by
 unfold ZK at h;rw [Ub] at h;exact FE h.1
theorem ZjW {o p q:Own} (h0:okO o p=true) (h1:okO o q=true) (l:List (List Int)) (a:List Int) {β:Type} (K:List (List Int)->Option β):
  rws (Zb (rX o 1 iR)) (l.map (Zb (rX p 1 iR)).enc ++ [[.slc q 1 (a.map iR.enc)]]) K=K (l ++ [a]):=
 (ZaD (Zb (rX o 1 iR)) _ _ K).trans ((ZeA h0 l _).trans (ZeA h1 [a] fun l'=>K (l ++ l')))
theorem ZtH (l:List Path) (h:Sm l):Ze7 l=some (Y2 l):=by
 unfold Ze7 Y2;simp only [Zt,Zk,Zp,Zr,Zv,Zs,ZbQ,JM,YG,Ve,Xn,JZ l h,Zc];cases ha:ZK l with
 |false=>simp
 |true=>
 have hl:=Zcp ha;simp only [Uk,Zf,U2];refine (Yf l (by omega) (fun k (c:List (List Int))=>(l,c,l,(l.length:Int),(k:Int))) [] (fun k c=>c.length<=k/\∀y∈c,Sm y) ⟨Ur _,fun y hy=>by cases hy⟩ (fun r _ c=>some (r.foldl (XL l) c)) rfl ?_ ?_).trans rfl
 ·intro rec c hJ;rw [show decide (((l.length:Nat):Int) < ((l.length:Nat):Int))=false from Ug (by omega),Zf];rfl
 ·intro rec k p c hJ hx hk hr;simp only [Up] at hr;have hS:SmS c:=⟨by unfold Sm;omega,hJ.2⟩
  simp only [show decide (((k:Nat):Int) < ((l.length:Nat):Int))=true from Ul (by omega),Zn,Zh hx,ZsN c _ hS,Zc,ZjV l _ h (Xs _),Zq (show k<=9223372036854775806 by omega),Mi];cases hc:cov c p.id with
  |true=>
   have e:XL l c p=c:=by unfold XL;rw [Uh hc]
   rw [e];simpa using hr c ⟨by omega,hJ.2⟩
  |false=>
   have e:XL l c p=c ++ [XY l [p.id]]:=by unfold XL;rw [Uf (by rw [hc];simp)]
   have hr':=hr (c ++ [XY l [p.id]]) ⟨by simp;omega,fun y hy=>by
    rcases List.mem_append.1 hy with hy |hy
    ·exact hJ.2 y hy
    ·rw [Mn.1 hy];exact Zcn (Xs _)⟩
   rw [e,←hr'];simp only [UT,Zn];rw [Zl (by simp;omega)];simp only [ZjW (o:= .own) (p:= .own) (q:= .own) rfl rfl]
theorem ZtI (l:List Path) (h:Sm l):ZeJ l=some (Y2 l):=by
 have hl':=h;unfold Sm at hl';unfold ZeJ Y2;simp only [Zt,Zk,Zp,Zr,Zv,Zs,Zo,ZaH,YG,ZZ,Ve,Xn,Yw,Je l h,Zc];refine (Yf l (by omega) (fun k (c:List (List Int)×List Int)=>(l,c.1,c.2,(k:Int))) ([],[]) (fun k c=>(ZK l=true->c.1.length<=k/\c.2.length<=20 * k/\∀x,has c.2 x=cov c.1 x)/\(ZK l=false->c.1= [])) ⟨fun _=>⟨Ur _,Ur _,fun x=>rfl⟩,fun _=>rfl⟩ (fun r _ c=>some (if ZK l=true then r.foldl (XL l) c.1 else [])) rfl ?_ ?_).trans rfl
 ·rintro rec ⟨c,d⟩ hJ;rw [show decide (((l.length:Nat):Int) < ((l.length:Nat):Int))=false from Ug (by omega),Zf];cases ha:ZK l with
  |true=>rfl
  |false=>rw [hJ.2 ha];rfl
 ·rintro rec k p ⟨c,d⟩ hJ hx hk hr;simp only [Up] at hr;simp only [show decide (((k:Nat):Int) < ((l.length:Nat):Int))=true from Ul (by omega),Zn,Je l h,Zc,Zq (show k<=9223372036854775806 by omega)];cases ha:ZK l with
  |false=>simp [show c= [] from hJ.2 ha]
  |true=>
  have hl:=Zcp ha;obtain ⟨j1,j2,j3⟩:=hJ.1 ha;simp only at j1 j2 j3;have hd:Sm d:=by unfold Sm;omega
  simp only [Zn,Zh hx,QW d _ hd,Zc,j3,ZjU l _ h (Xs _),U2,Mi];simp only [ha,U2] at hr;cases hc:cov c p.id with
  |true=>
   have e:XL l c p=c:=by unfold XL;rw [Uh hc]
   rw [e,Zn];exact hr (c,d) ⟨fun _=>⟨Nat.le_succ_of_le j1,by show d.length<=20 * (k + 1);omega,j3⟩,fun h=>by cases h⟩
  |false=>
   have e:XL l c p=c ++ [XY l [p.id]]:=by unfold XL;rw [Uf (by rw [hc];simp)]
   have hs:=ZDO l p.id;have hr':=hr (c ++ [XY l [p.id]],(XY l [p.id]).foldl YB d) ⟨fun _=>⟨by simp;omega,by
    have:=ZDQ (XY l [p.id]) d;simp only;omega,fun x=>by
    simp only;rw [ZDP,j3];unfold cov;rw [FO];simp⟩,fun h=>by cases h⟩
   rw [e,Zf];rw [Zl (by simp;omega)];simp only [ZjW (o:= .shr) (p:= .shr) (q:= .shr) rfl rfl];generalize hst:XY l [p.id]=st at hs hr' ⊢;refine (Yf st (by omega) (fun m (a:List Int)=>(l,c ++ [st],a,(k:Int),st,(m:Int))) d (fun m a=>a.length<=240 + m) (by omega) (fun r _ a=>rec (l,c ++ [st],r.foldl YB a,(k:Int) + 1)) rfl ?_ ?_).trans hr'
   ·intro rec2 a ha2;rw [show decide (((st.length:Nat):Int) < ((st.length:Nat):Int))=false from Ug (by omega),Zf];simp [Zq (show k<=9223372036854775806 by omega)]
   ·intro rec2 m y a ha2 hy hm hr2;simp only [Up] at hr2;have hsa:Sm a:=by unfold Sm;omega
    have:=ZnW a y;simp only [show decide (((m:Nat):Int) < ((st.length:Nat):Int))=true from Ul (by omega),Zn,Zh hy,ZnK a y hsa,Zc,Zq (show m<=9223372036854775806 by omega),Mi];exact hr2 (YB a y) (by omega)
def ZjX (l:List Path) (s:List Int):Town:=⟨l,⟨s,0,[],0⟩,[],⟨0,0⟩,[],true,[],0,0⟩
def Zcq (l:List Path) (s:List Int):Town:=⟨l,⟨s,0,[],0⟩,[],⟨0,0⟩,[],true,(J8 [] 0 (XG l ⟨s,0,[],0⟩)).1,0,0⟩
def Kh (l:List Path):Town×Bool:=match Y2 l with
 | []=>(Xj,false)
 |s::_=>if ZS (Zcq l s)=true then (Zcq l s,true) else (Xj,false)
theorem ZnX {l:List Path} {s:List Int} {r:List (List Int)} (h:Y2 l=s::r):Sm s:=by
 have main:∀(t:List Path) (c:List (List Int)),(∀y∈c,Sm y)->∀y∈t.foldl (XL l) c,Sm y:=by
  intro t
  induction t with
  |nil=>exact fun c hc=>hc
  |cons p t ih=>
   intro c hc;rw [Mi];refine ih _ ?_;unfold XL;split
   ·exact hc
   ·intro y hy;rcases List.mem_append.1 hy with hy |hy
    ·exact hc y hy
    ·rw [Mn.1 hy];exact Zcn (Xs _)
 unfold Y2 at h;split at h
 ·exact main l [] (fun y hy=>by cases hy) s (by rw [h];exact Un ..)
 ·cases h
theorem ZtJ {l:List Path} {s:List Int} (h:Sm l) (hs:Sm s):Zw (ZjX l s):=⟨h,⟨hs,Ke⟩,by unfold Sm;simp [ZjX],by unfold Sm;simp [ZjX],KU⟩
theorem ZnY (l:List Path) (x:Control) (h:Sm l):Sm (XG l x):=by
 unfold Sm at h;unfold Sm XG;split
 ·rw [Ut];exact h
 ·simp
theorem ZnZ {l:List Path} {s:List Int} (h:Sm l) (hs:Sm s):Zw (Zcq l s):=by
 obtain ⟨a,b,c,d,_⟩:=ZtJ h hs;exact ⟨a,b,c,d,Znt KU (by simp) (ZnY l _ h)⟩
theorem ZDR {l:List Path} (h:Sm l):Zw (Kh l).1:=by
 have h0:Zw Xj:=⟨sm0,⟨Ke,Ke⟩,sm0,sm0,KU⟩
 unfold Kh;split
 ·exact h0
 ·rename_i s r hc;split
  ·exact ZnZ h (ZnX hc)
  ·exact h0
where sm0 {α:Type}:Sm ([]:List α):=by unfold Sm;simp
theorem ZDS (l:List Path) (h:Sm l):Zhz l=some (Kh l):=by
 unfold Zhz Kh;simp only [Zt,Zk,Zp,Zr,Zv,Zs,Zo,ZaH,Zhr,Ve,Qc,ZP,Z3,Z0,Z5,Z1,Zy,ZX,ZtI l h,Zc];cases hc:Y2 l with
 |nil=>simp
 |cons s r=>
  have hs:=ZnX hc;have e:=QB _ (ZtJ h hs);have e1:=KQ _ (ZnZ h hs);unfold Zcq at e1;unfold ZjX at e;simp only [List.isEmpty_cons,Zf,ZrD,e,Zc,ZfD l ⟨s,0,[],0⟩ h ⟨hs,Ke⟩,Zns [] 0 _ KU (by simp) (ZnY l _ h),Z0,Z5,Z1];rw [e1];unfold Zcq;generalize ZS _=b;cases b <;> simp
theorem ZDT (l:List Path) (h:Sm l):Ziw l=some (Kh l):=by
 unfold Ziw ZL Kh VC;simp only [Zt,Zk,Zp,Zr,Zv,Zs,Zo,ZaH,ZbQ,JM,Zhr,ZrM,ZBs,Ve,Qc,Z0,Z5,Z1,Z1,ZP,Z3,Zy,ZX,ZtH l h,Zc,Zs3 l h,KF];cases hc:Y2 l with
 |nil=>simp
 |cons s r=>
  have hs:=ZnX hc;have e1:=KR _ (ZnZ h hs);unfold Zcq at e1;simp only [List.isEmpty_cons,Zf,ZrD,Zc,KF,Zjp l ⟨s,0,[],0⟩ h ⟨hs,Ke⟩,Zs4 [] 0 _ KU (by simp) (ZnY l _ h),Z5,Z1];rw [e1];unfold Zcq;generalize ZS _=b;cases b <;> simp
theorem ZtK:∀(n:Nat) (l:List Nat),l.Nodup->(∀x∈l,x < n)->l.length<=n
 | 0,l,_,h=>by
  cases l with
  |nil=>simp
  |cons a l=>exact absurd (h a (Un ..)) (Nat.not_lt_zero _)
 |n + 1,l,hn,h=>by
  have h1:=ZtK n (l.erase n) (hn.erase n) (fun x hx=>by
   have h2:=h x (List.mem_of_mem_erase hx);have h3:x≠n:=fun e=>by subst e;exact (hn.not_mem_erase) hx
   omega)
  rw [List.length_erase] at h1;split at h1 <;> omega
theorem ZtL (l:List Path) (x:List Lamp):∀(r:List Lamp) (k:Nat),goL l x k r=true->∀(j:Nat) (p:Lamp),r[j]? =some p->Zdz l p=true/\(x.take (k + j)).all (J5 p)=true
 | [],k,_,j,p,h=>by simp at h
 |q::r,k,hg,j,p,h=>by
  simp only [goL,Ub] at hg;cases j with
  |zero=>simp at h;subst h;exact hg.1
  |succ j=>
   have:=ZtL l x r (k + 1) hg.2 j p (by simpa using h)
   rwa [show k + 1 + j=k + (j + 1) by omega] at this
theorem Zn0:∀{l:List Path} {o:Option Int},goP o l=true->∀p∈l,Z8 p=true
 | [],_,_,p,hp=>by cases hp
 |q::l,o,h,p,hp=>by
  cases o with
  |none=>
   simp only [goP,Ub] at h;rcases List.mem_cons.1 hp with rfl |hp
   ·exact h.1
   ·exact Zn0 h.2 p hp
  |some i=>
   simp only [goP,Ub] at h;rcases List.mem_cons.1 hp with rfl |hp
   ·exact h.1.1
   ·exact Zn0 h.2 p hp
theorem ZtM {l:List Path} {id:Int} (h:¬ZD l id < 0):∃p∈l,p.id=id:=by
 unfold ZD at h;split at h
 ·rename_i i hi;obtain ⟨hlt,hp,_⟩:=List.findIdx?_eq_some_iff_getElem.1 hi;exact ⟨l[i],List.getElem_mem hlt,by simpa using hp⟩
 ·omega
theorem Zn1 {l:List Path} (hl:ZK l=true) {p:Lamp} (h:Zdz l p=true):1<=p.path/\p.path<=20/\0<=p.colour/\p.colour<=1:=by
 unfold Zdz at h;simp only [Ub,UI,U9] at h;unfold ZK at hl;rw [Ub] at hl;obtain ⟨q,hq,e⟩:=ZtM h.1;have:=Zn0 hl.2 q hq;unfold Z8 inR at this;simp only [Ub,UG] at this;have h2:=h.2;unfold inR at h2;simp only [Ub,UG] at h2;omega
theorem ZDU {l:List Path} {x:List Lamp} (h:QX l x=true):x.length<=42:=by
 unfold QX at h;rw [Ub] at h;obtain ⟨hg,hl⟩:=h;have hat:=ZtL l x x 0 hg
 let f:Lamp->Nat:=fun q=>(q.path * 2 + q.colour).toNat
 have h1:(x.map f).length<=42:=by
  refine ZtK 42 _ ?_ ?_
  ·unfold List.Nodup;rw [List.pairwise_map,MH];intro i j hi hj hij e;have ha:=hat i x[i] (Ua hi);have hb:=hat j x[j] (Ua hj);have ra:=Zn1 hl ha.1;have rb:=Zn1 hl hb.1;have hm:x[i]∈x.take (0 + j):=by
    rw [UZ,List.mem_take_iff_getElem];exact ⟨i,by omega,rfl⟩
   have:=MT.1 hb.2 _ hm;unfold J5 at this;simp only [UI,Fg,Mc,ne_eq] at this;have e':(x[i].path * 2 + x[i].colour).toNat=(x[j].path * 2 + x[j].colour).toNat:=e;omega
  ·intro v hv;obtain ⟨q,hq,rfl⟩:=List.mem_map.1 hv;obtain ⟨i,hi⟩:=List.mem_iff_getElem?.1 hq;have:=Zn1 hl (hat i q hi).1;show (q.path * 2 + q.colour).toNat < 42;omega
 simpa using h1
theorem Zn2 {t:Town} (h:ZS t=true):t.lamps.length<=42:=ZDU (KX h).2.2.2.1
theorem Zcr {σ:Type} {e e':σ->List AV} (h:∀x,Q7 (e x)=e' x):∀l:List σ,ZW (l.map e)=l.map e'
 | []=>rfl
 |x::l=>by simp only [Md,ZW,h,Zcr h l]
@[simp] theorem ZKB (l:List Int):ZW (l.map iR.enc)=l.map iR.enc:=Zcr (fun _=>rfl) l
@[simp] theorem ZKC (l:List Path):ZW (l.map Zi.enc)=l.map Zi.enc:=Zcr (fun _=>rfl) l
@[simp] theorem ZKD (l:List Want):ZW (l.map Zd.enc)=l.map Zd.enc:=Zcr (fun _=>rfl) l
@[simp] theorem ZKE (l:List Lamp):ZW (l.map Zu.enc)=l.map Zu.enc:=Zcr (fun _=>rfl) l
@[simp] theorem ZKF (l:List Note):ZW (l.map (Zg Own.unq).enc)=l.map (Zg Own.own).enc:=Zcr (fun x=>by show Q7 [I x.second, .slc Own.unq 1 (x.lights.map iR.enc),I x.sig]= [I x.second, .slc Own.own 1 (x.lights.map iR.enc),I x.sig];simp [Q7,AV.frz]) l
@[simp] theorem ZKG (l:List Lamp) (a b:Int) (c:Bool) {β:Type} (K:List Lamp->Option β):rws Zu (l.map Zu.enc ++ [[I a,I b,Bl c]]) K=K (l ++ [(⟨a,b,c⟩:Lamp)]):=
 (ZaD _ _ _ K).trans (Z3 l _)
theorem ZDV {σ τ:Type} (f:σ->τ) (l:List σ) (i:Nat) (x:σ):(l.map f).set i (f x)=(l.set i x).map f:=List.map_set.symm
@[simp] theorem ZKH (l:List Lamp) (i:Nat) (a b:Int) (c:Bool) {β:Type} (K:List Lamp->Option β):rws Zu ((l.map Zu.enc).set i [I a,I b,Bl c]) K=K (l.set i ⟨a,b,c⟩):=by
 have:(l.map Zu.enc).set i [I a,I b,Bl c]=(l.set i ⟨a,b,c⟩).map Zu.enc:=ZDV Zu.enc l i ⟨a,b,c⟩;exact (UC (fun z=>rws Zu z K) this).trans (Z3 _ K)
def hit (p c:Int) (x:Lamp):Bool:=x.path==p && x.colour==c
def Qf (p c:Int) (b:Bool) (x:Lamp):Lamp:=if hit p c x=true then ⟨x.path,x.colour,b⟩ else x
def Zbf (l:List Lamp) (p c:Int) (b:Bool):List Lamp:=if l.any (hit p c)=true then l.map (Qf p c b) else l.map (Qf p c b) ++ [⟨p,c,b⟩]
theorem ZtN {β V:Type} (l:List Lamp) (p c:Int) (b:Bool) (hl:l.length<=1099511627776) (st:Nat->List Lamp->Bool->V) (K:List Lamp->Bool->Option β) {F:(V->Option β)->V->Option β} {v:V} (hv:v=st 0 l false)
  (h0:∀rec ls f,ls.length=l.length->F rec (st l.length ls f)=K ls f)
  (h1:∀rec k x (ls:List Lamp) f,ls[k]? =some x->k < l.length->ls.length=l.length->F rec (st k ls f)=if hit p c x=true then rec (st (k + 1) (ls.set k (Qf p c b x)) true) else rec (st (k + 1) ls f)):
  Ze F NN v=K (l.map (Qf p c b)) (l.any (hit p c)):=by
 refine (Yf l (by omega) (fun k (a:List Lamp×Bool)=>st k a.1 a.2) (l,false) (fun k a=>a.1=(l.take k).map (Qf p c b) ++ l.drop k/\a.2=(l.take k).any (hit p c)) ⟨by simp,by simp⟩ (fun _ _ _=>K (l.map (Qf p c b)) (l.any (hit p c))) hv ?_ ?_)
 ·intro rec a ⟨e1,e2⟩;rw [h0 rec a.1 a.2 (by rw [e1];simp),e1,e2];simp
 ·intro rec k x a ⟨e1,e2⟩ hx hk hrec;have hlen:a.1.length=l.length:=by rw [e1];simp;omega
  have hat:a.1[k]? =some x:=by
   rw [e1,Mg (by simp;omega)];simp only [Ut,Uc,US];rw [show k + (k - min k l.length)=k by omega];exact hx
  have hmin:min k l.length=k:=by omega
  have htk:l.take (k + 1)=l.take k ++ [x]:=by
   rw [MF,hx];rfl
  have hdr:l.drop k=x::l.drop (k + 1):=by
   rw [UH hk];congr 1;exact (List.getElem?_eq_some_iff.1 hx).2
  rw [h1 rec k x a.1 a.2 hat hk hlen];split
  ·rename_i hh;refine hrec (_,_) ⟨?_,?_⟩
   ·show a.1.set k _=_;rw [e1,htk,hdr,List.set_append_right _ _ (by simp;omega)];simp only [Ut,Uc,hmin,Nat.sub_self,List.set_cons_zero,UW,Md,List.map_nil,Ux,U6,U5]
   ·show true=_;rw [htk];simp [hh]
  ·rename_i hh;have hh':hit p c x=false:=by simpa using hh
   refine hrec (_,_) ⟨?_,?_⟩
   ·show a.1=_;rw [e1,htk,hdr];simp [Qf,hh']
   ·show a.2=_;rw [htk,e2];simp [hh']
def Zbg (t:Town) (p c:Int) (b:Bool):Town:={t with lamps:=Zbf t.lamps p c b}
def Vt (t:Town) (p c:Int) (b:Bool):Town×Bool:=if ZS t then QC t (Xr (Zbg t p c b)) true else (t,false)
theorem ZDW (l:List Lamp) (p c:Int) (b:Bool):(Zbf l p c b).length<=l.length + 1:=by
 unfold Zbf;split <;> simp
theorem Zn3 {t:Town} (ht:ZS t=true) (h:Zw t) (p c:Int) (b:Bool):Zw (Zbg t p c b):=by
 obtain ⟨h0,h1,h2,h3,h4⟩:=h;have:=ZDW t.lamps p c b;have:=Zn2 ht;exact ⟨h0,h1,h2,by show (Zbf _ _ _ _).length<=_;omega,h4⟩
theorem ZDX (t:Town) (p c:Int) (b:Bool) (h:Zw t):ZhI t p c b=some (Vt t p c b):=by
 unfold ZhI Vt;simp only [Zt,Zk,Zp,Zr,Zv,Zs,Zo,ZP,Z3,Z0,Z5,Z1,ZeD,Zy,ZX,QB t h,KQ t h,Zc];cases ht:ZS t with
 |false=>simp
 |true=>
  have hl:=Zn2 ht;have h':=Zn3 ht h p c b;have e:=ZjL (u:=Zbg t p c b) ht rfl rfl h';have hn:=VW (u:=Zbg t p c b) ht rfl h';have hd:=KV t _ true h hn;simp only [Zt,Zk,Zp,Zr,Zv,Uk,Zse,AV.okU,Y6,ZrO,ZrI,ZrS,ZrU,Zr1,Mw,Zsn,ZrN,Zmu,Zmz,ZrT,Zr0,Zs,Zo,ZP,Z3,ZeD,Zy,ZX];refine (ZtN t.lamps p c b (by omega) (fun k ls f=>((p,c,b,f,(k:Int)),(t,(⟨[],⟨[],0,[],0⟩,[],⟨0,0⟩,[],false,[],0,0⟩:Town),{t with lamps:=ls}))) (fun ls f=>(bnd (QS {t with lamps:=if f=true then ls else ls ++ [⟨p,c,b⟩]}) fun r=>bnd (Qz t r true) fun r27=>some (r27.1,r27.2))) rfl ?_ ?_).trans ?_
  ·intro rec ls f hlen;cases f with
   |false=>
    simp [hlen,Zy];rw [Zl (by omega)]
   |true=>simp [hlen,Zy]
  ·intro rec k x ls f hx hk hlen;have hk':k < ls.length:=by omega
   unfold hit Qf hit;cases hp:x.path==p <;> cases hc:x.colour==c <;> simp [hk,hk',Zh hx,ZbP hx,hp,hc,Zy,ZX,Zq (show k<=9223372036854775806 by omega)]
  ·have:(if t.lamps.any (hit p c)=true then t.lamps.map (Qf p c b) else t.lamps.map (Qf p c b) ++ [⟨p,c,b⟩])=Zbf t.lamps p c b:=rfl;rw [this];show (bnd (QS (Zbg t p c b)) fun r=>bnd (Qz t r true) fun r27=>some (r27.1,r27.2))=_;rw [e,Zc,hd,Zc];rfl
theorem ZtO (t:Town) (p c:Int) (b:Bool) (h:Zw t):Zfd t p c b=some (Vt t p c b):=by
 unfold Zfd Vt;simp only [Zt,Zk,Zp,Zr,Zv,Zs,Zo,ZP,Z3,Z0,Z5,Z1,ZeD,Zy,ZX,Jl t h,KR t h,Zc];cases ht:ZS t with
 |false=>simp
 |true=>
  have hl:=Zn2 ht;have h':=Zn3 ht h p c b;have e:=ZjM (u:=Zbg t p c b) ht rfl rfl h';have hn:=VW (u:=Zbg t p c b) ht rfl h';have hd:=Za8 t _ true h hn;simp only [Zt,Zk,Zp,Zr,Zv,Uk,Zse,AV.okU,Y6,ZrO,ZrI,ZrS,ZrU,Zr1,Mw,Zsn,ZrN,Zmu,Zmz,ZrT,Zr0,Zs,Zo,ZP,Z3,ZeD,ZBu,ZeB,Zy,ZX];refine (ZtN t.lamps p c b (by omega) (fun k ls f=>((p,c,b,f,(t.lamps.length:Int),(k:Int)),(t,(⟨[],⟨[],0,[],0⟩,[],⟨0,0⟩,[],false,[],0,0⟩:Town),{t with lamps:=ls}))) (fun ls f=>(bnd (Vi {t with lamps:=if f=true then ls else ls ++ [⟨p,c,b⟩]}) fun r=>bnd (QU t r true) fun r27=>some (r27.1,r27.2))) rfl ?_ ?_).trans ?_
  ·intro rec ls f hlen;cases f with
   |false=>
    simp [hlen,Zy];rw [Zl (by omega)]
   |true=>simp [hlen,Zy]
  ·intro rec k x ls f hx hk hlen;have hk':k < ls.length:=by omega
   unfold hit Qf hit;cases hp:x.path==p <;> cases hc:x.colour==c <;> simp [hk,hk',Zh hx,ZbP hx,hp,hc,Zy,ZX,Zq (show k<=9223372036854775806 by omega)]
  ·have:(if t.lamps.any (hit p c)=true then t.lamps.map (Qf p c b) else t.lamps.map (Qf p c b) ++ [⟨p,c,b⟩])=Zbf t.lamps p c b:=rfl;rw [this];show (bnd (Vi (Zbg t p c b)) fun r=>bnd (QU t r true) fun r27=>some (r27.1,r27.2))=_;rw [e,Zc,hd,Zc];rfl
theorem ZDY {t:Town} (h:Zw t) (p c:Int) (b:Bool):Zw (Vt t p c b).1:=by
 unfold Vt;split
 ·rename_i hc;exact ZdH h (VW (t:=t) hc rfl (Zn3 hc h p c b))
 ·exact h
def K0 (t:Town) (e:Evt):Town×Bool:=
 if e.kind=1 then Jn t e.path else if e.kind=2 then Jm t e.path else if e.kind=3 then Vt t e.path e.n e.on else if e.kind=4 then VV t e.on else
 if e.kind=5 then VZ t e.n else if e.kind=6 then VX t e.path else (t,false)
theorem Zn4 (t:Town) (e:Evt) (h:Zw t):ZeU t e=some (K0 t e):=by
 unfold ZeU K0;simp only [Zt,Zk,Zp,Zr,Zv,Zs,Zo,ZP,Z3,Z0,Z5,Z1,Zy,ZX,ZDn t _ h,ZCZ t _ h,ZDX t _ _ _ h,ZDa t _ h,ZDM t _ h,ZDd t _ h,QB t h,Zc,ZG,Fz]
 repeat (split; · rfl)
 rfl
theorem ZDZ {t:Town} (h:Zw t) (e:Evt):Zw (K0 t e).1:=by
 unfold K0;split
 ·exact ZDp h _
 split
 ·exact ZC1 h _
 split
 ·exact ZDY h _ _ _
 split
 ·exact ZDc h _
 split
 ·exact ZDL h _
 split
 ·exact ZDf h _
 ·exact h
theorem ZtP {V β:Type} {F:(V->Option β)->V->Option β} {Q:β->Prop} (μ:V->Nat) (inv:V->Prop)
  (step:∀rec v,inv v->(∀v',inv v'->μ v' < μ v->∃b,rec v'=some b/\Q b)->∃b,F rec v=some b/\Q b):∀n v,inv v->μ v < n->∃b,Ze F n v=some b/\Q b
 | 0,v,_,h=>by omega
 |n + 1,v,hi,h=>by
  rw [Vd];exact step _ v hi fun v' hi' hlt=>ZtP μ inv step n v' hi' (by omega)
theorem ZtQ (l:List Path) (a b c d:Int) {β:Type} (K:List Path->Option β):rws Zi (l.map Zi.enc ++ [[I a,I b,I c,I d]]) K=K (l ++ [(⟨a,b,c,d⟩:Path)]):=
 (ZaD _ _ _ K).trans (Zs l _)
theorem ZtR {z:List (Path×Int)}:∀(r:List (Path×Int)) (k:Nat),goS z k r=true->∀(j:Nat) (y:Path×Int),r[j]? =some y->inR y.2 0 2=true/\(z.take (k + j)).all (Za3 y)=true
 | [],k,_,j,y,h=>by simp at h
 |q::r,k,hg,j,y,h=>by
  simp only [goS,Ub] at hg;cases j with
  |zero=>simp at h;subst h;exact hg.1
  |succ j=>
   have:=ZtR r (k + 1) hg.2 j y (by simpa using h)
   rwa [show k + 1 + j=k + (j + 1) by omega] at this
theorem ZD0:∀a b c d:Fin 4,ZaY (2 * ((a:Nat):Int)) (2 * ((b:Nat):Int) + 1) (2 * ((c:Nat):Int)) (2 * ((d:Nat):Int) + 1)=ZaY (2 * ((c:Nat):Int)) (2 * ((d:Nat):Int) + 1) (2 * ((a:Nat):Int)) (2 * ((b:Nat):Int) + 1):=by
 decide
theorem ZjY {n:Int} (h:0<=n/\n<=3):∃a:Fin 4,n=((a:Nat):Int):=⟨⟨n.toNat,by omega⟩,by simp;omega⟩
theorem ZtS {p:Path} (h:Z8 p=true):(0<=p.src/\p.src<=3)/\(0<=p.dst/\p.dst<=3):=by
 unfold Z8 inR at h;simp only [Ub,UG] at h;exact ⟨h.1.1.2,h.1.2⟩
theorem ZtT (a:Path):Z2 a a=false:=by
 unfold Z2;split
 ·rfl
 ·split
  ·rfl
  ·rename_i h;have h2:¬a.kind=2:=fun e=>h ⟨e,e⟩
   simp [h2]
theorem Zn5 (a b:Path):Z2 a b=Z2 b a:=by
 cases ha:Z8 a with
 |false=>unfold Z2;simp [ha]
 |true=>
 cases hb:Z8 b with
 |false=>unfold Z2;simp [hb]
 |true=>
  obtain ⟨a1,a2⟩:=ZtS ha;obtain ⟨b1,b2⟩:=ZtS hb;obtain ⟨x,hx⟩:=ZjY a1;obtain ⟨y,hy⟩:=ZjY a2;obtain ⟨z,hz⟩:=ZjY b1;obtain ⟨u,hu⟩:=ZjY b2;have:=ZD0 x y z u;unfold Z2;simp only [ha,hb,Bool.true_eq_false,or_self,Mx];by_cases c1:a.kind=2 <;> by_cases c2:b.kind=2 <;> simp only [c1,c2,and_self,and_true,and_false,FT,false_and,U2,Mx]
  by_cases d1:a.src=b.src
  ·rw [Uh d1,Uh d1.symm]
  ·rw [Uf d1,Uf (show ¬b.src=a.src from fun e=>d1 e.symm)];by_cases d2:a.dst=b.dst
   ·rw [Uh d2,Uh d2.symm]
   ·rw [Uf d2,Uf (show ¬b.dst=a.dst from fun e=>d2 e.symm),hx,hy,hz,hu];exact this
theorem ZtU {p:List Path}:∀{l:List Note},(∀x∈l,0<=x.second)->goU p l= -1->∀x∈l,Vn p x.lights=true
 | [],_,_,x,hx=>by cases hx
 |y::l,h0,h,x,hx=>by
  rw [goU] at h;split at h
  ·rename_i hy;rcases List.mem_cons.1 hx with rfl |hx
   ·exact hy
   ·exact ZtU (fun z hz=>h0 z (Ui _ hz)) h x hx
  ·have:=h0 y (Un ..);omega
theorem ZD1 {t:Town} (h:ZS t=true) {e:Note} (he:e∈t.record):Vn t.paths e.lights=true:=by
 have h':=h;simp only [ZS,Ub,UG] at h';obtain ⟨⟨⟨⟨⟨⟨⟨⟨⟨⟨h1,h2⟩,h3⟩,h4⟩,h5⟩,h6⟩,h7⟩,h8⟩,h9⟩,h10⟩,h11⟩:=h';unfold Za5 at h7;rw [Uh h5] at h7;exact ZtU (fun x hx=>(Zfz h5 x hx).2.1) h7 e he
theorem ZtV {s:Int}:∀(l:List Note) (k:Nat) (a:Int) (i:Nat) (x:Note),Vo s l k a=((k + i:Nat):Int)->l[i]? =some x->a < k->x.second<=s
 | [],k,a,i,x,h,hx,_=>by simp at hx
 |y::r,k,a,i,x,h,hx,ha=>by
  rw [Vo] at h;cases i with
  |zero=>
   simp at hx;subst hx;by_cases c:y.second<=s
   ·exact c
   ·rw [Uf c] at h;rcases Zne (s:=s) r (k + 1) a with h2 | ⟨j,_,h2⟩
    ·rw [h2] at h;omega
    ·rw [h2] at h;omega
  |succ i=>
   refine ZtV r (k + 1) _ i x (by rw [h];congr 1;omega) (by simpa using hx) ?_;split <;> omega
theorem ZD2 {t:Town} {p s:Int} (h:(Y0 t p s).2=true):ZS t=true/\(∃(m:Nat) (q:Path),ZD t.paths p=(m:Int)/\t.paths[m]? =some q/\ZQ t.paths p=q/\∃(i:Nat) (e:Note) (x:Int),e∈t.record/\t.record[i]? =some e/\Zci t.record s=some e/\QY t.record s=(i:Int)/\e.second<=s/\e.lights[m]? =some x/\0<=x/\x<=2/\s<=t.now/\
  (Y0 t p s).1=⟨p,s,x,VU t.record m s,goO q (t.paths.zip e.lights) 0⟩):=by
 unfold Y0 at h ⊢;split at h
 ·cases h
 ·rename_i hc;have hn:¬ZS t=false/\¬ZD t.paths p < 0/\¬t.now < s:=⟨fun e=>hc (.inl e),fun e=>hc (.inr (.inl e)),fun e=>hc (.inr (.inr e))⟩
  have ht:ZS t=true:=by simpa using hn.1
  refine ⟨ht,?_⟩;rw [Uf hc];rcases J7 t.record s with ⟨e1,_⟩ | ⟨i,e,e1,e2,e3,e4⟩
  ·rw [e1] at h;cases h
  ·obtain ⟨m,q,q1,q2,_⟩:=J4 hn.2.1;have hq:ZQ t.paths p=q:=by unfold ZQ;rw [q2,Uy,q1];rfl
   have he:=Yb e1;have hs:=ZD1 ht he;have hlen:=(Znh ht he).1;have hm:m < t.paths.length:=(List.getElem?_eq_some_iff.1 q1).1;have hx:e.lights[m]? =some e.lights[m]:=Ua (by omega);have hz:(t.paths.zip e.lights)[m]? =some (q,e.lights[m]):=by rw [List.getElem?_zip_eq_some];exact ⟨q1,hx⟩
   have hs2:=hs;unfold Vn at hs2;simp only [Ub,UG] at hs2;have hr:=(ZtR _ 0 hs2.2 m _ hz).1;unfold inR at hr;simp only [Ub,UG] at hr;have hsec:e.second<=s:=by
    unfold QY at e2;rw [Uh e4] at e2;exact ZtV t.record 0 (-1) i e (by rw [e2,UZ]) e1 (by omega)
   refine ⟨m,q,q2,q1,hq,i,e,e.lights[m],he,e1,e3,e2,hsec,hx,hr.1,hr.2,by omega,?_⟩;rw [e3];simp only;rw [q2,hq];have:Qa e (m:Int)=e.lights[m]:=by
    unfold Qa;rw [Uh (by omega),Uy,hx]
   rw [this]
theorem ZdJ {t o:Town} {ok:Bool} (h:(QC t o ok).2=true):ok=true/\ZS t=true/\ZS o=true/\(QC t o ok).1=o:=by
 unfold QC at h ⊢;split at h
 ·rename_i c;simp only [Ub] at c;exact ⟨c.1,c.2.1,c.2.2,by rw [Uh (by simp [c])]⟩
 ·cases h
theorem ZjZ (t:Town):(Xr t).wants=t.wants/\(Xr t).prio=t.prio/\(Xr t).lamps=t.lamps/\(Xr t).power=t.power/\(Xr t).now=t.now:=by
 unfold Xr;split <;> exact ⟨rfl,rfl,rfl,rfl,rfl⟩
theorem ZD3 {t:Town} {p:Int} (h:(Jn t p).2=true):ZS (Jn t p).1=true/\(Jn t p).1.wants.length=t.wants.length + 1:=by
 obtain ⟨h1,_,h3,h4⟩:=ZdJ h;have e:(Jn t p).1=_:=h4;rw [e];refine ⟨h3,?_⟩;show (VY t.paths t.wants p).1.length=_;unfold VY at h1 ⊢;split at h1
 ·rename_i c;rw [Uh c];exact ZfP _ _ (ZjN _ _)
 ·cases h1
theorem ZD4 {t:Town} {p:Int} (h:(Jm t p).2=true):ZS (Jm t p).1=true/\(Jm t p).1.prio.path=p:=by
 obtain ⟨h1,_,h3,h4⟩:=ZdJ h;have e:(Jm t p).1=_:=h4;rw [e];refine ⟨h3,?_⟩;show (J9 t.paths t.prio p).1.path=p;unfold J9 at h1 ⊢;split at h1
 ·rename_i c;rw [Uh c]
 ·cases h1
theorem ZD5 (p c:Int) (b:Bool) (x:Lamp):brk (Qf p c b x) p c=(hit p c x && b):=by
 unfold brk Qf hit;cases x with
 |mk q d e=>
  cases h1:(q==p) <;> cases h2:(d==c) <;> cases b <;> simp [h1,h2]
theorem ZD6 (l:List Lamp) (p c:Int) (b:Bool):broken (Zbf l p c b) p c=b:=by
 have e:∀l:List Lamp,((l.map (Qf p c b)).any fun a=>brk a p c)=(l.any (hit p c) && b):=by
  intro l
  induction l with
  |nil=>simp
  |cons x l ih=>rw [Md,Ff,ih,ZD5,Ff];cases hit p c x <;> cases l.any (hit p c) <;> cases b <;> rfl
 unfold Zbf broken;split
 ·rename_i h;rw [e,h,UV]
 ·rename_i h;rw [FO,e];have:l.any (hit p c)=false:=by simpa using h
  rw [this];simp [brk]
theorem ZD7 {t:Town} {p c:Int} {b:Bool} (h:(Vt t p c b).2=true):ZS (Vt t p c b).1=true/\broken (Vt t p c b).1.lamps p c=b:=by
 unfold Vt at h ⊢;split at h
 ·rename_i ht;rw [Uh ht];obtain ⟨_,_,h3,h4⟩:=ZdJ h;rw [h4];refine ⟨h3,?_⟩;rw [(ZjZ _).2.2.1];exact ZD6 _ _ _ _
 ·cases h
theorem ZD8 {t:Town} {b:Bool} (h:(VV t b).2=true):ZS (VV t b).1=true/\(VV t b).1.power=b:=by
 unfold VV at h ⊢;split at h
 ·rename_i ht;rw [Uh ht];obtain ⟨_,_,h3,h4⟩:=ZdJ h;rw [h4];exact ⟨h3,(ZjZ _).2.2.2.1⟩
 ·cases h
theorem ZD9 {t:Town} (h:(XK t).2=true):ZS t=true/\ZS (XK t).1=true/\(XK t).1.now=t.now + 1:=by
 unfold XK at h ⊢;split at h
 ·rename_i ht;rw [Uh ht];obtain ⟨_,_,h3,h4⟩:=ZdJ h;rw [h4];refine ⟨ht,h3,?_⟩;rw [(ZjZ _).2.2.2.2];unfold KZ;split <;> rfl
 ·cases h
theorem ZEa {t:Town} {p:Int} (h:(VX t p).2=true):ZS t=true/\ZS (VX t p).1=true/\(VX t p).1.now=t.now + 1:=by
 unfold VX at h ⊢;split at h
 ·rename_i ht;rw [Uh ht];obtain ⟨_,h2,h3,h4⟩:=ZdJ h;rw [h4];refine ⟨h2,h3,?_⟩;rw [(ZjZ _).2.2.2.2];unfold KY;split <;> rfl
 ·cases h
theorem ZtW {t:Town}:∀{k:Nat} {u:Town},(Vs t k u).2=true->(Vs t k u).1.now=u.now + (k:Int)/\(ZS u=true->ZS (Vs t k u).1=true)/\(1<=k->ZS u=true)
 | 0,u,h=>⟨by unfold Vs;simp,fun hu=>hu,by omega⟩
 |k + 1,u,h=>by
  unfold Vs at h ⊢;split at h
  ·rename_i c;rw [Uh c];obtain ⟨a1,a2,a3⟩:=ZD9 c;obtain ⟨b1,b2,_⟩:=ZtW h;exact ⟨by rw [b1,a3];omega,fun _=>b2 a2,fun _=>a1⟩
  ·cases h
theorem ZEb {t:Town} {n:Int} (h:(VZ t n).2=true):ZS t=true/\ZS (VZ t n).1=true/\(VZ t n).1.now=t.now + n/\1<=n/\n<=100:=by
 unfold VZ at h ⊢;split at h
 ·rename_i c;rw [Uh c];have hn:1<=n/\n<=100:=by unfold inR at c;simpa using c
  obtain ⟨a1,a2,a3⟩:=ZtW h;have ht:=a3 (by omega);exact ⟨ht,a2 ht,by rw [a1];omega,hn⟩
 ·cases h
theorem ZtX {l:List Path} {ids:List Int}:∀{r:List Int} {k:Nat},goT l ids k r=true->∀(i:Nat) (x:Int),r[i]? =some x->(ids.take (k + i)).all (Vl l x)=true
 | [],_,_,i,x,hx=>by simp at hx
 |y::r,k,h,i,x,hx=>by
  simp only [goT,Ub] at h;cases i with
  |zero=>simp at hx;subst hx;exact h.1.2
  |succ i=>
   have:=ZtX h.2 i x (by simpa using hx)
   rwa [show k + 1 + i=k + (i + 1) by omega] at this
theorem ZEc {l:List Path} {a:List Int} (h:ZI l a=true) {x y:Int} (hx:x∈a) (hy:y∈a):Z2 (ZQ l x) (ZQ l y)=false:=by
 unfold ZI at h;rw [Ub] at h;obtain ⟨i,hi⟩:=Mk hx;obtain ⟨j,hj⟩:=Mk hy;have key:∀{i j:Nat} {x y:Int},a[i]? =some x->a[j]? =some y->j < i->Z2 (ZQ l x) (ZQ l y)=false:=fun {i j x y} hi hj c=>by
  have h1:=ZtX h.1 i x hi;have hm:y∈a.take (0 + i):=by
   rw [UZ,List.mem_iff_getElem?];exact ⟨j,by rw [UA,Uh c];exact hj⟩
  have:=MT.1 h1 _ hm;unfold Vl at this;simpa using this
 rcases FD i j with c |c |c
 ·rw [Zn5];exact key hj hi c
 ·subst c;rw [hi] at hj;cases hj;exact ZtT _
 ·exact key hi hj c
theorem Zn6 {l:List Path} {x:Path} (hx:x∈l):¬ZD l x.id < 0:=by
 unfold ZD;split
 ·omega
 ·rename_i hn;have:=List.findIdx?_eq_none_iff.1 hn x hx;simp at this
theorem ZfR:∀(l:List Path) (pv:Option Int),goP pv l=true->(∀x∈l,∀a,pv=some a->a < x.id)/\l.Pairwise (fun x y=>x.id < y.id)
 | [],_,_=>⟨by simp, .nil⟩
 |x::l,pv,h=>by
  have h2:goP (some x.id) l=true:=by cases pv <;> · unfold goP at h;simp at h;simp [h]
  obtain ⟨g1,g2⟩:=ZfR l _ h2;have hx:∀a,pv=some a->a < x.id:=fun a e=>by
   subst e;unfold goP at h;simp at h;exact h.1.2
  refine ⟨fun y hy a e=> ?_,List.pairwise_cons.2 ⟨fun y hy=>g1 y hy x.id rfl,g2⟩⟩;rcases List.mem_cons.1 hy with rfl |hy
  ·exact hx a e
  ·have:=g1 y hy x.id rfl;have:=hx a e;omega
theorem Zj0 {l:List Path} (h:ZK l=true):goP none l=true:=by
 unfold ZK at h;rw [Ub] at h;exact h.2
theorem Jp {l:List Path} (h:ZK l=true) {x:Path} (hx:x∈l):ZQ l x.id=x:=by
 obtain ⟨k,hx⟩:=Mk hx;obtain ⟨i,y,h1,h2,h3⟩:=J4 (Zn6 (Um hx));have hy:ZQ l x.id=y:=by unfold ZQ;rw [h2,Uy,h1];rfl
 rw [hy];have hp:=(ZfR l none (Zj0 h)).2;rcases FD i k with c |c |c
 ·have:=(MH.1 hp) i k (List.getElem?_eq_some_iff.1 h1).1 (List.getElem?_eq_some_iff.1 hx).1 c;rw [(List.getElem?_eq_some_iff.1 h1).2,(List.getElem?_eq_some_iff.1 hx).2] at this;omega
 ·subst c;rw [h1] at hx;exact Uo hx
 ·have:=(MH.1 hp) k i (List.getElem?_eq_some_iff.1 hx).1 (List.getElem?_eq_some_iff.1 h1).1 c;rw [(List.getElem?_eq_some_iff.1 h1).2,(List.getElem?_eq_some_iff.1 hx).2] at this;omega
theorem ZdK {a:List Int} {n:Int}:has a n=true↔n∈a:=by
 unfold has;rw [List.any_eq_true];constructor
 ·rintro ⟨x,hx,h⟩;have:x=n:=by simpa using h
  exact this ▸ hx
 ·intro h;exact ⟨n,h,by simp⟩
theorem ZfS (l:List UInt8):ByteArray.mk l.toArray=bs l:=rfl
theorem YN (l:List UInt8):(bs l).size=l.length:=rfl
def ZtY:ByteArray:=bs [45]
def jn (a b:ByteArray) (r:List ByteArray):ByteArray:=r.foldl (fun a x=>a ++ b ++ x) a
def Zbh (l:List ByteArray) (b:ByteArray):ByteArray:=match l with | []=>ZtY |x::r=>jn x b r
def tot (l:List ByteArray) (b:ByteArray):Nat:=(l.map (fun x=>x.size + b.size)).sum
theorem ZdL (x:ByteArray) (l:List ByteArray) (b:ByteArray):tot (x::l) b=x.size + b.size + tot l b:=by simp [tot]
theorem ZtZ (b:ByteArray):∀(r:List ByteArray) (a:ByteArray),(jn a b r).data.toList=a.data.toList ++ Lib.joinTail b.data.toList (r.map (·.data.toList))
 | [],a=>by simp [jn,Lib.joinTail]
 |x::r,a=>by
  show (jn (a ++ b ++ x) b r).data.toList=_;rw [ZtZ b r];simp [Lib.joinTail]
theorem Zt0 (x:ByteArray) (r:List ByteArray) (b:ByteArray):ZbR (x::r) b=jn x b r:=by
 have h:(ZbR (x::r) b).data.toList=(jn x b r).data.toList:=by
  rw [ZtZ];show (Lib.join _ _).toArray.toList=_;rw [Md,Lib.join_cons]
 have h2:(ZbR (x::r) b).data=(jn x b r).data:=Array.toList_inj.1 h;exact MS h2
theorem Zn7 (b:ByteArray):∀(r:List ByteArray) (a:ByteArray),(jn a b r).size=a.size + tot r b
 | [],a=>by simp [jn,tot]
 |x::r,a=>by
  show (jn (a ++ b ++ x) b r).size=_;rw [Zn7 b r,ZdL,UN,UN];omega
theorem ZEd (x:ByteArray) (r:List ByteArray) (b:ByteArray):(Lib.join ((x::r).map (·.data.toList)) b.data.toList).length=x.size + tot r b:=by
 have h:=Zn7 b r x;rw [←Zt0] at h;exact h
theorem Zj1 (l:List ByteArray) (b:ByteArray) (h:l.length<=1099511627776) (ht:tot l b<=1099511627776):Jc l b=some (Zbh l b):=by
 unfold Jc;cases l with
 |nil=>rfl
 |cons x r=>
  have hj:ZbS (x::r) b=some (jn x b r):=by
   unfold ZbS;rw [ZdL] at ht;rw [Zl ⟨by omega,by rw [ZEd];omega⟩,Zt0]
  simp [hj];rw [show (((r.length:Int) + 1)==0)=false by simp;omega];rfl
theorem Zj2 (l:List ByteArray) (b:ByteArray) (h:l.length<=1099511627776) (ht:tot l b<=1099511627776):Jb l b=some (Zbh l b):=by
 unfold Jb;simp;refine (Yf l (by omega) (fun k acc=>(l,b,acc,(k:Int))) (bs []) (fun k acc=>(k=0->acc=bs [])/\acc.size + tot (l.drop k) b<=1099511627776) ⟨fun _=>rfl,by simpa [YN] using ht⟩
  (fun s k acc=>some (if l.length=0 then ZtY else if k=0 then (match s with | []=>acc |x::r=>jn (acc ++ x) b r) else jn acc b s)) rfl ?_ ?_).trans ?_
 ·intro rec acc hJ;simp [ZG];by_cases h0:l= []
  ·simp [h0];rfl
  ·simp [h0,jn]
 ·intro rec k x acc hJ hx hk hr;simp only [Up] at hr;have hl0:¬l= []:=by rintro rfl;simp at hk
  obtain ⟨hJ0,hJ1⟩:=hJ;rw [show l.drop k=x::l.drop (k + 1) by
   have:=(List.getElem?_eq_some_iff.1 hx).2;rw [UH hk,this],ZdL] at hJ1
  simp [hk,Zh hx,Zq (show k<=9223372036854775806 by omega),hl0];by_cases h0:k=0
  ·subst h0;simp;rw [Zl (by omega)];have:=hr (acc ++ x) ⟨by omega,by rw [UN];omega⟩;simp [hl0] at this;simpa using this
  ·simp [h0,show 0 < k by omega];rw [Zl (by omega),Zl (by omega)];have:=hr (acc ++ b ++ x) ⟨by omega,by rw [UN,UN];omega⟩;simp [hl0] at this;simpa [jn] using this
 ·cases l with
  |nil=>rfl
  |cons x r=>simp [Zbh];rw [show bs [] ++ x=x from by apply MS;simp [bs]]
@[simp] theorem Zcs {β:Type} (l:List ByteArray) (s:ByteArray) (K:List ByteArray->Option β):rws sR (l.map sR.enc ++ [[Sg s]]) K=K (l ++ [s]):=
 (UC (fun z=>rws sR z K) (UW (f:=sR.enc) (l₁:=l) (l₂:= [s])).symm).trans (Qx sR (l ++ [s]) K)
@[simp] theorem ZKI {β:Type} (l:List Int) (s:Int) (K:List Int->Option β):rws iR (l.map iR.enc ++ [[I s]]) K=K (l ++ [s]):=
 (UC (fun z=>rws iR z K) (UW (f:=iR.enc) (l₁:=l) (l₂:= [s])).symm).trans (Qx iR (l ++ [s]) K)
theorem Zbi {α V β:Type} (l:List α) (f:α->ByteArray) (hl:l.length<=1099511627776) (st:Nat->List ByteArray->V) (K:List ByteArray->Option β) {F:(V->Option β)->V->Option β} {v:V} (hv:v=st 0 [])
  (h0:∀rec acc,acc.length=l.length->F rec (st l.length acc)=K acc)
  (h1:∀rec k x acc,l[k]? =some x->k < l.length->acc.length=k->F rec (st k acc)=rec (st (k + 1) (acc ++ [f x]))):Ze F NN v=K (l.map f):=by
 refine (Yf l (by omega) st [] (fun k acc=>acc.length=k) rfl (fun s _ acc=>K (acc ++ s.map f)) hv ?_ ?_).trans (by simp)
 ·intro rec acc h;rw [h0 rec acc h];simp
 ·intro rec k x acc h hx hk hr;rw [h1 rec k x acc hx hk h,hr _ (by simp [h])];simp
def X0 (v:Int):ByteArray:=if v=0 then bs [114] else if v=1 then bs [103] else if v=2 then bs [99] else bs [46]
theorem Zn8 (v:Int):(X0 v).size=1:=by
 unfold X0;split <;> (try split) <;> (try split) <;> rfl
theorem K2 {α:Type} (l:List α) (f:α->ByteArray) (b:ByteArray) (n:Nat) (h:∀x∈l,(f x).size<=n):tot (l.map f) b<=l.length * (n + b.size):=by
 induction l with
 |nil=>simp [tot]
 |cons x l ih=>
  rw [Md,ZdL,UK,Nat.succ_mul];have:=ih fun y hy=>h y (Ui _ hy)
  have:=h x (Un ..);omega
def Ki (l:List Int):ByteArray:=Zbh (l.map X0) (bs [])
theorem Zj3 (l:List Int) (h:Sm l):ZbZ l=some (Ki l):=by
 unfold Sm at h;unfold ZbZ Ki;simp;refine (Zbi l X0 (by omega) (fun k acc=>(l,acc,(k:Int))) (fun a=>Jb a (bs [])) rfl ?_ ?_).trans ?_
 ·intro rec acc ha;simp
 ·intro rec k x acc hx hk ha;simp [hk,Zh hx,Jd,Zq (show k<=9223372036854775806 by omega),ha,show (k + 1) * 16<=140737488355328 by omega,show k<=1152921504606846975 by omega];by_cases h0:0<=x
  ·by_cases h2:x<=2
   ·rw [ZB (by omega) (by omega)];simp [h0,h2];rw [Zl ⟨by omega,by show x + 1<=3;omega⟩];have:x=0\/x=1\/x=2:=by omega
    rcases this with rfl |rfl |rfl <;> rfl
   ·simp [h2];rw [show X0 x=bs [46] by simp [X0,show x≠0 by omega,show x≠1 by omega,show x≠2 by omega]]
  ·simp [h0];rw [show X0 x=bs [46] by simp [X0,show x≠0 by omega,show x≠1 by omega,show x≠2 by omega]]
 ·refine Zj2 _ _ (by simp;omega) ?_;have:=K2 l X0 (bs []) 1 fun x _=>Nat.le_of_eq (Zn8 x)
  simp [YN] at this;omega
theorem Zj4 (l:List Int) (h:Sm l):Zca l=some (Ki l):=by
 unfold Sm at h;unfold Zca Ki;simp;refine (Zbi l X0 (by omega) (fun k acc=>(acc,l,(l.length:Int),(k:Int))) (fun a=>Jc a (bs [])) rfl ?_ ?_).trans ?_
 ·intro rec acc ha;simp
 ·intro rec k x acc hx hk ha;simp [hk,Zh hx,Zq (show k<=9223372036854775806 by omega),ha,show (k + 1) * 16<=140737488355328 by omega,show k<=1152921504606846975 by omega];by_cases e0:x=0
  ·simp [e0,X0,bs]
  by_cases e1:x=1
  ·simp [e1,X0,bs]
  by_cases e2:x=2
  ·simp [e2,X0,bs]
  simp [e0,e1,e2,X0,ZG,bs]
 ·refine Zj1 _ _ (by simp;omega) ?_;have:=K2 l X0 (bs []) 1 fun x _=>Nat.le_of_eq (Zn8 x)
  simp [YN] at this;omega
theorem Zt1 {n:Int} (h:Rg n): -9223372036854775808<=n/\n<=9223372036854775807:=h
theorem Q1 (n:Int) (h:Rg n):XX n=some (Yg n):=by
 unfold XX Zc7;rw [Zl (Zt1 h)];rfl
def dig:Nat->ByteArray->ByteArray
 |u,s=>if h:u=0 then s else dig (u / 10) (bs [UInt8.ofNat (48 + u % 10)] ++ s)
termination_by u=>u
decreasing_by omega
theorem Zj5 (s:ByteArray):dig 0 s=s:=by rw [dig];simp
theorem Zj6 {u:Nat} (h:u≠0) (s:ByteArray):dig u s=dig (u / 10) (bs [UInt8.ofNat (48 + u % 10)] ++ s):=by rw [dig];simp [h]
theorem ZEe:∀(u:Nat) (s:ByteArray),u≠0->(dig u s).data.toList=Lib.decDigits u ++ s.data.toList:=by
 intro u
 induction u using Nat.strongRecOn with
 | _ u ih=>
  intro s h;rw [Zj6 h];by_cases hs:u < 10
  ·rw [show u / 10=0 by omega,Zj5,Lib.decDigits,dif_pos hs,show u % 10=u by omega];simp [bs]
  ·rw [ih (u / 10) (by omega) _ (by omega),Lib.decDigits.eq_1 u,dif_neg hs];simp [bs]
theorem Zt2 (n:Int) {β:Type} (K:ByteArray->Option β):bst [[AV.lit (.int .u8 n)]] K=K (bs [UInt8.ofNat n.toNat]):=rfl
theorem Zt3 {n:Int} (h:0<=n) (h':n<=255):IntKind.u8.wrap n=n:=by
 have e:IntKind.u8.wrap n=n % 256:=by
  unfold IntKind.wrap;rw [show IntKind.u8.signed=false from rfl,show IntKind.u8.bits=8 from rfl];simp
 rw [e];omega
theorem ZEf (x:Int):(Int.tmod x 10).natAbs=x.natAbs % 10/\(0<=x->0<=Int.tmod x 10)/\(x<=0->Int.tmod x 10<=0):=by
 refine ⟨by rw [Int.natAbs_tmod];rfl,fun h=>Int.tmod_nonneg 10 h,fun h=> ?_⟩;have:=Int.tmod_nonneg 10 (show 0<= -x by omega);rw [Int.neg_tmod] at this;omega
theorem ZEg (x:Int):(Int.tdiv x 10).natAbs=x.natAbs / 10/\(0<=x->0<=Int.tdiv x 10)/\(x<=0->Int.tdiv x 10<=0):=by
 refine ⟨by rw [Int.natAbs_tdiv];rfl,fun h=>Int.tdiv_nonneg h (by decide),fun h=> ?_⟩;have:=Int.tdiv_nonneg (show 0<= -x by omega) (show (0:Int)<=10 by decide);rw [Int.neg_tdiv] at this;omega
theorem ZEh (s:ByteArray):(bs [45] ++ s).data.toList=45::s.data.toList:=by simp [bs]
theorem Zt4 {n:Int} (h:n≠0):Yg n=if n < 0 then bs [45] ++ dig n.natAbs (bs []) else dig n.natAbs (bs []):=by
 have hd:∀u,u≠0->(dig u (bs [])).data.toList=Lib.decDigits u:=fun u hu=>by rw [ZEe u _ hu];simp [bs]
 have key:(Yg n).data.toList=(if n < 0 then bs [45] ++ dig n.natAbs (bs []) else dig n.natAbs (bs [])).data.toList:=by
  show (Lib.itoa n).toArray.toList=_;unfold Lib.itoa;split
  ·rw [ZEh,hd _ (by omega)]
  ·rw [hd _ (by omega),show n.toNat=n.natAbs by omega]
 exact MS (Array.toList_inj.1 key)
theorem QF (n:Int) (h:Rg n):XA n=some (Yg n):=by
 obtain ⟨h0,h1⟩:=Zt1 h;unfold XA;by_cases hz:n=0
 ·subst hz;have:Yg 0=bs [48]:=by
   unfold Yg Lib.itoa;rw [Uf (by decide),Lib.decDigits,dif_pos (by decide)];rfl
  rw [this];rfl
 rw [show (n==0)=false by simpa using hz,Zf,Zt4 hz];refine (Zhp (R:=fun v:Int×ByteArray×Int=>some (if v.1 < 0 then bs [45] ++ dig v.2.2.natAbs v.2.1 else dig v.2.2.natAbs v.2.1)) (fun v=>20 - v.2.1.size)
  (fun v=>v.2.1.size<=19/\10 ^ v.2.1.size * v.2.2.natAbs<=9223372036854775808) ?_ NN (n,bs [],n) ⟨by simp [YN],by simp [YN];omega⟩ (by rw [Zlc];simp [YN])).trans rfl
 rintro rec ⟨m,s,x⟩ ⟨i1,i2⟩ hr;simp only at i1 i2 hr ⊢;by_cases hx:x=0
 ·subst hx;simp [Zj5];by_cases hm:m < 0
  ·simp [hm];rw [Zl (by show 1 + s.size<=_;omega)]
  ·simp [hm]
 ·rw [show (x != 0)=true by simpa using hx,Zn];have hs18:s.size<=18:=by
   refine Nat.le_of_not_lt fun hlt=> ?_
   have h19:10 ^ 19<=10 ^ s.size:=Ml (by decide) hlt;have:10 ^ s.size * 1<=10 ^ s.size * x.natAbs:=Fp _ (by omega);omega
  obtain ⟨a1,a2,a3⟩:=ZEf x;obtain ⟨b1,b2,b3⟩:=ZEg x;have hxb:x.natAbs<=9223372036854775808:=by
   have:1 * x.natAbs<=10 ^ s.size * x.natAbs:=UL _ (Nat.pow_pos (by decide));omega
  have hW:W (Int.tdiv x 10)=Int.tdiv x 10:=ZB (by omega) (by omega);have hrec:∀d:UInt8,d=UInt8.ofNat (48 + x.natAbs % 10)->ifA ((bs [d]).size + s.size<=1099511627776) (rec (m,bs [d] ++ s,W (Int.tdiv x 10)))=some (if m < 0 then bs [45] ++ dig x.natAbs s else dig x.natAbs s):=by
   rintro d rfl;rw [Zl (by show 1 + s.size<=_;omega),hW,hr (m,_,Int.tdiv x 10) ⟨by simp [UN,YN];omega,?_⟩ (by simp only [UN,YN,Mp];omega),Zj6 (u:=x.natAbs) (by omega),b1];simp only [UN,YN,b1];have e:10 ^ ([UInt8.ofNat (48 + x.natAbs % 10)].length + s.size)=10 ^ s.size * 10:=by rw [Mp,Nat.add_comm,Nat.pow_succ]
   rw [e,Nat.mul_assoc];exact Mm (Fp _ (Nat.mul_div_le _ _)) i2
  by_cases hd:Int.tmod x 10 < 0
  ·rw [show decide (Int.tmod x 10 < 0)=true by simpa using hd,Zn,ZB (n:=0 - Int.tmod x 10) (by omega) (by omega),ZB (by omega) (by omega),Zt3 (by omega) (by omega),Zt2];exact hrec _ (by congr 1;omega)
  ·rw [show decide (Int.tmod x 10 < 0)=false by simpa using hd,Zf,ZB (by omega) (by omega),Zt3 (by omega) (by omega),Zt2];exact hrec _ (by congr 1;omega)
theorem Y3 {n:Int} (h:Rg n):(Yg n).size<=21:=Lib.itoa_length_le n h.1 h.2
def Qg (l:List Int):ByteArray:=Zbh (l.map Yg) (bs [32])
theorem ZdM (l:List Int) (h:Sm l) (hr:∀y∈l,Rg y):JS l=some (Qg l):=by
 unfold Sm at h;unfold JS Qg;simp;refine (Zbi l Yg (by omega) (fun k acc=>(l,acc,(k:Int))) (fun a=>Jb a (bs [32])) rfl ?_ ?_).trans ?_
 ·intro rec acc ha;simp
 ·intro rec k x acc hx hk ha;simp [hk,Zh hx,QF x (hr x (Yb hx)),Zq (show k<=9223372036854775806 by omega),ha,show (k + 1) * 16<=140737488355328 by omega,show k<=1152921504606846975 by omega]
 ·refine Zj2 _ _ (by simp;omega) ?_;have:=K2 l Yg (bs [32]) 21 fun x hx=>Y3 (hr x hx)
  simp [YN] at this;omega
theorem ZdN (l:List Int) (h:Sm l) (hr:∀y∈l,Rg y):JY l=some (Qg l):=by
 unfold Sm at h;unfold JY Qg;simp;refine (Zbi l Yg (by omega) (fun k acc=>(acc,l,(l.length:Int),(k:Int))) (fun a=>Jc a (bs [32])) rfl ?_ ?_).trans ?_
 ·intro rec acc ha;simp
 ·intro rec k x acc hx hk ha;simp [hk,Zh hx,Q1 x (hr x (Yb hx)),Zq (show k<=9223372036854775806 by omega),ha,show (k + 1) * 16<=140737488355328 by omega,show k<=1152921504606846975 by omega]
 ·refine Zj1 _ _ (by simp;omega) ?_;have:=K2 l Yg (bs [32]) 21 fun x hx=>Y3 (hr x hx)
  simp [YN] at this;omega
theorem Zn9 (l:List ByteArray) (b:ByteArray):(Zbh l b).size<=tot l b + 1:=by
 cases l with
 |nil=>exact Nat.le_of_eq rfl
 |cons x r=>
  show (jn x b r).size<=_;rw [Zn7,ZdL];omega
theorem Zj7 {l:List Int} (h:Sm l) (hr:∀y∈l,Rg y):(Qg l).size<=23068673:=by
 have h1:=Zn9 (l.map Yg) (bs [32]);have h2:=K2 l Yg (bs [32]) 21 fun x hx=>Y3 (hr x hx)
 unfold Sm at h;simp [YN] at h2;unfold Qg;omega
theorem ZEi (x:Control) (h:ZY x) (hr:Zje x):∃v,ZhW x=some v/\ZiU x=some v:=by
 obtain ⟨h0,h1⟩:=h;obtain ⟨k0,k1,k2,k3⟩:=hr;have z0:=Zj7 h0 k0.2;have z1:=Y3 k1;have z2:=Zj7 h1 k2.2;have z3:=Y3 k3;unfold ZhW ZiU;simp only [Zo,ZZ,ZdM _ h0 k0.2,ZdN _ h0 k0.2,ZdM _ h1 k2.2,ZdN _ h1 k2.2,QF _ k1,Q1 _ k1,QF _ k3,Q1 _ k3,Zc,ZfS,UN,YN,UK,UQ];simp only [Zl (show (Qg x.stage).size + (0 + 1 + 1 + 1)<=1099511627776 by omega),Zl (show (Qg x.stage).size + (0 + 1 + 1 + 1) + (Yg x.since).size<=1099511627776 by omega)];by_cases c:((x.next.length:Nat):Int) > 0
 ·simp only [c,Mo,Zn];refine ⟨Qg x.stage ++ bs [32,64,32] ++ Yg x.since ++ (bs [32,62,32] ++ Qg x.next ++ bs [32,105,110,32] ++ Yg x.left),?_,?_⟩
  ·rw [Zl (by omega),Zl (by omega),Zl (by omega),Zl (by omega)];simp only [ByteArray.append_assoc]
  ·rw [Zl (by omega),Zl (by omega),Zl (by omega),Zl (by omega)]
 ·simp only [c,U3,Zf];exact ⟨_,rfl,rfl⟩
theorem ZEj {l:List Int} (h:Sm l):(Ki l).size<=1048577:=by
 have h1:=Zn9 (l.map X0) (bs []);have h2:=K2 l X0 (bs []) 1 fun x _=>Nat.le_of_eq (Zn8 x)
 unfold Sm at h;simp [YN] at h2;unfold Ki;omega
theorem ZEk (x:Report) (hr:Zsc x):∃v,Zih x=some v/\Zi4 x=some v:=by
 obtain ⟨k0,k1,k2,k3,k4⟩:=hr;have hs:Sm [x.light]:=by unfold Sm;simp
 have z0:=Y3 k0;have z1:=Y3 k1;have z2:=ZEj hs;have z3:=Y3 k3;have z4:=Y3 k4;have e:∀K:List Int->Option ByteArray,rws iR [[I x.light]] K=K [x.light]:=fun K=>rfl
 unfold Zih Zi4;simp only [e,Zj3 _ hs,Zj4 _ hs,QF _ k0,Q1 _ k0,QF _ k1,Q1 _ k1,QF _ k3,Q1 _ k3,QF _ k4,Q1 _ k4,Zc,ZfS,UN,YN,UK,UQ];refine ⟨Yg x.path ++ bs [32] ++ Yg x.second ++ bs [32] ++ Ki [x.light] ++ bs [32] ++ Yg x.since ++ bs [32] ++ Yg x.other,?_,?_⟩ <;>
  rw [Zl (by omega),Zl (by omega),Zl (by omega),Zl (by omega),Zl (by omega),Zl (by omega),Zl (by omega),Zl (by omega)]
def Zct (k:Int):ByteArray:=if k=1 then bs [99] else if k=2 then bs [119] else bs [98]
def Xt (p:Path):ByteArray:=if Z8 p then Yg p.id ++ Zct p.kind ++ Yg p.src ++ Yg p.dst else bs []
theorem Zoa (k:Int):(Zct k).size=1:=by
 unfold Zct;split <;> (try split) <;> rfl
theorem Zt5 {p:Path} (h:VQ p):(Xt p).size<=64:=by
 obtain ⟨k0,k1,k2,k3⟩:=h;have z0:=Y3 k0;have z1:=Y3 k2;have z2:=Y3 k3;have z3:=Zoa p.kind;unfold Xt;split
 ·simp only [UN];omega
 ·exact Mb _
theorem Zt6 (p:Path) (h:VQ p):ZeH p=some (Xt p):=by
 obtain ⟨k0,k1,k2,k3⟩:=h;have z0:=Y3 k0;have z1:=Y3 k2;have z2:=Y3 k3;have z3:=Zoa p.kind;unfold ZeH Xt;rw [Zfs,Zc];cases hp:Z8 p with
 |false=>rfl
 |true=>
  have e:∀K:ByteArray->Option ByteArray,Zz sR [[Sg (bs [])],[Sg (bs [99])],[Sg (bs [119])],[Sg (bs [98])]] p.kind K=K (Zct p.kind):=by
   intro K;rcases ZaW hp with e |e |e <;> rw [e] <;> rfl
  simp only [Uk,Zf,e,QF _ k0,QF _ k2,QF _ k3,Zc,UN,U2];rw [Zl (by omega),Zl (by omega),Zl (by omega)]
theorem Zt7 (p:Path) (h:VQ p):Ze5 p=some (Xt p):=by
 obtain ⟨k0,k1,k2,k3⟩:=h;have z0:=Y3 k0;have z1:=Y3 k2;have z2:=Y3 k3;have z3:=Zoa p.kind;unfold Ze5 Xt;rw [Zjg,Zc];cases hp:Z8 p with
 |false=>rfl
 |true=>
  have e:ByteArray.extract (bs [99,119,98]) (Int.toNat (W (p.kind - 1))) (Int.toNat p.kind)=Zct p.kind:=by
   rcases ZaW hp with e |e |e <;> rw [e] <;> rfl
  have hk:W (p.kind - 1)=p.kind - 1:=by
   have:=ZaW hp;exact ZB (by omega) (by omega)
  simp only [Uk,Zf,e,Q1 _ k0,Q1 _ k2,Q1 _ k3,Zc,UN,U2];have:=ZaW hp;rw [hk,Zl ⟨by omega,by omega,by show p.kind<=3;omega⟩,Zl (by omega),Zl (by omega),Zl (by omega)]
def ZfT (l:List Path):ByteArray:=Zbh (l.map Xt) (bs [32])
theorem ZEl (l:List Path) (h:Sm l) (hr:∀y∈l,VQ y):ZhX l=some (ZfT l):=by
 unfold Sm at h;unfold ZhX ZfT;simp;refine (Zbi l Xt (by omega) (fun k acc=>(l,acc,(k:Int))) (fun a=>Jb a (bs [32])) rfl ?_ ?_).trans ?_
 ·intro rec acc ha;simp
 ·intro rec k x acc hx hk ha;simp [hk,Zh hx,Zt6 x (hr x (Yb hx)),Zq (show k<=9223372036854775806 by omega),ha,show (k + 1) * 16<=140737488355328 by omega,show k<=1152921504606846975 by omega]
 ·refine Zj2 _ _ (by simp;omega) ?_;have:=K2 l Xt (bs [32]) 64 fun x hx=>Zt5 (hr x hx)
  simp [YN] at this;omega
theorem ZEm (l:List Path) (h:Sm l) (hr:∀y∈l,VQ y):ZiV l=some (ZfT l):=by
 unfold Sm at h;unfold ZiV ZfT;simp;refine (Zbi l Xt (by omega) (fun k acc=>(acc,l,(l.length:Int),(k:Int))) (fun a=>Jc a (bs [32])) rfl ?_ ?_).trans ?_
 ·intro rec acc ha;simp
 ·intro rec k x acc hx hk ha;simp [hk,Zh hx,Zt7 x (hr x (Yb hx)),Zq (show k<=9223372036854775806 by omega),ha,show (k + 1) * 16<=140737488355328 by omega,show k<=1152921504606846975 by omega]
 ·refine Zj1 _ _ (by simp;omega) ?_;have:=K2 l Xt (bs [32]) 64 fun x hx=>Zt5 (hr x hx)
  simp [YN] at this;omega
def Zcu (a:List Part):Nat:=(a.map fun x=>x.stage.length).sum
theorem Zt8 (x:Part) (a:List Part):Zcu (x::a)=x.stage.length + Zcu a:=by simp [Zcu]
def Zbj (x:Part):ByteArray:=Qg x.stage ++ bs [58] ++ Yg x.green
def Zj8 (l:List Part):ByteArray:=Zbh (l.map Zbj) (bs [32,124,32])
theorem ZEn {x:Part} (h:Zjf x) (hr:Zm1 x):(Zbj x).size<=22 * x.stage.length + 23:=by
 have h1:=Zn9 (x.stage.map Yg) (bs [32]);have h2:=K2 x.stage Yg (bs [32]) 21 fun y hy=>Y3 (hr.1.2 y hy)
 have h3:=Y3 hr.2;have h4:(bs [32]).size=1:=rfl;have h5:(bs [58]).size=1:=rfl;rw [h4,show 21 + 1=22 from rfl,Nat.mul_comm] at h2;unfold Zbj Qg;rw [UN,UN];omega
theorem Zt9 (b:ByteArray):∀(l:List Part),(∀y∈l,Zjf y)->(∀y∈l,Zm1 y)->tot (l.map Zbj) b<=22 * Zcu l + l.length * (23 + b.size)
 | [],_,_=>by simp [tot]
 |x::l,h,hr=>by
  rw [Md,ZdL,Zt8,UK,show (l.length + 1) * (23 + b.size)=l.length * (23 + b.size) + (23 + b.size) from Nat.succ_mul _ _];have:=Zt9 b l (fun y hy=>h y (Ui _ hy)) (fun y hy=>hr y (Ui _ hy));have:=ZEn (h x (Un ..)) (hr x (Un ..));omega
theorem ZEo (l:List Part) (h:Sm l/\∀y∈l,Zjf y) (hr:∀y∈l,Zm1 y) (hs:Zcu l<=1048576):ZeY l=some (Zj8 l)/\Zfk l=some (Zj8 l):=by
 obtain ⟨hl,he⟩:=h;unfold Sm at hl;have ht:=Zt9 (bs [32,124,32]) l he hr;have hb:(bs [32,124,32]).size=3:=rfl;rw [hb] at ht;have step:∀x∈l,((Qg x.stage).size + 1<=1099511627776)/\((Qg x.stage ++ bs [58]).size + (Yg x.green).size<=1099511627776):=by
  intro x hx;have h1:=Zj7 (he x hx) (hr x hx).1.2;have h3:=Y3 (hr x hx).2;have h5:(bs [58]).size=1:=rfl;rw [UN];omega
 constructor
 ·unfold ZeY Zj8;simp;refine (Zbi l Zbj (by omega) (fun k acc=>(l,acc,(k:Int))) (fun a=>Jb a (bs [32,124,32])) rfl ?_ ?_).trans ?_
  ·intro rec acc ha;simp
  ·intro rec k x acc hx hk ha;obtain ⟨s1,s2⟩:=step x (Yb hx);simp [hk,Zh hx,ZdM _ (he x (Yb hx)) (hr x (Yb hx)).1.2,QF _ (hr x (Yb hx)).2,Zq (show k<=9223372036854775806 by omega),ha,show (k + 1) * 16<=140737488355328 by omega,show k<=1152921504606846975 by omega,ZfS,YN,s1];simp [UN,YN] at s2;simp [s2,Zbj];rw [Zl (by omega)]
  ·exact Zj2 _ _ (by simp;omega) (by omega)
 ·unfold Zfk Zj8;simp;refine (Zbi l Zbj (by omega) (fun k acc=>(acc,l,(l.length:Int),(k:Int))) (fun a=>Jc a (bs [32,124,32])) rfl ?_ ?_).trans ?_
  ·intro rec acc ha;simp
  ·intro rec k x acc hx hk ha;obtain ⟨s1,s2⟩:=step x (Yb hx);simp [hk,Zh hx,ZdN _ (he x (Yb hx)) (hr x (Yb hx)).1.2,Q1 _ (hr x (Yb hx)).2,Zq (show k<=9223372036854775806 by omega),ha,show (k + 1) * 16<=140737488355328 by omega,show k<=1152921504606846975 by omega,ZfS,YN,s1];simp [UN,YN] at s2;simp [s2,Zbj];rw [Zl (by omega)]
  ·exact Zj1 _ _ (by simp;omega) (by omega)
def V0 (l:List Path) (ids:List Int):Bool:=(l.all fun p=>has ids p.id || !ZI l (YB ids p.id)) && ZI l ids
theorem ZEp {a:List Int} {n:Int} (h:a.length<=1000):Sm (YB a n):=by have:=ZnW a n;unfold Sm;omega
theorem ZEq (l:List Path) (ids:List Int) (h:Sm l) (hi:ids.length<=1000):Zh0 l ids=some (V0 l ids):=by
 have hl:=h;unfold Sm at hl;have hs:Sm ids:=by unfold Sm;omega
 unfold Zh0;simp only [Zs,Zo,YG];refine (Xq l (fun p=>has ids p.id || !ZI l (YB ids p.id)) (by omega) (fun k=>(l,ids,(k:Int))) (some (ZI l ids)) (some false) rfl ?_ ?_).trans ?_
 ·intro rec;simp [VR l ids h hs]
 ·intro rec k p hx hk;simp only [show decide ((k:Int) < (l.length:Int))=true by simpa using hk,Zn,Xn,Zh hx,QW _ _ hs,Zc,Zs,Zo,ZnK ids p.id hs,VR l _ h (ZEp hi),Zq (show k<=9223372036854775806 by omega),Up];cases has ids p.id with
  |true=>simp
  |false=>
   cases ZI l (YB ids p.id) <;> simp
 ·unfold V0;cases (l.all fun p=>has ids p.id || !ZI l (YB ids p.id)) <;> simp
def QG (l:List Path):List Path->List Int->List (List Int)->List (List Int)
 | [],ids,out=>if ids≠ []/\out.length < 40/\V0 l ids=true then out ++ [ids] else out
 |p::r,ids,out=>QG l r ids (if ZI l (ids ++ [p.id])=true then QG l r (ids ++ [p.id]) out else out)
theorem ZfU (l:List Path):∀(r:List Path) (ids:List Int) (out:List (List Int)),out.length<=40->(QG l r ids out).length<=40
 | [],ids,out,h=>by
  unfold QG;split
  ·rename_i c;simp;omega
  ·exact h
 |p::r,ids,out,h=>by
  unfold QG;refine ZfU l r ids _ ?_;split
  ·exact ZfU l r _ out h
  ·exact h
theorem Zob (l:List Path):∀(r:List Path) (ids:List Int) (out:List (List Int)),∀s∈QG l r ids out,s∈out\/(s.length<=ids.length + r.length/\V0 l s=true/\s≠ [])
 | [],ids,out,s,h=>by
  unfold QG at h;split at h
  ·rename_i c;rcases List.mem_append.1 h with h |h
   ·exact .inl h
   ·rw [Mn.1 h];exact .inr ⟨by simp,c.2.2,c.1⟩
  ·exact .inl h
 |p::r,ids,out,s,h=>by
  unfold QG at h;rcases Zob l r ids _ s h with h |h
  ·split at h
   ·rcases Zob l r _ out s h with h |h
    ·exact .inl h
    ·refine .inr ⟨?_,h.2⟩;have:=h.1;simp at this ⊢;omega
   ·exact .inl h
  ·refine .inr ⟨?_,h.2⟩;have:=h.1;simp;omega
theorem Zj9 (l:List Path) (hl:l.length<=12):∀(m k:Nat) (ids:List Int) (out:List (List Int)),l.length - k < m->k<=l.length->ids.length<=k->out.length<=40->ZeZ m l (k:Int) ids out=some (QG l (l.drop k) ids out)
 | 0,k,ids,out,h,_,_,_=>by omega
 |m + 1,k,ids,out,h,hk,hi,ho=>by
  have h':Sm l:=by unfold Sm;omega
  show ZmH (ZeZ m) l (k:Int) ids out=_;unfold ZmH;simp only [Zs,Zo,JM,YG,ZZ,Ve];by_cases c:k=l.length
  ·subst c;rw [show (((l.length:Nat):Int)==((l.length:Nat):Int))=true by simp,Zn,M5];unfold QG;by_cases c1:ids= []
   ·subst c1;simp
   ·have hp:0 < ids.length:=List.length_pos_iff.2 c1;rw [show decide (((ids.length:Nat):Int) > 0)=true from Ul (by omega),Zn];by_cases c2:out.length < 40
    ·rw [show decide (((out.length:Nat):Int) < 40)=true from Ul (by omega),Zn,ZEq l ids h' (by omega),Zc];cases hf:V0 l ids with
     |true=>
      rw [Zn,Zl (by simp;omega),Zl (by simp;omega),Uh ⟨c1,c2,rfl⟩];have:=ZjW (o:= .own) (p:= .own) (q:= .own) rfl rfl out ids (fun l=>some l)
      first
      |exact this
      |simpa using this
     |false=>rw [Zf,Uf (fun h=>by simp at h)]
    ·rw [show decide (((out.length:Nat):Int) < 40)=false from Ug (by omega),Zf,Uf (fun h=>c2 h.2.1)]
  ·have hlt:k < l.length:=by omega
   have hx:=Ua hlt;rw [show (((k:Nat):Int)==((l.length:Nat):Int))=false by simp;omega,Zf,Zl (by simp;omega)];rw [UH hlt];generalize l[k]=p at hx;have hs1:Sm (ids ++ [p.id]):=by unfold Sm;simp;omega
   simp only [Xn,Zh hx];rw [Zl (by simp;omega)];have hW:W ((k:Int) + 1)=((k + 1:Nat):Int):=by rw [Zq (by omega)];omega
   simp only [U5,ZaG,Zcg,hW];unfold QG;rw [VR l _ h' hs1,Zc];cases ht:ZI l (ids ++ [p.id]) with
   |true=>
    rw [Zn,Zj9 l hl m (k + 1) (ids ++ [p.id]) out (by omega) (by omega) (by simp;omega) ho,Zc];simp only [JM];rw [Zj9 l hl m (k + 1) ids _ (by omega) (by omega) (by omega) (ZfU l _ _ _ ho),Zc];simp only [JM,U2]
   |false=>
    rw [Zf,Zj9 l hl m (k + 1) ids out (by omega) (by omega) (by omega) ho,Zc];simp [JM]
def V1 (l:List Path):List (List Int):=if ZK l=true then QG l l [] [] else []
theorem ZEr (l:List Path) (h:Sm l):Zh1 l=some (V1 l):=by
 unfold Zh1 V1;simp only [Zs,Je l h,Zc];cases ha:ZK l with
 |false=>rfl
 |true=>
  have hs:=Zj9 l (Zcp ha) 64 0 [] [] (by have:=Zcp ha;omega) (by omega) (by simp) (by simp);simp only [ML] at hs;simp only [Uk,Zf,U2];rw [show Zsb l 0 [] []=ZeZ 64 l ((0:Nat):Int) [] [] from rfl,hs,Zc];simp only [JM]
theorem Zoc (l:List Path):(V1 l).length<=40/\∀s∈V1 l,s.length<=12:=by
 unfold V1;split
 ·rename_i h;refine ⟨ZfU l l [] [] (by simp),fun s hs=> ?_⟩;rcases Zob l l [] [] s hs with h1 |h1
  ·cases h1
  ·have:=Zcp h;have:=h1.1;simp at this;omega
 ·exact ⟨by simp,fun s hs=>(by cases hs)⟩
theorem ltF (n:Nat):decide ((n:Int) < (n:Int))=false:=by simp
theorem Zua {l:List Path}:∀(r:List Path) (c:List (List Int)),(∀s∈c,Sm s)->(∀s∈r.foldl (XL l) c,Sm s)/\(r.foldl (XL l) c).length<=c.length + r.length
 | [],c,h=>⟨h,by simp⟩
 |p::r,c,h=>by
  rw [Mi];have h2:(∀s∈XL l c p,Sm s)/\(XL l c p).length<=c.length + 1:=by
   unfold XL;split
   ·exact ⟨h,by omega⟩
   ·refine ⟨fun s hs=> ?_,by simp⟩;rcases List.mem_append.1 hs with hs |hs
    ·exact h s hs
    ·rw [Mn.1 hs];exact Zcn (Xs _)
  obtain ⟨a1,a2⟩:=Zua r _ h2.1;exact ⟨a1,by simp;omega⟩
theorem Zod (l:List Path):(∀s∈Y2 l,Sm s)/\(Y2 l).length<=12:=by
 unfold Y2;split
 ·rename_i h;obtain ⟨a1,a2⟩:=Zua (l:=l) l [] (fun s hs=>(by cases hs));have:=Zcp h;exact ⟨a1,by simp at a2;omega⟩
 ·exact ⟨fun s hs=>(by cases hs),by simp⟩
def K3 (l:List Path):List Part:=(Y2 l).map fun s=>⟨s,YS l s⟩
def QH (l:List Path):List Part:=if Yp l (K3 l)=true then K3 l else []
theorem Zoe (l:List Path):SmL (K3 l):=by
 obtain ⟨h1,h2⟩:=Zod l;refine ⟨by unfold K3 Sm;rw [Ut];omega,fun y hy=> ?_⟩;obtain ⟨s,hs,rfl⟩:=List.mem_map.1 hy;exact h1 s hs
theorem ZEs (l:List Path):SmL (QH l):=by
 unfold QH;split
 ·exact Zoe l
 ·exact ⟨by unfold Sm;simp,fun y hy=>by cases hy⟩
theorem Zub (l:List Part) (s:List Int) (g:Int) {β:Type} (K:List Part->Option β):rws (ZJ Own.shr) (l.map (ZJ Own.shr).enc ++ [[(AV.slc Own.shr 1 (s.map iR.enc)),I g]]) K=K (l ++ [(⟨s,g⟩:Part)]):=
 (ZaD (ZJ Own.shr) _ _ K).trans ((Xh l _).trans (Xh [(⟨s,g⟩:Part)] fun l'=>K (l ++ l')))
theorem Zuc {α γ:Type} (f:α->γ) {l:List α} {k:Nat} {x:α} (h:l[k]? =some x):(l.take k).map f ++ [f x]=(l.take (k + 1)).map f:=by
 rw [MF,h];simp
def Ind (l:List Path) (a:List Int):Prop:=(∀x∈a,∃p∈l,p.id=x)/\a.Pairwise (· < ·)/\∀x∈a,∀y∈a,Z2 (ZQ l x) (ZQ l y)=false
theorem Zud {l:List Path} {ids:List Int} (h:Ind l ids):∀(r:List Int) (k:Nat),ids.drop k=r->goT l ids k r=true
 | [],_,_=>rfl
 |x::r,k,hd=>by
  have hk:ids[k]? =some x:=by
   have:(ids.drop k)[0]? =some x:=by rw [hd];rfl
   rw [US] at this;exact this
  have hx:x∈ids:=Um hk;obtain ⟨p,hp,hpx⟩:=h.1 x hx;have h1:¬ZD l x < 0:=by rw [←hpx];exact Zn6 hp
  have h2:Vk ids k x=true:=by
   unfold Vk;split
   ·rfl
   ·rename_i hk0;have hlt:k < ids.length:=(List.getElem?_eq_some_iff.1 hk).1;have hk1:k - 1 < ids.length:=by omega
    rw [Ua hk1];have:=(MH.1 h.2.1) (k - 1) k hk1 hlt (by omega);rw [(List.getElem?_eq_some_iff.1 hk).2] at this;simpa using this
  have h3:(ids.take k).all (Vl l x)=true:=MT.2 fun y hy=>by
   unfold Vl;rw [h.2.2 x hx y (MJ hy)];rfl
  have h4:=Zud h r (k + 1) (by rw [←MD,hd];rfl);unfold goT;rw [h2,h3,h4];simpa using h1
theorem ZfV {l:List Path} (hl:ZK l=true) {a:List Int}:ZI l a=true↔Ind l a:=
 ⟨fun h=>⟨fun x hx=>by
   obtain ⟨p,hp,e⟩:=ZtM (Za2 h x hx);exact ⟨p,hp,e⟩,ZjS h,fun x hx y hy=>ZEc h hx hy⟩,
  fun h=>by
   unfold ZI;rw [Zud h a 0 rfl,hl];rfl⟩
theorem ZEt {a:List Int} (h:a.Pairwise (· < ·)) (n:Int):(YB a n).Pairwise (· < ·):=by
 unfold YB;split
 ·exact h
 ·rename_i hn;unfold ins;have hlo:∀x∈a.take (low a n),x < n:=fun x hx=>by
   obtain ⟨i,hi⟩:=Mk hx;rw [UA] at hi;split at hi
   ·exact ZjR ‹_› hi
   ·cases hi
  have hhi:∀x∈a.drop (low a n),n < x:=fun x hx=>by
   obtain ⟨i,hi⟩:=Mk hx;rw [US] at hi;have h1:=ZnJ h (Nat.le_add_right _ _) hi;by_cases e:x=n
   ·subst e;cases i with
    |zero=>exact absurd hi hn
    |succ i=>
     have hlt:low a x + (i + 1) < a.length:=(List.getElem?_eq_some_iff.1 hi).1;have h0:low a x < a.length:=by omega
     have h2:=ZnJ h (Ur _) (Ua h0);have h3:=(MH.1 h) (low a x) (low a x + (i + 1)) h0 hlt (by omega);rw [(List.getElem?_eq_some_iff.1 hi).2] at h3;omega
   ·omega
  have hs:(a.take (low a n) ++ a.drop (low a n)).Pairwise (· < ·):=by rw [Uq];exact h
  obtain ⟨s1,s2,s3⟩:=List.pairwise_append.1 hs;refine List.pairwise_append.2 ⟨List.pairwise_append.2 ⟨s1,List.pairwise_singleton ..,fun x hx y hy=> ?_⟩,s2,fun x hx y hy=> ?_⟩
  ·rw [Mn.1 hy];exact hlo x hx
  ·rcases List.mem_append.1 hx with hx |hx
   ·exact s3 x hx y hy
   ·rw [Mn.1 hx];exact hhi y hy
theorem ZdO {a:List Int} {n x:Int}:x∈YB a n↔x∈a\/n=x:=by
 rw [←ZdK,ZtG,Me,ZdK,Fz]
theorem ZfW {l:List Path} (hl:ZK l=true) {e:List Int}:V0 l e=true↔Ind l e/\∀p∈l,p.id∉e->∃x∈e,Z2 p (ZQ l x)=true:=by
 unfold V0;rw [Ub,ZfV hl];constructor
 ·rintro ⟨h1,h2⟩;refine ⟨h2,fun p hp hn=> ?_⟩;have:=MT.1 h1 p hp;rw [show has e p.id=false by rw [←Bool.not_eq_true,ZdK];exact hn,FJ,UI,←Bool.not_eq_true,ZfV hl] at this;by_cases c:∃x∈e,Z2 p (ZQ l x)=true
  ·exact c
  ·refine absurd ⟨fun x hx=> ?_,ZEt h2.2.1 _,fun x hx y hy=> ?_⟩ this
   ·rcases ZdO.1 hx with hx |rfl
    ·exact h2.1 x hx
    ·exact ⟨p,hp,rfl⟩
   ·have key:∀z∈e,Z2 p (ZQ l z)=false:=fun z hz=>by
     cases hc:Z2 p (ZQ l z) with
     |false=>rfl
     |true=>exact absurd ⟨z,hz,hc⟩ c
    rcases ZdO.1 hx with hx |rfl
    ·rcases ZdO.1 hy with hy |rfl
     ·exact h2.2.2 x hx y hy
     ·rw [Jp hl hp,Zn5];exact key x hx
    ·rw [Jp hl hp];rcases ZdO.1 hy with hy |rfl
     ·exact key y hy
     ·rw [Jp hl hp];exact ZtT _
 ·rintro ⟨h1,h2⟩;refine ⟨MT.2 fun p hp=> ?_,h1⟩;cases hh:has e p.id with
  |true=>rfl
  |false=>
   rw [FJ,UI,←Bool.not_eq_true,ZfV hl];intro hI;have hn:p.id∉e:=fun hm=>by rw [ZdK.2 hm] at hh;cases hh
   obtain ⟨x,hx,hc⟩:=h2 p hp hn;have:=hI.2.2 p.id (ZdO.2 (.inr rfl)) x (ZdO.2 (.inl hx));rw [Jp hl hp,hc] at this;cases this
def Vu (l:List Path):List Path->List Int->List (List Int)
 | [],ids=>if ids≠ []/\V0 l ids=true then [ids] else []
 |p::r,ids=>(if ZI l (ids ++ [p.id])=true then Vu l r (ids ++ [p.id]) else []) ++ Vu l r ids
theorem ZEu {α:Type} {a b:List α} {n:Nat} (h:n<=40):a.take (40 - n) ++ b.take (40 - (n + (a.take (40 - n)).length))=(a ++ b).take (40 - n):=by
 rw [List.take_append,Uc];congr 2;omega
theorem Zka (l:List Path):∀(r:List Path) (ids:List Int) (out:List (List Int)),out.length<=40->QG l r ids out=out ++ (Vu l r ids).take (40 - out.length)
 | [],ids,out,h=>by
  unfold QG Vu;by_cases c:ids≠ []/\V0 l ids=true
  ·rw [Uh c];by_cases c2:out.length < 40
   ·rw [Uh ⟨c.1,c2,c.2⟩,U0 (by simp;omega)]
   ·rw [Uf (fun h=>c2 h.2.1),show 40 - out.length=0 by omega];simp
  ·rw [Uf c,Uf (fun h=>c ⟨h.1,h.2.2⟩)];simp
 |p::r,ids,out,h=>by
  unfold QG Vu;split
  ·rename_i ht;have h1:=Zka l r (ids ++ [p.id]) out h;rw [Zka l r ids _ (ZfU l r _ out h),h1,Ux,Uj,ZEu h]
  ·rw [Zka l r ids out h];simp
theorem ZdP {l:List Path} (hl:ZK l=true):∀(r:List Path) (ids e:List Int),e∈Vu l r ids↔e≠ []/\V0 l e=true/\∃t,e=ids ++ t/\t.Sublist (r.map (·.id))
 | [],ids,e=>by
  unfold Vu;constructor
  ·intro h;split at h
   ·rename_i c;rw [Mn.1 h];exact ⟨c.1,c.2,[],by simp,by simp⟩
   ·cases h
  ·rintro ⟨h1,h2,t,h3,h4⟩;have:t= []:=by simpa using h4
   subst this;rw [UJ] at h3;subst h3;rw [Uh ⟨h1,h2⟩];exact Mn.2 rfl
 |p::r,ids,e=>by
  unfold Vu;rw [List.mem_append,ZdP hl r ids e];constructor
  ·rintro (h | ⟨h1,h2,t,h3,h4⟩)
   ·split at h
    ·obtain ⟨h1,h2,t,h3,h4⟩:=(ZdP hl r _ e).1 h;exact ⟨h1,h2,p.id::t,by rw [h3];simp,h4.cons₂ _⟩
    ·cases h
   ·exact ⟨h1,h2,t,h3,h4.cons _⟩
  ·rintro ⟨h1,h2,t,h3,h4⟩;rw [Md] at h4;cases h4 with
   |cons _ h4=>exact .inr ⟨h1,h2,t,h3,h4⟩
   |cons_cons _ h4=>
    rename_i t';left;have hI:=((ZfW hl).1 h2).1;have hT:ZI l (ids ++ [p.id])=true:=by
     rw [ZfV hl];have e1:e=(ids ++ [p.id]) ++ t':=by rw [h3];simp
     rw [e1] at hI;exact ⟨fun x hx=>hI.1 x (Uz _ hx),(List.pairwise_append.1 hI.2.1).1,fun x hx y hy=>hI.2.2 x (Uz _ hx) y (Uz _ hy)⟩
    rw [Uh hT,ZdP hl r _ e];exact ⟨h1,h2,t',by rw [h3];simp,h4⟩
theorem Zue {a b:List Int}:∀c:List Int,a < b->c ++ a < c ++ b
 | [],h=>h
 |x::c,h=>List.cons_lt_cons_iff.2 (.inr ⟨rfl,Zue c h⟩)
theorem Zof {l:List Path} (hl:ZK l=true):∀(r:List Path) (ids:List Int),(∀p∈r,p∈l)->r.Pairwise (fun x y=>x.id < y.id)->(Vu l r ids).Pairwise (· < ·)
 | [],ids,_,_=>by
  unfold Vu;split
  ·exact List.pairwise_singleton ..
  ·exact .nil
 |p::r,ids,hm,hp=>by
  obtain ⟨hp1,hp2⟩:=List.pairwise_cons.1 hp;have hm2:∀q∈r,q∈l:=fun q hq=>hm q (Ui _ hq)
  unfold Vu;refine List.pairwise_append.2 ⟨?_,Zof hl r ids hm2 hp2,fun e1 h1 e2 h2=> ?_⟩
  ·split
   ·exact Zof hl r _ hm2 hp2
   ·exact .nil
  ·split at h1
   case isFalse=>cases h1
   rename_i hT;obtain ⟨_,_,t1,rfl,_⟩:=(ZdP hl r _ e1).1 h1;obtain ⟨_,f2,t2,rfl,s2⟩:=(ZdP hl r _ e2).1 h2;rw [Ux];refine Zue ids ?_;rw [List.singleton_append];cases t2 with
   |nil=>
    rw [UJ] at f2;have hI:=(ZfV hl).1 hT;have hn:p.id∉ids:=fun hx=>by
     have:=(List.pairwise_append.1 hI.2.1).2.2 p.id hx p.id (by simp);omega
    obtain ⟨x,hx,hc⟩:=((ZfW hl).1 f2).2 p (hm p (Un ..)) hn;have:=hI.2.2 p.id (by simp) x (Uz _ hx);rw [Jp hl (hm p (Un ..)),hc] at this;cases this
   |cons y t2=>
    have hy:y∈r.map (·.id):=s2.subset (Un ..);obtain ⟨q,hq,rfl⟩:=List.mem_map.1 hy;exact List.cons_lt_cons_iff.2 (.inl (hp1 q hq))
def Qh (l:List Path) (set:Nat):List Int:=(l.zipIdx.filter fun x=>set.testBit x.2).map fun x=>x.1.id
def Jq (l:List Path) (set:Nat):Bool:=l.zipIdx.all fun x=>set.testBit x.2==l.zipIdx.all fun y=> !(set.testBit y.2 && Z2 x.1 y.1)
def Jr (l:List Path):List (List Int):=(List.range' 1 (2 ^ l.length - 1)).filterMap fun set=>if Jq l set=true then some (Qh l set) else none
theorem ZdQ {l:List Path} {set:Nat} {x:Int}:x∈Qh l set↔∃i p,l[i]? =some p/\set.testBit i=true/\p.id=x:=by
 unfold Qh;rw [List.mem_map];constructor
 ·rintro ⟨⟨p,i⟩,h,rfl⟩;obtain ⟨h1,h2⟩:=List.mem_filter.1 h;exact ⟨i,p,by rw [UO] at h1;exact h1,h2,rfl⟩
 ·rintro ⟨i,p,h1,h2,rfl⟩;exact ⟨(p,i),List.mem_filter.2 ⟨by rw [UO];exact h1,h2⟩,rfl⟩
theorem ZEv {l:List Path} (hl:ZK l=true) {i j:Nat} {p q:Path} (hi:l[i]? =some p) (hj:l[j]? =some q) (h:p.id=q.id):i=j:=by
 have hp:=(ZfR l none (Zj0 hl)).2;have h1:=List.getElem?_eq_some_iff.1 hi;have h2:=List.getElem?_eq_some_iff.1 hj;rcases FD i j with c |c |c
 ·have:=(MH.1 hp) i j h1.1 h2.1 c;rw [h1.2,h2.2] at this;omega
 ·exact c
 ·have:=(MH.1 hp) j i h2.1 h1.1 c;rw [h1.2,h2.2] at this;omega
theorem Zbk {l:List Path} (hl:ZK l=true) {set i:Nat} {p:Path} (hi:l[i]? =some p):p.id∈Qh l set↔set.testBit i=true:=by
 rw [ZdQ];constructor
 ·rintro ⟨j,q,h1,h2,h3⟩;rw [ZEv hl hi h1 h3.symm];exact h2
 ·exact fun h=>⟨i,p,hi,h,rfl⟩
theorem Zog (l:List Path) (set:Nat):(Qh l set).Sublist (l.map (·.id)):=by
 have h:((l.zipIdx.filter fun x=>set.testBit x.2).map fun x=>x.1.id).Sublist (l.zipIdx.map fun x=>x.1.id):=(List.filter_sublist).map _;have e:l.zipIdx.map (fun x=>x.1.id)=l.map (·.id):=by
  rw [show (fun x:Path×Nat=>x.1.id)=(fun p:Path=>p.id) ∘ Prod.fst from rfl,←MQ,List.zipIdx_map_fst]
 rw [e] at h;exact h
theorem Zuf {l:List Path} (hl:ZK l=true):(l.map (·.id)).Pairwise (· < ·):=List.pairwise_map.2 (ZfR l none (Zj0 hl)).2
theorem ZEw {l:List Path} {set:Nat}:Jq l set=true↔∀i p,l[i]? =some p->(set.testBit i=true↔∀j q,l[j]? =some q->set.testBit j=true->Z2 p q=false):=by
 unfold Jq;rw [MT];have key:∀p:Path,(l.zipIdx.all fun y=> !(set.testBit y.2 && Z2 p y.1))=true↔∀j q,l[j]? =some q->set.testBit j=true->Z2 p q=false:=fun p=>by
  rw [MT];constructor
  ·intro h j q hj hb;have:=h (q,j) (by rw [UO];exact hj);simpa [hb] using this
  ·rintro h ⟨q,j⟩ hm;rw [UO] at hm;have:=h j q hm;cases hb:set.testBit j with
   |false=>simp [hb]
   |true=>simp [hb,this hb]
 constructor
 ·intro h i p hi;have:=h (p,i) (by rw [UO];exact hi);rw [Fz] at this;simp only at this;rw [this,key]
 ·rintro h ⟨p,i⟩ hm;rw [UO] at hm;rw [Fz,Bool.eq_iff_iff];simp only;rw [key];exact h i p hm
theorem Zug {l:List Path} (hl:ZK l=true) {set:Nat}:V0 l (Qh l set)=true↔Jq l set=true:=by
 rw [ZfW hl,ZEw];constructor
 ·rintro ⟨hI,hM⟩ i p hi;have hp:=Um hi;constructor
  ·intro hb j q hj hb2;have:=hI.2.2 p.id ((Zbk hl hi).2 hb) q.id ((Zbk hl hj).2 hb2)
   rwa [Jp hl hp,Jp hl (Um hj)] at this
  ·intro h;cases hb:set.testBit i with
   |true=>rfl
   |false=>
    obtain ⟨x,hx,hc⟩:=hM p hp (fun hm=>by rw [(Zbk hl hi).1 hm] at hb;cases hb);obtain ⟨j,q,h1,h2,rfl⟩:=ZdQ.1 hx;rw [Jp hl (Um h1),h j q h1 h2] at hc;cases hc
 ·intro h;refine ⟨⟨fun x hx=> ?_,(Zuf hl).sublist (Zog l set),fun x hx y hy=> ?_⟩,fun p hp hn=> ?_⟩
  ·obtain ⟨j,q,h1,_,rfl⟩:=ZdQ.1 hx;exact ⟨q,Um h1,rfl⟩
  ·obtain ⟨i,p,h1,h2,rfl⟩:=ZdQ.1 hx;obtain ⟨j,q,h3,h4,rfl⟩:=ZdQ.1 hy;rw [Jp hl (Um h1),Jp hl (Um h3)];exact (h i p h1).1 h2 j q h3 h4
  ·obtain ⟨i,hi⟩:=Mk hp;by_cases c:∃x∈Qh l set,Z2 p (ZQ l x)=true
   ·exact c
   ·refine absurd ((Zbk hl hi).2 ((h i p hi).2 fun j q hj hb=> ?_)) hn;cases hc:Z2 p q with
    |false=>rfl
    |true=>exact absurd ⟨q.id,(Zbk hl hj).2 hb,by rw [Jp hl (Um hj)];exact hc⟩ c
def mk (f:Nat->Bool):Nat->Nat
 | 0=>0
 |n + 1=>mk f n ||| (if f n then 2 ^ n else 0)
theorem ZdR (f:Nat->Bool):∀n i,(mk f n).testBit i=(decide (i < n) && f i)
 | 0,i=>by simp [mk]
 |n + 1,i=>by
  unfold mk;rw [Nat.testBit_or,ZdR f n i];cases hf:f n with
  |true=>
   simp only [U2,Nat.testBit_two_pow];by_cases c:i=n
   ·subst c;simp [hf]
   ·have:decide (n=i)=false:=by simp;omega
    rw [this,Bool.or_false];congr 1;simp;omega
  |false=>
   simp only [MW,Mx,FI,Bool.or_false];by_cases c:i=n
   ·subst c;simp [hf]
   ·congr 1;simp;omega
theorem Zoh (f:Nat->Bool) (n:Nat):mk f n < 2 ^ n:=Nat.lt_pow_two_of_testBit _ fun i hi=>by
 rw [ZdR];simp;omega
theorem Zuh {l:List Path} (hl:ZK l=true) {e:List Int} (h:Ind l e):∃set,set < 2 ^ l.length/\Qh l set=e:=by
 let f:Nat->Bool:=fun i=>match l[i]? with |some p=>has e p.id |none=>false
 refine ⟨mk f l.length,Zoh _ _,?_⟩;have hs:=(Zuf hl).sublist (Zog l (mk f l.length));have hmem:∀x,x∈Qh l (mk f l.length)↔x∈e:=fun x=>by
  rw [ZdQ];constructor
  ·rintro ⟨i,p,h1,h2,rfl⟩;rw [ZdR,Ub] at h2;have:has e p.id=true:=by have:=h2.2;simpa only [f,h1] using this
   exact ZdK.1 this
  ·intro hx;obtain ⟨p,hp,rfl⟩:=h.1 x hx;obtain ⟨i,hi⟩:=Mk hp;refine ⟨i,p,hi,?_,rfl⟩;rw [ZdR,Ub];exact ⟨by simpa using (List.getElem?_eq_some_iff.1 hi).1,by simp only [f,hi];exact ZdK.2 hx⟩
 have hnd:∀{a:List Int},a.Pairwise (· < ·)->a.Nodup:=fun h=>h.imp fun h=>by omega
 exact List.Perm.eq_of_pairwise (le:=(· < ·)) (fun a b _ _ h1 h2=>by omega) hs h.2.1 ((List.perm_ext_iff_of_nodup (hnd hs) (hnd h.2.1)).2 hmem)
theorem ZEx {l:List Path} (hl:ZK l=true) {a b:Nat} (ha:a < 2 ^ l.length) (hb:b < 2 ^ l.length) (h:Qh l a=Qh l b):a=b:=by
 refine FK fun i=> ?_
 by_cases hi:i < l.length
 ·have hx:=Ua hi;have h1:=Zbk hl (set:=a) hx;have h2:=Zbk hl (set:=b) hx;rw [h,h2] at h1;exact (Bool.eq_iff_iff.2 h1).symm
 ·have hp:2 ^ l.length<=2 ^ i:=Ml (by decide) (by omega);rw [FF (by omega),FF (by omega)]
theorem ZEy {l:List Path} (hl:ZK l=true) {e:List Int}:e∈Jr l↔e≠ []/\V0 l e=true:=by
 unfold Jr;rw [MY];constructor
 ·rintro ⟨set,h1,h2⟩;split at h2
  case isFalse=>cases h2
  rename_i hg;cases h2;rw [List.mem_range'_1] at h1;refine ⟨fun h0=> ?_,(Zug hl).2 hg⟩;have:set=0:=by
   refine FK fun i=> ?_
   rw [FI];by_cases hi:i < l.length
   ·cases hb:set.testBit i with
    |false=>rfl
    |true=>
     have:=(Zbk hl (set:=set) (Ua hi)).2 hb;rw [h0] at this;cases this
   ·have hp:2 ^ l.length<=2 ^ i:=Ml (by decide) (by omega);exact FF (by omega)
  omega
 ·rintro ⟨h1,h2⟩;obtain ⟨set,hs,rfl⟩:=Zuh hl ((ZfW hl).1 h2).1;refine ⟨set,?_,by rw [Uh ((Zug hl).1 h2)]⟩;rw [List.mem_range'_1];have:set≠0:=fun h0=>h1 (by
   subst h0;unfold Qh;simp)
  omega
theorem ZEz {l:List Path} (hl:ZK l=true):(Jr l).Nodup:=by
 unfold Jr;refine List.Pairwise.filterMap (R:=fun a b=>a < b/\b < 2 ^ l.length) _ ?_ ?_
 ·rintro a b ⟨h1,h2⟩ x hx y hy;split at hx
  case isFalse=>cases hx
  split at hy
  case isFalse=>cases hy
  cases hx;cases hy;intro h;have:=ZEx hl (by omega) h2 h;omega
 ·rw [MH];intro i j hi hj hij;rw [List.length_range'] at hi hj;simp only [List.getElem_range'];omega
theorem ZEA {l:List Path} (hl:ZK l=true):Qu (Jr l)=Vu l l []:=by
 have hs:=Zof hl l [] (fun _ h=>h) (ZfR l none (Zj0 hl)).2;refine (ZrA ?_ (hs.imp fun h=>List.le_of_lt h)).symm;have hnd:(Vu l l []).Nodup:=hs.imp fun h e=>by
  subst e;exact List.lt_irrefl _ h
 refine (List.perm_ext_iff_of_nodup hnd (ZEz hl)).2 fun e=> ?_
 rw [ZEy hl,ZdP hl];constructor
 ·rintro ⟨h1,h2,_⟩;exact ⟨h1,h2⟩
 ·rintro ⟨h1,h2⟩;obtain ⟨set,_,rfl⟩:=Zuh hl ((ZfW hl).1 h2).1;exact ⟨h1,h2,_,rfl,Zog l set⟩
theorem ZEB {l:List Path} (hl:ZK l=true):V1 l=(Qu (Jr l)).take 40:=by
 unfold V1;rw [Uh hl,Zka l l [] [] (by simp),ZEA hl];simp
theorem Zkb (m:Nat) (h:m < 4611686018427387904):(BitVec.ofInt (IntKind.bits .i64) (m:Int)).toNat=m:=by
 show (BitVec.ofInt 64 (m:Int)).toNat=m;rw [BitVec.toNat_ofInt];omega
theorem Zkc {m k:Nat} (h:m < 2 ^ k) (hk:k<=62):m < 4611686018427387904:=UB h (by
 have:=Ml (show 1<=2 by decide) hk;exact this)
theorem ZEC {m j k:Nat} (hm:m < 2 ^ k) (hj:j < 2 ^ k) (hk:k<=62):W ((BitVec.toNat (BitVec.ofInt (IntKind.bits .i64) (m:Int) |||BitVec.ofInt (IntKind.bits .i64) (j:Int)):Nat):Int)=((m |||j:Nat):Int):=by
 rw [BitVec.toNat_or,Zkb m (Zkc hm hk),Zkb j (Zkc hj hk)];have:=Zkc (Nat.or_lt_two_pow hm hj) hk;exact ZB (by omega) (by omega)
theorem Zui {m j:Nat} (hm:m < 4611686018427387904) (hj:j < 4611686018427387904):W ((BitVec.toNat (BitVec.ofInt (IntKind.bits .i64) (m:Int) &&& BitVec.ofInt (IntKind.bits .i64) (j:Int)):Nat):Int)=((m &&& j:Nat):Int):=by
 rw [BitVec.toNat_and,Zkb m hm,Zkb j hj];have:=Nat.and_le_left (n:=m) (m:=j);exact ZB (by omega) (by omega)
theorem Zoi {j:Nat} (hj:j<=12):W ((1:Int) * ((2:Int) ^ (Min.min (Int.toNat (j:Int)) (IntKind.bits .i64))))=((2 ^ j:Nat):Int):=by
 rw [Uy,show Min.min j (IntKind.bits .i64)=j from Ma (by show j<=64;omega),Int.one_mul];have h:2 ^ j<=2 ^ 12:=Ml (by decide) hj;have e:((2:Int) ^ j)=((2 ^ j:Nat):Int):=by simp
 rw [e];generalize (2:Nat) ^ j=m at h ⊢;exact ZB (by omega) (by omega)
theorem ZED {s i:Nat} (hi:i<=12):Int.fdiv (s:Int) ((2:Int) ^ (Min.min (Int.toNat (i:Int)) (IntKind.bits .i64)))=((s >>> i:Nat):Int):=by
 rw [Uy,show Min.min i (IntKind.bits .i64)=i from Ma (by show i<=64;omega),Nat.shiftRight_eq_div_pow];rw [Int.fdiv_eq_ediv_of_nonneg _ (by exact Int.pow_nonneg (by decide))];simp
theorem ZEE {s i:Nat} (hs:s < 4611686018427387904) (hi:i<=12):(W ((BitVec.toNat (BitVec.ofInt (IntKind.bits .i64) (Int.fdiv (s:Int) ((2:Int) ^ (Min.min (Int.toNat (i:Int)) (IntKind.bits .i64)))) &&& BitVec.ofInt (IntKind.bits .i64) (1:Int)):Nat):Int)==1)=s.testBit i:=by
 have h1:s >>> i<=s:=by rw [Nat.shiftRight_eq_div_pow];exact Nat.div_le_self _ _
 rw [ZED hi,show (1:Int)=((1:Nat):Int) from rfl,Zui (by omega) (by decide),Nat.testBit,Nat.and_comm];rw [Nat.and_comm,Nat.and_one_is_mod];rcases Nat.mod_two_eq_zero_or_one (s >>> i) with h |h <;> rw [h] <;> rfl
def fc (l:List Path) (p:Path) (j:Nat):Bool:=match l[j]? with |some q=>Z2 p q |none=>false
theorem ZEF {l:List Path} {p:Path} {s:Nat}:(((mk (fc l p) l.length &&& s:Nat):Int)==0)=l.zipIdx.all fun y=> !(s.testBit y.2 && Z2 p y.1):=by
 rw [Bool.eq_iff_iff,Fz,MT];constructor
 ·intro h y hy;have h0:mk (fc l p) l.length &&& s=0:=by omega
  obtain ⟨q,j⟩:=y;rw [UO] at hy;have hb:(mk (fc l p) l.length &&& s).testBit j=false:=by rw [h0];exact FI j
  rw [Nat.testBit_and,ZdR,show fc l p j=Z2 p q by unfold fc;rw [hy],Ul (List.getElem?_eq_some_iff.1 hy).1,UV] at hb;simp only;rw [Bool.and_comm,hb];rfl
 ·intro h;have:mk (fc l p) l.length &&& s=0:=by
   refine FK fun j=> ?_
   rw [FI,Nat.testBit_and,ZdR];by_cases hj:j < l.length
   ·have hx:=Ua hj;have:=h (l[j],j) (by rw [UO];exact hx);simp only at this;rw [Ul hj,UV,show fc l p j=Z2 p l[j] by unfold fc;rw [hx],Bool.and_comm];cases hb:s.testBit j with
    |false=>rfl
    |true=>rw [hb] at this;simpa using this
   ·rw [Ug hj];rfl
  rw [this];rfl
theorem Zkd {V β:Type} {F:(V->Option β)->V->Option β} {v:V} (N:Nat) (hN:N<=1099511627776) (st:Nat->V) (J:Nat->Prop) (hJ:J 0) (R:Option β) (hv:v=st 0)
  (h0:∀rec,J N->F rec (st N)=R) (h1:∀rec k,k < N->J k->(J (k + 1)->rec (st (k + 1))=R)->F rec (st k)=R):Ze F NN v=R:=by
 refine Yf (List.range N) (by rw [Fj];omega) (fun k (_:Unit)=>st k) () (fun k _=>J k) hJ (fun _ _ _=>R) hv ?_ ?_
 ·intro rec _ h;rw [Fj] at h ⊢;exact h0 rec h
 ·intro rec k x _ hJ hx hk hr;rw [Fj] at hk;exact h1 rec k hk hJ fun h=>hr () h
def agl (l:List Path) (i:Nat):List Int:=(List.range l.length).map fun k=>if k < i then ((mk (fc l (l.getD k default)) l.length:Nat):Int) else 0
theorem Zbl (l:List Path) (i:Nat):(agl l i).length=l.length:=by unfold agl;simp
theorem ZfX {l:List Path} {i k:Nat} (hk:k < l.length):(agl l i)[k]? =some (if k < i then ((mk (fc l (l.getD k default)) l.length:Nat):Int) else 0):=by
 unfold agl;rw [Mf,List.getElem?_range hk];rfl
theorem ZEG (l:List Path):agl l 0=List.replicate l.length 0:=by
 unfold agl;apply List.ext_getElem
 ·simp
 ·intro i h1 h2;simp
theorem ZEH {l:List Path} {i:Nat} (hi:i < l.length):(agl l i).set i 0=agl l i:=by
 apply UX;intro k;rw [U8];split
 ·rename_i e;subst e;rw [Uh (by rw [Zbl];exact hi),ZfX hi,Uf (by omega)]
 ·rfl
theorem ZEI {l:List Path} {i:Nat} {p:Path} (hi:l[i]? =some p):(agl l i).set i ((mk (fc l p) l.length:Nat):Int)=agl l (i + 1):=by
 have hlt:=(List.getElem?_eq_some_iff.1 hi).1;apply UX;intro k;rw [U8];by_cases hk:k < l.length
 ·rw [ZfX hk];split
  ·rename_i e;subst e;rw [ZfX hlt,Uh (Nat.lt_succ_self i),MZ,hi];simp [Zbl,hlt]
  ·rename_i e;rw [ZfX hk];by_cases c:k < i
   ·rw [Uh c,Uh (by omega)]
   ·rw [Uf c,Uf (by omega)]
 ·rw [Uf (by omega),UP (by rw [Zbl];omega),UP (by rw [Zbl];omega)]
def Zoj (l:List Path) (set:Nat) (x:Path×Nat):Bool:=set.testBit x.2==l.zipIdx.all fun y=> !(set.testBit y.2 && Z2 x.1 y.1)
def Kj (l:List Path) (set k:Nat):List Int:=((l.zipIdx.take k).filter fun x=>set.testBit x.2).map fun x=>x.1.id
theorem Zuj {l:List Path} {k:Nat} {p:Path} (h:l[k]? =some p):l.zipIdx[k]? =some (p,k):=by
 rw [List.getElem?_zipIdx,h];simp
theorem ZEJ {l:List Path} {set k:Nat} {p:Path} (h:l[k]? =some p):Kj l set (k + 1)=if set.testBit k=true then Kj l set k ++ [p.id] else Kj l set k:=by
 unfold Kj;rw [MF,Zuj h,List.filter_append,UW];cases hb:set.testBit k with
 |true=>simp [hb]
 |false=>simp [hb]
theorem ZEK (l:List Path) (set k:Nat):(Kj l set k).length<=l.length:=by
 unfold Kj;rw [Ut];refine Mm (Fi _ _) ?_;rw [Uc,List.length_zipIdx];omega
def K4 (l:List Path) (k:Nat):List (List Int):=(List.range' 1 k).filterMap fun set=>if Jq l set=true then some (Qh l set) else none
theorem Zuk (l:List Path) (k:Nat):K4 l (k + 1)=if Jq l (k + 1)=true then K4 l k ++ [Qh l (k + 1)] else K4 l k:=by
 unfold K4;rw [List.range'_concat,List.filterMap_append];simp only [MK,Nat.add_comm 1 k];cases hg:Jq l (k + 1) with
 |true=>simp [hg]
 |false=>simp [hg]
theorem Zul (l:List Path) (k:Nat):(K4 l k).length<=k:=by
 unfold K4;refine Mm (List.length_filterMap_le _ _) ?_;rw [List.length_range'];exact Ur _
@[simp] theorem ZEL (l:List (List Int)):ZW (l.map (Zb (rX Own.own 1 iR)).enc)=l.map (Zb (rX Own.own 1 iR)).enc:=Zcr (fun _=>rfl) l
theorem ZEM (l:List Int) (i:Nat) (v:Int) {β:Type} (K:List Int->Option β):rws iR ((l.map iR.enc).set i [I v]) K=K (l.set i v):=by
 have e:(l.map iR.enc).set i [I v]=(l.set i v).map iR.enc:=(List.map_set (f:=iR.enc) (l:=l) (i:=i) (a:=v)).symm;rw [e,Zo]
theorem ZEN (l:List Int) (v:Int) {β:Type} (K:List Int->Option β):rws iR (l.map iR.enc ++ [[I v]]) K=K (l ++ [v]):=Zcg l v K
theorem W1 {n:Nat} (h:n<=4000000000):W ((n:Int) + 1)=((n + 1:Nat):Int):=by rw [Zq (by omega)];omega
theorem ZEO (n:Nat) {β:Type} (K:List Int->Option β):rws iR (List.replicate ((n:Nat):Int).toNat [I 0]) K=K (List.replicate n 0):=by
 have e:List.replicate ((n:Nat):Int).toNat [I 0]=(List.replicate n (0:Int)).map iR.enc:=by
  rw [Uy]
  induction n with
  |zero=>rfl
  |succ n ih=>rw [MP,MP,ih];rfl
 rw [e,Zo]
theorem Zok {β:Type} (l:List Int) (n:Nat) (K:Int->Option β):n_i l n K=Qw l n K:=ZBl l n K
theorem ZEP (l:List Path) (h:Sm l):ZiX l=some (V1 l):=by
 unfold ZiX;simp only [Zs,Zo,JM,ZbQ,YG,ZZ,Ve,JZ l h,Zc,Xn,Zdx,ZEL,ZEO];cases ha:ZK l with
 |false=>unfold V1;rw [ha];rfl
 |true=>
 have hn:=Zcp ha;rw [Uk,Zf,Zl (by simp;omega),ZEB ha];have hpow:2 ^ l.length<=4096:=Ml (n:=2) (by decide) hn;have hpow1:1<=2 ^ l.length:=Nat.one_le_two_pow;refine Zkd l.length (by omega) (fun i=>((l,[],l,((l.length:Nat):Int),(i:Int)),agl l i)) (fun _=>True) trivial _ (by rw [ZEG];rfl) ?_ ?_
 ·intro rec _;simp only;rw [show decide (((l.length:Nat):Int) < ((l.length:Nat):Int))=false from Ug (by omega),Zf];refine Zkd (2 ^ l.length - 1) (by omega) (fun k=>((l,K4 l k,((k + 1:Nat):Int)),agl l l.length)) (fun _=>True) trivial _ rfl ?_ ?_
  ·intro rec _;simp only;rw [Zoi hn,show decide (((2 ^ l.length - 1 + 1:Nat):Int) < ((2 ^ l.length:Nat):Int))=false from Ug (by
    generalize 2 ^ l.length=m at hpow1 ⊢;omega),Zf]
   have hb:K4 l (2 ^ l.length - 1)=Jr l:=rfl;have hbl:(Jr l).length<=4096:=by
    rw [←hb];exact Mm (Zul _ _) (by omega)
   rw [hb];unfold ZmF;rw [Zl (by omega),Zc];have hsl:(Qu (Jr l)).length=(Jr l).length:=(Zhm _).length_eq;generalize Qu (Jr l)=S at hsl ⊢;by_cases c:40 < S.length
   ·rw [Uh (by omega),Zl (by omega),show (40:Int).toNat=40 from rfl,show Int.toNat 0=0 from rfl,ML,ZrL,ZbQ]
   ·rw [Uf (by omega),Zl (by omega),Uy,show Int.toNat 0=0 from rfl,ML,ZrL,ZbQ,U0 (Ur _),U0 (by omega)]
  ·intro rec k hk _ hr;have hr:=hr trivial;simp only;have hks:k + 1 < 2 ^ l.length:=by omega
   rw [Zoi hn,show decide (((k + 1:Nat):Int) < ((2 ^ l.length:Nat):Int))=true from Ul (by
    generalize 2 ^ l.length=m at hks ⊢;omega),Zn]
   refine Zkd l.length (by omega) (fun i=>((l,K4 l k,((k + 1:Nat):Int),true,Kj l (k + 1) i,l,((l.length:Nat):Int),(i:Int)),agl l l.length)) (fun i=>∀x∈l.zipIdx.take i,Zoj l (k + 1) x=true) (by simp) _ (by unfold Kj;simp) ?_ ?_
   ·intro rec2 hJ;simp only;rw [show decide (((l.length:Nat):Int) < ((l.length:Nat):Int))=false from Ug (by omega),Zf,Zn];have hol:=Zul l k;have hg:Jq l (k + 1)=true:=by
     unfold Jq;refine MT.2 fun x hx=>hJ x ?_
     rw [U0 (by simp)];exact hx
    have hid:Kj l (k + 1) l.length=Qh l (k + 1):=by
     unfold Kj Qh;rw [U0 (by simp)]
    rw [Zl (by simp;omega),ZjW (o:= .own) (p:= .own) (q:= .own) rfl rfl,W1 (by omega),hid];rw [Zuk,Uh hg] at hr;exact hr
   ·intro rec2 i hi hJ hr2;simp only;have hx:=Ua hi;generalize l[i]=p at hx;rw [show decide ((i:Int) < ((l.length:Nat):Int))=true from Ul (by omega),Zn,Zh hx,Zl (by omega),Zl (by rw [Zbl];omega)];simp only [Uy];have hag:(agl l l.length)[i]? =some ((mk (fc l p) l.length:Nat):Int):=by
     rw [ZfX hi,Uh hi,MZ,hx];rfl
    have hbi:=ZEE (s:=k + 1) (i:=i) (by omega) (by omega);rw [Uy] at hbi;rw [Zok,ZbP hag,hbi,Zui (Zkc (Zoh _ _) (by omega)) (by omega),ZEF,W1 (by omega)];have hgd:Zoj l (k + 1) (p,i)=((k + 1).testBit i==l.zipIdx.all fun y=> !((k + 1).testBit y.2 && Z2 p y.1)):=rfl;have hmem:(p,i)∈l.zipIdx:=by rw [UO];exact hx
    cases hb:((k + 1).testBit i != l.zipIdx.all fun y=> !((k + 1).testBit y.2 && Z2 p y.1)) with
    |true=>
     rw [Zn];have hng:Jq l (k + 1)=false:=by
      cases hg:Jq l (k + 1) with
      |false=>rfl
      |true=>
       have:=MT.1 hg (p,i) hmem;simp only at this;unfold bne at hb;rw [this] at hb;cases hb
     rw [Zuk,hng,Uf (by decide)] at hr;exact hr
    |false=>
     rw [Zf];have hJ':∀x∈l.zipIdx.take (i + 1),Zoj l (k + 1) x=true:=fun x hx'=>by
      rw [MF,Zuj hx] at hx';rcases List.mem_append.1 hx' with h1 |h1
      ·exact hJ x h1
      ·have:x=(p,i):=by simpa using h1
       subst this;rw [hgd];unfold bne at hb;simpa using hb
     have hr3:=hr2 hJ';rw [ZEJ hx] at hr3;have hil:=ZEK l (k + 1) i;cases hbit:(k + 1).testBit i with
     |true=>
      rw [Zn,Zl (by simp;omega),ZEN,W1 (by omega)];rw [hbit,Uh rfl] at hr3;exact hr3
     |false=>
      rw [Zf,W1 (by omega)];rw [hbit,Uf (by decide)] at hr3;exact hr3
 ·intro rec i hi _ hr;have hr:=hr trivial;simp only;have hx:=Ua hi;generalize l[i]=p at hx;rw [show decide ((i:Int) < ((l.length:Nat):Int))=true from Ul (by omega),Zn,Zh hx];refine Zkd l.length (by omega) (fun j=>((l,[],(i:Int),l,((l.length:Nat):Int),(i:Int),l,((l.length:Nat):Int),(j:Int)),p,(agl l i).set i ((mk (fc l p) j:Nat):Int))) (fun _=>True) trivial _ (by rw [show ((mk (fc l p) 0:Nat):Int)=0 from rfl,ZEH hi];rfl) ?_ ?_
  ·intro rec2 _;simp only;rw [show decide (((l.length:Nat):Int) < ((l.length:Nat):Int))=false from Ug (by omega),Zf,ZEI hx,W1 (by omega)];exact hr
  ·intro rec2 j hj _ hr2;have hr2:=hr2 trivial;simp only;have hy:=Ua hj;generalize l[j]=q at hy;rw [show decide ((j:Int) < ((l.length:Nat):Int))=true from Ul (by omega),Zn,Zh hy,W1 (by omega)];have hf:fc l p j=Z2 p q:=by unfold fc;rw [hy]
   have hmk:mk (fc l p) (j + 1)=mk (fc l p) j ||| (if fc l p j=true then 2 ^ j else 0):=rfl;rw [hmk,hf] at hr2;cases hc:Z2 p q with
   |false=>
    rw [Zf];rw [hc,Uf (by decide),Nat.or_zero] at hr2;exact hr2
   |true=>
    rw [hc,Uh rfl] at hr2;rw [Zn,Zl (by rw [U4,Zbl];omega)];simp only [Uy];have hag:((agl l i).set i ((mk (fc l p) j:Nat):Int))[i]? =some ((mk (fc l p) j:Nat):Int):=by
     rw [U8,Uh rfl,Uh (by rw [Zbl];exact hi)]
    rw [Zok,ZbP hag,Zl (by omega),Zl (by rw [U4,Zbl];omega),Zok,ZbP hag,ZEM,FP];have hlt:mk (fc l p) j < 2 ^ 12:=UB (Zoh _ _) (Ml (by decide) (by omega));have hpj:2 ^ j < 2 ^ 12:=Nat.pow_lt_pow_right (by decide) (by omega);have hpw:=Zoi (j:=j) (by omega);rw [Uy] at hpw;rw [hpw,ZEC hlt hpj (by omega)];exact hr2
theorem Zum (l:List Int) (n:Nat) {β:Type} (K:List Int->Option β):rws iR (l.map iR.enc ++ [[I ((n:Nat):Int)]]) K=K (l ++ [(n:Int)]):=Zcg l _ K
def K5 (l:List Path):List Int:=(V1 l).map fun s=>((s.length:Nat):Int)
theorem ZEQ (l:List Path) (h:Sm l):Zh2 l=some (K5 l):=by
 unfold Zh2 K5;simp only [Zs,ZEr l h,Zc,JM,ZbQ,Zo,Ve,ZZ,ZrM];have hs:=(Zoc l).1;generalize V1 l=S at hs;refine ZfA S (fun s=>((s.length:Nat):Int)) (by omega) (fun k acc=>(acc,S,(k:Int))) some rfl ?_ ?_
 ·intro rec acc ha;simp only;rw [show decide (((S.length:Nat):Int) < ((S.length:Nat):Int))=false from Ug (by omega),Zf]
 ·intro rec k x acc hx hk ha;simp only;rw [show decide ((k:Int) < ((S.length:Nat):Int))=true from Ul (by omega),Zn,Zh hx,Zl (by simp;omega),Zum,W1 (by omega)]
theorem ZER (l:List Path) (h:Sm l):ZiY l=some (K5 l):=by
 unfold ZiY K5;simp only [Zs,ZEP l h,Zc,ZaH,Zo,Ve,ZZ,Zhr];have hs:=(Zoc l).1;generalize V1 l=S at hs;refine ZfA S (fun s=>((s.length:Nat):Int)) (by omega) (fun k acc=>(acc,S,((S.length:Nat):Int),(k:Int))) some rfl ?_ ?_
 ·intro rec acc ha;simp only;rw [show decide (((S.length:Nat):Int) < ((S.length:Nat):Int))=false from Ug (by omega),Zf]
 ·intro rec k x acc hx hk ha;simp only;rw [show decide ((k:Int) < ((S.length:Nat):Int))=true from Ul (by omega),Zn,Zh hx,Zl (by simp;omega),Zum,W1 (by omega)]
theorem ZES (l:List Path) (p:List Part) (h:Sm l) (hp:SmL p) (hpl:Yp l p=true) (id:Int) (hid:¬ZD l id < 0):Zdh l p id=some (ZdE l p id):=by
 have hrl:=ZfK hpl id;obtain ⟨c1,c2⟩:=ZdD hpl;unfold Zdh ZdE;simp only [Zs,Xh,ZCK l p h hp hpl id hid,Zc,Zo,ZZ];refine (Yf (List.range (2 * cyc l p)) (by simp;omega) (fun k (z:Int×Int)=>(YJ l p id,z.1,z.2,(k:Int))) ((0:Int),(0:Int)) (fun k z=>0<=z.2/\z.2<=k) (by simp) (fun ks _ z=>some (gW (YJ l p id) ks z.1 z.2)) rfl ?_ ?_).trans rfl
 ·intro rec z hz;simp [gW,hrl,Zcd,ZB (show -9223372036854775808<=2 * (cyc l p:Int) by omega) (by omega)]
 ·intro rec k x z hz hx hk hr;have hk':k < 2 * cyc l p:=by simpa using hk
  have hxk:x=k:=by
   rw [List.getElem?_range hk'] at hx;exact (Uo hx).symm
  subst hxk;have hm:x % cyc l p < cyc l p:=Nat.mod_lt _ (by omega);have hg:(YJ l p id)[x % cyc l p]? =some (((YJ l p id)[x % cyc l p]?).getD 0):=by
   rw [Ua (by omega)];rfl
  have hgz:∀{β:Type} (K:Int->Option β),Z6 (YJ l p id) ((x:Int) % (cyc l p:Int)) K=K (((YJ l p id)[x % cyc l p]?).getD 0):=fun K=>by
   have:=Zh hg K
   rwa [Int.natCast_emod] at this
  simp only [Up] at hr;simp [hrl,ZB (show -9223372036854775808<=2 * (cyc l p:Int) by omega) (by omega),show (x:Int) < 2 * (cyc l p:Int) by omega,Zs2,hgz,Zq (show x<=9223372036854775806 by omega),ZB (show -9223372036854775808<=z.2 + 1 by omega) (by omega),show ¬cyc l p=0 by omega,gW,Zm4]
  try rw [Zl (by intro e;rw [e] at hrl;simp at hrl;omega)]
  by_cases c:((YJ l p id)[x % cyc l p]?).getD 0=1
  ·have:=hr (if z.1 < 0 then 0 else z.1,0) (by constructor <;> omega);simp [c];simpa using this
  ·have:=hr (if z.1 < z.2 + 1 then z.2 + 1 else z.1,z.2 + 1) (by constructor <;> simp <;> omega);simp [c,show (((YJ l p id)[x % cyc l p]?).getD 0==1)=false by simp [c]];simpa using this
theorem ZET (t:Town) (h:Zw t):∃v,Zh9 t=some v/\Zjc t=some v:=by
 have h4:=h.2.2.2.2;have e1:Zh4 t=some (Vn t.paths (YA t)):=by unfold Zh4;simp [ZfE t h,ZsE _ _ h.1]
 have e2:Zi7 t=some (Vn t.paths (YA t)):=by unfold Zi7;simp [ZfF t h,ZsF _ _ h.1]
 unfold Zh9 Zjc;simp only [Zt,Zk,Zp,Zr,Zv,Zs,Zo,ZP,Z3,Z0,Zy,ZX,KQ t h,KR t h,e1,e2,ZCj t h,ZCk t h,ZCa t h,ZCb t h,Zc];cases ZS t
 ·exact ⟨_,rfl,rfl⟩
 cases Vn t.paths (YA t)
 ·exact ⟨_,rfl,rfl⟩
 cases ZfG t
 ·exact ⟨_,rfl,rfl⟩
 cases ZfB t
 ·exact ⟨_,rfl,rfl⟩
 ·exact ⟨_,rfl,rfl⟩
theorem Zbm {β:Type} {s:ByteArray} {k:Nat} {c:UInt8} (h:s.data.toList[k]? =some c) (K:Int->Option β):YO s (k:Int) K=K (c.toNat:Int):=by
 unfold YO;rw [Uh (by omega),Uy,h]
theorem Zol (s:ByteArray):s.size=s.data.toList.length:=Array.length_toList.symm
def pd:List UInt8->Int->Option Int
 | [],n=>some n
 |c::r,n=>if (c.toNat:Int) < 48\/(57:Int) < (c.toNat:Int) then none else pd r (W (W (10 * n) + W (IntKind.u8.wrap ((c.toNat:Int) - 48))))
def Zcv (x:Option Int):Int×Bool:=match x with |none=>(0,false) |some n=>if (1000000000000:Int) < n then (0,false) else (n,true)
def Y4 (u:List UInt8):Int×Bool:=
 if u.length=0\/13 < u.length\/(1 < u.length/\u[0]? =some 48) then (0,false) else Zcv (pd u 0)
theorem Zun (s:ByteArray) (hs:s.size<=1099511627776) {F:((ByteArray×Int×Int×Int)->Option (Int×Bool))->(ByteArray×Int×Int×Int)->Option (Int×Bool)}
  (hF:∀rec x,F rec x=cnd (decide (x.2.2.2 < x.2.2.1)) (YO x.1 x.2.2.2 fun c4=>cnd (decide (c4 < 48)) (some (0,false)) (YO x.1 x.2.2.2 fun c5=>cnd (decide (c5 > 57)) (some (0,false)) (YO x.1 x.2.2.2 fun c6=>rec (x.1,W (W (10 * x.2.1) + W (IntKind.u8.wrap (c6 - 48))),x.2.2.1,W (x.2.2.2 + 1))))) (cnd (decide (x.2.1 > 1000000000000)) (some (0,false)) (some (x.2.1,true)))):
  Ze F NN (s,0,((s.size:Nat):Int),0)=some (Zcv (pd s.data.toList 0)):=by
 have hl:=Zol s;refine (Yd s.data.toList (by omega) (fun k n=>(s,n,((s.size:Nat):Int),(k:Int))) 0 (fun r _ n=>some (Zcv (pd r n))) rfl ?_ ?_).trans rfl
 ·intro rec n;rw [hF];simp only [hl];simp [pd,Zcv,ZG];split <;> rfl
 ·intro rec k c n hc hk hr;simp only [Up] at hr;rw [hF];simp only [Zbm hc,show ((k:Nat):Int) < ((s.size:Nat):Int) by omega,Mo,Zn,Zq (show k<=9223372036854775806 by omega),hr,pd];by_cases c1:(c.toNat:Int) < 48
  ·simp [c1,Zcv]
  ·by_cases c2:(57:Int) < (c.toNat:Int)
   ·simp only [c1,U3,Zf,gt_iff_lt,c2,Mo,Zn,or_true,U2];rfl
   ·simp only [c1,c2,U3,Zf,gt_iff_lt,or_self,Mx]
theorem Zuo (s:ByteArray) (hs:s.size<=1099511627776):Ze4 s=some (Y4 s.data.toList):=by
 have hl:=Zol s;unfold Ze4 Y4;simp only [hl.symm];by_cases h0:s.size=0
 ·simp [h0]
 have e0:(((s.size:Nat):Int)==0)=false:=by rw [Mc];omega
 by_cases h1:13 < s.size
 ·have e1:decide (((s.size:Nat):Int) > 13)=true:=by simp;omega
  simp only [e0,e1,Zf,Zn,h1,true_or,or_true,U2]
 have e1:decide (((s.size:Nat):Int) > 13)=false:=by simp;omega
 simp only [e0,e1,Zf,h0,h1,false_or];by_cases h2:1 < s.size
 ·have e2:decide (((s.size:Nat):Int) > 1)=true:=by simp;omega
  have hz:s.data.toList[0]? =some s.data.toList[0]:=Ua (by omega);have hg:∀K:Int->Option (Int×Bool),YO s 0 K=K ((s.data.toList[0]).toNat:Int):=fun K=>Zbm hz K
  simp only [e2,Zn,hg,h2,FT,hz];by_cases c:s.data.toList[0]=48
  ·rw [c];rfl
  ·have:(((s.data.toList[0]).toNat:Int)==48)=false:=by
    simp only [Mc,ne_eq];intro h;apply c;have h':(s.data.toList[0]).toNat=48:=by omega
    exact UInt8.toNat_inj.1 h'
   simp only [this,Zf,MN,c,Mx];exact Zun s hs fun rec x=>rfl
 ·have e2:decide (((s.size:Nat):Int) > 1)=false:=by simp;omega
  simp only [e2,Zf,h2,false_and,Mx];exact Zun s hs fun rec x=>rfl
theorem Zup (n:Int):Rg (W n):=by
 have e:W n=if n % 18446744073709551616>=9223372036854775808 then n % 18446744073709551616 - 18446744073709551616 else n % 18446744073709551616:=by
  show IntKind.i64.wrap n=_;unfold IntKind.wrap;rw [show IntKind.i64.signed=true from rfl,show IntKind.i64.bits=64 from rfl];simp only [UV,UG];rfl
 rw [e];unfold Rg;split <;> omega
theorem Zom:∀(u:List UInt8) (n m:Int),Rg n->pd u n=some m->Rg m
 | [],n,m,h,e=>by cases e;exact h
 |c::u,n,m,h,e=>by
  rw [pd] at e;split at e
  ·cases e
  ·exact Zom u _ m (Zup _) e
theorem Zuq (u:List UInt8):Rg (Y4 u).1:=by
 have h0:Rg 0:=by unfold Rg;omega
 unfold Y4 Zcv;split
 ·exact h0
 ·split
  ·exact h0
  ·rename_i n hn;split
   ·exact h0
   ·exact Zom u 0 n h0 hn
def dec:Nat->List UInt8
 |n=>if n < 10 then [UInt8.ofNat (48 + n)] else [UInt8.ofNat (48 + n / 10),UInt8.ofNat (48 + n % 10)]
theorem Zcw (a b:List UInt8):bs a ++ bs b=bs (a ++ b):=by
 apply MS;apply Array.toList_inj.1;show (bs a ++ bs b).data.toList=a ++ b;rw [ByteArray.data_append,M4];rfl
theorem Zon {n:Nat} (h:n < 100):Yg (n:Int)=bs (dec n):=by
 by_cases h0:n=0
 ·subst h0;have e:Lib.decDigits 0= [48]:=by rw [Lib.decDigits];rfl
  show (⟨(Lib.itoa 0).toArray⟩:ByteArray)=_;rw [show Lib.itoa 0=Lib.decDigits 0 from rfl,e];rfl
 rw [Zt4 (by omega),Uf (by omega),Int.natAbs_natCast,Zj6 h0];by_cases h1:n < 10
 ·rw [show n / 10=0 by omega,Zj5,Zcw,dec,Uh h1,show n % 10=n by omega];rfl
 ·rw [Zj6 (by omega),show n / 10 / 10=0 by omega,Zj5,dec,Uf h1,Zcw,Zcw,show n / 10 % 10=n / 10 by omega];rfl
theorem ZEU:∀n:Fin 21,Y4 (dec n.val)=((n.val:Int),true):=by decide
def kc (k:Int):UInt8:=if k=1 then 99 else if k=2 then 119 else 98
def ZfY (i:Nat) (k:Int) (a b:Nat):List UInt8:=dec i ++ [kc k,UInt8.ofNat (48 + a),UInt8.ofNat (48 + b)]
theorem ZEV (k:Int):Zct k=bs [kc k]:=by
 unfold Zct kc;split <;> (try split) <;> rfl
theorem Zoo {p:Path} (h:Z8 p=true):∃i a b:Nat,p=⟨(i:Int),p.kind,(a:Int),(b:Int)⟩/\1<=i/\i<=20/\a<=3/\b<=3:=by
 simp [Z8,inR] at h;refine ⟨p.id.toNat,p.src.toNat,p.dst.toNat,?_,by omega,by omega,by omega,by omega⟩;cases p;simp at h ⊢;omega
theorem Zur {a:Nat} (h:a < 10):dec a= [UInt8.ofNat (48 + a)]:=by rw [dec,Uh h]
theorem Zus {i a b:Nat} {k:Int} (h:Z8 ⟨(i:Int),k,(a:Int),(b:Int)⟩=true):Xt ⟨(i:Int),k,(a:Int),(b:Int)⟩=bs (ZfY i k a b):=by
 have h':=h;simp [Z8,inR] at h';unfold Xt;rw [Uh h,Zon (by omega),Zon (by omega),Zon (by omega),Zur (show a < 10 by omega),Zur (show b < 10 by omega),ZEV,Zcw,Zcw,Zcw];unfold ZfY;simp
theorem Zke (l:List UInt8):(bs l).data.toList=l:=rfl
theorem Zut {a b:List UInt8} (h:bs a=bs b):a=b:=by
 rw [←Zke a,h,Zke]
theorem Zuu (s:ByteArray):s=bs s.data.toList:=by
 apply MS;apply Array.toList_inj.1;rfl
theorem ZEW (i:Nat):1<=(dec i).length/\(dec i).length<=2:=by
 rw [dec];split <;> simp
theorem ZEX (i:Nat) (k:Int) (a b:Nat):(ZfY i k a b).length=(dec i).length + 3:=by simp [ZfY]
theorem Zop {V β:Type} (a n:Nat) (hn:n<=1000) (st:Nat->V) (f:Nat->Option β) (K:Option β) {F:(V->Option β)->V->Option β} {v:V} (hv:v=st 0)
  (h0:∀rec,F rec (st n)=K) (h1:∀rec k,k < n->F rec (st k)=match f (a + k) with |some r=>some r |none=>rec (st (k + 1))):
  Ze F NN v=match (List.range' a n).findSome? f with |some r=>some r |none=>K:=by
 have hl:(List.range' a n).length=n:=List.length_range';refine (Yd (List.range' a n) (by omega) (fun k (_:Unit)=>st k) () (fun s _ _=>match s.findSome? f with |some r=>some r |none=>K) hv ?_ ?_).trans rfl
 ·intro rec _;rw [hl,h0];rfl
 ·intro rec k x _ hx hk hr;have hxe:x=a + k:=by
   rw [List.getElem?_range' (by omega)] at hx;have:=Uo hx;omega
  rw [h1 rec k (by omega),List.findSome?_cons,hxe];cases f (a + k) with
  |some r=>rfl
  |none=>exact hr ()
def Zcx (s:ByteArray) (i k x:Nat):Option (Path×Bool):=
 let p:Path:=⟨(i:Int),(k:Int),((x / 4:Nat):Int),((x % 4:Nat):Int)⟩
 if Z8 p=true/\Xt p=s then some (p,true) else none
def QI (s:ByteArray):Option (Path×Bool):=
 (List.range' 1 20).findSome? fun i=>(List.range' 1 3).findSome? fun k=>(List.range' 0 16).findSome? fun x=>Zcx s i k x
def ZdS:Path×Bool:=(⟨0,0,0,0⟩,false)
theorem Zcy (a b:ByteArray):(a.toList==b.toList)=decide (a=b):=by
 rw [ByteArray.toList_eq,ByteArray.toList_eq];by_cases h:a=b
 ·subst h;simp
 ·simp [h];exact fun e=>h (MS e)
theorem ZEY (s:ByteArray):Zhu s=some ((QI s).getD ZdS):=by
 unfold Zhu QI;refine (Zop (β:=Path×Bool) 1 20 (by omega) (fun k=>((s,((k + 1:Nat):Int)),(⟨0,0,0,0⟩:Path))) (fun i=>(List.range' 1 3).findSome? fun k=>(List.range' 0 16).findSome? fun x=>Zcx s i k x) (some ZdS) rfl (fun rec=> ?_) (fun rec i hi=> ?_)).trans ?_
 ·rfl
 ·have e1:decide (((i + 1:Nat):Int)<=20)=true:=by simp;omega
  simp only [e1,Zn];refine (Zop (β:=Path×Bool) 1 3 (by omega) (fun k=>((s,((i + 1:Nat):Int),((k + 1:Nat):Int)),(⟨0,0,0,0⟩:Path))) (fun k=>(List.range' 0 16).findSome? fun x=>Zcx s (1 + i) k x) (rec ((s,((i + 1 + 1:Nat):Int)),(⟨0,0,0,0⟩:Path))) rfl (fun rec2=> ?_) (fun rec2 k hk=> ?_)).trans ?_
  ·have e2:W (((i + 1:Nat):Int) + 1)=((i + 1 + 1:Nat):Int):=by rw [ZB (by omega) (by omega)];omega
   simp only [e2];rfl
  ·have e2:decide (((k + 1:Nat):Int)<=3)=true:=by simp;omega
   simp only [e2,Zn];refine (Zop (β:=Path×Bool) 0 16 (by omega) (fun x=>((s,((i + 1:Nat):Int),((k + 1:Nat):Int),(x:Int)),(⟨0,0,0,0⟩:Path))) (fun x=>Zcx s (1 + i) (1 + k) x) (rec2 ((s,((i + 1:Nat):Int),((k + 1 + 1:Nat):Int)),(⟨0,0,0,0⟩:Path))) rfl (fun rec3=> ?_) (fun rec3 x hx=> ?_)).trans ?_
   ·have e3:W (((k + 1:Nat):Int) + 1)=((k + 1 + 1:Nat):Int):=by rw [ZB (by omega) (by omega)];omega
    simp only [e3];rfl
   ·have e3:decide ((x:Int) < 16)=true:=by simp;omega
    have e4:W (Int.tdiv (x:Int) 4)=((x / 4:Nat):Int):=by
     rw [show Int.tdiv (x:Int) 4=((x / 4:Nat):Int) from rfl];exact ZB (by omega) (by omega)
    have e5:Int.tmod (x:Int) 4=((x % 4:Nat):Int):=rfl;have e6:W ((x:Int) + 1)=((x + 1:Nat):Int):=by rw [ZB (by omega) (by omega)];omega
    have e7:((i + 1:Nat):Int)=((1 + i:Nat):Int):=by omega
    have e8:((k + 1:Nat):Int)=((1 + k:Nat):Int):=by omega
    simp only [e3,Zn,e4,e5,e6,e7,e8,Zfs,Zc,UZ,Zcx,Zcy];cases hp:Z8 (⟨((1 + i:Nat):Int),((1 + k:Nat):Int),((x / 4:Nat):Int),((x % 4:Nat):Int)⟩:Path) with
    |false=>simp
    |true=>
     have ok:VQ (⟨((1 + i:Nat):Int),((1 + k:Nat):Int),((x / 4:Nat):Int),((x % 4:Nat):Int)⟩:Path):=by
      unfold VQ Rg;simp only;omega
     rw [Zt6 _ ok,Zc];generalize (⟨((1 + i:Nat):Int),((1 + k:Nat):Int),((x / 4:Nat):Int),((x % 4:Nat):Int)⟩:Path)=q at hp ok ⊢;by_cases c:Xt q=s
     ·simp only [c,hp,Mo,Zn,and_self,U2]
     ·simp only [c,hp,U3,Zf,Zn,and_false,Mx]
   ·rfl
  ·rfl
 ·cases (List.range' 1 20).findSome? _ <;> rfl
theorem Zoq {s:ByteArray} {r:Path×Bool} (h:QI s=some r):∃p,r=(p,true)/\Z8 p=true/\Xt p=s:=by
 unfold QI at h;obtain ⟨i,_,h⟩:=M2 h;obtain ⟨k,_,h⟩:=M2 h;obtain ⟨x,_,h⟩:=M2 h;unfold Zcx at h;simp only at h;split at h
 ·rename_i hc;cases h;exact ⟨_,rfl,hc.1,hc.2⟩
 ·cases h
theorem ZEZ {s:ByteArray} (h:QI s=none) {p:Path} (hp:Z8 p=true):Xt p≠s:=by
 intro hs;obtain ⟨i,a,b,e,i1,i2,a1,b1⟩:=Zoo hp;have kp:=ZaW hp;unfold QI at h;have h1:=List.findSome?_eq_none_iff.1 h i (by simp [List.mem_range'];exact ⟨i - 1,by omega,by omega⟩);have h2:=List.findSome?_eq_none_iff.1 h1 p.kind.toNat (by simp [List.mem_range'];exact ⟨p.kind.toNat - 1,by omega,by omega⟩);have h3:=List.findSome?_eq_none_iff.1 h2 (4 * a + b) (by simp [List.mem_range'];omega);unfold Zcx at h3;have ek:((p.kind.toNat:Nat):Int)=p.kind:=by omega
 have ea:(4 * a + b) / 4=a:=by omega
 have eb:(4 * a + b) % 4=b:=by omega
 simp only [ek,ea,eb,←e,hp,hs,and_self,U2] at h3;cases h3
theorem ZE0 {k:Int} (hk:k=1\/k=2\/k=3):Lib.indexByte [99,119,98] (kc k)=k - 1:=by
 rcases hk with rfl |rfl |rfl <;> decide
set_option maxRecDepth 20000 in
theorem Zuv (c:UInt8): -1<=Lib.indexByte [99,119,98] c/\Lib.indexByte [99,119,98] c<=2:=by
 have:∀n:Fin 256,-1<=Lib.indexByte [99,119,98] (UInt8.ofNat n.val)/\Lib.indexByte [99,119,98] (UInt8.ofNat n.val)<=2:=by decide
 have h:=this ⟨c.toNat,c.toNat_lt⟩;simpa using h
def Zcz (u:List UInt8) (c1 c2 c3:UInt8):Path:=⟨(Y4 u).1,Lib.indexByte [99,119,98] c1 + 1,(c2.toNat:Int) - 48,(c3.toNat:Int) - 48⟩
theorem ZE1 (u:List UInt8) (c1 c2 c3:UInt8):VQ (Zcz u c1 c2 c3):=by
 have h1:=Zuq u;have h2:=Zuv c1;have h3:=c2.toNat_lt;have h4:=c3.toNat_lt;unfold VQ Zcz;refine ⟨h1,?_,?_,?_⟩ <;> unfold Rg <;> simp only <;> omega
theorem ZE2 {i a b:Nat} {k:Int} (hi:i<=20) (ha:a<=3) (hb:b<=3) (hk:k=1\/k=2\/k=3):
  Zcz (dec i) (kc k) (UInt8.ofNat (48 + a)) (UInt8.ofNat (48 + b))=⟨(i:Int),k,(a:Int),(b:Int)⟩/\(Y4 (dec i)).2=true:=by
 have p1:=ZEU ⟨i,by omega⟩;simp only at p1;unfold Zcz;rw [p1,ZE0 hk];refine ⟨?_,rfl⟩;simp only [UInt8.toNat_ofNat',Path.mk.injEq,FT];omega
theorem ZE3 {u:List UInt8} (h:4<=u.length):∃d c1 c2 c3,u=d ++ [c1,c2,c3]/\d.length=u.length - 3:=by
 refine ⟨u.take (u.length - 3),u[u.length - 3],u[u.length - 2],u[u.length - 1],?_,by rw [Uc];omega⟩;have h1:u.drop (u.length - 3)= [u[u.length - 3],u[u.length - 2],u[u.length - 1]]:=by
  rw [UH (by omega),UH (by omega),UH (by omega),U1 (by omega)];congr 2
  ·congr 1;omega
  ·congr 2;omega
 rw [←h1,Uq]
theorem ZE4 (s:ByteArray) (hs:s.size<=1099511627776):Zik s=some ((QI s).getD ZdS):=by
 have hl:=Zol s;unfold Zik;by_cases h4:s.size < 4
 ·have e:decide (((s.size:Nat):Int) < 4)=true:=by simp;omega
  rw [e,Zn];cases hq:QI s with
  |none=>rfl
  |some r=>
   obtain ⟨p,rfl,h1,h2⟩:=Zoq hq;obtain ⟨i,a,b,e,i1,i2,a1,b1⟩:=Zoo h1;rw [e] at h1 h2;rw [Zus h1] at h2;have h5:=YN (ZfY i p.kind a b);rw [h2,ZEX] at h5;have:=ZEW i;omega
 have e:decide (((s.size:Nat):Int) < 4)=false:=by simp;omega
 obtain ⟨d,c1,c2,c3,hu,hd⟩:=ZE3 (u:=s.data.toList) (by omega);have hw:W (((s.size:Nat):Int) - 3)=((d.length:Nat):Int):=by rw [ZB (by omega) (by omega)];omega
 have w1:W (((d.length:Nat):Int) + 1)=((d.length + 1:Nat):Int):=by rw [ZB (by omega) (by omega)];omega
 have w2:W (((d.length:Nat):Int) + 2)=((d.length + 2:Nat):Int):=by rw [ZB (by omega) (by omega)];omega
 have g0:s.data.toList[d.length]? =some c1:=by rw [hu];simp
 have g1:s.data.toList[d.length + 1]? =some c2:=by rw [hu];simp
 have g2:s.data.toList[d.length + 2]? =some c3:=by rw [hu];simp
 have hx:ByteArray.extract s (Int.toNat 0) (Int.toNat ((d.length:Nat):Int))=bs d:=by
  apply MS;apply Array.toList_inj.1;rw [FG,FL,hu];simp;rfl
 have hxs:(bs d).size<=1099511627776:=by rw [YN];omega
 have hok:=ZE1 d c1 c2 c3;have i1:=Zuv c1;have q1:W (Lib.indexByte [99,119,98] c1 + 1)=Lib.indexByte [99,119,98] c1 + 1:=ZB (by omega) (by omega);have q2:=c2.toNat_lt;have q3:=c3.toNat_lt;have hix:ZeF (bs [99,119,98]) (c1.toNat:Int)=some (Lib.indexByte [99,119,98] c1):=by
  unfold ZeF;congr 2;rw [Uy];exact UInt8.ofNat_toNat
 rw [e,Zf,hw,Zl ⟨by omega,by omega,by omega⟩,hx,Zuo _ hxs,Zke,w1,w2];simp only [Zc,Zbm g0,Zbm g1,Zbm g2,hix,q1,ZB (show -9223372036854775808<=(c2.toNat:Int) by omega) (by omega),ZB (show -9223372036854775808<=(c3.toNat:Int) by omega) (by omega),ZB (show -9223372036854775808<=(c2.toNat:Int) - 48 by omega) (by omega),ZB (show -9223372036854775808<=(c3.toNat:Int) - 48 by omega) (by omega)];have hg:(⟨(Y4 d).1,Lib.indexByte [99,119,98] c1 + 1,(c2.toNat:Int) - 48,(c3.toNat:Int) - 48⟩:Path)=Zcz d c1 c2 c3:=rfl;rw [hg,Zt7 _ hok];simp only [Zc,Zcy];cases hq:QI s with
 |some r=>
  obtain ⟨p,rfl,h1,h2⟩:=Zoq hq;obtain ⟨i,a,b,e,i1,i2,a1,b1⟩:=Zoo h1;have kp:=ZaW h1;have h1':=h1;have h2':=h2;rw [e] at h1' h2';rw [Zus h1'] at h2';have h6:d ++ [c1,c2,c3]=dec i ++ [kc p.kind,UInt8.ofNat (48 + a),UInt8.ofNat (48 + b)]:=by
   rw [←hu,←h2'];rfl
  obtain ⟨h7,h8⟩:=List.append_inj' h6 rfl;simp only [FN,and_true] at h8;obtain ⟨k1,k2⟩:=ZE2 (i:=i) (a:=a) (b:=b) (k:=p.kind) (by omega) a1 b1 kp;rw [h7,h8.1,h8.2.1,h8.2.2,k2,k1,←e,h2];simp
 |none=>
  cases (Y4 d).2 with
  |false=>rfl
  |true=>
   have hne:Xt (Zcz d c1 c2 c3)≠s:=by
    intro hh;cases hp:Z8 (Zcz d c1 c2 c3) with
    |true=>exact ZEZ hq hp hh
    |false=>
     unfold Xt at hh;rw [hp] at hh;have:s.size=0:=by rw [←hh];rfl
     omega
   simp [hne];rfl
def cb (c:UInt8) (s:ByteArray):Nat:=s.data.toList.count c
theorem ZE5 (l:List Part):Yn (l.map (ZJ Own.shr).enc)=l.map (ZJ Own.shr).enc:=Zc5 (fun x=>by
 show Q5 [.slc Own.shr 1 (x.stage.map iR.enc),I x.green]= [.slc Own.shr 1 (x.stage.map iR.enc),I x.green]
 simp [Q5,AV.bor,ZBm]) l
def Pl (p:List Part):Prop:=p.length<=6/\∀x∈p,x.stage.length<=20/\(∀y∈x.stage,Rg y)/\Rg x.green
theorem ZE6 (l:List Path):Pl (QH l)/\∀x∈QH l,1<=x.stage.length:=by
 unfold QH;split
 ·rename_i h;have h1:=Za7 h;have key:∀x∈K3 l,Jj l x=true:=fun x hx=>by
   unfold Yp at h;simp only [Ub] at h;exact MT.1 h.2.1 x hx
  refine ⟨⟨h1.2.1,fun x hx=> ?_⟩,fun x hx=> ?_⟩
  ·have:=key x hx;unfold Jj at this;simp only [Ub] at this;have ht:=this.2.1;refine ⟨ZjT ht,fun y hy=> ?_,?_⟩
   ·have:=Zba h1.2.2.2 (Za2 ht y hy);exact ⟨by omega,by omega⟩
   ·have:=h1.2.2.1 x hx;exact ⟨by omega,by omega⟩
  ·have:=key x hx;unfold Jj at this;simp only [Ub] at this;have h0:=this.1;cases hs:x.stage with
   |nil=>rw [hs] at h0;cases h0
   |cons a b=>simp
 ·exact ⟨⟨by simp,fun x hx=>by cases hx⟩,fun x hx=>by cases hx⟩
end Go.Sh
