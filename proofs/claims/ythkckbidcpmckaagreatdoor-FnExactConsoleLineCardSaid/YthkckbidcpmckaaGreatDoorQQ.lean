/- Plain facts: what the functions compute. -/
import Derived.Test.YthkckbidcpmckaaGreatDoorHpQ
import Derived.Lib.ItoaLen
set_option linter.all false
namespace Go.Sh
open Go.Fx
theorem V8 (x a b:Int):Yg x a b=some (decide (a<=x) && decide (x<=b)):=by
 unfold Yg;by_cases h:a<=x <;> simp [h,ZB]
theorem KE (x a b:Int):Ys x a b=some (decide (a<=x) && decide (x<=b)):=by
 unfold Ys;by_cases h:a<=x <;> simp [h,ZB]
theorem ZEM (r s:Report):∃v,Zfi r s=some v/\ZjH r s=some v:=by
 unfold Zfi ZjH;simp only [V8,KE,Zd];by_cases h0:r.second=s.second
 ·cases h1:(decide (0<=r.light) && decide (r.light<=2)) with
  |false=>exact ⟨_,by simp [h0,ZB];rfl,by simp [h0,ZB]⟩
  |true=>
   cases h2:(decide (0<=s.light) && decide (s.light<=2)) with
   |false=>exact ⟨_,by simp [h0,ZB];rfl,by simp [h0,ZB]⟩
   |true=>by_cases h3:r.light=0 <;> by_cases h4:s.light=0 <;> exact ⟨_,by simp [h0,h3,h4,ZB];rfl,by simp [h0,h3,h4,ZB]⟩
 ·exact ⟨_,by simp [h0,ZB];rfl,by simp [h0,ZB]⟩
theorem Zw {n:Nat} (h:n<=9223372036854775806):W ((n:Int) + 1)=(n:Int) + 1:=Zz (by omega) (by omega)
def inR (n a b:Int):Bool:=decide (a<=n) && decide (n<=b)
def Z8 (p:Path):Bool:=inR p.id 1 20 && inR p.kind 1 3 && inR p.src 0 3 && inR p.dst 0 3 && ((p.src==p.dst)==(p.kind==2))
theorem ZfR (p:Path):KB p=some (Z8 p):=by
 unfold KB Z8 inR;simp only [V8,Zd];cases (decide (1<=p.id) && decide (p.id<=20)) <;> cases (decide (1<=p.kind) && decide (p.kind<=3)) <;> cases (decide (0<=p.src) && decide (p.src<=3)) <;> cases (decide (0<=p.dst) && decide (p.dst<=3)) <;> simp
theorem Zkj (p:Path):ZaE p=some (Z8 p):=by
 unfold ZaE Z8 inR;simp only [KE,Zd];cases (decide (1<=p.id) && decide (p.id<=20)) <;> cases (decide (1<=p.kind) && decide (p.kind<=3)) <;> cases (decide (0<=p.src) && decide (p.src<=3)) <;> cases (decide (0<=p.dst) && decide (p.dst<=3)) <;> simp
def goP:Option Int->List Path->Bool
 | _,[]=>true
 |none,p::r=>Z8 p && goP (some p.id) r
 |some i,p::r=>Z8 p && decide (i < p.id) && goP (some p.id) r
def ZJ (l:List Path):Bool:=decide (l.length<=12) && goP none l
def Qb (l:List Path) (k:Nat):Option Int:=if k=0 then none else (l[k - 1]?).map (·.id)
theorem ZtG {l:List Path} {k:Nat} {x:Path} (h:l[k]? =some x):Qb l (k + 1)=some x.id:=by
 unfold Qb;simp [h]
theorem V9 (l:List Path) (h:Sm l):QN l=some (ZJ l):=by
 unfold Sm at h;unfold QN;simp;refine (Yc l (by omega) (fun k (_:Unit)=>(l,(k:Int))) () (fun s k _=>some (goP (Qb l k) s && decide (l.length<=12))) rfl ?_ ?_).trans ?_
 ·intro rec _;simp [goP];omega
 ·intro rec k x _ hx hk hr;have hr':=hr ();simp [hk,Zi hx,ZfR,Zw (show k<=9223372036854775806 by omega)] at hr' ⊢;cases hp:Z8 x with
  |false=>cases hq:Qb l k <;> simp [goP,hp]
  |true=>
   simp;by_cases h0:k=0
   ·subst h0;simp [Qb,hx] at hr';simp [hr',Qb,goP,hp,hx]
   ·have hz:l[k - 1]? =some l[k - 1]:=Ua (by omega);have hk1:W ((k:Int) - 1)=((k - 1:Nat):Int):=by rw [Zz (by omega) (by omega)];omega
    simp [show 0 < k by omega,hk1,Zi hz,hr',ZtG hx];rw [show Qb l k=some (l[k - 1]).id by unfold Qb;simp [h0,hz]];simp [goP,hp,ZB];by_cases h1:x.id<=(l[k - 1]).id
    ·simp [h1,show ¬((l[k - 1]).id < x.id) by omega]
    ·simp [h1,show (l[k - 1]).id < x.id by omega]
 ·simp [Qb,ZJ,Bool.and_comm]
theorem JW (l:List Path) (h:Sm l):Vi l=some (ZJ l):=by
 unfold Sm at h;unfold Vi;simp;by_cases h12:(12:Int) < (l.length:Int)
 ·simp [h12,ZJ,show ¬(l.length<=12) by omega]
 simp [h12];refine (Yc l (by omega) (fun k (_:Unit)=>(l,l,(l.length:Int),(k:Int))) () (fun s k _=>some (goP (Qb l k) s)) rfl ?_ ?_).trans ?_
 ·intro rec _;simp [goP]
 ·intro rec k x _ hx hk hr;have hr':=hr ();simp [hk,Zi hx,Zkj,Zw (show k<=9223372036854775806 by omega)] at hr' ⊢;cases hp:Z8 x with
  |false=>cases hq:Qb l k <;> simp [goP,hp]
  |true=>
   simp;by_cases h0:k=0
   ·subst h0;simp [Qb,hx] at hr';simp [hr',Qb,goP,hp,hx]
   ·have hz:l[k - 1]? =some l[k - 1]:=Ua (by omega);have hk1:W ((k:Int) - 1)=((k - 1:Nat):Int):=by rw [Zz (by omega) (by omega)];omega
    simp [show 0 < k by omega,hk1,Zi hz,hr',ZtG hx];rw [show Qb l k=some (l[k - 1]).id by unfold Qb;simp [h0,hz]];simp [goP,hp,ZB];by_cases h1:x.id<=(l[k - 1]).id
    ·simp [h1,show ¬((l[k - 1]).id < x.id) by omega]
    ·simp [h1,show (l[k - 1]).id < x.id by omega]
 ·simp [Qb,ZJ,show l.length<=12 by omega]
def YZ (p:Path):Int:=if Z8 p then (if p.kind=1 then 2 else if p.kind=2 then 5 else 3) else 0
theorem ZaI {p:Path} (h:Z8 p=true):p.kind=1\/p.kind=2\/p.kind=3:=by
 simp [Z8,inR] at h;omega
theorem Zod (p:Path):ZbU p=some (YZ p):=by
 unfold ZbU YZ;rw [ZfR,Zd];cases h:Z8 p with
 |false=>rfl
 |true=>rcases ZaI h with e |e |e <;> rw [e] <;> rfl
theorem Zoe (p:Path):Zdn p=some (YZ p):=by
 unfold Zdn YZ;rw [Zkj,Zd];cases h:Z8 p with
 |false=>rfl
 |true=>rcases ZaI h with e |e |e <;> rw [e] <;> rfl
def ZfS (l:List Path):Int:=if ZJ l then l.foldl (fun n p=>if n < YZ p then YZ p else n) 0 else 0
theorem Zof (a b:Int):ZbV a b=some (if a < b then b else a):=by
 unfold ZbV;rw [ZB];split <;> simp_all <;> omega
theorem ZEN (l:List Path) (h:Sm l):ZiI l=some (ZfS l):=by
 have h':=h;unfold Sm at h;unfold ZiI ZfS;simp;refine (Yc l (by omega) (fun k n=>(l,n,(k:Int))) 0 (fun s _ n=>some (if ZJ l then s.foldl (fun n p=>if n < YZ p then YZ p else n) n else n)) rfl ?_ ?_).trans rfl
 ·intro rec n;simp
 ·intro rec k x n hx hk hr;simp only [Uo] at hr;simp [hk,Zi hx,V9 l h',Zod,Zof,Zw (show k<=9223372036854775806 by omega),hr];cases ZJ l <;> simp
theorem ZEO (l:List Path) (h:Sm l):ZjL l=some (ZfS l):=by
 have h':=h;unfold Sm at h;unfold ZjL ZfS;simp [JW l h'];cases ZJ l with
 |false=>rfl
 |true=>
  simp;refine (Yc l (by omega) (fun k n=>(n,l,(l.length:Int),(k:Int))) 0 (fun s _ n=>some (s.foldl (fun n p=>if n < YZ p then YZ p else n) n)) rfl ?_ ?_).trans rfl
  ·intro rec n;simp
  ·intro rec k x n hx hk hr;simp only [Uo] at hr;simp [hk,Zi hx,Zoe,Zw (show k<=9223372036854775806 by omega),hr]
def Vk (l:List Path):Int:=W (W ((l.length:Int) + 1) * W (W (W (60 + ZfS l) + 20) + 1))
theorem ZEP (l:List Path) (h:Sm l):ZiJ l=some (Vk l):=by
 unfold ZiJ Vk;simp [ZEN l h]
theorem ZEQ (l:List Path) (h:Sm l):ZjM l=some (Vk l):=by
 unfold ZjM Vk;simp [ZEO l h]
theorem ZtH {a m:Int} (h:0<=a):Int.tmod a m=a % m:=Int.tmod_eq_emod_of_nonneg h
theorem ZER {x a b:Int} (h:a<=x) (h':x<=b):Yg x a b=some true:=by rw [V8];simp [h,h']
theorem ZES {x a b:Int} (h:a<=x) (h':x<=b):Ys x a b=some true:=by rw [KE];simp [h,h']
theorem ZtI (n:Int) {m:Int} (h:0 < m):(0<=Int.tmod n m/\Int.tmod n m < m/\Int.tmod n m=n % m)\/(Int.tmod n m < 0/\ -m < Int.tmod n m/\Int.tmod n m + m=n % m):=by
 have h1:=Int.tmod_lt_of_pos n h;have h2:=Int.lt_tmod_of_pos n h;have h3:n=m * Int.tdiv n m + Int.tmod n m:=by have:=Int.mul_tdiv_add_tmod n m;omega
 have h4:n % m=Int.tmod n m % m:=by
  conv=>lhs;rw [h3]
  rw [Int.add_comm,Int.add_mul_emod_self_left]
 rcases (by omega:Int.tmod n m < 0\/0<=Int.tmod n m) with hn |hp
 ·right;refine ⟨hn,h2,?_⟩;rw [h4,←Int.add_emod_right,Int.emod_eq_of_lt (by omega) (by omega)]
 ·left;exact ⟨hp,h1,by rw [h4,Int.emod_eq_of_lt hp h1]⟩
theorem ZET (n m:Int) (h:1<=m) (h':m<=1000000000000):Zh8 n m=some (n % m):=by
 unfold Zh8;rw [ZER h h',Zd];rw [show (!true)=false from rfl,Zh,Zt (by omega),Zt (by omega)];rcases ZtI n (show 0 < m by omega) with ⟨a,b,c⟩ | ⟨a,b,c⟩
 ·rw [Zz (by omega) (by omega),ZtH (by omega),c,Int.add_emod_right,Int.emod_emod_of_dvd _ (Int.dvd_refl m)]
 ·rw [Zz (by omega) (by omega),ZtH (by omega),c,Int.emod_emod_of_dvd _ (Int.dvd_refl m)]
theorem ZEU (n m:Int) (h:1<=m) (h':m<=1000000000000):Zi4 n m=some (n % m):=by
 unfold Zi4;rw [ZES h h',Zd];rw [show (!true)=false from rfl,Zh,Zt (by omega),ZB];rcases ZtI n (show 0 < m by omega) with ⟨a,b,c⟩ | ⟨a,b,c⟩
 ·rw [Uf (by simp;omega),c]
 ·rw [Ul (by simp;omega),Zz (by omega) (by omega),c]
def mix (a v:Int):Int:=Int.tmod (W (W (W (a * 1000003) + v % 2147483647) + 13)) 2147483647
def ZfT (l:List Int):Int:=l.foldl mix 11
theorem ZEV (a v:Int):Zi5 a v=some (mix a v):=by
 unfold Zi5 mix;rw [ZEU _ _ (by decide) (by decide)];rfl
theorem ZEW (l:List Int) (h:l.length<=2097152):Zh9 l=some (ZfT l):=by
 unfold Zh9 ZfT;simp;refine (Yc l (by omega) (fun k n=>(l,n,(k:Int))) 11 (fun s _ n=>some (s.foldl mix n)) rfl ?_ ?_).trans rfl
 ·intro rec n;simp
 ·intro rec k x n hx hk hr;simp only [Uo] at hr;simp [hk,Zi hx,ZET _ 2147483647,Zw (show k<=9223372036854775806 by omega)];exact hr _
theorem ZEX (l:List Int) (h:l.length<=2097152):Zi6 l=some (ZfT l):=by
 unfold Zi6 ZfT;simp;refine (Yc l (by omega) (fun k n=>(n,l,(l.length:Int),(k:Int))) 11 (fun s _ n=>some (s.foldl mix n)) rfl ?_ ?_).trans rfl
 ·intro rec n;simp
 ·intro rec k x n hx hk hr;simp only [Uo] at hr;simp [hk,Zi hx,ZEV,Zw (show k<=9223372036854775806 by omega)];exact hr _
def XH (b s:Int) (l:List Int):Int:=ZfT (b::s::l)
theorem ZtJ (b s:Int) (l:List Int) (h:Sm l):Ze0 b s l=some (XH b s l):=by
 unfold Sm at h;unfold Ze0 XH;simp;rw [Zt (by omega),ZEW _ (by simp;omega)];rfl
theorem ZtK (b s:Int) (l:List Int) (h:Sm l):Zdo b s l=some (XH b s l):=by
 unfold Sm at h;unfold Zdo XH;simp;rw [Zt (by omega),ZEX _ (by simp;omega)];rfl
theorem JX (x a b:Int):Yg x a b=some (inR x a b):=V8 x a b
theorem ZaJ (x a b:Int):Ys x a b=some (inR x a b):=KE x a b
theorem Xv {α V β:Type} (l:List α) (p:α->Bool) (hl:l.length<=1099511627776) (st:Nat->V) (K no:Option β) {F:(V->Option β)->V->Option β} {v:V} (hv:v=st 0)
  (h0:∀rec,F rec (st l.length)=K)
  (h1:∀rec k x,l[k]? =some x->k < l.length->F rec (st k)=if p x=true then rec (st (k + 1)) else no):Zf F NN v=if l.all p=true then K else no:=by
 refine (Yc l (by omega) (fun k (_:Unit)=>st k) () (fun s _ _=>if s.all p=true then K else no) hv ?_ ?_).trans rfl
 ·intro rec _;rw [h0];simp
 ·intro rec k x _ hx hk hr;rw [h1 rec k x hx hk,MA];cases p x with
  |true=>simpa using hr ()
  |false=>simp
theorem ZfU {α β:Type} {l:List α} {x:α} (h:l[0]? =some x) (K:α->Option β):Z4 l 0 K=K x:=Zi h K
def Zkk (b:Int) (n:Nat) (x:Note):Bool:=inR x.second 0 1000000 && decide (x.lights.length<=12) && decide (x.lights.length=n) && decide (x.sig=XH b x.second x.lights) && x.lights.all (fun v=>inR v 0 2)
def later (pv:Option Int) (s:Int):Bool:=match pv with |none=>true |some p=>decide (p < s)
def goR (n:Nat):Int->Option Int->List Note->Bool
 | _,_,[]=>true
 |b,pv,x::r=>Zkk b n x && later pv x.second && goR n x.sig (some x.second) r
def KF (l:List Note):Nat:=match l with | []=>0 |x::_=>x.lights.length
def YE (l:List Note):Bool:=decide (l.length<=60) && goR (KF l) 0 none l
def JY (l:List Note) (k:Nat):Option Int:=if k=0 then none else (l[k - 1]?).map (·.second)
theorem ZtL {l:List Note} {k:Nat} {x:Note} (h:l[k]? =some x):JY l (k + 1)=some x.second:=by
 unfold JY;simp [h]
theorem ZfV {l:List Note} {x:Note} (h:l[0]? =some x):KF l=x.lights.length:=by
 cases l with
 |nil=>simp at h
 |cons y t=>simp at h;rw [KF,h]
theorem Yd {α:Type} {l:List α} {k:Nat} {x:α} (h:l[k]? =some x):x∈l:=Uk h
theorem ZfW (l:List Note) (h:Sm l/\∀y∈l,YG y):ZaA l=some (YE l):=by
 obtain ⟨h,hs⟩:=h;unfold Sm at h;unfold ZaA;simp;refine (Yc l (by omega) (fun k b=>(l,b,(k:Int))) 0 (fun s k b=>some (decide (l.length<=60) && goR (KF l) b (JY l k) s)) rfl ?_ ?_).trans rfl
 ·intro rec b;simp [goR];omega
 ·intro rec k x b hx hk hr;simp only [Uo,ZtL hx] at hr;have hsx:Sm x.lights:=hs x (Yd hx);have hz:l[0]? =some l[0]:=Ua (by omega);by_cases h60:(l.length:Int)<=60
  ·have h60':l.length<=60:=by omega
   simp [hk,h60,h60',Zi hx,ZtJ b x.second x.lights hsx,JX,ZfU hz,goR,Zkk,later,ZfV hz];cases inR x.second 0 1000000 with
   |false=>simp
   |true=>
   simp;generalize hI:Zf (_:(List Note×Int×Int×Int->Option Bool)->_->Option Bool) NN (l,XH b x.second x.lights,(k:Int),(0:Int))=I;have hI':I=if x.lights.all (fun v=>inR v 0 2)=true then some (goR l[0].lights.length (XH b x.second x.lights) (some x.second) (l.drop (k + 1))) else some false:=by
    rw [←hI];refine Xv x.lights (fun v=>inR v 0 2) (by unfold Sm at hsx;omega) (fun j=>(l,XH b x.second x.lights,(k:Int),(j:Int))) _ _ rfl ?_ ?_
    ·intro rec';simp [Zi hx,Zw (show k<=9223372036854775806 by omega),hr,h60',ZfV hz]
    ·intro rec' j v hv hj;have hj2:j<=9223372036854775806:=by unfold Sm at hsx;omega
     simp [Zi hx,Zi hv,hj,JX,Zw hj2];cases inR v 0 2 <;> simp
   rw [hI'];clear hI' hI;generalize x.lights.all (fun v=>inR v 0 2)=A;by_cases c1:(12:Int) < (x.lights.length:Int)
   ·simp [c1,show ¬x.lights.length<=12 by omega]
   simp only [c1,U3,Zh,show x.lights.length<=12 by omega,Mr,UW];by_cases c2:x.lights.length=l[0].lights.length
   ·simp only [c2,M1,Zh,Mr,UW];by_cases c3:x.sig=XH b x.second x.lights
    ·simp only [←c3,M1,Zh,Mr,UW];by_cases h0:k=0
     ·subst h0;simp [JY];cases A <;> simp
     ·have hz1:l[k - 1]? =some l[k - 1]:=Ua (by omega);have hk1:W ((k:Int) - 1)=((k - 1:Nat):Int):=by rw [Zz (by omega) (by omega)];omega
      simp [show 0 < k by omega,hk1,Zi hz1];rw [show JY l k=some (l[k - 1]).second by unfold JY;simp [h0,hz1]];by_cases c4:x.second<=l[k - 1].second
      ·simp [c4,show ¬l[k - 1].second < x.second by omega]
      ·simp [c4,show l[k - 1].second < x.second by omega];cases A <;> simp
    ·rw [show (x.sig != XH b x.second x.lights)=true by simpa using c3,Zs];simp [c3]
   ·rw [show ((x.lights.length:Int) != (l[0].lights.length:Int))=true by simp;omega,Zs];simp [c2]
  ·have h60':¬l.length<=60:=by omega
   simp [hk,h60,h60']
theorem ZfX (l:List Note) (h:Sm l/\∀y∈l,YG y):ZaF l=some (YE l):=by
 obtain ⟨h,hs⟩:=h;unfold Sm at h;unfold ZaF YE;by_cases h60:(60:Int) < (l.length:Int)
 ·have h60':¬l.length<=60:=by omega
  simp [h60,h60']
 have h60':l.length<=60:=by omega
 simp [h60,h60'];refine (Yc l (by omega) (fun k b=>(l,b,l,(l.length:Int),(k:Int))) 0 (fun s k b=>some (goR (KF l) b (JY l k) s)) rfl ?_ ?_).trans rfl
 ·intro rec b;simp [goR]
 ·intro rec k x b hx hk hr;simp only [Uo,ZtL hx] at hr;have hsx:Sm x.lights:=hs x (Yd hx);have hz:l[0]? =some l[0]:=Ua (by omega);simp [hk,Zi hx,ZtK b x.second x.lights hsx,ZaJ,ZfU hz,goR,Zkk,later,ZfV hz];cases inR x.second 0 1000000 with
  |false=>simp
  |true=>
  simp;generalize hI:Zf (_:((List Note×List Note×Int×Int×List Int×Int×Int)×Note->Option Bool)->_->Option Bool) NN ((l,l,(l.length:Int),(k:Int),x.lights,(x.lights.length:Int),(0:Int)),x)=I;have hI':I=if x.lights.all (fun v=>inR v 0 2)=true then some (goR l[0].lights.length x.sig (some x.second) (l.drop (k + 1))) else some false:=by
   rw [←hI];refine Xv x.lights (fun v=>inR v 0 2) (by unfold Sm at hsx;omega) (fun j=>((l,l,(l.length:Int),(k:Int),x.lights,(x.lights.length:Int),(j:Int)),x)) _ _ rfl ?_ ?_
   ·intro rec';simp [Zw (show k<=9223372036854775806 by omega),hr,ZfV hz]
   ·intro rec' j v hv hj;have hj2:j<=9223372036854775806:=by unfold Sm at hsx;omega
    simp [Zi hv,hj,ZaJ,Zw hj2];cases inR v 0 2 <;> simp
  rw [hI'];clear hI' hI;generalize x.lights.all (fun v=>inR v 0 2)=A;generalize hB:cnd (decide ((12:Int) < (x.lights.length:Int))) (some false) _=B;have hB':B=some ((decide (x.lights.length<=12) && decide (x.lights.length=l[0].lights.length) && decide (x.sig=XH b x.second x.lights) && A) && goR l[0].lights.length x.sig (some x.second) (l.drop (k + 1))):=by
   rw [←hB];by_cases c1:(12:Int) < (x.lights.length:Int)
   ·simp [c1,show ¬x.lights.length<=12 by omega]
   simp only [c1,U3,Zh,show x.lights.length<=12 by omega,Mr,UW];by_cases c2:x.lights.length=l[0].lights.length
   ·simp only [c2,M1,Zh,Mr,UW];by_cases c3:x.sig=XH b x.second x.lights
    ·simp only [←c3,M1,Zh,Mr,UW];cases A <;> simp
    ·rw [show (x.sig != XH b x.second x.lights)=true by simpa using c3,Zs];simp [c3]
   ·rw [show ((x.lights.length:Int) != (l[0].lights.length:Int))=true by simp;omega,Zs];simp [c2]
  rw [hB'];by_cases h0:k=0
  ·subst h0;simp [JY]
  ·have hz1:l[k - 1]? =some l[k - 1]:=Ua (by omega);have hk1:W ((k:Int) - 1)=((k - 1:Nat):Int):=by rw [Zz (by omega) (by omega)];omega
   simp [show 0 < k by omega,hk1,Zi hz1];rw [show JY l k=some (l[k - 1]).second by unfold JY;simp [h0,hz1]];by_cases c4:x.second<=l[k - 1].second
   ·simp [c4,show ¬l[k - 1].second < x.second by omega]
   ·simp [c4,show l[k - 1].second < x.second by omega]
theorem ZtM {n:Nat}:∀{l:List Note} {b:Int} {pv:Option Int},goR n b pv l=true->∀x∈l,x.lights.length=n/\0<=x.second/\x.second<=1000000/\∀v∈x.lights,0<=v
 | [],_,_,_=>fun x hx=>by cases hx
 |y::l,b,pv,h=>fun x hx=>by
  simp [goR,Zkk,inR] at h;rcases List.mem_cons.1 hx with rfl |hx
  ·exact ⟨h.1.1.1.1.2,by omega,by omega,fun v hv=>(h.1.1.2 v hv).1⟩
  ·exact ZtM h.2 x hx
theorem ZfY {l:List Note} (h:YE l=true):∀x∈l,x.lights.length=KF l/\0<=x.second/\x.second<=1000000/\∀v∈x.lights,0<=v:=by
 simp [YE] at h;exact ZtM h.2
theorem Zcd (a b:Int):VM a b=some (if b < a then b else a):=by
 unfold VM;rw [ZB];simp only [UI];split <;> rfl
def Qc (e:Note) (i:Int):Int:=if 0<=i then (match e.lights[i.toNat]? with |some v=>v |none=> -1) else -1
theorem ZtN (e:Note) (i:Int):Zdy e i=some (Qc e i):=by
 unfold Zdy Qc;simp;by_cases h:i < 0
 ·simp [h,show ¬0<=i by omega]
 obtain ⟨m,rfl⟩:∃m:Nat,i=(m:Int):=⟨i.toNat,by omega⟩
 by_cases h2:m < e.lights.length
 ·have hv:e.lights[m]? =some e.lights[m]:=Ua h2;simp [h2,Zi hv,hv,h,ZB];omega
 ·simp [show e.lights.length<=m by omega,ZB]
@[simp] theorem ZN4 {α:Type} (x:Option α):bnd x (fun r=>some r)=x:=by cases x <;> rfl
theorem ZfZ {α γ β V:Type} (l:List α) (f:α->γ) (hl:l.length<=1099511627776) (st:Nat->List γ->V) (K:List γ->Option β) {F:(V->Option β)->V->Option β} {v:V} (hv:v=st 0 [])
  (h0:∀rec acc,acc.length=l.length->F rec (st l.length acc)=K acc)
  (h1:∀rec k x acc,l[k]? =some x->k < l.length->acc.length=k->F rec (st k acc)=rec (st (k + 1) (acc ++ [f x]))):Zf F NN v=K (l.map f):=by
 refine (Yj l (by omega) st [] (fun k acc=>acc.length=k) rfl (fun s _ acc=>K (acc ++ s.map f)) hv ?_ ?_).trans (by simp)
 ·intro rec acc h;rw [h0 rec acc h];simp
 ·intro rec k x acc h hx hk hr;rw [h1 rec k x acc hx hk h,hr _ (by simp [h])];simp
theorem Zkl {α γ β V:Type} (l:List α) (f:α->Option γ) (hl:l.length<=1099511627776) (st:Nat->List γ->V) (K:List γ->Option β) {F:(V->Option β)->V->Option β} {v:V} (hv:v=st 0 [])
  (h0:∀rec acc,acc.length<=l.length->F rec (st l.length acc)=K acc)
  (h1:∀rec k x acc,l[k]? =some x->k < l.length->acc.length<=k->F rec (st k acc)=rec (st (k + 1) (match f x with |some y=>acc ++ [y] |none=>acc))):Zf F NN v=K (l.filterMap f):=by
 refine (Yj l (by omega) st [] (fun k acc=>acc.length<=k) (Uq _) (fun s _ acc=>K (acc ++ s.filterMap f)) hv ?_ ?_).trans (by simp)
 ·intro rec acc h;rw [h0 rec acc h];simp
 ·intro rec k x acc h hx hk hr;rw [h1 rec k x acc hx hk h];cases hf:f x with
  |none=>rw [hr _ (by simp;omega)];simp [hf]
  |some y=>rw [hr _ (by simp;omega)];simp [hf]
theorem Zog {β:Type} (x:Option β):ifA (true=true) x=x:=rfl
def Zf0 (t:Town):Bool:=t.wants.all fun x=>decide (x.wait<=Vk t.paths)
theorem ZEY (t:Town) (h:Zx t):ZiK t=some (Zf0 t):=by
 obtain ⟨h0,h1,h2,h3,h4⟩:=h;unfold Sm at h2;unfold ZiK Zf0;simp;refine (Xv t.wants (fun x=>decide (x.wait<=Vk t.paths)) (by omega) (fun k=>((k:Int),t)) (some true) (some false) rfl ?_ ?_).trans (by cases t.wants.all _ <;> rfl)
 ·intro rec;simp
 ·intro rec k x hx hk;simp [hk,Zi hx,ZEP t.paths h0,Zw (show k<=9223372036854775806 by omega),ZB];by_cases c:Vk t.paths < x.wait
  ·simp [c,show ¬x.wait<=Vk t.paths by omega]
  ·simp [c,show x.wait<=Vk t.paths by omega]
theorem ZEZ (t:Town) (h:Zx t):ZjN t=some (Zf0 t):=by
 obtain ⟨h0,h1,h2,h3,h4⟩:=h;unfold Sm at h2;unfold ZjN Zf0;simp;refine (Xv t.wants (fun x=>decide (x.wait<=Vk t.paths)) (by omega) (fun k=>((t.wants,(t.wants.length:Int),(k:Int)),t)) (some true) (some false) rfl ?_ ?_).trans (by cases t.wants.all _ <;> rfl)
 ·intro rec;simp
 ·intro rec k x hx hk;simp [hk,Zi hx,ZEQ t.paths h0,Zw (show k<=9223372036854775806 by omega),ZB];by_cases c:Vk t.paths < x.wait
  ·simp [c,show ¬x.wait<=Vk t.paths by omega]
  ·simp [c,show x.wait<=Vk t.paths by omega]
theorem ZtO {α V β:Type} [DecidableEq α] (a b:List α) (hl:a.length=b.length) (h:a.length<=1099511627776) (st:Nat->V) (K no:Option β) {F:(V->Option β)->V->Option β} {v:V} (hv:v=st 0)
  (h0:∀rec,F rec (st a.length)=K) (h1:∀rec k x y,a[k]? =some x->b[k]? =some y->k < a.length->F rec (st k)=if x=y then rec (st (k + 1)) else no):
  Zf F NN v=if a=b then K else no:=by
 refine (Yc a (by omega) (fun k (_:Unit)=>st k) () (fun l k _=>if l=b.drop k then K else no) hv ?_ ?_).trans (by simp)
 ·intro rec _;rw [h0,hl,M6];simp
 ·intro rec k x _ hx hk hr;have hkb:k < b.length:=by omega
  have hy:b[k]? =some b[k]:=Ua hkb;rw [h1 rec k x _ hx hy hk,hr (),UF hkb];by_cases e:x=b[k]
  ·rw [Ul e];simp only [FN,e,FQ]
  ·rw [Uf e,Uf fun h=>e (List.cons.inj h).1]
theorem ZtP {α:Type} {a b:List α} (h:a.length=b.length):(((a.length:Nat):Int) != ((b.length:Nat):Int))=false:=by simp [h]
theorem ZtQ {α:Type} {a b:List α} (h:¬a.length=b.length):(((a.length:Nat):Int) != ((b.length:Nat):Int))=true:=by simp;omega
theorem ZtR {α:Type} {a b:List α} (h:¬a.length=b.length):¬a=b:=fun e=>h (by rw [e])
theorem Zoh (a b:List Int) (h:Sm a):Zdh a b=some (decide (a=b)):=by
 unfold Sm at h;unfold Zdh;simp only [Zp,Zk,Zo,Zn,Zr,ZV,Zq,Yu];by_cases hl:a.length=b.length
 ·rw [ZtP hl,Zh];refine (ZtO a b hl (by omega) (fun k=>(a,b,(k:Int))) (some true) (some false) rfl ?_ ?_).trans (by split <;> simp_all)
  ·intro rec;simp
  ·intro rec k x y hx hy hk;simp [hk,Zi hx,Zi hy,Zw (show k<=9223372036854775806 by omega),ZB]
 ·rw [ZtQ hl,Zs];simp [ZtR hl]
theorem Zoi (a b:List Int) (h:Sm a):Zdt a b=some (decide (a=b)):=by
 unfold Sm at h;unfold Zdt;simp only [Zp,Zk,Zo,Zn,Zr,ZV,Zq,Yu];by_cases hl:a.length=b.length
 ·rw [ZtP hl,Zh];refine (ZtO a b hl (by omega) (fun k=>(a,b,(a.length:Int),(k:Int))) (some true) (some false) rfl ?_ ?_).trans (by split <;> simp_all)
  ·intro rec;simp
  ·intro rec k x y hx hy hk;simp [hk,Zi hx,Zi hy,Zw (show k<=9223372036854775806 by omega),ZB]
 ·rw [ZtQ hl,Zs];simp [ZtR hl]
theorem Zkm:∃n,NN=n + 64:=⟨NN - 64,by rw [Zl9]⟩
def ZaK (a b c d:Int):Bool:=if a=b\/a=c\/a=d\/b=c\/b=d\/c=d then false else (decide (Int.tmod (c - a + 8) 8 < Int.tmod (b - a + 8) 8) != decide (Int.tmod (d - a + 8) 8 < Int.tmod (b - a + 8) 8))
theorem ZE0 {a b c d:Int} (ha:0<=a/\a<=7) (hb:0<=b/\b<=7) (hc:0<=c/\c<=7) (hd:0<=d/\d<=7):Zb3 a b c d=some (ZaK a b c d):=by
 unfold Zb3 ZaK;obtain ⟨n,hn⟩:=Zkm;rw [hn];have e:∀K:List Int->Option Bool,rws iR [[I a],[I b],[I c],[I d]] K=K [a,b,c,d]:=fun _=>rfl
 have w1:W (c - a)=c - a:=Zz (by omega) (by omega);have w2:W (b - a)=b - a:=Zz (by omega) (by omega);have w3:W (d - a)=d - a:=Zz (by omega) (by omega);have w4:W (c - a + 8)=c - a + 8:=Zz (by omega) (by omega);have w5:W (b - a + 8)=b - a + 8:=Zz (by omega) (by omega);have w6:W (d - a + 8)=d - a + 8:=Zz (by omega) (by omega);simp only [Zp,Zk,Zo,Zn,Zr,e,Yu,ZV,Zq];simp [Zf,KE,Z4,Zz,ha,hb,hc,hd,w1,w2,w3,w4,w5,w6,ZB]
 grind
def arm (n:Int):Prop:=n=0\/n=1\/n=2\/n=3
set_option maxRecDepth 100000 in
theorem ZE1 {a b c d:Int} (ha:arm a) (hb:arm b) (hc:arm c) (hd:arm d):ZeX (2 * a) (2 * b + 1) (2 * c) (2 * d + 1)=some (ZaK (2 * a) (2 * b + 1) (2 * c) (2 * d + 1)):=by
 unfold ZeX;obtain ⟨n,hn⟩:=Zkm;rw [hn];rcases ha with rfl |rfl |rfl |rfl <;> rcases hb with rfl |rfl |rfl |rfl <;> rcases hc with rfl |rfl |rfl |rfl <;> rcases hd with rfl |rfl |rfl |rfl <;> rfl
def Z1 (a b:Path):Bool:=
 if Z8 a=false\/Z8 b=false then false
 else if a.kind=2/\b.kind=2 then false
 else if a.kind=2 then b.src==a.src || b.dst==a.src
 else if b.kind=2 then a.src==b.src || a.dst==b.src
 else if a.src=b.src then false
 else if a.dst=b.dst then true
 else ZaK (2 * a.src) (2 * a.dst + 1) (2 * b.src) (2 * b.dst + 1)
theorem ZaL {p:Path} (h:Z8 p=true):arm p.src:=by
 simp [Z8,inR] at h;unfold arm;omega
theorem ZaM {p:Path} (h:Z8 p=true):arm p.dst:=by
 simp [Z8,inR] at h;unfold arm;omega
theorem Zkn {n:Int} (h:arm n):0<=n/\n<=3:=by unfold arm at h;omega
theorem ZtS {n:Int} (h:arm n):Zdc n=some (2 * n):=by rcases h with rfl |rfl |rfl |rfl <;> rfl
theorem ZtT {n:Int} (h:arm n):Zdd n=some (2 * n + 1):=by rcases h with rfl |rfl |rfl |rfl <;> rfl
theorem ZtU {n:Int} (h:arm n):JR n=some (2 * n):=by rcases h with rfl |rfl |rfl |rfl <;> rfl
theorem ZtV {n:Int} (h:arm n):JS n=some (2 * n + 1):=by rcases h with rfl |rfl |rfl |rfl <;> rfl
theorem Zf1 (a b:Path):KC a b=some (Z1 a b):=by
 unfold KC Z1;simp only [ZfR,Zd];cases ha:Z8 a with
 |false=>simp
 |true=>
 cases hb:Z8 b with
 |false=>simp
 |true=>
 simp [ZtS (ZaL ha),ZtT (ZaM ha),ZtS (ZaL hb),ZtT (ZaM hb),ZE1 (ZaL ha) (ZaM ha) (ZaL hb) (ZaM hb),ZB]
 grind
theorem ZdD (a b:Path):JT a b=some (Z1 a b):=by
 unfold JT Z1;simp only [Zkj,Zd];cases ha:Z8 a with
 |false=>simp
 |true=>
 cases hb:Z8 b with
 |false=>simp
 |true=>
 have r1:=Zkn (ZaL ha);have r2:=Zkn (ZaM ha);have r3:=Zkn (ZaL hb);have r4:=Zkn (ZaM hb);have hi:=ZE0 (a:=2 * a.src) (b:=2 * a.dst + 1) (c:=2 * b.src) (d:=2 * b.dst + 1) (by omega) (by omega) (by omega) (by omega);have hz:a.src=b.src->ZaK (2 * a.src) (2 * a.dst + 1) (2 * b.src) (2 * b.dst + 1)=false:=fun h=>by simp [ZaK,h]
 simp [ZtU (ZaL ha),ZtV (ZaM ha),ZtU (ZaL hb),ZtV (ZaM hb),hi,ZB]
 grind
def has (l:List Int) (n:Int):Bool:=l.any fun x=>x==n
theorem QV (l:List Int) (n:Int) (h:Sm l):Xt l n=some (has l n):=by
 unfold Sm at h;unfold Xt has;simp;refine (Yc l (by omega) (fun k (_:Unit)=>(l,n,(k:Int))) () (fun s _ _=>some (s.any fun x=>x==n)) rfl ?_ ?_).trans (by simp)
 ·intro rec _;simp
 ·intro rec k x _ hx hk hr;have hr':=hr ();simp only [Uo] at hr';simp [hk,Zi hx,Zw (show k<=9223372036854775806 by omega),ZB];by_cases e:x=n
  ·simp [e]
  ·simp [e,hr']
theorem Zce {α:Type} (p:α->Bool):∀l:List α,(l.findIdx? p).isSome=l.any p
 | []=>rfl
 |x::l=>by
  rw [List.findIdx?_cons,FK];cases p x with
  |true=>rfl
  |false=>simp [Zce p l]
theorem Ja (l:List Int) (n:Int) (h:Sm l):QR l n=some (has l n):=by
 unfold Sm at h;unfold QR ZnK has;simp;generalize hI:Zf (_:(List Int×Int×Int×Int->Option Int)->_->Option Int) NN _=I;have hI':I=match l.findIdx? (fun x=>x==n) with |some i=>some (i:Int) |none=>some (-1):=by
  rw [←hI];refine (Yc l (by omega) (fun k (_:Unit)=>(l,n,(l.length:Int),(k:Int))) () (fun s k _=>match s.findIdx? (fun x=>x==n) with |some i=>some ((k + i:Nat):Int) |none=>some (-1)) rfl ?_ ?_).trans (by cases l.findIdx? _ <;> simp)
  ·intro rec _;simp
  ·intro rec k x _ hx hk hr;have hr':=hr ();simp only [Uo] at hr';rw [List.findIdx?_cons];simp [hk,Zi hx,Zw (show k<=9223372036854775806 by omega),ZB];by_cases e:x=n
   ·simp [e]
   ·rw [Uf (fun h=>e h.symm),hr'];simp [e];cases (l.drop (k + 1)).findIdx? (fun x=>x==n) with
    |none=>simp
    |some i=>simp;omega
 rw [hI',←Zce];cases l.findIdx? (fun x=>x==n) <;> simp
theorem Zcf {α V β:Type} (l:List α) (p:α->Bool) (hl:l.length<=1099511627776) (st:Nat->V) (K:Nat->Option β) (no:Option β) {F:(V->Option β)->V->Option β} {v:V} (hv:v=st 0)
  (h0:∀rec,F rec (st l.length)=no)
  (h1:∀rec k x,l[k]? =some x->k < l.length->F rec (st k)=if p x=true then K k else rec (st (k + 1))):Zf F NN v=match l.findIdx? p with |some i=>K i |none=>no:=by
 refine (Yc l (by omega) (fun k (_:Unit)=>st k) () (fun s k _=>match s.findIdx? p with |some i=>K (k + i) |none=>no) hv ?_ ?_).trans ?_
 ·intro rec _;rw [h0];simp
 ·intro rec k x _ hx hk hr;rw [h1 rec k x hx hk,List.findIdx?_cons];cases p x with
  |true=>simp
  |false=>
   rw [Uf (by simp),hr ()];cases (l.drop (k + 1)).findIdx? p with
   |none=>simp
   |some i=>simp;congr 1;omega
 ·cases l.findIdx? p <;> simp
def ZD (l:List Path) (id:Int):Int:=match l.findIdx? (fun p=>p.id==id) with |some i=>(i:Int) |none=> -1
theorem XI (l:List Path) (id:Int) (h:Sm l):YR l id=some (ZD l id):=by
 unfold Sm at h;unfold YR ZD;simp;refine (Zcf l (fun p=>p.id==id) (by omega) (fun k=>(l,id,(k:Int))) (fun k=>some (k:Int)) (some (-1)) rfl ?_ ?_).trans ?_
 ·intro rec;simp
 ·intro rec k x hx hk;simp [hk,Zi hx,Zw (show k<=9223372036854775806 by omega),ZB]
 ·cases l.findIdx? _ <;> rfl
theorem Qd (l:List Path) (id:Int) (h:Sm l):Xu l id=some (ZD l id):=by
 unfold Sm at h;unfold Xu ZnP ZnO ZD;simp;refine (Zcf l (fun p=>p.id==id) (by omega) (fun k=>(l,id,(l.length:Int),(k:Int))) (fun k=>some (k:Int)) (some (-1)) rfl ?_ ?_).trans ?_
 ·intro rec;simp
 ·intro rec k x hx hk;simp [hk,Zi hx,Zw (show k<=9223372036854775806 by omega),ZB]
 ·cases l.findIdx? _ <;> rfl
theorem JZ {l:List Path} {id:Int} (h:¬ZD l id < 0):∃(i:Nat) (x:Path),l[i]? =some x/\ZD l id=(i:Int)/\x.id=id:=by
 unfold ZD at h ⊢;cases hf:l.findIdx? (fun p=>p.id==id) with
 |none=>rw [hf] at h;simp at h
 |some i=>
  have:=List.findIdx?_eq_some_iff_getElem.1 hf;obtain ⟨h1,h2,_⟩:=this;exact ⟨i,l[i],Ua h1,rfl,by simpa using h2⟩
def ZQ (l:List Path) (id:Int):Path:=(l[(ZD l id).toNat]?).getD default
theorem Xd {β:Type} {l:List Path} {id:Int} (h:¬ZD l id < 0) (K:Path->Option β):Z4 l (ZD l id) K=K (ZQ l id):=by
 obtain ⟨i,x,h1,h2,_⟩:=JZ h;unfold ZQ;rw [h2,Zi h1,Ux,h1];rfl
def Vl (ids:List Int) (k:Nat) (x:Int):Bool:=if k=0 then true else match ids[k - 1]? with |some y=>decide (y < x) |none=>true
def Vm (l:List Path) (x y:Int):Bool:= !Z1 (ZQ l x) (ZQ l y)
def goT (l:List Path) (ids:List Int):Nat->List Int->Bool
 | _,[]=>true
 |k,x::r=> !decide (ZD l x < 0) && Vl ids k x && (ids.take k).all (Vm l x) && goT l ids (k + 1) r
def ZH (l:List Path) (ids:List Int):Bool:=goT l ids 0 ids && ZJ l
theorem Zoj {α:Type} {l:List α} {k j:Nat} {x:α} (h:(l.take k)[j]? =some x):l[j]? =some x:=by
 rw [UA] at h;split at h
 ·exact h
 ·cases h
theorem ZtW {α:Type} {l:List α} {k:Nat} {x y:α} (hx:l[k]? =some x) (h:y∈l.take (k + 1)):y∈l.take k\/y=x:=by
 rw [MF,hx] at h;simpa using h
theorem VQ (l:List Path) (ids:List Int) (h:Sm l) (hi:Sm ids):Qy l ids=some (ZH l ids):=by
 unfold Qy ZH;simp;have hi':=hi;unfold Sm at hi';refine (Yj ids (by omega) (fun k (_:Unit)=>(l,ids,(k:Int))) () (fun k _=>∀y∈ids.take k,¬ZD l y < 0) (by simp) (fun s k _=>some (goT l ids k s && ZJ l)) rfl ?_ ?_).trans rfl
 ·intro rec _ _;simp [V9 l h,goT]
 ·intro rec k x _ hJ hx hk hr;simp only [Uo] at hr;have hk2:k<=9223372036854775806:=by omega
  simp [hk,Zi hx,XI l _ h,goT];by_cases c1:ZD l x < 0
  ·simp [c1]
  have hr':=hr () fun y hy=>by
   rcases ZtW hx hy with h1 |rfl
   ·exact hJ y h1
   ·exact c1
  simp only [c1,U3,Zh,UT,UW];have hlen:(ids.take k).length=k:=by rw [Uc];omega
  generalize hI:Zf (_:(List Path×List Int×Int×Int×Int->Option Bool)->_->Option Bool) NN _=I;have hI':I=if (ids.take k).all (Vm l x)=true then some (goT l ids (k + 1) (ids.drop (k + 1)) && ZJ l) else some false:=by
   rw [←hI];refine Xv (ids.take k) (Vm l x) (by omega) (fun j=>(l,ids,(k:Int),ZD l x,(j:Int))) _ _ rfl ?_ ?_
   ·intro rec';simp [hlen,Zw hk2,hr']
   ·intro rec' j y hy hj;have hy':=Zoj hy;have hj':j < k:=by omega
    simp [hj',Xd c1,Zi hy',XI l _ h,Xd (hJ y (Yd hy)),Zf1,Zw (show j<=9223372036854775806 by omega),ZB,Vm];cases Z1 (ZQ l x) (ZQ l y) <;> simp
  rw [hI'];generalize (ids.take k).all (Vm l x)=A;by_cases h0:k=0
  ·subst h0;simp [Vl];cases A <;> simp
  ·have hz:ids[k - 1]? =some ids[k - 1]:=Ua (by omega);have hk1:W ((k:Int) - 1)=((k - 1:Nat):Int):=by rw [Zz (by omega) (by omega)];omega
   simp [show 0 < k by omega,hk1,Zi hz];rw [show Vl ids k x=decide (ids[k - 1] < x) by unfold Vl;simp [h0,hz]];by_cases c4:x<=ids[k - 1]
   ·simp [c4,show ¬ids[k - 1] < x by omega]
   ·simp [c4,show ids[k - 1] < x by omega];cases A <;> simp
theorem KG (l:List Path) (ids:List Int) (h:Sm l) (hi:Sm ids):VN l ids=some (ZH l ids):=by
 unfold VN ZH;simp [JW l h];have hi':=hi;unfold Sm at hi';cases hp:ZJ l with
 |false=>simp
 |true=>
 simp;refine (Yj ids (by omega) (fun k (_:Unit)=>(l,ids,ids,(ids.length:Int),(k:Int))) () (fun k _=>∀y∈ids.take k,¬ZD l y < 0) (by simp) (fun s k _=>some (goT l ids k s)) rfl ?_ ?_).trans rfl
 ·intro rec _ _;simp [goT]
 ·intro rec k x _ hJ hx hk hr;simp only [Uo] at hr;have hk2:k<=9223372036854775806:=by omega
  simp [hk,Zi hx,Qd l _ h,goT];by_cases c1:ZD l x < 0
  ·simp [c1]
  have hr':=hr () fun y hy=>by
   rcases ZtW hx hy with h1 |rfl
   ·exact hJ y h1
   ·exact c1
  simp only [c1,U3,Zh,UT,UW];have hlen:(ids.take k).length=k:=by rw [Uc];omega
  generalize hI:Zf (_:(List Path×List Int×Int×List Int×Int×Int×List Int×Int×Int->Option Bool)->_->Option Bool) NN _=I;have hI':I=if (ids.take k).all (Vm l x)=true then some (goT l ids (k + 1) (ids.drop (k + 1))) else some false:=by
   rw [←hI];refine Xv (ids.take k) (Vm l x) (by omega) (fun j=>(l,ids,ZD l x,ids,(ids.length:Int),(k:Int),ids.take k,((ids.take k).length:Int),(j:Int))) _ _ (by simp) ?_ ?_
   ·intro rec';simp [hlen,Zw hk2,hr']
   ·intro rec' j y hy hj;have hj':j < k:=by omega
    simp [hlen,hj',Xd c1,Zi hy,Qd l _ h,Xd (hJ y (Yd hy)),ZdD,Zw (show j<=9223372036854775806 by omega),ZB,Vm];cases Z1 (ZQ l x) (ZQ l y) <;> simp
  rw [hI'];generalize (ids.take k).all (Vm l x)=A;have hkl:k<=ids.length:=by omega
  by_cases h0:k=0
  ·subst h0;simp [Vl];cases A <;> simp
  ·have hz:ids[k - 1]? =some ids[k - 1]:=Ua (by omega);have hk1:W ((k:Int) - 1)=((k - 1:Nat):Int):=by rw [Zz (by omega) (by omega)];omega
   simp [show 0 < k by omega,hk1,Zi hz,hkl];rw [show Vl ids k x=decide (ids[k - 1] < x) by unfold Vl;simp [h0,hz]];by_cases c4:x<=ids[k - 1]
   ·simp [c4,show ¬ids[k - 1] < x by omega]
   ·simp [c4,show ids[k - 1] < x by omega];cases A <;> simp
@[simp] theorem Zcg {β:Type} (l:List Int) (s:Int) (K:List Int->Option β):rws iR (l.map iR.enc ++ [[I s]]) K=K (l ++ [s]):=
 (UC (fun z=>rws iR z K) (UY (f:=iR.enc) (l₁:=l) (l₂:= [s])).symm).trans (Vd iR (l ++ [s]) K)
@[simp] theorem ZaN {α:Type} (x:Option α):bnd x (fun r=>some r)=x:=by cases x <;> rfl
theorem ZtX {α β V:Type} (l:List α) (p:α->Bool) (hl:l.length<=1099511627776) (st:Nat->List α->V) (K:List α->Option β) {F:(V->Option β)->V->Option β} {v:V} (hv:v=st 0 [])
  (h0:∀rec acc,acc.length<=l.length->F rec (st l.length acc)=K acc)
  (h1:∀rec k x acc,l[k]? =some x->k < l.length->acc.length<=k->F rec (st k acc)=rec (st (k + 1) (if p x=true then acc ++ [x] else acc))):Zf F NN v=K (l.filter p):=by
 refine (Yj l (by omega) st [] (fun k acc=>acc.length<=k) (Uq _) (fun s _ acc=>K (acc ++ s.filter p)) hv ?_ ?_).trans (by simp)
 ·intro rec acc h;rw [h0 rec acc h];simp
 ·intro rec k x acc h hx hk hr;rw [h1 rec k x acc hx hk h];cases hp:p x with
  |true=>rw [Ul rfl,hr _ (by simp;omega),M7 hp];simp
  |false=>rw [Uf (by simp),hr _ (by omega),FD (by simp [hp])]
def Yx (a b:List Int):List Int:=a.filter fun x=> !has b x
theorem ZtY (a b:List Int) (h:Sm a) (hb:Sm b):ZeZ a b=some (Yx a b):=by
 have h':=h;unfold Sm at h';unfold ZeZ Yx;simp;refine (ZtX a (fun x=> !has b x) (by omega) (fun k acc=>(a,b,acc,(k:Int))) some rfl ?_ ?_)
 ·intro rec acc ha;simp
 ·intro rec k x acc hx hk ha;simp [hk,Zi hx,QV b _ hb,Zw (show k<=9223372036854775806 by omega),show (acc.length + 1) * 8<=140737488355328 by omega,show acc.length<=1152921504606846975 by omega];cases has b x <;> simp
theorem Zok (a b:List Int) (h:Sm a) (hb:Sm b):Zfn a b=some (Yx a b):=by
 have h':=h;unfold Sm at h';unfold Zfn ZnQ Yx;simp;refine (ZtX a (fun x=> !has b x) (by omega) (fun k acc=>(b,false,acc,a,(a.length:Int),(k:Int))) some rfl ?_ ?_)
 ·intro rec acc ha;simp
 ·intro rec k x acc hx hk ha;simp [hk,Zi hx,Ja b _ hb,Zw (show k<=9223372036854775806 by omega),show (acc.length + 1) * 8<=140737488355328 by omega,show acc.length<=1152921504606846975 by omega];cases has b x <;> simp
theorem ZtZ {l:List Path} {ids:List Int}:∀{s:List Int} {k:Nat},goT l ids k s=true->∀x∈s,¬ZD l x < 0
 | [],_,_=>fun x hx=>by cases hx
 |y::s,k,h=>fun x hx=>by
  simp only [goT,Ub,UH,U7] at h;rcases List.mem_cons.1 hx with rfl |hx
  ·exact h.1.1.1
  ·exact ZtZ h.2 x hx
theorem ZdE {l:List Path} {ids:List Int} (h:ZH l ids=true):∀x∈ids,¬ZD l x < 0:=by
 simp only [ZH,Ub] at h;exact ZtZ h.1
theorem Zko {a b:List Int} {x:Int} (h:x∈Yx a b):x∈a:=(List.mem_filter.1 h).1
theorem Zkp {a b:List Int} (h:Sm a):Sm (Yx a b):=Mk (Fg _ _) h
def KH (n c:Int):Int:=if n < c then c else n
def Vn (l:List Path) (x:Int) (n y:Int):Int:=if Z1 (ZQ l x) (ZQ l y) then KH n (YZ (ZQ l x)) else n
def Yy (l:List Path) (a b:List Int):Int:=
 if ZH l a=true/\ZH l b=true then (Yx a b).foldl (fun n x=>(Yx b a).foldl (Vn l x) n) 0 else 0
theorem Zkq (l:List Path) (a b:List Int) (h:Sm l) (ha:Sm a) (hb:Sm b):Zb4 l a b=some (Yy l a b):=by
 unfold Zb4 Yy;simp [KG l _ h ha,KG l _ h hb,Zok _ _ ha hb,Zok _ _ hb ha];cases t1:ZH l a with
 |false=>simp
 |true=>
 cases t2:ZH l b with
 |false=>simp
 |true=>
 simp;have hA:=Zkp (b:=b) ha;have hB:=Zkp (b:=a) hb;unfold Sm at hA hB;refine (Yc (Yx a b) (by omega) (fun k n=>(l,a,b,n,Yx a b,((Yx a b).length:Int),(k:Int))) 0 (fun s _ n=>some (s.foldl (fun n x=>(Yx b a).foldl (Vn l x) n) n)) rfl ?_ ?_).trans rfl
 ·intro rec n;simp
 ·intro rec k x n hx hk hr;simp only [Uo] at hr;have hfx:=ZdE t1 x (Zko (Yd hx));simp [hk,Zi hx,Zok _ _ hb ha];refine (Yc (Yx b a) (by omega) (fun j n=>(l,a,b,n,x,Yx a b,((Yx a b).length:Int),(k:Int),Yx b a,((Yx b a).length:Int),(j:Int))) n (fun s _ n=>rec (l,a,b,s.foldl (Vn l x) n,Yx a b,((Yx a b).length:Int),(k:Int) + 1)) rfl ?_ ?_).trans ?_
  ·intro rec' n;simp [Zw (show k<=9223372036854775806 by omega)]
  ·intro rec' j y n hy hj hr';simp only [Uo] at hr';have hfy:=ZdE t2 y (Zko (Yd hy));simp [hj,Zi hy,Qd l _ h,Xd hfx,Xd hfy,ZdD,Zoe,Zw (show j<=9223372036854775806 by omega),ZB];cases hc:Z1 (ZQ l x) (ZQ l y) <;> simp [Vn,KH,hc,hr']
  ·simp [hr]
theorem Zkr (l:List Path) (a b:List Int) (h:Sm l) (ha:Sm a) (hb:Sm b):ZbW l a b=some (Yy l a b):=by
 unfold ZbW Yy;simp [ZtY _ _ ha hb,ZtY _ _ hb ha];have hA:=Zkp (b:=b) ha;have hB:=Zkp (b:=a) hb;unfold Sm at hA hB;refine (Yc (Yx a b) (by omega) (fun k n=>(l,a,b,n,Yx a b,Yx b a,(k:Int))) 0 (fun s _ n=>some (if ZH l a=true/\ZH l b=true then s.foldl (fun n x=>(Yx b a).foldl (Vn l x) n) n else n)) rfl ?_ ?_).trans rfl
 ·intro rec n;simp
 ·intro rec k x n hx hk hr;simp only [Uo] at hr;simp [hk,Zi hx,VQ l _ h ha,VQ l _ h hb];cases t1:ZH l a with
  |false=>simp
  |true=>
  cases t2:ZH l b with
  |false=>simp
  |true=>
  simp only [t1,t2,and_self,U1] at hr;simp;have hfx:=ZdE t1 x (Zko (Yd hx));refine (Yc (Yx b a) (by omega) (fun j n=>(l,a,b,n,Yx a b,Yx b a,(k:Int),(j:Int))) n (fun s _ n=>rec (l,a,b,s.foldl (Vn l x) n,Yx a b,Yx b a,(k:Int) + 1)) rfl ?_ ?_).trans ?_
  ·intro rec' n;simp [Zw (show k<=9223372036854775806 by omega)]
  ·intro rec' j y n hy hj hr';simp only [Uo] at hr';have hfy:=ZdE t2 y (Zko (Yd hy));simp [hj,Zi hx,Zi hy,XI l _ h,Xd hfx,Xd hfy,Zf1,Zod,Zof,Zw (show j<=9223372036854775806 by omega),ZB];cases hc:Z1 (ZQ l x) (ZQ l y) <;> simp [Vn,KH,hc,hr']
  ·simp [hr]
def ZR (l:List Path) (x:Control):Bool:=
 !x.stage.isEmpty && ZH l x.stage && ZH l x.next && inR x.since 0 1000000 && (if x.next= [] then x.left==0 else inR x.left 1 (Yy l x.stage x.next))
theorem Qe {α:Type} (l:List α):(((l.length:Nat):Int)==0)=l.isEmpty:=by
 cases l with
 |nil=>rfl
 |cons x l=>simp;omega
theorem Jb (l:List Path) (x:Control) (h:Sm l) (hx:ZX x):QO l x=some (ZR l x):=by
 obtain ⟨h1,h2⟩:=hx;unfold QO ZR;simp only [Zp,Zk,Zo,Zn,Zr,Zu,Zq,ZV,Qe,VQ l _ h h1,VQ l _ h h2,Zkr l _ _ h h1 h2,JX,Zd];cases x.stage.isEmpty <;> cases ZH l x.stage <;> cases ZH l x.next <;> cases inR x.since 0 1000000 <;> cases hn:x.next <;> simp
theorem KI (l:List Path) (x:Control) (h:Sm l) (hx:ZX x):VO l x=some (ZR l x):=by
 obtain ⟨h1,h2⟩:=hx;unfold VO ZR;simp only [Zp,Zk,Zo,Zn,Zr,Zu,Zq,ZV,Qe,KG l _ h h1,KG l _ h h2,Zkq l _ _ h h1 h2,ZaJ,Zd];cases x.stage.isEmpty <;> cases ZH l x.stage <;> cases ZH l x.next <;> cases inR x.since 0 1000000 <;> cases hn:x.next <;> simp
theorem ZdF {α β V:Type} (l:List α) (f:α->Int) (hl:l.length<=1099511627776) (st:Nat->List Int->V) (K:List Int->Option β) {F:(V->Option β)->V->Option β} {v:V} (hv:v=st 0 [])
  (h0:∀rec acc,acc.length=l.length->F rec (st l.length acc)=K acc)
  (h1:∀rec k x acc,l[k]? =some x->k < l.length->acc.length=k->F rec (st k acc)=rec (st (k + 1) (acc ++ [f x]))):Zf F NN v=K (l.map f):=by
 refine (Yj l (by omega) st [] (fun k acc=>acc.length=k) rfl (fun s _ acc=>K (acc ++ s.map f)) hv ?_ ?_).trans (by simp)
 ·intro rec acc h;rw [h0 rec acc h];simp
 ·intro rec k x acc h hx hk hr;rw [h1 rec k x acc hx hk h,hr _ (by simp [h])];simp
def XJ (x:Control) (id:Int):Int:=if has x.stage id then (if x.next.isEmpty=false/\has x.next id=false then 2 else 1) else 0
def XK (l:List Path) (x:Control):List Int:=if ZR l x then l.map (fun p=>XJ x p.id) else []
theorem Zol {α:Type} (l:List α):decide (((l.length:Nat):Int) > 0)= !l.isEmpty:=by
 cases l with
 |nil=>rfl
 |cons x l=>simp
theorem Zks (l:List Path) (x:Control) (h:Sm l) (hx:ZX x):Zb5 l x=some (XK l x):=by
 have hx':=hx;obtain ⟨h1,h2⟩:=hx;have hl:=h;unfold Sm at hl;unfold Zb5 XK;simp only [Zp,Zk,Zo,Zn,Zr,Zu,Zq,Yp,Zy,KI l x h hx',Zd];cases ZR l x with
 |false=>simp
 |true=>
 simp only [Ui,Zh,U1];refine ZdF l (fun p=>XJ x p.id) (by omega) (fun k acc=>((acc,l,(l.length:Int),(k:Int)),x)) some rfl ?_ ?_
 ·intro rec acc ha;simp
 ·intro rec k p acc hp hk ha;simp [hk,Zi hp,Ja _ _ h1,Ja _ _ h2,Zw (show k<=9223372036854775806 by omega),ha,show (k + 1) * 8<=140737488355328 by omega,show k<=1152921504606846975 by omega,Zol];unfold XJ;cases has x.stage p.id with
  |false=>simp
  |true=>
   cases hn:x.next with
   |nil=>simp
   |cons y r=>
    simp [ZB];cases has (y::r) p.id <;> simp
theorem Zf2 (l:List Path) (x:Control) (h:Sm l) (hx:ZX x):Zaz l x=some (XK l x):=by
 have hx':=hx;obtain ⟨h1,h2⟩:=hx;have hl:=h;unfold Sm at hl;unfold Zaz XK;simp only [Zp,Zk,Zo,Zn,Zr,Zu,Zq,Yp,Zy];cases hc:ZR l x with
 |false=>
  refine (Yc l (by omega) (fun k (_:Unit)=>((l,([]:List Int),(k:Int)),x)) () (fun _ _ _=>some []) rfl ?_ ?_).trans rfl
  ·intro rec _;simp
  ·intro rec k p _ hp hk _;simp [hk,Jb l x h hx',hc]
 |true=>
 simp only [U1];refine ZdF l (fun p=>XJ x p.id) (by omega) (fun k acc=>((l,acc,(k:Int)),x)) some rfl ?_ ?_
 ·intro rec acc ha;simp
 ·intro rec k p acc hp hk ha;simp [hk,Zi hp,Jb l x h hx',hc,QV _ _ h1,QV _ _ h2,Zw (show k<=9223372036854775806 by omega),ha,show (k + 1) * 8<=140737488355328 by omega,show k<=1152921504606846975 by omega,Zol];unfold XJ;cases has x.stage p.id with
  |false=>simp
  |true=>
   cases hn:x.next with
   |nil=>simp
   |cons y r=>
    simp [ZB];cases has (y::r) p.id <;> simp
theorem Zt0 (l:List Path) (n:Int) (h:Sm l):Zfr l n=some (l.map fun _=>n):=by
 unfold Sm at h;unfold Zfr;simp only [Zp,Zk,Zo,Zn,Zr,Zu,Zq,Yp];refine ZdF l (fun _=>n) (by omega) (fun k acc=>(n,acc,(l.length:Int),(k:Int))) some rfl ?_ ?_
 ·intro rec acc ha;simp
 ·intro rec k p acc hp hk ha;simp [hk,Zw (show k<=9223372036854775806 by omega),ha,show (k + 1) * 8<=140737488355328 by omega,show k<=1152921504606846975 by omega]
theorem Zt1 (t:Town) (n:Int) (h:Sm t.paths):Ze5 t n=some (t.paths.map fun _=>n):=by
 unfold Sm at h;unfold Ze5;simp;refine ZdF t.paths (fun _=>n) (by omega) (fun k acc=>((n,acc,(k:Int)),t)) some rfl ?_ ?_
 ·intro rec acc ha;simp
 ·intro rec k p acc hp hk ha;simp [hk,Zw (show k<=9223372036854775806 by omega),ha,show (k + 1) * 8<=140737488355328 by omega,show k<=1152921504606846975 by omega]
theorem ZE2 {α:Type} (p:α->Bool) (l:List α):(l.findIdx? p).isSome=l.any p:=Zce p l
def ZdG (l:List Path) (p:Lamp):Bool:= !decide (ZD l p.path < 0) && inR p.colour 0 1
def J1 (p q:Lamp):Bool:= !(q.path==p.path && q.colour==p.colour)
def goL (l:List Path) (x:List Lamp):Nat->List Lamp->Bool
 | _,[]=>true
 |k,p::r=>ZdG l p && (x.take k).all (J1 p) && goL l x (k + 1) r
def QW (l:List Path) (x:List Lamp):Bool:=goL l x 0 x && ZJ l
theorem ZE3 {α:Type} {l:List α} {k j:Nat} {x:α} (h:(l.take k)[j]? =some x):l[j]? =some x:=by
 rw [UA] at h;split at h
 ·exact h
 ·cases h
theorem Zt2 (l:List Path) (x:List Lamp) (h:Sm l) (hx:Sm x):Ze1 l x=some (QW l x):=by
 unfold Ze1 QW;simp;have hx':=hx;unfold Sm at hx';refine (Yc x (by omega) (fun k (_:Unit)=>(l,x,(k:Int))) () (fun s k _=>some (goL l x k s && ZJ l)) rfl ?_ ?_).trans rfl
 ·intro rec _;simp [V9 l h,goL]
 ·intro rec k p _ hp hk hr;simp only [Uo] at hr;have hk2:k<=9223372036854775806:=by omega
  simp [hk,Zi hp,XI l _ h,JX,goL,ZdG];by_cases c1:ZD l p.path < 0
  ·simp [c1]
  simp only [c1,U3,Zh,UT,UW];cases c2:inR p.colour 0 1 with
  |false=>simp
  |true=>
  simp only [Ui,Zh,UW];have hlen:(x.take k).length=k:=by rw [Uc];omega
  refine (Xv (x.take k) (J1 p) (by omega) (fun j=>(l,x,(k:Int),(j:Int))) (some (goL l x (k + 1) (x.drop (k + 1)) && ZJ l)) (some false) rfl ?_ ?_).trans ?_
  ·intro rec';simp [hlen,Zw hk2];exact hr ()
  ·intro rec' j q hq hj;have hq':=ZE3 hq;have hj':j < k:=by omega
   simp [hj',Zi hq',Zi hp,Zw (show j<=9223372036854775806 by omega),ZB];by_cases e1:q.path=p.path <;> by_cases e2:q.colour=p.colour <;> simp [e1,e2,J1]
  ·generalize (x.take k).all (J1 p)=A;cases A <;> simp
theorem Zt3 (l:List Path) (x:List Lamp) (h:Sm l) (hx:Sm x):Zfo l x=some (QW l x):=by
 unfold Zfo QW;simp [JW l h];have hx':=hx;unfold Sm at hx';cases hp:ZJ l with
 |false=>simp
 |true=>
 simp;refine (Yc x (by omega) (fun k (_:Unit)=>(l,x,x,(x.length:Int),(k:Int))) () (fun s k _=>some (goL l x k s)) rfl ?_ ?_).trans rfl
 ·intro rec _;simp [goL]
 ·intro rec k p _ hp hk hr;simp only [Uo] at hr;have hk2:k<=9223372036854775806:=by omega
  simp [hk,Zi hp,Qd l _ h,goL,ZdG];by_cases c1:ZD l p.path < 0
  ·simp [c1]
  simp only [c1,U3,Zh,UT,UW];have hlen:(x.take k).length=k:=by rw [Uc];omega
  generalize hI:Zf (_:((List Path×List Lamp×List Lamp×Int×Int×List Lamp×Int×Int)×Lamp->Option Bool)->_->Option Bool) NN _=I;have hI':I=if (x.take k).all (J1 p)=true then some (goL l x (k + 1) (x.drop (k + 1))) else some false:=by
   rw [←hI];refine Xv (x.take k) (J1 p) (by omega) (fun j=>((l,x,x,(x.length:Int),(k:Int),x.take k,((x.take k).length:Int),(j:Int)),p)) _ _ (by simp) ?_ ?_
   ·intro rec';simp [hlen,Zw hk2];exact hr ()
   ·intro rec' j q hq hj;have hj':j < k:=by omega
    simp [hlen,hj',Zi hq,Zw (show j<=9223372036854775806 by omega),ZB];by_cases e1:p.path=q.path <;> by_cases e2:p.colour=q.colour <;> simp [e1,e2,J1,show k<=x.length by omega]
    all_goals first |done | (intro h1;exact absurd h1.symm e1) |grind
  rw [hI'];generalize (x.take k).all (J1 p)=A;by_cases e0:p.colour=0
  ·simp [e0,inR,show k<=x.length by omega];cases A <;> simp
  ·by_cases e1:p.colour=1
   ·simp [e1,inR,show k<=x.length by omega];cases A <;> simp
   ·rw [show inR p.colour 0 1=false by simp [inR];omega];simp [e0,e1,ZB]
def J3 (q:Lamp):Bool:=q.colour==0 && q.broken
def ZdH (x:List Lamp):Bool:=x.any J3
def Ye (l:List Path) (x:List Lamp) (p:Bool):Int:=if p=false then 2 else if ZdH x then 1 else if QW l x then 0 else 1
theorem Zkt (l:List Path) (x:List Lamp) (p:Bool) (h:Sm l) (hx:Sm x):Zij l x p=some (Ye l x p):=by
 unfold Zij Ye;have hx':=hx;unfold Sm at hx';cases p with
 |false=>rfl
 |true=>
 simp;refine (Xv x (fun q=> !J3 q) (by omega) (fun k=>(l,x,(k:Int))) (some (if QW l x then 0 else 1)) (some 1) rfl ?_ ?_).trans ?_
 ·intro rec;simp [Zt2 l x h hx];cases QW l x <;> rfl
 ·intro rec k q hq hk;simp [hk,Zi hq,Zw (show k<=9223372036854775806 by omega),ZB];by_cases e1:q.colour=0 <;> cases e2:q.broken <;> simp [e1,e2,J3]
 ·have hB:ZdH x= !x.all (fun q=> !J3 q):=by rw [List.not_all_eq_any_not];simp [ZdH]
  generalize x.all (fun q=> !J3 q)=A at hB ⊢;rw [hB];cases A <;> simp
theorem Zku (l:List Path) (x:List Lamp) (p:Bool) (h:Sm l) (hx:Sm x):Zjh l x p=some (Ye l x p):=by
 unfold Zjh Ye;have hx':=hx;unfold Sm at hx';cases p with
 |false=>rfl
 |true=>
 have key:Zjg x=some (ZdH x):=by
  unfold Zjg ZnU ZnT;simp;generalize hI:Zf (_:(List Lamp×Unit×Int×Int->Option Int)->_->Option Int) NN _=I;have hI':I=match x.findIdx? J3 with |some i=>some (i:Int) |none=>some (-1):=by
   rw [←hI];refine Zcf x J3 (by omega) (fun k=>(x,(),(x.length:Int),(k:Int))) (fun k=>some (k:Int)) (some (-1)) rfl ?_ ?_
   ·intro rec;simp
   ·intro rec k q hq hk;simp [hk,Zi hq,Zw (show k<=9223372036854775806 by omega),ZB];by_cases e1:q.colour=0 <;> cases e2:q.broken <;> simp [e1,e2,J3]
  rw [hI'];have hB:ZdH x=(x.findIdx? J3).isSome:=by rw [ZE2];rfl
  rw [hB];cases x.findIdx? J3 <;> simp
 simp [Zt3 l x h hx,key];cases QW l x <;> cases ZdH x <;> rfl
def Yz (t:Town):List Int:=if Ye t.paths t.lamps t.power=0 then XK t.paths t.control else t.paths.map fun _=>0
theorem Zf3 (t:Town) (h:Zx t):ZaC t=some (Yz t):=by
 obtain ⟨h0,h1,h2,h3,h4⟩:=h;have e1:QP t=some (Ye t.paths t.lamps t.power):=by unfold QP;simp [Zkt _ _ _ h0 h3]
 unfold ZaC Yz;simp only [Zp,Zk,Zo,Zn,Zr,Zu,ZK,ZT,Zq,ZS,Z3,Z0,Zy,ZW,e1,Zd,ZaN,Zf2 _ _ h0 h1,Zt1 t 0 h0,ZB,Fz];split <;> rfl
theorem Zf4 (t:Town) (h:Zx t):ZaH t=some (Yz t):=by
 obtain ⟨h0,h1,h2,h3,h4⟩:=h;have e1:QT t=some (Ye t.paths t.lamps t.power):=by unfold QT;simp [Zku _ _ _ h0 h3]
 unfold ZaH Yz;simp only [Zp,Zk,Zo,Zn,Zr,Zu,ZK,ZT,Zq,ZS,Z3,Z0,Zy,ZW,e1,Zd,ZaN,Zks _ _ h0 h1,Zt0 _ 0 h0,ZB,bne_iff_ne];by_cases c:Ye t.paths t.lamps t.power=0 <;> simp [c]
def ZaO (x q:Path×Int):Bool:= !(x.2 != 0 && q.2 != 0 && Z1 x.1 q.1)
def goS (z:List (Path×Int)):Nat->List (Path×Int)->Bool
 | _,[]=>true
 |k,x::r=>inR x.2 0 2 && (z.take k).all (ZaO x) && goS z (k + 1) r
def Vo (l:List Path) (v:List Int):Bool:=ZJ l && decide (v.length=l.length) && goS (l.zip v) 0 (l.zip v)
theorem ZaP {l:List Path} {v:List Int} {k:Nat} {x:Path×Int} (h:(l.zip v)[k]? =some x):l[k]? =some x.1/\v[k]? =some x.2:=by
 rw [List.getElem?_zip_eq_some] at h;exact h
theorem Zt4 (l:List Path) (v:List Int) (h:Sm l):Ze2 l v=some (Vo l v):=by
 have hl:=h;unfold Sm at hl;unfold Ze2 Vo;simp only [Zp,Zk,Zo,Zn,Zr,Zu,Zq,Yp,ZV,V9 l h,Zd];cases hp:ZJ l with
 |false=>simp
 |true=>
 by_cases hn:v.length=l.length
 ·have hz:(l.zip v).length=l.length:=by rw [Fe];omega
  rw [show (((v.length:Nat):Int) != ((l.length:Nat):Int))=false by simp [hn]];simp [hn];refine (Yc (l.zip v) (by omega) (fun k (_:Unit)=>(l,v,(k:Int))) () (fun s k _=>some (goS (l.zip v) k s)) rfl ?_ ?_).trans rfl
  ·intro rec _;simp [goS,hz]
  ·intro rec k x _ hx hk hr;obtain ⟨x1,x2⟩:=ZaP hx;have hr':=hr ();simp only [Uo] at hr';have hk':k < l.length:=by omega
   have hlen:((l.zip v).take k).length=k:=by rw [Uc];omega
   simp [hk',Zi x2,JX,goS];cases inR x.2 0 2 with
   |false=>simp
   |true=>
   simp;refine (Xv ((l.zip v).take k) (ZaO x) (by omega) (fun j=>(l,v,(k:Int),(j:Int))) (some (goS (l.zip v) (k + 1) ((l.zip v).drop (k + 1)))) (some false) rfl ?_ ?_).trans ?_
   ·intro rec';simp [hlen,Zw (show k<=9223372036854775806 by omega),hr']
   ·intro rec' j y hy hj;obtain ⟨y1,y2⟩:=ZaP (Zoj hy);have hj':j < k:=by omega
    simp [hj',Zi x2,Zi y2,Zi x1,Zi y1,Zf1,Zw (show j<=9223372036854775806 by omega),ZaO,ZB];by_cases c1:x.2=0 <;> by_cases c2:y.2=0 <;> cases c3:Z1 x.1 y.1 <;> simp [c1,c2,c3]
   ·generalize ((l.zip v).take k).all (ZaO x)=A;cases A <;> simp
 ·rw [show (((v.length:Nat):Int) != ((l.length:Nat):Int))=true by simp;omega];simp [hn]
theorem Zt5 (l:List Path) (v:List Int) (h:Sm l):Zfp l v=some (Vo l v):=by
 have hl:=h;unfold Sm at hl;unfold Zfp Vo;simp only [Zp,Zk,Zo,Zn,Zr,Zu,Zq,Yp,ZV,JW l h,Zd];cases hp:ZJ l with
 |false=>simp
 |true=>
 by_cases hn:v.length=l.length
 ·have hz:(l.zip v).length=l.length:=by rw [Fe];omega
  rw [show (((v.length:Nat):Int) != ((l.length:Nat):Int))=false by simp [hn]];simp [hn];refine (Yc (l.zip v) (by omega) (fun k (_:Unit)=>(l,v,l,(l.length:Int),(k:Int))) () (fun s k _=>some (goS (l.zip v) k s)) rfl ?_ ?_).trans rfl
  ·intro rec _;simp [goS,hz]
  ·intro rec k x _ hx hk hr;obtain ⟨x1,x2⟩:=ZaP hx;have hr':=hr ();simp only [Uo] at hr';have hk':k < l.length:=by omega
   have hkl:k<=l.length:=by omega
   have hlen:((l.zip v).take k).length=k:=by rw [Uc];omega
   have hlen2:(l.take k).length=k:=by rw [Uc];omega
   simp [hk',hkl,Zi x1,Zi x2,ZaJ,goS];cases inR x.2 0 2 with
   |false=>simp
   |true=>
   simp;refine (Xv ((l.zip v).take k) (ZaO x) (by omega) (fun j=>((l,v,(k:Int),l,(l.length:Int),(k:Int),l.take k,((l.take k).length:Int),(j:Int)),x.1)) (some (goS (l.zip v) (k + 1) ((l.zip v).drop (k + 1)))) (some false) (by simp;omega) ?_ ?_).trans ?_
   ·intro rec';simp [hlen,hlen2,Zw (show k<=9223372036854775806 by omega),hr']
   ·intro rec' j y hy hj;obtain ⟨y1,y2⟩:=ZaP (Zoj hy);have hj':j < k:=by omega
    have y3:(l.take k)[j]? =some y.1:=by rw [UA,Ul hj'];exact y1
    simp [hlen2,hj',Zi x2,Zi y2,Zi y3,ZdD,Zw (show j<=9223372036854775806 by omega),ZaO,ZB,hkl];by_cases c1:x.2=0 <;> by_cases c2:y.2=0 <;> cases c3:Z1 x.1 y.1 <;> simp [c1,c2,c3]
   ·generalize ((l.zip v).take k).all (ZaO x)=A;cases A <;> simp
 ·rw [show (((v.length:Nat):Int) != ((l.length:Nat):Int))=true by simp;omega];simp [hn]
def Zch (l:List Path) (x:Want):Bool:= !decide (ZD l x.path < 0) && inR x.wait 0 100000
def goW (l:List Path):Option Int->List Want->Bool
 | _,[]=>true
 |pv,x::r=>Zch l x && later pv x.path && goW l (some x.path) r
def Yl (l:List Path) (w:List Want):Bool:=ZJ l && goW l none w
def VR (l:List Want) (k:Nat):Option Int:=if k=0 then none else (l[k - 1]?).map (·.path)
theorem Zkv {l:List Want} {k:Nat} {x:Want} (h:l[k]? =some x):VR l (k + 1)=some x.path:=by
 unfold VR;simp [h]
theorem Zom (l:List Path) (w:List Want) (hl:Sm l) (h:w.length<=2097152):JN l w=some (Yl l w):=by
 unfold JN Yl;simp;refine (Yc w (by omega) (fun k (_:Unit)=>(l,w,(k:Int))) () (fun s k _=>some (ZJ l && goW l (VR w k) s)) rfl ?_ ?_).trans ?_
 ·intro rec _;simp [goW,V9 l hl]
 ·intro rec k x _ hx hk hr;have hr':=hr ();simp only [Uo] at hr';simp [hk,Zi hx,XI _ _ hl,JX,Zw (show k<=9223372036854775806 by omega),goW,Zch];by_cases hf:ZD l x.path < 0
  ·simp [hf]
  cases inR x.wait 0 100000 with
  |false=>simp [hf]
  |true=>
   simp [hf];by_cases h0:k=0
   ·subst h0;have hr'':rec (l,w,1)=some (ZJ l && goW l (some x.path) (List.drop 1 w)):=by simpa [Zkv hx] using hr'
    simp [hr'',VR,later]
   ·have hz:w[k - 1]? =some w[k - 1]:=Ua (by omega);have hk1:W ((k:Int) - 1)=((k - 1:Nat):Int):=by rw [Zz (by omega) (by omega)];omega
    rw [show VR w k=some (w[k - 1]).path by unfold VR;simp [h0,hz]];simp [show 0 < k by omega,hk1,Zi hz,hr',Zkv hx,later,ZB];by_cases h1:x.path<=(w[k - 1]).path
    ·simp [h1,show ¬((w[k - 1]).path < x.path) by omega]
    ·simp [h1,show (w[k - 1]).path < x.path by omega]
 ·simp [VR]
theorem Zkw (l:List Path) (w:List Want) (hl:Sm l) (h:Sm w):JN l w=some (Yl l w):=Zom l w hl (by unfold Sm at h;omega)
theorem Zon (l:List Path) (w:List Want) (hl:Sm l) (h:w.length<=2097152):KD l w=some (Yl l w):=by
 unfold KD Yl;simp [JW l hl];cases ZJ l with
 |false=>rfl
 |true=>
 simp;refine (Yc w (by omega) (fun k (_:Unit)=>(l,w,w,(w.length:Int),(k:Int))) () (fun s k _=>some (goW l (VR w k) s)) rfl ?_ ?_).trans ?_
 ·intro rec _;simp [goW]
 ·intro rec k x _ hx hk hr;have hr':=hr ();simp only [Uo] at hr';simp [hk,Zi hx,Qd _ _ hl,ZaJ,Zw (show k<=9223372036854775806 by omega),goW,Zch];by_cases hf:ZD l x.path < 0
  ·simp [hf]
  cases inR x.wait 0 100000 with
  |false=>simp [hf]
  |true=>
   simp [hf];by_cases h0:k=0
   ·subst h0;have hr'':rec (l,w,w,(w.length:Int),1)=some (goW l (some x.path) (List.drop 1 w)):=by simpa [Zkv hx] using hr'
    simp [hr'',VR,later]
   ·have hz:w[k - 1]? =some w[k - 1]:=Ua (by omega);have hk1:W ((k:Int) - 1)=((k - 1:Nat):Int):=by rw [Zz (by omega) (by omega)];omega
    rw [show VR w k=some (w[k - 1]).path by unfold VR;simp [h0,hz]];simp [show 0 < k by omega,hk1,Zi hz,hr',Zkv hx,later,ZB];by_cases h1:x.path<=(w[k - 1]).path
    ·simp [h1,show ¬((w[k - 1]).path < x.path) by omega]
    ·simp [h1,show (w[k - 1]).path < x.path by omega]
 ·simp [VR]
theorem Zoo (l:List Path) (w:List Want) (hl:Sm l) (h:Sm w):KD l w=some (Yl l w):=Zon l w hl (by unfold Sm at h;omega)
def KJ (l:List Path) (id:Int):Bool:= !decide (ZD l id < 0) && (ZQ l id).kind==3
def Y0 (l:List Path) (x:Prio):Bool:=ZJ l && (decide (x=⟨0,0⟩) || (KJ l x.path && inR x.left 1 20))
theorem Zt6 (p:Prio):eqB [I p.path,I p.left] [I 0,I 0]=decide (p=⟨0,0⟩):=by
 cases p;simp [eqB,eqV];grind
theorem Zkx (l:List Path) (x:Prio) (hl:Sm l):ZaB l x=some (Y0 l x):=by
 unfold ZaB Y0 KJ;simp only [Zp,Zk,Zo,Zn,Zr,Zu,Zt6,V9 l hl,XI _ _ hl,Zd,Xs,JX,ZB];by_cases h0:x=⟨0,0⟩
 ·simp [h0]
 ·simp only [h0,U3,FJ,MV,Mw];by_cases hf:ZD l x.path < 0
  ·simp [hf,show ¬(ZD l x.path>=0) by omega]
  ·simp [hf,show (0:Int)<=ZD l x.path by omega,Xd hf];cases ZJ l <;> simp
   by_cases hk:(ZQ l x.path).kind=3 <;> simp [hk]
theorem Zky (l:List Path) (x:Prio) (hl:Sm l):Zb6 l x=some (Y0 l x):=by
 unfold Zb6 Y0 KJ Zdq;simp only [Zp,Zk,Zo,Zn,Zr,Zu,Zt6,JW l hl,Qd _ _ hl,Zd,Xs,ZaJ,ZB];by_cases h0:x=⟨0,0⟩
 ·simp [h0];cases ZJ l <;> simp
 ·simp only [h0,U3,FJ,MV,Mw];by_cases hf:ZD l x.path < 0
  ·simp [hf,show ¬(ZD l x.path>=0) by omega]
  ·simp [hf,show (0:Int)<=ZD l x.path by omega,Xd hf];cases ZJ l <;> simp
   by_cases hk:(ZQ l x.path).kind=3 <;> simp [hk]
def goU (p:List Path):List Note->Int
 | []=> -1
 |x::r=>if Vo p x.lights=true then goU p r else x.second
def ZaQ (p:List Path) (l:List Note):Int:=if YE l=true then goU p l else -1
theorem ZE4 (p:List Path) (l:List Note) (hp:Sm p) (h:Sm l/\∀y∈l,YG y):Zia p l=some (ZaQ p l):=by
 have h1:=h.1;unfold Sm at h1;unfold Zia ZaQ;simp;refine (Yc l (by omega) (fun k (_:Unit)=>(p,l,(k:Int))) () (fun s _ _=>some (if YE l=true then goU p s else -1)) rfl ?_ ?_).trans rfl
 ·intro rec _;simp [goU]
 ·intro rec k x _ hx hk hr;have hr':=hr ();simp only [Uo] at hr';simp [hk,Zi hx,ZfW l h,Zt4 _ _ hp,Zw (show k<=9223372036854775806 by omega),hr',goU,ZB];cases YE l <;> simp
  cases Vo p x.lights <;> simp
theorem ZE5 (p:List Path) (l:List Note) (hp:Sm p) (h:Sm l/\∀y∈l,YG y):Zi7 p l=some (ZaQ p l):=by
 have h1:=h.1;unfold Sm at h1;unfold Zi7 ZaQ;simp [ZfX l h];cases YE l with
 |false=>rfl
 |true=>
 simp;refine (Yc l (by omega) (fun k (_:Unit)=>(p,l,(l.length:Int),(k:Int))) () (fun s _ _=>some (goU p s)) rfl ?_ ?_).trans rfl
 ·intro rec _;simp [goU]
 ·intro rec k x _ hx hk hr;have hr':=hr ();simp only [Uo] at hr';simp [hk,Zi hx,Zt5 _ _ hp,Zw (show k<=9223372036854775806 by omega),hr',goU,ZB];cases Vo p x.lights <;> simp
def Zop (l:List Note):Int:=match l.getLast? with |some e=>e.second |none=>0
def Z7 (t:Town):Bool:=
 ZR t.paths t.control && Yl t.paths t.wants && Y0 t.paths t.prio && QW t.paths t.lamps && YE t.record && !t.record.isEmpty &&
 decide (ZaQ t.paths t.record= -1) && decide (KF t.record=t.paths.length) && decide (Zop t.record<=t.now) && inR t.books 0 1000 && inR t.now 0 1000000
theorem Zt7 {l:List Note} (h:l≠ []):∃e,l[l.length - 1]? =some e/\Zop l=e.second/\e∈l:=by
 refine ⟨l.getLast h,?_,?_,List.getLast_mem h⟩
 ·rw [List.getLast_eq_getElem h];exact Ua _
 ·unfold Zop;rw [List.getLast?_eq_some_getLast h]
theorem KK (t:Town) (h:Zx t):VL t=some (Z7 t):=by
 obtain ⟨h0,h1,h2,h3,h4⟩:=h;have h5:=h4.1;unfold Sm at h5;unfold VL Z7;simp only [Zp,Zk,Zo,Zn,Zr,Zu,Zq,ZK,ZT,ZS,Zy,XE,ZV,Yp,Qe,Jb _ _ h0 h1,Zkw _ _ h0 h2,Zkx _ _ h0,Zt2 _ _ h0 h3,ZfW _ h4,ZE4 _ _ h0 h4,JX,Zd];cases ZR t.paths t.control <;> simp
 cases Yl t.paths t.wants <;> simp
 cases Y0 t.paths t.prio <;> simp
 cases QW t.paths t.lamps <;> simp
 cases hR:YE t.record <;> simp
 cases he:t.record.isEmpty <;> simp
 have hne:t.record≠ []:=by intro e;rw [e] at he;cases he
 obtain ⟨e,e1,e2,e3⟩:=Zt7 hne;have hpos:=List.length_pos_iff.2 hne;have hk1:W ((t.record.length:Int) - 1)=((t.record.length - 1:Nat):Int):=by rw [Zz (by omega) (by omega)];omega
 rw [hk1,Zi e1,e2,(ZfY hR e e3).1];by_cases c1:ZaQ t.paths t.record= -1 <;> simp [c1,ZB]
 by_cases c2:KF t.record=t.paths.length
 case neg=>
  simp [c2];intro hc;omega
 simp only [c2];by_cases c3:e.second<=t.now <;> simp [c3]
 cases inR t.books 0 1000 <;> simp
theorem KL (t:Town) (h:Zx t):VP t=some (Z7 t):=by
 obtain ⟨h0,h1,h2,h3,h4⟩:=h;have h5:=h4.1;unfold Sm at h5;unfold VP Z7;simp only [Zp,Zk,Zo,Zn,Zr,Zu,Zq,ZK,ZT,ZS,Zy,XE,ZV,Yp,KI _ _ h0 h1,Zoo _ _ h0 h2,Zky _ _ h0,Zt3 _ _ h0 h3,ZfX _ h4,ZE5 _ _ h0 h4,ZaJ,Zd];cases ZR t.paths t.control <;> simp
 cases Yl t.paths t.wants <;> simp
 cases Y0 t.paths t.prio <;> simp
 cases QW t.paths t.lamps <;> simp
 cases hR:YE t.record <;> simp
 by_cases c1:ZaQ t.paths t.record= -1 <;> simp [c1,ZB]
 cases he:t.record.isEmpty with
 |true=>
  have:t.record= []:=List.isEmpty_iff.1 he;simp [this]
 |false=>
 have hne:t.record≠ []:=by intro e;rw [e] at he;cases he
 obtain ⟨e,e1,e2,e3⟩:=Zt7 hne;have hpos:=List.length_pos_iff.2 hne;have hk1:W ((t.record.length:Int) - 1)=((t.record.length - 1:Nat):Int):=by rw [Zz (by omega) (by omega)];omega
 have hz:t.record[0]? =some t.record[0]:=Ua hpos;simp only [hpos,Mr,Zs,ZfU hz,hk1,Zi e1,e2,←ZfV hz];by_cases c2:KF t.record=t.paths.length
 case neg=>
  simp [c2];intro hc;omega
 simp only [c2];by_cases c3:e.second<=t.now <;> simp [c3]
 cases inR t.books 0 1000 <;> simp
def Vp (s:Int):List Note->Nat->Int->Int
 | [],_,a=>a
 |x::r,k,a=>Vp s r (k + 1) (if x.second<=s then (k:Int) else a)
def QX (l:List Note) (s:Int):Int:=if YE l=true then Vp s l 0 (-1) else -1
theorem Zoq {s:Int}:∀(l:List Note) (k:Nat) (a:Int),Vp s l k a=a\/∃i,i < l.length/\Vp s l k a=((k + i:Nat):Int)
 | [],k,a=> .inl rfl
 |x::r,k,a=>by
  rw [Vp];rcases Zoq (s:=s) r (k + 1) (if x.second<=s then (k:Int) else a) with h | ⟨i,h1,h2⟩
  ·rw [h];split
   ·exact .inr ⟨0,by simp,by simp⟩
   ·exact .inl rfl
  ·exact .inr ⟨i + 1,by simp;omega,by rw [h2];congr 1;omega⟩
theorem ZE6 (l:List Note) (s:Int):QX l s= -1\/∃(i:Nat) (x:Note),l[i]? =some x/\QX l s=(i:Int)/\YE l=true:=by
 unfold QX;cases hR:YE l with
 |false=>exact .inl (by simp)
 |true=>
  simp only [U1];rcases Zoq (s:=s) l 0 (-1) with h | ⟨i,h1,h2⟩
  ·exact .inl h
  ·exact .inr ⟨i,l[i],Ua h1,by rw [h2];simp,trivial⟩
theorem Zt8 (l:List Note) (s:Int) (h:Sm l/\∀y∈l,YG y):Zff l s=some (QX l s):=by
 have h1:=h.1;unfold Sm at h1;unfold Zff QX;simp;refine (Yc l (by omega) (fun k a=>(l,s,a,(k:Int))) (-1) (fun x k a=>some (if YE l=true then Vp s x k a else a)) rfl ?_ ?_).trans rfl
 ·intro rec a;simp [Vp]
 ·intro rec k x a hx hk hr;simp only [Uo] at hr;simp [hk,Zi hx,ZfW l h,Zw (show k<=9223372036854775806 by omega),hr,Vp,ZB];cases YE l <;> simp
  by_cases c:x.second<=s <;> simp [c]
theorem Zor (l:List Note) (s:Int) (h:Sm l/\∀y∈l,YG y):Zdx l s=some (QX l s):=by
 have h1:=h.1;unfold Sm at h1;unfold Zdx QX;simp [ZfX l h];cases YE l with
 |false=>rfl
 |true=>
 simp;refine (Yc l (by omega) (fun k a=>(s,a,l,(l.length:Int),(k:Int))) (-1) (fun x k a=>some (Vp s x k a)) rfl ?_ ?_).trans rfl
 ·intro rec a;simp [Vp]
 ·intro rec k x a hx hk hr;simp only [Uo] at hr;simp [hk,Zi hx,Zw (show k<=9223372036854775806 by omega),hr,Vp,ZB];by_cases c:x.second<=s <;> simp [c]
theorem Zkz {β:Type} (xs:List (List AV)) (x y:Option β) (h:xs= []->x=y):K8 xs x y=y:=by
 unfold K8;split
 ·unfold ZF;have:=h rfl;rw [Ul this,this]
 ·rfl
theorem KM (l:List Int) (h:Sm l):Vh l=some l:=by
 unfold Sm at h;unfold Vh;have e:ifA (((((List.length ([]:List (List AV))) + (List.length (l.map iR.enc))) * 8)<=140737488355328)/\(((List.length ([]:List (List AV))) + (List.length (l.map iR.enc)))<=1152921504606846976)) (rws iR (List.map clrs (l.map iR.enc)) (fun (l1:(List Int))=>(some l1)))=some l:=by
  rw [Zt (by simp;omega),Zas,Zq]
 rw [e];refine Zkz _ _ _ fun h0=> ?_
 have:l= []:=by cases l with |nil=>rfl |cons a l=>cases h0
 rw [this]
def Zci (l:List Note) (s:Int):Option Note:=if QX l s < 0 then none else l[(QX l s).toNat]?
def Qf (l:List Note) (s:Int):List Int×Bool:=match Zci l s with |some e=>(e.lights,true) |none=>([],false)
theorem J4 (l:List Note) (s:Int):(Zci l s=none/\QX l s= -1)\/∃(i:Nat) (x:Note),l[i]? =some x/\QX l s=(i:Int)/\Zci l s=some x/\YE l=true:=by
 unfold Zci;rcases ZE6 l s with h | ⟨i,x,h1,h2,h3⟩
 ·rw [h];exact .inl ⟨rfl,rfl⟩
 ·rw [h2];exact .inr ⟨i,x,h1,rfl,by rw [Uf (by omega),Ux,h1],h3⟩
theorem ZkA (l:List Note) (s:Int) (h:Sm l/\∀y∈l,YG y):Zb1 l s=some (Qf l s):=by
 unfold Zb1 Qf;simp only [Zp,Zk,Zo,Zn,Zr,ZS,Z3,Z0,Zt8 l s h,Zd,JJ,V5,JK];rcases J4 l s with ⟨h1,h2⟩ | ⟨i,x,h1,h2,h3,_⟩
 ·simp [h1,h2]
 ·have hx:=h.2 x (Yd h1);unfold YG Sm at hx;simp only [Zp,Zk,Zo,Zn,Zr,h2,h3,show ¬((i:Int) < 0) by omega,U3,Zh,Zi h1,ZV,Zas,Zq];rw [Zt (by simp;omega)]
theorem Zt9 (l:List Note) (s:Int) (h:Sm l/\∀y∈l,YG y):ZfC l s=some (Qf l s):=by
 unfold ZfC Qf;simp only [Zp,Zk,Zo,Zn,Zr,ZS,Z3,Z0,Zor l s h,Zd,JJ,V5,JK,Zq];rcases J4 l s with ⟨h1,h2⟩ | ⟨i,x,h1,h2,h3,_⟩
 ·simp [h1,h2]
 ·have hx:=h.2 x (Yd h1);simp only [h2,h3,show ¬((i:Int) < 0) by omega,U3,Zh,Zi h1,KM _ hx,Zd]
def Zf5 (t:Town):Bool:=(Qf t.record t.now).2 && decide ((Qf t.record t.now).1=Yz t)
theorem Zos {l:List Note} (s:Int) (h:Sm l/\∀y∈l,YG y):Sm (Qf l s).1:=by
 unfold Qf;rcases J4 l s with ⟨h1,h2⟩ | ⟨i,x,h1,h2,h3,_⟩
 ·rw [h1];unfold Sm;simp
 ·rw [h3];exact h.2 x (Yd h1)
theorem ZE7 (t:Town) (h:Zx t):ZiH t=some (Zf5 t):=by
 have h4:=h.2.2.2.2;unfold ZiH Zf5;simp only [Zp,Zk,Zo,Zn,Zr,Zu,Zq,ZK,ZT,ZS,Z3,Z0,Zy,ZW,ZkA _ _ h4,Zf3 t h,Zoh _ _ (Zos t.now h4),Zd];cases (Qf t.record t.now).2 <;> simp
theorem ZE8 (t:Town) (h:Zx t):ZjK t=some (Zf5 t):=by
 have h4:=h.2.2.2.2;unfold ZjK Zf5;simp only [Zp,Zk,Zo,Zn,Zr,Zu,Zq,ZK,ZT,ZS,Z3,Z0,Zy,ZW,Zt9 _ _ h4,Zf4 t h,Zoi _ _ (Zos t.now h4),Zd];cases (Qf t.record t.now).2 <;> simp
theorem Zua {V β:Type} {F:(V->Option β)->V->Option β} (st:Nat->V) (G:Nat->Option β) (B:Nat) (h0:∀rec,F rec (st 0)=G 0)
  (h1:∀rec k,k < B->rec (st k)=G k->F rec (st (k + 1))=G (k + 1)):∀n k,k<=B->k < n->Zf F n (st k)=G k
 | 0,k,_,h=>by omega
 |n + 1,0,_,_=>by rw [Ve];exact h0 _
 |n + 1,k + 1,hk,h=>by
  rw [Ve];exact h1 _ k (by omega) (Zua st G B h0 h1 n k (by omega) (by omega))
theorem Zub {V β:Type} {F:(V->Option β)->V->Option β} (st:Nat->V) (G:Nat->Option β) (k:Nat) (hk:k<=4611686018427387903) {v:V} (hv:v=st k) (h0:∀rec,F rec (st 0)=G 0)
  (h1:∀rec j,j < k->rec (st j)=G j->F rec (st (j + 1))=G (j + 1)):Zf F NN v=G k:=by
 rw [hv];exact Zua st G k h0 h1 NN k (Uq _) (Kz hk)
def Jc (l:List Note) (i s:Int):Int:=match Zci l s with |some e=>Qc e i |none=> -1
theorem ZE9 {e:Note} {i:Int} (h:Qc e i≠ -1):∃m:Nat,i=(m:Int)/\m < e.lights.length:=by
 unfold Qc at h;split at h
 ·rename_i h0;refine ⟨i.toNat,by omega,?_⟩;split at h
  ·rename_i v hv;exact (List.getElem?_eq_some_iff.1 hv).1
  ·exact absurd rfl h
 ·exact absurd rfl h
theorem ZkB {e:Note} {m:Nat} {v:Int} (h:e.lights[m]? =some v):Qc e (m:Int)=v:=by
 unfold Qc;rw [Ul (by omega),Ux,h]
theorem ZFa (l:List Note) (i s:Int) (h:Sm l/\∀y∈l,YG y):ZiR l i s=some (Jc l i s):=by
 unfold ZiR Jc;simp only [Zp,Zk,Zo,Zn,Zr,ZS,Z3,Z0,ZkA l s h,Zd,ZV,JX,Yu,Qf];rcases J4 l s with ⟨h1,h2⟩ | ⟨j,x,h1,h2,h3,_⟩
 ·simp only [h1,UQ];rw [show inR i 0 (W (((0:Nat):Int) - 1))=false by rw [Zz (by omega) (by omega)];unfold inR;by_cases c:0<=i <;> simp [c];omega];rfl
 ·simp only [h3];have hx:=h.2 x (Yd h1);unfold YG Sm at hx;rw [Zz (by omega) (by omega)];unfold inR Qc;by_cases c:0<=i
  ·obtain ⟨m,rfl⟩:∃m:Nat,i=(m:Int):=⟨i.toNat,by omega⟩
   by_cases c2:m < x.lights.length
   ·have hv:x.lights[m]? =some x.lights[m]:=Ua c2;simp [show (m:Int)<=(x.lights.length:Int) - 1 by omega,Zi hv,hv]
   ·have hv:x.lights[m]? =none:=UP (by omega);simp [show ¬(m:Int)<=(x.lights.length:Int) - 1 by omega,hv]
  ·simp [c]
theorem Zuc (l:List Note) (i s:Int) (h:Sm l/\∀y∈l,YG y):ZfD l i s=some (Jc l i s):=by
 unfold ZfD Jc;simp only [Zp,Zk,Zo,Zn,Zr,ZS,Z3,Z0,Zor l s h,Zd,JJ,V5,JK,Zq,Ztl,ZtN];rcases J4 l s with ⟨h1,h2⟩ | ⟨j,x,h1,h2,h3,_⟩
 ·simp [h1,h2]
 ·simp only [h2,h3,show ¬((j:Int) < 0) by omega,U3,Zh,Zi h1]
def Jd (l:List Note) (i:Int):Nat->Nat
 | 0=>0
 |k + 1=>match l[k]? with
  |some e=>if Qc e i=1 then Jd l i k else k + 1
  |none=>k + 1
def Zcj (l:List Note) (k:Nat):Int:=match l[k]? with |some e=>e.second |none=>0
def VT (l:List Note) (i s:Int):Int:=if Jc l i s=1 then W (s - Zcj l (Jd l i (QX l s).toNat)) else -1
theorem ZFb (l:List Note) (i s:Int) (h:Sm l/\∀y∈l,YG y):ZjF l i s=some (VT l i s):=by
 have hl:=h.1;unfold Sm at hl;unfold ZjF VT Jc;simp only [Zp,Zk,Zo,Zn,Zr,ZS,Z3,Z0,Zor l s h,Zd,JJ,V5,JK,Zq,Ztl,ZtN];rcases J4 l s with ⟨h1,h2⟩ | ⟨j,x,h1,h2,h3,_⟩
 ·simp [h1,h2]
 ·have hj:=(List.getElem?_eq_some_iff.1 h1).1;simp only [h2,h3,show ¬((j:Int) < 0) by omega,U3,Zh,Zi h1,Ux];by_cases c:Qc x i=1
  ·simp only [c,M1,Zh,U1];refine (Zub (fun k=>(l,i,s,(k:Int))) (fun k=>if k<=j then some (W (s - Zcj l (Jd l i k))) else none) j (by omega) rfl ?_ ?_).trans (by simp)
   ·intro rec;have hz:l[0]? =some l[0]:=Ua (by omega);simp [Jd,Zcj,ZfU hz,hz]
   ·intro rec k hk hr;have hk1:W (((k + 1:Nat):Int) - 1)=(k:Int):=by rw [Zz (by omega) (by omega)];omega
    have hz:l[k]? =some l[k]:=Ua (by omega);have hz1:l[k + 1]? =some l[k + 1]:=Ua (by omega);simp only [hk1,Zi hz,Zi hz1,show ((k + 1:Nat):Int) > 0 by omega,Mr,Zs,hr,Jd,hz,Ul (show k + 1<=j by omega),Ul (show k<=j by omega)];by_cases c2:Qc l[k] i=1
    ·simp [c2]
    ·have c3:(Qc l[k] i==1)=false:=by simp [c2]
     simp only [c3,Zh,Uf c2];simp [Zcj,hz1]
  ·have:(Qc x i != 1)=true:=by simp [c]
   simp [this,c]
theorem ZFc (l:List Note) (i s:Int) (h:Sm l/\∀y∈l,YG y):ZiS l i s=some (VT l i s):=by
 have hl:=h.1;unfold Sm at hl;unfold ZiS VT;simp only [Zp,Zk,Zo,Zn,Zr,ZS,Z3,Z0,ZFa l i s h,Zt8 l s h,Zd,JJ,V5,JK,Yu];by_cases c:Jc l i s=1
 ·simp only [c,M1,Zh,U1];unfold Jc at c;rcases J4 l s with ⟨h1,h2⟩ | ⟨j,x,h1,h2,h3,hR⟩
  ·rw [h1] at c;simp at c
  rw [h3] at c;have hj:=(List.getElem?_eq_some_iff.1 h1).1;have hL:=ZfY hR;obtain ⟨m,rfl,hm⟩:=ZE9 (e:=x) (i:=i) (by simp only at c;rw [c];omega);rw [(hL x (Yd h1)).1] at hm;rw [h2];refine (Zub (fun k=>(l,(m:Int),s,(k:Int))) (fun k=>if k<=j then some (W (s - Zcj l (Jd l (m:Int) k))) else none) j (by omega) rfl ?_ ?_).trans (by simp)
  ·intro rec;have hz:l[0]? =some l[0]:=Ua (by omega);simp [Jd,Zcj,ZfU hz,hz]
  ·intro rec k hk hr;have hk1:W (((k + 1:Nat):Int) - 1)=(k:Int):=by rw [Zz (by omega) (by omega)];omega
   have hz:l[k]? =some l[k]:=Ua (by omega);have hz1:l[k + 1]? =some l[k + 1]:=Ua (by omega);have hmk:m < l[k].lights.length:=by rw [(hL _ (Yd hz)).1];exact hm
   have hv:l[k].lights[m]? =some l[k].lights[m]:=Ua hmk;simp only [hk1,Zi hz,Zi hz1,Zi hv,show ((k + 1:Nat):Int) > 0 by omega,Mr,Zs,hr,Jd,hz,ZkB hv,Ul (show k + 1<=j by omega),Ul (show k<=j by omega)];by_cases c2:l[k].lights[m]=1
   ·simp [c2]
   ·have c3:(l[k].lights[m]==1)=false:=by simp [c2]
    simp only [c3,Zh,Uf c2];simp [Zcj,hz1]
 ·have:(Jc l i s != 1)=true:=by simp [c]
  simp [this,c]
def goO (a:Path):List (Path×Int)->Int->Int
 | [],o=>o
 |x::r,o=>goO a r (if o=0/\x.2≠0/\Z1 a x.1=true then x.1.id else o)
def Zf6:Report:=⟨0,0,0,0,0⟩
def Y1 (t:Town) (p s:Int):Report×Bool:=
 if Z7 t=false\/ZD t.paths p < 0\/t.now < s then (Zf6,false) else
 match Zci t.record s with
 |none=>(Zf6,false)
 |some e=>(⟨p,s,Qc e (ZD t.paths p),VT t.record (ZD t.paths p) s,goO (ZQ t.paths p) (t.paths.zip e.lights) 0⟩,true)
theorem Zot {t:Town} (h:Z7 t=true) {e:Note} (he:e∈t.record):e.lights.length=t.paths.length/\∀v∈e.lights,0<=v:=by
 simp only [Z7,Ub,UI] at h;obtain ⟨⟨⟨⟨⟨⟨⟨⟨⟨⟨h1,h2⟩,h3⟩,h4⟩,h5⟩,h6⟩,h7⟩,h8⟩,h9⟩,h10⟩,h11⟩:=h;have:=ZfY h5 e he;exact ⟨this.1.trans h8,this.2.2.2⟩
theorem Zou (t:Town) (p s:Int) (h:Zx t):ZaD t p s=some (Y1 t p s):=by
 obtain ⟨h0,h1,h2,h3,h4⟩:=h;have hp:=h0;unfold Sm at hp;unfold ZaD ZnJ Y1;simp only [Zp,Zk,Zo,Zn,Zr,Zu,Zq,ZK,ZT,ZS,Z3,Z0,Zy,ZW,XI _ _ h0,KK t ⟨h0,h1,h2,h3,h4⟩,ZkA _ _ h4,ZFc _ _ _ h4,Zd,ZV,Yu,Xs];cases hT:Z7 t with
 |false=>rfl
 |true=>
 by_cases hf:ZD t.paths p < 0
 ·simp [hf];rfl
 by_cases hn:t.now < s
 ·simp [hf,hn];rfl
 simp only [hf,hn,U3,Zh,Ui,gt_iff_lt,false_or,Bool.true_eq_false,Mw,Qf];rcases J4 t.record s with ⟨c1,c2⟩ | ⟨j,x,c1,c2,c3,_⟩
 ·simp only [c1];rfl
 simp only [c3,Ui,Zh];obtain ⟨k,y,k1,k2,k3⟩:=JZ hf;obtain ⟨q1,q2⟩:=Zot hT (Yd c1);have hkl:=(List.getElem?_eq_some_iff.1 k1).1;have hv:x.lights[k]? =some x.lights[k]:=Ua (by omega);have hpa:ZQ t.paths p=y:=by unfold ZQ;rw [k2,Ux,k1];rfl
 rw [k2,Zi hv,ZkB hv,hpa];have hz:(t.paths.zip x.lights).length=t.paths.length:=by rw [Fe];omega
 refine (Yc (t.paths.zip x.lights) (by omega) (fun n o=>(((k:Int),x.lights,(n:Int)),t,Zf6,(⟨p,s,x.lights[k],VT t.record (k:Int) s,o⟩:Report))) 0 (fun r _ o=>some ((⟨p,s,x.lights[k],VT t.record (k:Int) s,goO y r o⟩:Report),true)) ?_ ?_ ?_).trans rfl
 ·rfl
 ·intro rec o;simp [goO,hz,q1]
 ·intro rec n z o hz1 hn1 hr;simp only [Uo] at hr;obtain ⟨z1,z2⟩:=ZaP hz1;have hn2:n < x.lights.length:=by omega
  simp [hn2,Zi z1,Zi z2,Zi k1,Zf1,Zw (show n<=9223372036854775806 by omega),goO];by_cases o0:o=0
  ·subst o0;by_cases l0:z.2=0
   ·simp [l0,hr]
   ·have:(z.2 != 0)=true:=by simp [l0]
    simp [this,l0];cases Z1 y z.1 <;> simp [hr]
  ·have:(o==0)=false:=by simp [o0]
   simp [this,o0,hr]
theorem Zov (t:Town) (p s:Int) (h:Zx t):Zdz t p s=some (Y1 t p s):=by
 obtain ⟨h0,h1,h2,h3,h4⟩:=h;have hp:=h0;unfold Sm at hp;unfold Zdz Y1;simp only [Zp,Zk,Zo,Zn,Zr,Zu,Zq,ZK,ZT,ZS,Z3,Z0,Zy,ZW,Qd _ _ h0,KL t ⟨h0,h1,h2,h3,h4⟩,Zuc _ _ _ h4,ZFb _ _ _ h4,Zd,Yp,Yu,Xs];cases hT:Z7 t with
 |false=>rfl
 |true=>
 by_cases hf:ZD t.paths p < 0
 ·simp [hf];rfl
 by_cases hn:t.now < s
 ·simp [hf,hn];rfl
 simp only [hf,hn,U3,Zh,Ui,gt_iff_lt,false_or,Bool.true_eq_false,Mw,Jc];rcases J4 t.record s with ⟨c1,c2⟩ | ⟨j,x,c1,c2,c3,_⟩
 ·simp only [c1];rfl
 simp only [c3];obtain ⟨k,y,k1,k2,k3⟩:=JZ hf;obtain ⟨q1,q2⟩:=Zot hT (Yd c1);have hkl:=(List.getElem?_eq_some_iff.1 k1).1;have hv:x.lights[k]? =some x.lights[k]:=Ua (by omega);have hpa:ZQ t.paths p=y:=by unfold ZQ;rw [k2,Ux,k1];rfl
 rw [k2,ZkB hv,hpa];have hge:¬x.lights[k] < 0:=by have:=q2 _ (Yd hv);omega
 simp only [hge,U3,Zh];have hz:(t.paths.zip x.lights).length=t.paths.length:=by rw [Fe];omega
 refine (Yc (t.paths.zip x.lights) (by omega) (fun n o=>((s,(k:Int),t.paths,(t.paths.length:Int),(n:Int)),t,Zf6,(⟨p,s,x.lights[k],VT t.record (k:Int) s,o⟩:Report))) 0 (fun r _ o=>some ((⟨p,s,x.lights[k],VT t.record (k:Int) s,goO y r o⟩:Report),true)) ?_ ?_ ?_).trans rfl
 ·rfl
 ·intro rec o;simp [goO,hz]
 ·intro rec n z o hz1 hn1 hr;simp only [Uo] at hr;obtain ⟨z1,z2⟩:=ZaP hz1;have hn2:n < t.paths.length:=by omega
  simp [hn2,Zi z1,Zi k1,ZdD,Zuc _ _ _ h4,Jc,c3,ZkB z2,Zw (show n<=9223372036854775806 by omega),goO];by_cases o0:o=0
  ·subst o0;by_cases l0:z.2=0
   ·simp [l0];cases Z1 y z.1 <;> simp [hr]
   ·have:(z.2 != 0)=true:=by simp [l0]
    simp [this,l0];cases Z1 y z.1 <;> simp [hr]
  ·have:(o==0)=false:=by simp [o0]
   simp [this,o0,hr]
def brk (a:Lamp) (path colour:Int):Bool:=a.path==path && (a.colour==colour && a.broken)
def broken (x:List Lamp) (path colour:Int):Bool:=x.any fun a=>brk a path colour
theorem ZFd {α V:Type} (l:List α) (p:α->Bool) (hl:l.length<=1099511627776) (st:Nat->V) {F:(V->Option Bool)->V->Option Bool} {v:V} (hv:v=st 0)
  (h0:∀rec,F rec (st l.length)=some false)
  (h1:∀rec k x,l[k]? =some x->k < l.length->F rec (st k)=if p x=true then some true else rec (st (k + 1))):Zf F NN v=some (l.any p):=by
 refine (Yc l (by omega) (fun k (_:Unit)=>st k) () (fun s _ _=>some (s.any p)) hv ?_ ?_).trans rfl
 ·intro rec _;rw [h0];rfl
 ·intro rec k x _ hx hk hr;rw [h1 rec k x hx hk,FK];cases p x with
  |true=>simp
  |false=>simpa using hr ()
theorem ZFe (x:List Lamp) (path colour:Int) (h:Sm x):Zfa x path colour=some (broken x path colour):=by
 unfold Sm at h;unfold Zfa broken;simp only [ZT,JI];refine ZFd x (fun a=>brk a path colour) (by omega) (fun k=>(x,path,colour,(k:Int))) rfl ?_ ?_
 ·intro rec;simp
 ·intro rec k a ha hk;simp only [brk];simp [hk,Zi ha,Zw (show k<=9223372036854775806 by omega)];by_cases c1:a.path=path
  ·by_cases c2:a.colour=colour
   ·cases hb:a.broken <;> simp [c1,c2]
   ·simp [c1,c2,show (a.colour==colour)=false by simp [c2]]
  ·simp [c1,show (a.path==path)=false by simp [c1]]
theorem ZFf (x:List Lamp) (path colour:Int) (h:Sm x):Zfw x path colour=some (broken x path colour):=by
 unfold Sm at h;unfold Zfw ZnX ZnW broken;simp only [ZT,JI,ZaN];generalize hI:Zf (_:((List Lamp×Int×Int)×Lamp->Option Int)->_->Option Int) NN _=J0;have hI':J0=match x.findIdx? (fun a=>brk a path colour) with |some i=>some (i:Int) |none=>some (-1):=by
  rw [←hI];refine Zcf x (fun a=>brk a path colour) (by omega) (fun k=>((x,(x.length:Int),(k:Int)),(⟨path,colour,true⟩:Lamp))) (fun i=>some (i:Int)) (some (-1)) rfl ?_ ?_
  ·intro rec;simp
  ·intro rec k a ha hk;have e:eqB [I path,I colour,Bl true] [I a.path,I a.colour,Bl a.broken]=brk a path colour:=by
    show (path==a.path && (colour==a.colour && (true==a.broken)))=(a.path==path && (a.colour==colour && a.broken))
    rw [Bool.eq_iff_iff];simp only [Ub,Fz];exact ⟨fun ⟨h1,h2,h3⟩=>⟨h1.symm,h2.symm,h3.symm⟩,fun ⟨h1,h2,h3⟩=>⟨h1.symm,h2.symm,h3.symm⟩⟩
   simp [hk,Zi ha,e,Zw (show k<=9223372036854775806 by omega),ZB]
 rw [hI',←Zce];cases x.findIdx? (fun a=>brk a path colour) <;> simp
def Zf7 (x:List Lamp) (z:Path×Int):Int:=if (z.2=0\/z.2=1)/\broken x z.1.id z.2=true then -1 else z.2
def ZdI (l:List Path) (x:List Lamp) (v:List Int):List Int:=if v.length=l.length then (l.zip v).map (Zf7 x) else []
theorem ZFg (l:List Path) (x:List Lamp) (v:List Int) (h:Sm l) (hx:Sm x):Ziw l x v=some (ZdI l x v):=by
 have hl:=h;unfold Sm at hl;unfold Ziw ZdI;simp only [Zp,Zk,Zo,Zn,Zr,Zu,ZT,Zq,Yp,ZV];by_cases c:v.length=l.length
 ·rw [Ul c];have hz:(l.zip v).length=l.length:=by rw [Fe];omega
  refine ZdF (l.zip v) (Zf7 x) (by omega) (fun k acc=>(l,x,v,acc,(k:Int))) some rfl ?_ ?_
  ·intro rec acc ha;simp [hz]
  ·intro rec k z acc hzk hk ha;obtain ⟨z1,z2⟩:=ZaP hzk;simp [show k < l.length by omega,c,Zi z1,Zi z2,ZFe x _ _ hx,Zw (show k<=9223372036854775806 by omega),ha,show (k + 1) * 8<=140737488355328 by omega,show k<=1152921504606846975 by omega,Zf7];by_cases a0:z.2=0
   ·simp [a0];cases broken x z.1.id 0 <;> simp
   ·by_cases a1:z.2=1
    ·simp [a1];cases broken x z.1.id 1 <;> simp
    ·simp [a0,a1,show (z.2==0)=false by simp [a0],show (z.2==1)=false by simp [a1]]
 ·rw [Uf c];refine (Yc l (by omega) (fun k (_:Unit)=>(l,x,v,([]:List Int),(k:Int))) () (fun _ _ _=>some []) rfl ?_ ?_).trans rfl
  ·intro rec _;simp
  ·intro rec k p _ hp hk hr;have:((v.length:Int)==(l.length:Int))=false:=by simp;omega
   simp [hk,this]
theorem ZFh (l:List Path) (x:List Lamp) (v:List Int) (h:Sm l) (hx:Sm x):Zju l x v=some (ZdI l x v):=by
 have hl:=h;unfold Sm at hl;unfold Zju ZdI;simp only [Zp,Zk,Zo,Zn,Zr,Zu,ZT,Zq,Yp,ZV];by_cases c:v.length=l.length
 ·rw [Ul c,show (((v.length:Nat):Int) != ((l.length:Nat):Int))=false by simp [c],Zh];have hz:(l.zip v).length=l.length:=by rw [Fe];omega
  refine ZdF (l.zip v) (Zf7 x) (by omega) (fun k acc=>(x,v,acc,l,(l.length:Int),(k:Int))) some rfl ?_ ?_
  ·intro rec acc ha;simp [hz]
  ·intro rec k z acc hzk hk ha;obtain ⟨z1,z2⟩:=ZaP hzk;simp [show k < l.length by omega,Zi z1,Zi z2,ZFf x _ _ hx,Zw (show k<=9223372036854775806 by omega),ha,show (k + 1) * 8<=140737488355328 by omega,show k<=1152921504606846975 by omega,Zf7];by_cases a0:z.2=0
   ·simp [a0];cases broken x z.1.id 0 <;> simp
   ·by_cases a1:z.2=1
    ·simp [a1];cases broken x z.1.id 1 <;> simp
    ·simp [a0,a1,show (z.2==0)=false by simp [a0],show (z.2==1)=false by simp [a1]]
 ·rw [Uf c,show (((v.length:Nat):Int) != ((l.length:Nat):Int))=true by simp;omega,Zs]
def Zck (t:Town):List Int:=if Ye t.paths t.lamps t.power=0 then ZdI t.paths t.lamps (Yz t) else t.paths.map fun _=> -1
theorem ZFi (t:Town) (h:Zx t):Zix t=some (Zck t):=by
 have h':=h;obtain ⟨h0,h1,h2,h3,h4⟩:=h;have e1:QP t=some (Ye t.paths t.lamps t.power):=by unfold QP;simp [Zkt _ _ _ h0 h3]
 unfold Zix Zck;simp only [Zp,Zk,Zo,Zn,Zr,Zu,ZK,ZT,Zq,ZS,Z3,Z0,Zy,ZW,e1,Zd,ZaN,Zf3 t h',ZFg _ _ _ h0 h3,Zt1 t _ h0,ZB,Fz];split <;> rfl
theorem ZFj (t:Town) (h:Zx t):Zjv t=some (Zck t):=by
 have h':=h;obtain ⟨h0,h1,h2,h3,h4⟩:=h;have e1:QT t=some (Ye t.paths t.lamps t.power):=by unfold QT;simp [Zku _ _ _ h0 h3]
 unfold Zjv Zck;simp only [Zp,Zk,Zo,Zn,Zr,Zu,ZK,ZT,Zq,ZS,Z3,Z0,Zy,ZW,e1,Zd,ZaN,Zf4 t h',ZFh _ _ _ h0 h3,Zt0 _ _ h0,ZB,bne_iff_ne];by_cases c:Ye t.paths t.lamps t.power=0 <;> simp [c]
theorem ZFk (t:Town) (h:Zx t):Sm (Zck t):=by
 have h0:=h.1;unfold Sm Zck ZdI at *
 split
 ·split
  ·simp;omega
  ·simp
 ·simpa using h0
def Vq (l:List Path) (x:Int):Bool:= !decide (ZD l x < 0) && (ZQ l x).kind==2
def YS (l:List Path) (ids:List Int):Int:=if ids.all (fun x=> !Vq l x)=true then 5 else 7
theorem ZkC (l:List Path) (ids:List Int) (h:Sm l) (hi:Sm ids):ZbY l ids=some (YS l ids):=by
 unfold Sm at hi;unfold ZbY YS;simp only [Zp,Zk,Zo,Zn,Zr,Zu,Zq,ZV];refine (Xv ids (fun x=> !Vq l x) (by omega) (fun k=>(l,ids,(k:Int))) (some 5) (some 7) rfl ?_ ?_).trans (by split <;> rfl)
 ·intro rec;simp
 ·intro rec k x hx hk;simp [hk,Zi hx,Zw (show k<=9223372036854775806 by omega),XI l _ h,Vq];by_cases c:ZD l x < 0
  ·have:¬(0<=ZD l x):=by omega
   simp [c,this,ZB]
  ·have:0<=ZD l x:=by omega
   simp [c,this,ZB,Xd c]
theorem ZkD (l:List Path) (ids:List Int) (h:Sm l) (hi:Sm ids):Zb7 l ids=some (YS l ids):=by
 unfold Sm at hi;unfold Zb7 YS;simp only [Zp,Zk,Zo,Zn,Zr,Zu,Zq,ZV];refine (Xv ids (fun x=> !Vq l x) (by omega) (fun k=>(l,ids,(ids.length:Int),(k:Int))) (some 5) (some 7) rfl ?_ ?_).trans (by split <;> rfl)
 ·intro rec;simp
 ·intro rec k x hx hk;simp [hk,Zi hx,Zw (show k<=9223372036854775806 by omega),Qd l _ h,Vq];by_cases c:ZD l x < 0
  ·have:¬(0<=ZD l x):=by omega
   simp [c,this,ZB]
  ·have:0<=ZD l x:=by omega
   simp [c,this,ZB,Xd c]
def SmS (st:List (List Int)):Prop:=Sm st/\∀y∈st,Sm y
def cov (st:List (List Int)) (id:Int):Bool:=st.any fun s=>has s id
def ZaR (l:List Path) (st:List (List Int)):Bool:=ZJ l && (st.all (ZH l) && l.all fun p=>cov st p.id)
theorem Zud (st:List (List Int)) (id:Int) (h:SmS st):Zfl st id=some (cov st id):=by
 obtain ⟨h1,h2⟩:=h;unfold Sm at h1;unfold Zfl ZnN ZnM cov;simp only [Zat,Vg,ZaN];generalize hI:Zf (_:(List (List Int)×Int×Int×Int->Option Int)->_->Option Int) NN _=I;have hI':I=match st.findIdx? (fun s=>has s id) with |some i=>some (i:Int) |none=>some (-1):=by
  rw [←hI];refine Zcf st (fun s=>has s id) (by omega) (fun k=>(st,id,(st.length:Int),(k:Int))) (fun i=>some (i:Int)) (some (-1)) rfl ?_ ?_
  ·intro rec;simp
  ·intro rec k x hx hk;simp [hk,Zi hx,Zw (show k<=9223372036854775806 by omega),ZnL,Ja x _ (h2 x (Uk hx)),ZB]
 rw [hI',←Zce];cases st.findIdx? (fun s=>has s id) <;> simp
theorem ZFl (l:List Path) (st:List (List Int)) (h:Sm l) (hs:SmS st):Zjy l st=some (ZaR l st):=by
 have hs':=hs;obtain ⟨h1,h2⟩:=hs;unfold Sm at h1;have hl:=h;unfold Sm at hl;unfold Zjy ZaR;simp only [Zp,Zk,Zo,Zn,Zr,Zu,Zat,Vg,Yp,JW l h,Zd];cases ZJ l with
 |false=>simp
 |true=>
 simp only [Ui,Zh];refine (Xv st (ZH l) (by omega) (fun k=>(l,st,st,(st.length:Int),(k:Int))) (some (l.all fun p=>cov st p.id)) (some false) rfl ?_ ?_).trans (by cases st.all (ZH l) <;> rfl)
 ·intro rec;simp;refine (Xv l (fun p=>cov st p.id) (by omega) (fun k=>(st,l,(l.length:Int),(k:Int))) (some true) (some false) rfl ?_ ?_).trans (by cases l.all (fun p=>cov st p.id) <;> rfl)
  ·intro rec;simp
  ·intro rec k x hx hk;simp [hk,Zi hx,Zw (show k<=9223372036854775806 by omega),Zud st _ hs'];cases cov st x.id <;> simp
 ·intro rec k x hx hk;simp [hk,Zi hx,Zw (show k<=9223372036854775806 by omega),KG l x h (h2 x (Uk hx))];cases ZH l x <;> simp
theorem ZFm (l:List Path) (st:List (List Int)) (h:Sm l) (hs:SmS st):ZiB l st=some (ZaR l st):=by
 obtain ⟨h1,h2⟩:=hs;unfold Sm at h1;have hl:=h;unfold Sm at hl;unfold ZiB ZaR;simp only [Zp,Zk,Zo,Zn,Zr,Zu,Zat,Vg,Yp];refine (Xv st (ZH l) (by omega) (fun k=>(l,st,(k:Int))) (if (l.all fun p=>cov st p.id)=true then some (ZJ l) else some false) (some false) rfl ?_ ?_).trans (by cases st.all (ZH l) <;> cases (l.all fun p=>cov st p.id) <;> cases ZJ l <;> rfl)
 ·intro rec;simp;refine (Xv l (fun p=>cov st p.id) (by omega) (fun k=>(l,st,(k:Int))) (some (ZJ l)) (some false) rfl ?_ ?_).trans (by simp)
  ·intro rec;simp [V9 l h]
  ·intro rec k x hx hk;simp [hk];refine (Yc st (by omega) (fun j (b:Bool)=>(l,st,(k:Int),b,(j:Int))) false (fun s _ b=>if (b || cov s x.id)=true then rec (l,st,(k:Int) + 1) else some false) rfl ?_ ?_).trans (by simp)
   ·intro rec2 b;cases b <;> simp [cov,Zw (show k<=9223372036854775806 by omega)]
   ·intro rec2 j y b hy hj hr;simp only [Uo] at hr;cases b with
    |true=>
     simp [hj,Zw (show j<=9223372036854775806 by omega),hr]
    |false=>
     simp [hj,Zi hy,Zi hx,Zw (show j<=9223372036854775806 by omega),QV y _ (h2 y (Uk hy)),hr,cov]
 ·intro rec k x hx hk;simp [hk,Zi hx,Zw (show k<=9223372036854775806 by omega),VQ l x h (h2 x (Uk hx))];cases ZH l x <;> simp
def SmL (p:List Part):Prop:=Sm p/\∀y∈p,Zki y
def Je (l:List Path) (x:Part):Bool:= !x.stage.isEmpty && (ZH l x.stage && inR x.green (YS l x.stage) 60)
def XL (p:List Part):List (List Int):=p.map (·.stage)
def Ym (l:List Path) (p:List Part):Bool:=inR p.length 1 6 && (p.all (Je l) && ZaR l (XL p))
theorem Zue {p:List Part} (h:SmL p):SmS (XL p):=by
 refine ⟨by have:=h.1;unfold Sm XL at *;simpa using this,fun y hy=> ?_⟩;obtain ⟨x,hx,rfl⟩:=List.mem_map.1 hy;exact h.2 x hx
theorem Zuf (l:List (List Int)) (a:List Int):l.map (Zg (rX .shr 1 iR)).enc ++ [[.slc .shr 1 (a.map iR.enc)]]=(l ++ [a]).map (Zg (rX .shr 1 iR)).enc:=(UY (f:=(Zg (rX .shr 1 iR)).enc) (l₁:=l) (l₂:= [a])).symm
theorem ZFn (p:List Part) (h:SmL p):ZiA p=some (XL p):=by
 have h1:=h.1;unfold Sm at h1;unfold ZiA XL;simp only [Xm,ZeS];refine ZfZ p (·.stage) (by omega) (fun k acc=>(p,acc,(k:Int))) some rfl ?_ ?_
 ·intro rec acc ha;simp
 ·intro rec k x acc hx hk ha;simp [Zuf,hk,Zi hx,Zw (show k<=9223372036854775806 by omega),ha,show (k + 1) * 24<=140737488355328 by omega,show k<=1152921504606846975 by omega]
theorem Zug (x:List Int):((x.length:Int)==0)=x.isEmpty:=by
 cases x with
 |nil=>rfl
 |cons a x=>simp;omega
theorem Zow (l:List Path) (p:List Part) (h:Sm l) (hp:SmL p):Zfb l p=some (Ym l p):=by
 have h1:=hp.1;unfold Sm at h1;unfold Zfb Ym;simp only [Zp,Zk,Zo,Zn,Zr,Zu,Xm,ZeS,V8,Zd,inR];cases (decide (1<=(p.length:Int)) && decide ((p.length:Int)<=6)) with
 |false=>simp
 |true=>
 simp only [Ui,Zh];refine (Xv p (Je l) (by omega) (fun k=>(l,p,(k:Int))) (some (ZaR l (XL p))) (some false) rfl ?_ ?_).trans (by cases p.all (Je l) <;> rfl)
 ·intro rec;simp [ZFn p hp,ZFm l _ h (Zue hp)]
 ·intro rec k x hx hk;have hx':Sm x.stage:=hp.2 x (Uk hx);simp [hk,Zi hx,Zw (show k<=9223372036854775806 by omega),VQ l _ h hx',ZkC l _ h hx',Zug,V8];unfold Je inR;cases x.stage.isEmpty <;> cases ZH l x.stage <;> cases decide (YS l x.stage<=x.green) <;> cases decide (x.green<=60) <;> simp
theorem Zuh (l:List Path) (p:List Part) (h:Sm l) (hp:SmL p):Zfx l p=some (Ym l p):=by
 have h1:=hp.1;unfold Sm at h1;unfold Zfx Ym;simp only [Zp,Zk,Zo,Zn,Zr,Zu,Xm,ZeS,KE,Zd,inR];cases (decide (1<=(p.length:Int)) && decide ((p.length:Int)<=6)) with
 |false=>simp
 |true=>
 simp only [Ui,Zh];refine (Yj p (by omega) (fun k acc=>(l,acc,p,(p.length:Int),(k:Int))) [] (fun k acc=>acc=XL (p.take k)) rfl (fun s _ _=>if s.all (Je l)=true then some (ZaR l (XL p)) else some false) rfl ?_ ?_).trans (by cases p.all (Je l) <;> rfl)
 ·intro rec acc ha;rw [MT] at ha;subst ha;simp [ZFl l _ h (Zue hp)]
 ·intro rec k x acc ha hx hk hr;have hx':Sm x.stage:=hp.2 x (Uk hx);have hal:acc.length=k:=by rw [ha];simp [XL];omega
  simp only [Uo] at hr;simp [Zuf,hk,Zi hx,Zw (show k<=9223372036854775806 by omega),KG l _ h hx',ZkD l _ h hx',Zug,KE,hal,show (k + 1) * 24<=140737488355328 by omega,show k<=1152921504606846975 by omega,-List.all_cons,-List.all_eq_true];rw [hr _ (by rw [ha];simp [XL,MF,hx])];rw [MA];unfold Je inR;generalize (List.drop (k + 1) p).all _=b;cases x.stage.isEmpty <;> cases ZH l x.stage <;> cases decide (YS l x.stage<=x.green) <;> cases decide (x.green<=60) <;> cases b <;> simp
theorem Zox (p:Path):0<=YZ p/\YZ p<=5:=by
 unfold YZ;split
 ·split
  ·omega
  ·split <;> omega
 ·omega
theorem Zoy {α:Type} (f:Int->α->Int) (hf:∀n x,0<=n/\n<=5->0<=f n x/\f n x<=5):∀(l:List α) (n:Int),0<=n/\n<=5->0<=l.foldl f n/\l.foldl f n<=5
 | [],n,h=>h
 |x::l,n,h=>Zoy f hf l _ (hf n x h)
theorem ZFo (l:List Path) (a b:List Int):0<=Yy l a b/\Yy l a b<=5:=by
 unfold Yy;split
 ·refine Zoy _ (fun n x hn=>Zoy _ (fun n y hn=> ?_) _ n hn) _ 0 (by omega);unfold Vn KH;have:=Zox (ZQ l x);split
  ·split <;> omega
  ·exact hn
 ·omega
theorem ZFp (l:List Path) (ids:List Int):5<=YS l ids/\YS l ids<=7:=by
 unfold YS;split <;> omega
theorem ZaS {l:List Path} {p:List Part} (h:Ym l p=true):1<=p.length/\p.length<=6/\(∀x∈p,5<=x.green/\x.green<=60)/\ZJ l=true:=by
 unfold Ym ZaR at h;simp only [Ub,MS] at h;obtain ⟨h1,h2,h3,_⟩:=h;unfold inR at h1;simp at h1;refine ⟨by omega,by omega,fun x hx=> ?_,h3⟩;have:=h2 x hx;unfold Je inR at this;simp at this;have:=ZFp l x.stage;omega
def Jf (p:List Part) (i:Nat):Part:=(p[(i + 1) % p.length]?).getD default
def lg (l:List Path) (p:List Part) (i:Nat):Nat:=match p[i]? with
 |some x=>(x.green + Yy l x.stage (Jf p i).stage).toNat
 |none=>0
theorem Zui {p:List Part} (h:1<=p.length) (i:Nat):p[(i + 1) % p.length]? =some (Jf p i):=by
 unfold Jf;have:(i + 1) % p.length < p.length:=Nat.mod_lt _ (by omega);rw [Ua this];rfl
theorem Zf8 {a b:Nat}:Int.tmod (a:Int) (b:Int)=((a % b:Nat):Int):=by
 rw [Int.tmod_eq_emod_of_nonneg (by omega)];omega
theorem Zoz {p:List Part} (h:1<=p.length) (i:Nat) {β:Type} (K:Part->Option β):Z4 p (((i:Int) + 1) % (p.length:Int)) K=K (Jf p i):=by
 have:=Zi (Zui h i) K;rw [Int.natCast_emod] at this;simpa using this
theorem Zuj {α:Type} {p:List α} (h:1<=p.length):¬p= []:=by intro e;rw [e] at h;simp at h
theorem ZkE {p:List Part} (hp:SmL p) (h:1<=p.length) (i:Nat):Sm (Jf p i).stage:=hp.2 _ (Uk (Zui h i))
theorem Zcl {l:List Path} {p:List Part} (h:Ym l p=true) {i:Nat} {x:Part} (hx:p[i]? =some x):((lg l p i:Nat):Int)=x.green + Yy l x.stage (Jf p i).stage/\5<=lg l p i/\lg l p i<=65:=by
 obtain ⟨h1,h2,h3,_⟩:=ZaS h;have:=h3 x (Uk hx);have:=ZFo l x.stage (Jf p i).stage;unfold lg;rw [hx];simp only;omega
theorem Zuk (p:List Part) (hp:SmL p) (h1:1<=p.length) (i:Nat) (hi:i < p.length):ZfA p (i:Int)=some (Jf p i).stage:=by
 have hs:=hp.1;unfold Sm at hs;unfold ZfA;have e:Int.tmod ((i:Int) + 1) (p.length:Int)=(((i + 1) % p.length:Nat):Int):=Zf8 (a:=i + 1);simp [Zw (show i<=9223372036854775806 by omega),e,Zoz h1 i,show ¬p.length=0 by omega]
theorem Zul (l:List Path) (p:List Part) (h:Sm l) (hp:SmL p) (hpl:Ym l p=true) (i:Nat) (hi:i < p.length):Zdu l p (i:Int)=some (lg l p i:Int):=by
 obtain ⟨h1,_,_,_⟩:=ZaS hpl;have hx:p[i]? =some p[i]:=Ua hi;obtain ⟨e1,e2,e3⟩:=Zcl hpl hx;unfold Zdu;simp [Zi hx,Zuk p hp h1 i hi,Zkq l _ _ h (hp.2 _ (Uk hx)) (ZkE hp h1 i)];rw [←e1,Zz (by omega) (by omega)]
theorem Zum (l:List Path) (p:List Part) (h:Sm l) (hp:SmL p) (hpl:Ym l p=true) (i:Nat) (hi:i < p.length):ZiN l p (i:Int)=some (lg l p i:Int):=by
 have hs:=hp.1;unfold Sm at hs;obtain ⟨h1,_,_,_⟩:=ZaS hpl;have hx:p[i]? =some p[i]:=Ua hi;obtain ⟨e1,e2,e3⟩:=Zcl hpl hx;have e:Int.tmod ((i:Int) + 1) (p.length:Int)=(((i + 1) % p.length:Nat):Int):=Zf8 (a:=i + 1);unfold ZiN;simp [Zi hx,Zw (show i<=9223372036854775806 by omega),e,Zoz h1 i,Zkr l _ _ h (hp.2 _ (Uk hx)) (ZkE hp h1 i)];rw [Zt (Zuj h1),←e1,Zz (by omega) (by omega)]
def Yn (l:List Path) (p:List Part):List Nat:=(List.range p.length).map (lg l p)
def cyc (l:List Path) (p:List Part):Nat:=if Ym l p=true then (Yn l p).sum else 0
theorem ZFq (l:List Nat) (k:Nat) (x:Nat) (hx:l[k]? =some x):(l.take (k + 1)).sum=(l.take k).sum + x:=by
 rw [MF,hx];simp
theorem ZoA {l:List Path} {p:List Part} {k:Nat} (h:k < p.length):(Yn l p)[k]? =some (lg l p k):=by
 unfold Yn;simp [h]
theorem ZdJ (l:List Path) (p:List Part):(Yn l p).length=p.length:=by unfold Yn;simp
theorem ZFr (l:List Nat) (c:Nat) (h:∀x∈l,x<=c):l.sum<=l.length * c:=by
 induction l with
 |nil=>simp
 |cons x l ih=>
  have h1:=h x (Uj ..);have h2:=ih fun y hy=>h y (Ug _ hy)
  simp only [List.sum_cons,UJ,UX,MK];omega
theorem Zun {l:List Path} {p:List Part} (h:Ym l p=true) (k:Nat):((Yn l p).take k).sum<=390:=by
 have h1:=ZFr ((Yn l p).take k) 65 (fun x hx=>by
  have:=MJ hx;unfold Yn at this;obtain ⟨i,hi,rfl⟩:=List.mem_map.1 this;have hi':i < p.length:=by simpa using hi
  exact (Zcl h (Ua hi')).2.2)
 have h2:((Yn l p).take k).length<=6:=by
  have:=(ZaS h).2.1;rw [Uc,ZdJ];omega
 have:=UL 65 h2;omega
theorem ZdK {l:List Path} {p:List Part} (h:Ym l p=true):5<=cyc l p/\cyc l p<=390:=by
 have h1:=(ZaS h).1;unfold cyc;rw [Ul h];have e:=Zun h p.length;rw [U4 (by rw [ZdJ];omega)] at e;refine ⟨?_,e⟩;have h0:(Yn l p)[0]? =some (lg l p 0):=ZoA (by omega);have h2:=(Zcl h (Ua (show 0 < p.length by omega))).2.1;cases hl:Yn l p with
 |nil=>rw [hl] at h0;cases h0
 |cons x r=>
  rw [hl] at h0;simp at h0;subst h0;simp only [List.sum_cons];omega
theorem ZoB (l:List Path) (p:List Part) (h:Sm l) (hp:SmL p):ZfB l p=some (cyc l p:Int):=by
 have hs:=hp.1;unfold Sm at hs;unfold ZfB;simp only [Zu,Xm,ZeS,Zuh l p h hp,Zd];cases hpl:Ym l p with
 |false=>simp [cyc,hpl]
 |true=>
 simp only [Ui,Zh];refine (Yj p (by omega) (fun k acc=>(l,p,acc,(p.length:Int),(k:Int))) (0:Int) (fun k acc=>acc=(((Yn l p).take k).sum:Nat)) (by simp) (fun _ _ _=>some (cyc l p:Int)) rfl ?_ ?_).trans rfl
 ·intro rec acc ha;rw [U4 (by rw [ZdJ];omega)] at ha;simp [ha,cyc,hpl]
 ·intro rec k x acc ha hx hk hr;simp only [Uo] at hr;have e:=Zun hpl k;have e2:=(Zcl hpl hx).2.2;simp [hk,Zul l p h hp hpl k hk,Zw (show k<=9223372036854775806 by omega)];rw [Zz (by omega) (by omega)];exact hr _ (by rw [ha,ZFq _ _ _ (ZoA hk)];omega)
def li (l:List Path) (p:List Part) (id:Int) (i s:Nat):Int:=match p[i]? with
 |some x=>if has x.stage id=true then (if (s:Int) < x.green\/has (Jf p i).stage id=true then 1 else if (s:Int) < x.green + YZ (ZQ l id) then 2 else 0) else 0
 |none=>0
theorem ZFs (l:List Path) (p:List Part) (h:Sm l) (hp:SmL p) (hpl:Ym l p=true) (id:Int) (hid:¬ZD l id < 0) (i s:Nat) (hi:i < p.length):ZiO l p (i:Int) (s:Int) id=some (li l p id i s):=by
 have hs:=hp.1;unfold Sm at hs;obtain ⟨h1,_,h3,_⟩:=ZaS hpl;have hx:p[i]? =some p[i]:=Ua hi;have hg:=h3 _ (Uk hx);have hc:=Zox (ZQ l id);have e:Int.tmod ((i:Int) + 1) (p.length:Int)=(((i + 1) % p.length:Nat):Int):=Zf8 (a:=i + 1);unfold ZiO li;rw [hx];simp [Zi hx,Zw (show i<=9223372036854775806 by omega),e,Zoz h1 i,QV _ _ (hp.2 _ (Uk hx)),QV _ _ (ZkE hp h1 i),XI l _ h,Xd hid,Zod,Zz (show -9223372036854775808<=p[i].green + YZ (ZQ l id) by omega) (by omega)];rw [Zt (Zuj h1)];cases has p[i].stage id with
 |false=>simp
 |true=>
  simp [ZB];by_cases c1:(s:Int) < p[i].green
  ·simp [c1]
  ·simp [c1];cases has (Jf p i).stage id with
   |true=>simp
   |false=>
    simp;by_cases c2:(s:Int) < p[i].green + YZ (ZQ l id) <;> simp [c2]
def goA:List Nat->Nat->Nat->Nat×Nat
 | [],s,i=>(i,s)
 |n::r,s,i=>if s < n then (i,s) else goA r (s - n) (i + 1)
theorem Zuo:∀(r:List Nat) (s i:Nat),s < r.sum->(goA r s i).1 < i + r.length/\i<=(goA r s i).1
 | [],s,i,h=>by simp at h
 |n::r,s,i,h=>by
  unfold goA;split
  ·simp
  ·have:=Zuo r (s - n) (i + 1) (by simp at h;omega);simp only [UJ];omega
theorem Zup {V:Type} {F:(V->Option (Int×Int))->V->Option (Int×Int)} (L:List Nat) (st:Int->Int->V) (hl:L.sum<=390)
  (h1:∀rec (i s:Nat) n,L[i]? =some n->s<=390->F rec (st (s:Int) (i:Int))=if s < n then some ((i:Int),(s:Int)) else rec (st ((s - n:Nat):Int) ((i + 1:Nat):Int))):
  ∀(m:Nat) (i s:Nat),L.length - i < m->s < (L.drop i).sum->Zf F m (st (s:Int) (i:Int))=some (((goA (L.drop i) s i).1:Int),((goA (L.drop i) s i).2:Int))
 | 0,i,s,hm,_=>by omega
 |m + 1,i,s,hm,hs=>by
  rw [Ve];rcases U2 i L.length with hlt |hge
  ·have hx:L[i]? =some L[i]:=Ua hlt;have hle:(L.drop i).sum<=L.sum:=by
    conv=>rhs;rw [←Up i L]
    rw [List.sum_append];omega
   rw [h1 _ i s _ hx (by omega)];rw [UF hlt] at hs ⊢;simp only [List.sum_cons] at hs;unfold goA;split
   ·rfl
   ·exact Zup L st hl h1 m (i + 1) (s - L[i]) (by omega) (by omega)
  ·rw [List.drop_of_length_le hge] at hs;simp at hs
theorem ZFt {V:Type} (L:List Nat) (st:Int->Int->V) (hl:L.sum<=390) (hl2:L.length<=1048576) {F:(V->Option (Int×Int))->V->Option (Int×Int)} {v:V} (t:Nat) (ht:t < L.sum) (hv:v=st (t:Int) 0)
  (h1:∀rec (i s:Nat) n,L[i]? =some n->s<=390->F rec (st (s:Int) (i:Int))=if s < n then some ((i:Int),(s:Int)) else rec (st ((s - n:Nat):Int) ((i + 1:Nat):Int))):
  Zf F NN v=some (((goA L t 0).1:Int),((goA L t 0).2:Int)):=by
 rw [hv];exact Zup L st hl h1 NN 0 t (Kz (by omega)) (by simpa using ht)
theorem ZFu (l:List Path) (p:List Part) (h:Sm l) (hp:SmL p) (hpl:Ym l p=true) (t:Nat) (ht:t < cyc l p):ZjC l p (t:Int)=some (((goA (Yn l p) t 0).1:Int),((goA (Yn l p) t 0).2:Int)):=by
 have hs:=hp.1;unfold Sm at hs;obtain ⟨c1,c2⟩:=ZdK hpl;have hc:cyc l p=(Yn l p).sum:=by unfold cyc;rw [Ul hpl]
 have e:Int.tmod (t:Int) (cyc l p:Int)=(t:Int):=by rw [Zf8,Nat.mod_eq_of_lt ht]
 unfold ZjC;simp [ZoB l p h hp,KE,show ¬(cyc l p:Int)=0 by omega,show ((cyc l p:Int)==0)=false by simp;omega,show (t:Int)<=1000000 by omega,e,show ¬cyc l p=0 by omega,show (cyc l p==0)=false by simp;omega];refine ZFt (Yn l p) (fun s i=>(l,p,s,i)) (by omega) (by rw [ZdJ];omega) t (by omega) rfl fun rec i s n hn hs'=> ?_
 have hi:i < p.length:=by
  have:=(List.getElem?_eq_some_iff.1 hn).1
  rwa [ZdJ] at this
 rw [ZoA hi] at hn;cases hn;have e2:=(Zcl hpl (Ua hi)).2.2;simp [Zul l p h hp hpl i hi,Zw (show i<=9223372036854775806 by omega),Zz (show -9223372036854775808<=(s:Int) - (lg l p i:Int) by omega) (by omega),ZB];by_cases c:lg l p i<=s
 ·rw [Ul c,Uf (by omega),Int.natCast_sub c]
 ·rw [Uf c,Ul (by omega)]
theorem ZFv (l:List Path) (p:List Part) (hpl:Ym l p=true) (t:Nat) (ht:t < cyc l p):(goA (Yn l p) t 0).1 < p.length:=by
 have hc:cyc l p=(Yn l p).sum:=by unfold cyc;rw [Ul hpl]
 have:=Zuo (Yn l p) t 0 (by omega);rw [ZdJ] at this;omega
theorem ZFw (l:List Path) (p:List Part) (h:Sm l) (hp:SmL p) (hpl:Ym l p=true) (id:Int) (hid:¬ZD l id < 0) (t:Nat) (ht:t < cyc l p):ZjD l p (t:Int) id=some (li l p id (goA (Yn l p) t 0).1 (goA (Yn l p) t 0).2):=by
 have hs:=hp.1;unfold Sm at hs;have hi:=ZFv l p hpl t ht;obtain ⟨_,x,_,_,hxid⟩:=JZ hid;have hpid:(ZQ l id).id=id:=by
  obtain ⟨i,x,h1,h2,h3⟩:=JZ hid;unfold ZQ;rw [h2,Ux,h1];exact h3
 unfold ZjD ZnY;generalize hgi:(goA (Yn l p) t 0).1=i at hi;generalize hgs:(goA (Yn l p) t 0).2=s;have hx:p[i]? =some p[i]:=Ua hi;obtain ⟨h1,_,h3,_⟩:=ZaS hpl;have hg:=h3 _ (Uk hx);have hc:=Zox (ZQ l id);unfold li;rw [hx];simp [Qd l _ h,hid,Xd hid,ZFu l p h hp hpl t ht,hgi,hgs,Zi hx,hpid,Ja _ _ (hp.2 _ (Uk hx)),Zuk p hp h1 i hi,Ja _ _ (ZkE hp h1 i),Zoe,Zz (show -9223372036854775808<=p[i].green + YZ (ZQ l id) by omega) (by omega),show ¬(i:Int) < 0 by omega];cases has p[i].stage id with
 |false=>simp
 |true=>
  simp [ZB];by_cases c1:(s:Int) < p[i].green
  ·simp [c1]
  ·simp [c1];cases has (Jf p i).stage id with
   |true=>simp
   |false=>
    simp;by_cases c2:(s:Int) < p[i].green + YZ (ZQ l id) <;> simp [c2]
def YJ (l:List Path) (p:List Part) (id:Int):List Int:=(List.range p.length).flatMap fun i=>(List.range (lg l p i)).map fun s=>li l p id i s
theorem Zuq {α:Type} (f:Nat->Nat->α):∀(L:List Nat) (i:Nat),(List.range L.sum).map (fun t=>f (goA L t i).1 (goA L t i).2)=(L.zipIdx i).flatMap fun x=>(List.range x.1).map fun s=>f x.2 s
 | [],i=>rfl
 |n::L,i=>by
  rw [List.sum_cons,List.range_add,UY,MP,List.zipIdx_cons,List.flatMap_cons,←Zuq f L (i + 1)];congr 1
  ·refine List.map_congr_left fun t ht=> ?_
   have:t < n:=by simpa using ht
   unfold goA;rw [Ul this]
  ·refine List.map_congr_left fun t _=> ?_
   have e:goA (n::L) (n + t) i=goA L t (i + 1):=by
    rw [goA,Uf (by omega)];congr 1;omega
   simp only [Function.comp_apply];rw [e]
theorem Zur (l:List Path) (p:List Part) (id:Int):YJ l p id=(List.range (Yn l p).sum).map fun t=>li l p id (goA (Yn l p) t 0).1 (goA (Yn l p) t 0).2:=by
 rw [Zuq (fun i s=>li l p id i s) (Yn l p) 0];unfold YJ Yn;rw [List.zipIdx_map,List.flatMap_map];have:(List.range p.length).zipIdx 0=(List.range p.length).map fun i=>(i,i):=by
  apply UV;intro j;rw [List.getElem?_zipIdx,Mf];by_cases hj:j < p.length
  ·simp [hj]
  ·simp [hj]
 rw [this,List.flatMap_map];rfl
theorem Zf9 {l:List Path} {p:List Part} (hpl:Ym l p=true) (id:Int):(YJ l p id).length=cyc l p:=by
 rw [Zur];simp [cyc,hpl]
def QY (l:List Path) (p:List Part) (id:Int):List Bool:=(YJ l p id).map fun x=>x==1
theorem ZFx (l:List Path) (p:List Part) (h:Sm l) (hp:SmL p) (hpl:Ym l p=true) (id:Int) (hid:¬ZD l id < 0):Zdv l p id=some (QY l p id):=by
 have hs:=hp.1;unfold Sm at hs;obtain ⟨c1,c2⟩:=ZdK hpl;have hc:cyc l p=(Yn l p).sum:=by unfold cyc;rw [Ul hpl]
 have hgl:(QY l p id).length=cyc l p:=by unfold QY;rw [Uy,Zf9 hpl]
 unfold Zdv;simp [Qd l _ h,hid,ZoB l p h hp];rw [Zt (by constructor <;> omega)];refine (Yj (QY l p id) (by omega) (fun k acc=>((l,p,id,(cyc l p:Int),(k:Int)),acc)) (List.replicate (cyc l p) false) (fun k acc=>acc=(QY l p id).take k ++ List.replicate ((QY l p id).length - k) false) (by simp [hgl]) (fun _ _ _=>some (QY l p id)) rfl ?_ ?_).trans rfl
 ·intro rec acc ha;simp [hgl,ha];rw [←hgl];simp
 ·intro rec k x acc ha hx hk hr;have hk':k < cyc l p:=by omega
  have hx':x=(li l p id (goA (Yn l p) k 0).1 (goA (Yn l p) k 0).2==1):=by
   unfold QY at hx;rw [Zur] at hx;simp [show k < (Yn l p).sum by omega] at hx;exact hx.symm
  have hal:k < acc.length:=by rw [ha];simp;omega
  simp only [Uo] at hr;have hz:acc[k]? =some acc[k]:=Ua hal;simp [hk',ZFw l p h hp hpl id hid k hk',hal,X0 hz,Zw (show k<=9223372036854775806 by omega),←hx'];refine hr _ ?_;rw [ha];exact Zhl hx
theorem ZFy (l:List Path) (p:List Part) (h:Sm l) (hp:SmL p) (hpl:Ym l p=true) (id:Int) (hid:¬ZD l id < 0):Zdk l p id=some (YJ l p id):=by
 have hs:=hp.1;unfold Sm at hs;have hrl:=Zf9 hpl id;obtain ⟨c1,c2⟩:=ZdK hpl;unfold Zdk;simp only [Zu,Xm,ZeS,Zow l p h hp,hpl,Zd,Ui,Zh,XI l _ h,show decide (ZD l id < 0)=false by simpa using hid];refine (Yj p (by omega) (fun k acc=>(l,p,id,acc,(k:Int))) [] (fun k acc=>acc=(List.range k).flatMap fun i=>(List.range (lg l p i)).map fun s=>li l p id i s) rfl (fun _ _ _=>some (YJ l p id)) rfl ?_ ?_).trans rfl
 ·intro rec acc ha;simp [ha,YJ]
 ·intro rec k x acc ha hx hk hr;simp only [Uo] at hr;have hpre:(acc ++ (List.range (lg l p k)).map fun s=>li l p id k s)=(List.range (k + 1)).flatMap fun i=>(List.range (lg l p i)).map fun s=>li l p id i s:=by
   rw [List.range_succ,List.flatMap_append,ha];simp
  have hle:acc.length + lg l p k<=390:=by
   have e1:(acc ++ (List.range (lg l p k)).map fun s=>li l p id k s).length<=(YJ l p id).length:=by
    rw [hpre];unfold YJ;have:p.length=(k + 1) + (p.length - (k + 1)):=by omega
    conv=>rhs;rw [this,List.range_add,List.flatMap_append]
    rw [Uh];omega
   rw [hrl] at e1;simp at e1;omega
  simp [hk];refine (Yj (List.range (lg l p k)) (by have:=(Zcl hpl hx).2.2;simp;omega) (fun j b=>(l,p,id,b,(k:Int),(j:Int))) acc (fun j b=>b=acc ++ (List.range j).map fun s=>li l p id k s) (by simp) (fun _ _ _=>some (YJ l p id)) rfl ?_ ?_).trans rfl
  ·intro rec2 b hb;simp only [Fi] at hb ⊢;simp [Zum l p h hp hpl k hk,Zw (show k<=9223372036854775806 by omega)];exact hr _ (hb.trans hpre)
  ·intro rec2 j s b hb hx2 hj hr2;have hj':j < lg l p k:=by simpa using hj
   simp only [Uo] at hr2;have hbl:b.length=acc.length + j:=by rw [hb];simp
   simp [Zum l p h hp hpl k hk,hj',ZFs l p h hp hpl id hid k j hk,Zw (show j<=9223372036854775806 by omega),show (b.length + 1) * 8<=140737488355328 by omega,show b.length<=1152921504606846975 by omega];refine hr2 _ ?_;rw [hb,List.range_succ,UY];simp
def gW (r:List Int):List Nat->Int->Int->Int
 | [],b,_=>if (r.length:Int) < b then r.length else b
 |k::ks,b,n=>if ((r[k % r.length]?).getD 0==1)=true then gW r ks (if b < 0 then 0 else b) 0 else gW r ks (if b < n + 1 then n + 1 else b) (n + 1)
def ZdL (l:List Path) (p:List Part) (id:Int):Int:=gW (YJ l p id) (List.range (2 * cyc l p)) 0 0
theorem Zus {k n:Nat}:Int.tmod (k:Int) (n:Int)=((k % n:Nat):Int):=Zf8
theorem ZFz (l:List Path) (p:List Part) (h:Sm l) (hp:SmL p) (hpl:Ym l p=true) (id:Int) (hid:¬ZD l id < 0):Zdw l p id=some (ZdL l p id):=by
 have hrl:=Zf9 hpl id;have hgl:(QY l p id).length=cyc l p:=by unfold QY;rw [Uy,Zf9 hpl]
 obtain ⟨c1,c2⟩:=ZdK hpl;unfold Zdw ZdL;simp only [Zu,Xm,ZFx l p h hp hpl id hid,Zd,Zns,ZDn,hgl];rw [show W (2 * (cyc l p:Int))=((2 * cyc l p:Nat):Int) by rw [Zz (by omega) (by omega)];omega];refine (Yj (List.range (2 * cyc l p)) (by simp;omega) (fun k (z:Int×Int)=>(QY l p id,z.1,z.2,((2 * cyc l p:Nat):Int),(k:Int))) ((0:Int),(0:Int)) (fun k z=>0<=z.2/\z.2<=k) (by simp) (fun ks _ z=>some (gW (YJ l p id) ks z.1 z.2)) rfl ?_ ?_).trans rfl
 ·intro rec z hz;simp [gW,hgl,hrl]
 ·intro rec k x z hz hx hk hr;have hk':k < 2 * cyc l p:=by simpa using hk
  have hxk:x=k:=by
   rw [List.getElem?_range hk'] at hx;exact (Un hx).symm
  subst hxk;have hm:x % cyc l p < cyc l p:=Nat.mod_lt _ (by omega);have hg:(QY l p id)[x % cyc l p]? =some (((YJ l p id)[x % cyc l p]?).getD 0==1):=by
   unfold QY;rw [Mf,Ua (by omega)];rfl
  have hgz:∀{β:Type} (K:Bool->Option β),Z4 (QY l p id) ((x:Int) % (cyc l p:Int)) K=K (((YJ l p id)[x % cyc l p]?).getD 0==1):=fun K=>by
   have:=Zi hg K
   rwa [Int.natCast_emod] at this
  simp only [Uo] at hr;simp [hgl,show (x:Int) < 2 * (cyc l p:Int) by omega,Zus,hgz,Zw (show x<=9223372036854775806 by omega),Zz (show -9223372036854775808<=z.2 + 1 by omega) (by omega),show ¬cyc l p=0 by omega,gW,hrl];by_cases c:((YJ l p id)[x % cyc l p]?).getD 0=1
  ·have:=hr (if z.1 < 0 then 0 else z.1,0) (by constructor <;> omega);simp [c];simpa using this
  ·have:=hr (if z.1 < z.2 + 1 then z.2 + 1 else z.1,z.2 + 1) (by constructor <;> simp <;> omega);simp [c,show (((YJ l p id)[x % cyc l p]?).getD 0==1)=false by simp [c]];simpa using this
theorem Zut (l:List Path) (h:Sm l):Yw l=some l:=by
 unfold Sm at h;unfold Yw;rw [Zkz]
 ·simp only [Zp,Zk,Zo,Zn,Zr,Yp,Zte,Zu,UQ];rw [Zt (by omega)]
 ·intro h0;have:l= []:=by cases l with |nil=>rfl |cons a l=>cases h0
  subst this;simp
theorem Zga (l:List Want) (h:Sm l):JP l=some l:=by
 unfold Sm at h;unfold JP;rw [Zkz]
 ·simp only [Xc,Zc6,ZK,UQ];rw [Zt (by omega)]
 ·intro h0;have:l= []:=by cases l with |nil=>rfl |cons a l=>cases h0
  subst this;simp
theorem ZFA (l:List Lamp) (h:Sm l):ZiV l=some l:=by
 unfold Sm at h;unfold ZiV;rw [Zkz]
 ·simp only [JI,Ztk,ZT,UQ];rw [Zt (by omega)]
 ·intro h0;have:l= []:=by cases l with |nil=>rfl |cons a l=>cases h0
  subst this;simp
theorem ZdM (x:Control) (h:ZX x):VK x=some x:=by
 obtain ⟨h1,h2⟩:=h;unfold Sm at h1 h2;unfold VK;simp only [Zp,Zk,Zo,Zn,Zr,ZV,UQ,Zas,Zq];rw [Zt (by omega),Zt (by omega)]
theorem Zgb (x:Control) (h:ZX x):JQ x=some x:=by
 obtain ⟨h1,h2⟩:=h;unfold JQ;simp [KM _ h1,KM _ h2]
theorem ZkF {o p q:Own} (h0:okO o p=true) (h1:okO o q=true) (l:List Note) (a:Int) (b:List Int) (c:Int) {β:Type} (K:List Note->Option β):
  rws (Zb o) (l.map (Zb p).enc ++ [[I a, .slc q 1 (b.map iR.enc),I c]]) K=K (l ++ [(⟨a,b,c⟩:Note)]):=
 (Zaq _ _ _ K).trans ((ZeR h0 l _).trans (KA h1 a b c fun l'=>K (l ++ l')))
@[simp] theorem ZN5 (l:List Note) (a:Int) (b:List Int) (c:Int) {β:Type} (K:List Note->Option β):rws (Zb Own.shr) (l.map (Zb Own.shr).enc ++ [[I a, .slc Own.shr 1 (b.map iR.enc),I c]]) K=K (l ++ [(⟨a,b,c⟩:Note)]):=ZkF (o:= .shr) (p:= .shr) (q:= .shr) rfl rfl l a b c K
@[simp] theorem ZN6 (l:List Note) (a:Int) (b:List Int) (c:Int) {β:Type} (K:List Note->Option β):rws (Zb Own.shr) (l.map (Zb Own.shr).enc ++ [[I a, .slc Own.own 1 (b.map iR.enc),I c]]) K=K (l ++ [(⟨a,b,c⟩:Note)]):=ZkF (o:= .shr) (p:= .shr) (q:= .own) rfl rfl l a b c K
@[simp] theorem ZN7 (l:List Note) (a:Int) (b:List Int) (c:Int) {β:Type} (K:List Note->Option β):rws (Zb Own.own) (l.map (Zb Own.own).enc ++ [[I a, .slc Own.own 1 (b.map iR.enc),I c]]) K=K (l ++ [(⟨a,b,c⟩:Note)]):=ZkF (o:= .own) (p:= .own) (q:= .own) rfl rfl l a b c K
@[simp] theorem ZN8 (l:List Note) (a:Int) (b:List Int) (c:Int) {β:Type} (K:List Note->Option β):rws (Zb Own.shr) (l.map (Zb Own.own).enc ++ [[I a, .slc Own.own 1 (b.map iR.enc),I c]]) K=K (l ++ [(⟨a,b,c⟩:Note)]):=ZkF (o:= .shr) (p:= .own) (q:= .own) rfl rfl l a b c K
abbrev SmR (l:List Note):Prop:=Sm l/\∀y∈l,YG y
theorem ZkG (l:List Note) (h:SmR l):Zay l=some l:=by
 obtain ⟨h1,h2⟩:=h;unfold Sm at h1;unfold Zay;simp only [Zp,Zk,Zo,Zn,Zr,ZS,Z3,Z0,XE];refine (ZfZ l id (by omega) (fun k acc=>(l,(acc,(k:Int)))) some rfl ?_ ?_).trans (by simp)
 ·intro rec acc ha;simp
 ·intro rec k x acc hx hk ha;have hs:=h2 x (Yd hx);unfold YG Sm at hs;simp [hk,Zi hx,Zw (show k<=9223372036854775806 by omega),ha,show (k + 1) * 40<=140737488355328 by omega,show k<=1152921504606846975 by omega,show x.lights.length * 8<=140737488355328 by omega,show x.lights.length<=1152921504606846976 by omega]
theorem ZoC (l:List Note) (h:SmR l):Zb2 l=some l:=by
 obtain ⟨h1,h2⟩:=h;unfold Sm at h1;unfold Zb2;simp only [Zp,Zk,Zo,Zn,Zr,ZS,Z3,Z0,XE];refine (ZfZ l id (by omega) (fun k acc=>(acc,l,(l.length:Int),(k:Int))) some rfl ?_ ?_).trans (by simp)
 ·intro rec acc ha;simp
 ·intro rec k x acc hx hk ha;simp [hk,Zi hx,KM _ (h2 x (Yd hx)),Zw (show k<=9223372036854775806 by omega),ha,show (k + 1) * 40<=140737488355328 by omega,show k<=1152921504606846975 by omega]
theorem QB (t:Town) (h:Zx t):Yv t=some t:=by
 obtain ⟨h0,h1,h2,h3,h4⟩:=h;unfold Yv;simp only [Zp,Zk,Zo,Zn,Zr,Zq,Zy,ZdM _ h1,ZkG _ h4,Zd,ZS,Z3,Z0,Yp,Xc,JI,UQ,Zte,Zc6,Ztk,Zu,ZK,ZT,ZW];unfold Sm at h0 h2 h3;rw [Zt (by omega),Zt (by omega),Zt (by omega)]
theorem Jg (t:Town) (h:Zx t):Yt t=some t:=by
 obtain ⟨h0,h1,h2,h3,h4⟩:=h;unfold Yt;simp only [Zp,Zk,Zo,Zn,Zr,Zut _ h0,Zga _ h2,ZFA _ h3,Zq,Zy,Zgb _ h1,Zd,ZS,Z3,Z0,Zu,ZK,ZT,Zq,ZoC _ h4,ZW]
def KN (l:List Note):Int:=match l.getLast? with |some e=>e.sig |none=>0
theorem ZdN {l:List Note} {e:Note} (h:l.getLast? =some e):l[l.length - 1]? =some e/\0 < l.length:=by
 cases l with
 |nil=>cases h
 |cons a l=>rw [List.getLast?_eq_getElem?] at h;exact ⟨h,by simp⟩
theorem ZFB (l:List Note) (h:SmR l):Zh7 l=some (KN l):=by
 have h1:=h.1;unfold Sm at h1;unfold Zh7 KN;simp only [XE,JJ,V5,JK];cases hl:l.getLast? with
 |none=>
  have:l= []:=by simpa using hl
  subst this;rfl
 |some e=>
  obtain ⟨e1,e2⟩:=ZdN hl;have hk1:W ((l.length:Int) - 1)=((l.length - 1:Nat):Int):=by rw [Zz (by omega) (by omega)];omega
  rw [hk1,Zi e1,show (((l.length:Nat):Int)==0)=false from Mn.2 (by omega),Zh]
theorem ZFC (l:List Note) (h:SmR l):Zi3 l=some (KN l):=by
 have h1:=h.1;unfold Sm at h1;unfold Zi3 KN;simp only [XE,JJ,V5,JK];cases hl:l.getLast? with
 |none=>
  have:l= []:=by simpa using hl
  subst this;rfl
 |some e=>
  obtain ⟨e1,e2⟩:=ZdN hl;have hk1:W ((l.length:Int) - 1)=((l.length - 1:Nat):Int):=by rw [Zz (by omega) (by omega)];omega
  rw [hk1,Zi e1,show (((l.length:Nat):Int)==0)=false from Mn.2 (by omega),Zh]
def ZkH (l:List Note) (s:Int) (v:List Int):Note:=⟨s,v,XH (KN l) s v⟩
def J5 (l:List Note) (s:Int) (v:List Int):List Note×Bool:=if YE (l ++ [ZkH l s v])=true then (l ++ [ZkH l s v],true) else (l,false)
theorem ZoD {l:List Note} {e:Note} (h:SmR l) (hl:l.length<=1000) (he:Sm e.lights):SmR (l ++ [e]):=by
 refine ⟨by unfold Sm;simp;omega,fun y hy=> ?_⟩;rcases List.mem_append.1 hy with hy |hy
 ·exact h.2 y hy
 ·rw [Ml] at hy;subst hy;exact he
theorem ZoE (l:List Note) (s:Int) (v:List Int) (h:SmR l) (hl:l.length<=1000) (hv:Sm v):JM l s v=some (J5 l s v):=by
 have hv':=hv;unfold Sm at hv';have ho:SmR (l ++ [(⟨s,v,XH (KN l) s v⟩:Note)]):=ZoD h hl hv;unfold JM J5 ZkH;simp [ZkG l h,ZFB l h,ZtJ _ s v hv,ZfW _ ho,show v.length * 8<=140737488355328 by omega,show v.length<=1152921504606846976 by omega,show (l.length + 1) * 40<=140737488355328 by omega,show l.length<=1152921504606846975 by omega];cases YE (l ++ [(⟨s,v,XH (KN l) s v⟩:Note)]) <;> simp
theorem Zuu (l:List Note) (s:Int) (v:List Int) (h:SmR l) (hl:l.length<=1000) (hv:Sm v):Zdp l s v=some (J5 l s v):=by
 have ho:SmR (l ++ [(⟨s,v,XH (KN l) s v⟩:Note)]):=ZoD h hl hv;unfold Zdp J5 ZkH;simp [ZoC l h,KM v hv,ZFC l h,ZtK _ s v hv,ZfX _ ho,show (l.length + 1) * 40<=140737488355328 by omega,show l.length<=1152921504606846975 by omega];cases YE (l ++ [(⟨s,v,XH (KN l) s v⟩:Note)]) <;> simp
def XM (l:List Note) (s:Int) (v:List Int):List Note×Bool:=match l.getLast? with
 |some e=>if e.lights=v then (l,YE l && (decide (e.second < s) && inR s 0 1000000)) else J5 l s v
 |none=>J5 l s v
theorem ZFD (l:List Note) (s:Int) (v:List Int) (h:SmR l) (hl:l.length<=1000) (hv:Sm v):ZbX l s v=some (XM l s v):=by
 unfold ZbX XM;simp only [Zp,Zk,Zo,Zn,Zr,ZS,Z3,Z0,Zq,XE,JJ,V5,JK,ZoE l s v h hl hv,ZkG l h,ZfW l h,Zd];cases hg:l.getLast? with
 |none=>
  have:l= []:=by simpa using hg
  subst this;rfl
 |some e=>
  obtain ⟨e1,e2⟩:=ZdN hg;have hk1:W ((l.length:Int) - 1)=((l.length - 1:Nat):Int):=by rw [Zz (by omega) (by omega)];omega
  have he:Sm e.lights:=h.2 e (Yd e1);rw [hk1,Zi e1,show (((l.length:Nat):Int)==0)=false from Mn.2 (by omega),Zh,Zi e1];simp only [Zoh _ v he,Zd,V8];by_cases c:e.lights=v
  ·simp only [c,Mr,Ui,Zh];cases YE l <;> by_cases c2:e.second < s <;> simp [c2,inR]
  ·simp [c]
theorem Zuv (l:List Note) (s:Int) (v:List Int) (h:SmR l) (hl:l.length<=1000) (hv:Sm v):QA l s v=some (XM l s v):=by
 unfold QA XM;simp only [Zp,Zk,Zo,Zn,Zr,ZS,Z3,Z0,Zq,XE,JJ,V5,JK,Zuu l s v h hl hv,ZoC l h,ZfX l h,Zd];cases hg:l.getLast? with
 |none=>
  have:l= []:=by simpa using hg
  subst this;rfl
 |some e=>
  obtain ⟨e1,e2⟩:=ZdN hg;have hk1:W ((l.length:Int) - 1)=((l.length - 1:Nat):Int):=by rw [Zz (by omega) (by omega)];omega
  have he:Sm e.lights:=h.2 e (Yd e1);rw [hk1,Zi e1,show (((l.length:Nat):Int)==0)=false from Mn.2 (by omega),Zh,Zi e1];simp only [Zoi _ v he,Zd,KE];by_cases c:e.lights=v
  ·simp only [c,Mr,Ui,Zh];cases YE l <;> by_cases c2:e.second < s <;> simp [c2,inR]
  ·simp [c]
theorem ZoF {l:List Note} {s:Int} {v:List Int} (h:SmR l) (hl:l.length<=1000) (hv:Sm v):SmR (J5 l s v).1:=by
 unfold J5;split
 ·exact ZoD h hl hv
 ·exact h
theorem Zuw {l:List Note} {s:Int} {v:List Int} (h:SmR l) (hl:l.length<=1000) (hv:Sm v):SmR (XM l s v).1:=by
 unfold XM;split
 ·split
  ·exact h
  ·exact ZoF h hl hv
 ·exact ZoF h hl hv
def Vr (t:Town):List Note:=match t.record.getLast? with
 |some e=>if e.second=t.now then t.record.dropLast else t.record
 |none=>t.record
def Vs (t:Town):Town:=
 if (XM (Vr t) t.now (Yz t)).2=false/\(Vr t).length=60 then {t with record:=(XM [] t.now (Yz t)).1,books:=t.books + 1}
 else {t with record:=(XM (Vr t) t.now (Yz t)).1}
theorem ZaT:SmR []:=⟨by unfold Sm;simp,fun y hy=>by cases hy⟩
theorem ZoG {t:Town} (h:SmR t.record):SmR (Vr t):=by
 have h1:=h.1;unfold Sm at h1;unfold Vr;split
 ·split
  ·refine ⟨by unfold Sm;simp;omega,fun y hy=>h.2 y ((List.dropLast_sublist _).subset hy)⟩
  ·exact h
 ·exact h
theorem ZoH (t:Town):(Vr t).length<=t.record.length:=by
 unfold Vr;split
 ·split
  ·simp
  ·exact Uq _
 ·exact Uq _
theorem ZkI (x:Town) (h:Zx x):Sm (Yz x):=by
 have h0:=h.1;unfold Sm Yz XK at *
 split
 ·split
  ·simpa using h0
  ·simp
 ·simpa using h0
theorem ZFE {t:Town} (h:Zx t) (hl:t.record.length<=1000):Zx (Vs t):=by
 have hv:=ZkI t h;have hc:=ZoH t;obtain ⟨h0,h1,h2,h3,h4⟩:=h;unfold Vs;split
 ·exact ⟨h0,h1,h2,h3,Zuw ZaT (by simp) hv⟩
 ·exact ⟨h0,h1,h2,h3,Zuw (ZoG h4) (by omega) hv⟩
theorem ZFF {α:Type} (l:List α):l.take (l.length - 1)=l.dropLast:=List.dropLast_eq_take.symm
theorem Zux {t:Town} {e:Note} (hg:t.record.getLast? =some e):Vr t=if e.second=t.now then t.record.take (t.record.length - 1) else t.record:=by
 unfold Vr;rw [hg,ZFF]
theorem ZFG (s:Int) (v:List Int):XM [] s v=J5 [] s v:=rfl
theorem ZFH (t:Town) (h:Zx t) (hl:t.record.length<=1000) (hb:0<=t.books/\t.books<=1000):QQ t=some (Vs t):=by
 have hv:=ZkI t h;have h4:=h.2.2.2.2;have hc:=ZoH t;have hcs:=ZoG h4;unfold QQ Vs;simp only [Zp,Zk,Zo,Zn,Zr,Zu,Zq,ZK,ZT,ZS,Z3,Z0,Zy,ZW,Zf3 t h,Zd,XE,JJ,V5,JK];have last:∀l:List Note,l.length<=1000->SmR l->(bnd (ZbX l t.now (Yz t)) fun r=>cnd (!r.2) (cnd ((l.length:Int)==60) (bnd (JM [] t.now (Yz t)) fun r5=>bnd (VM 1000 t.books) fun r6=>some ({t with record:=r5.1,books:=W (r6 + 1)}:Town)) (some {t with record:=r.1})) (some {t with record:=r.1}))=
   some (if (XM l t.now (Yz t)).2=false/\l.length=60 then {t with record:=(XM [] t.now (Yz t)).1,books:=t.books + 1} else {t with record:=(XM l t.now (Yz t)).1}):=by
  intro l h1 h2;simp only [ZFD l t.now _ h2 h1 hv,ZoE [] t.now _ ZaT (by simp) hv,Zcd,Zd,ZFG,show (if t.books < 1000 then t.books else 1000)=t.books by split <;> omega];rw [Zz (by omega) (by omega)];cases (XM l t.now (Yz t)).2 <;> by_cases c:l.length=60 <;> simp [c,ZB] <;> omega
 cases hg:t.record.getLast? with
 |none=>
  have hn:t.record= []:=by simpa using hg
  have hcut:Vr t=t.record:=by unfold Vr;rw [hg]
  rw [hcut];rw [←last t.record hl h4];simp [hn]
 |some e=>
  obtain ⟨e1,e2⟩:=ZdN hg;have hk1:W ((t.record.length:Int) - 1)=((t.record.length - 1:Nat):Int):=by rw [Zz (by omega) (by omega)];omega
  rw [hk1,show decide (((t.record.length:Nat):Int) > 0)=true from Uv (by omega),Zs,Zi e1];rw [Zux hg] at hcs ⊢;by_cases c:e.second=t.now
  ·rw [Ul c] at hcs ⊢;simp only [c,M8,Zs];rw [Zt (by omega),Ux,show Int.toNat 0=0 from rfl,ML];simp only [Zp,Zk,Zo,Zn,Zr,Ztm,ZS,Z3,Z0,ZkG _ hcs,Zd,XE];exact last _ (by simp;omega) hcs
  ·rw [Uf c];simp only [show (e.second==t.now)=false from Mn.2 c,Zh];exact last _ hl h4
theorem ZFI (t:Town) (h:Zx t) (hl:t.record.length<=1000) (hb:0<=t.books/\t.books<=1000):Vj t=some (Vs t):=by
 have hv:=ZkI t h;have h4:=h.2.2.2.2;have hc:=ZoH t;have hcs:=ZoG h4;unfold Vj Vs;simp only [Zp,Zk,Zo,Zn,Zr,Zu,Zq,ZK,ZT,ZS,Z3,Z0,Z0,Zy,ZW,Zf4 t h,Zd,XE,V5];have last:∀l:List Note,l.length<=1000->SmR l->(cnd ((l.length:Int)==60) (bnd (QA l t.now (Yz t)) fun r=>cnd r.2 (some ({t with record:=r.1}:Town)) (bnd (QA [] t.now (Yz t)) fun r4=>some {t with record:=r4.1,books:=W (t.books + 1)})) (bnd (QA l t.now (Yz t)) fun r=>some {t with record:=r.1}))=
   some (if (XM l t.now (Yz t)).2=false/\l.length=60 then {t with record:=(XM [] t.now (Yz t)).1,books:=t.books + 1} else {t with record:=(XM l t.now (Yz t)).1}):=by
  intro l h1 h2;simp only [Zuv l t.now _ h2 h1 hv,Zuv [] t.now _ ZaT (by simp) hv,Zd];rw [Zz (by omega) (by omega)];cases (XM l t.now (Yz t)).2 <;> by_cases c:l.length=60 <;> simp [c,ZB] <;> omega
 cases hg:t.record.getLast? with
 |none=>
  have hn:t.record= []:=by simpa using hg
  have hcut:Vr t=t.record:=by unfold Vr;rw [hg]
  rw [hcut];rw [←last t.record hl h4];simp [hn]
 |some e=>
  obtain ⟨e1,e2⟩:=ZdN hg;have hk1:W ((t.record.length:Int) - 1)=((t.record.length - 1:Nat):Int):=by rw [Zz (by omega) (by omega)];omega
  rw [hk1,show decide (((t.record.length:Nat):Int) > 0)=true from Uv (by omega),Zs,Zi e1];rw [Zux hg] at hcs ⊢;by_cases c:e.second=t.now
  ·rw [Ul c] at hcs ⊢;simp only [c,M8,Zs];rw [Zt (by omega),Ux,show Int.toNat 0=0 from rfl,ML];simp only [Zp,Zk,Zo,Zn,Zr,Ztm,Z3,XE];exact last _ (by simp;omega) hcs
  ·rw [Uf c];simp only [show (e.second==t.now)=false from Mn.2 c,Zh];exact last _ hl h4
def VU (t o:Town) (ok:Bool):Town×Bool:=if ok && (Z7 t && Z7 o) then (o,true) else (t,false)
theorem KO (t o:Town) (ok:Bool) (h:Zx t) (h':Zx o):Qz t o ok=some (VU t o ok):=by
 unfold Qz VU;simp only [Zp,Zk,Zo,Zn,Zr,Zu,Zq,ZK,ZT,ZS,Z3,Z0,Zy,ZW,QB t h,KK t h,KK o h',Zd];cases ok <;> cases Z7 t <;> cases Z7 o <;> simp [Zy,ZW]
theorem ZaU (t o:Town) (ok:Bool) (h:Zx t) (h':Zx o):QS t o ok=some (VU t o ok):=by
 unfold QS VU;simp only [Zp,Zk,Zo,Zn,Zr,Zu,Zq,ZK,ZT,ZS,Z3,Z0,Z0,Zy,ZW,Jg t h,KL t h,KL o h',Zd];cases ok <;> cases Z7 t <;> cases Z7 o <;> simp [Zy,ZW]
theorem ZdO {t o:Town} {ok:Bool} (h:Zx t) (h':Zx o):Zx (VU t o ok).1:=by
 unfold VU;split
 ·exact h'
 ·exact h
theorem ZFJ (l:List Path) (id:Int) (hl:Sm l):Zdq l id=some (KJ l id):=by
 unfold Zdq KJ;simp only [Zp,Zk,Zo,Zn,Zr,Zu,Qd _ _ hl,Zd,Xs,ZB];by_cases hf:ZD l id < 0
 ·simp [hf,show ¬(ZD l id>=0) by omega]
 ·simp [hf,show (0:Int)<=ZD l id by omega,Xd hf]
def ZaV (l:List Path) (x:Prio) (p:Int):Prio×Bool:=if Y0 l x && (x.path==0 && KJ l p) then (⟨p,20⟩,true) else (x,false)
theorem ZFK {l:List Path} {x:Prio} (h:Y0 l x=true) (p:Int):Y0 l ⟨p,20⟩=KJ l p:=by
 unfold Y0 at *
 rw [Ub] at h;have:((⟨p,20⟩:Prio)=⟨0,0⟩)=False:=by simp
 simp [h.1,this,inR]
theorem ZFL (l:List Path) (x:Prio) (p:Int) (hl:Sm l):Zih l x p=some (ZaV l x p):=by
 unfold Zih ZaV;simp only [Zp,Zk,Zo,Zn,Zr,Zu,Zkx _ _ hl,Zd];cases h:Y0 l x with
 |false=>simp
 |true=>
  rw [ZFK h];by_cases c:x.path=0
  ·cases KJ l p <;> simp [c]
  ·simp [show (x.path != 0)=true by simpa using c,show (x.path==0)=false by simpa using c]
theorem ZFM (l:List Path) (x:Prio) (p:Int) (hl:Sm l):Zje l x p=some (ZaV l x p):=by
 unfold Zje ZaV;simp only [Zp,Zk,Zo,Zn,Zr,Zu,Zky _ _ hl,ZFJ _ _ hl,Zd];cases h:Y0 l x with
 |false=>simp
 |true=>
  by_cases c:x.path=0
  ·cases KJ l p <;> simp [c]
  ·simp [show (x.path != 0)=true by simpa using c,show (x.path==0)=false by simpa using c]
def Zcm (t:Town) (p:Int):Town×Bool:=VU t {t with prio:=(ZaV t.paths t.prio p).1} (ZaV t.paths t.prio p).2
theorem ZFN (t:Town) (p:Int) (h:Zx t):Zii t p=some (Zcm t p):=by
 have h':Zx {t with prio:=(ZaV t.paths t.prio p).1}:=h;unfold Zii Zcm;simp only [Zp,Zk,Zo,Zn,Zr,Zu,Zq,ZK,ZT,ZS,Z3,Z0,Zy,ZW,QB t h,ZFL _ _ _ h.1,Zd,KO t _ _ h h']
theorem ZFO (t:Town) (p:Int) (h:Zx t):Zjf t p=some (Zcm t p):=by
 have h':Zx {t with prio:=(ZaV t.paths t.prio p).1}:=h;unfold Zjf Zcm;simp only [Zp,Zk,Zo,Zn,Zr,Zu,Zq,ZK,ZT,ZS,Z3,Z0,Zy,ZW,Jg t h,ZFM _ _ _ h.1,Zd,ZaU t _ _ h h']
theorem ZFP {t:Town} (h:Zx t) (p:Int):Zx (Zcm t p).1:=ZdO h h
def XN (l:List Path) (id:Int):Bool:= !decide (ZD l id < 0) && (ZQ l id).kind != 2
theorem ZoI (l:List Path) (id:Int) (hl:Sm l):Zdr l id=some (XN l id):=by
 unfold Zdr XN;simp only [Zp,Zk,Zo,Zn,Zr,Zu,Qd _ _ hl,Zd,Xs,ZB];by_cases hf:ZD l id < 0
 ·simp [hf,show ¬(ZD l id>=0) by omega]
 ·simp [hf,show (0:Int)<=ZD l id by omega,Xd hf]
def QC (l:List Path) (x:Control):Bool:=ZR l x && (x.next.isEmpty && decide (x.since>=if YS l x.stage=7 then 7 else 4))
theorem ZFQ (l:List Path) (x:Control) (h:Sm l) (hx:ZX x):Zit l x=some (QC l x):=by
 unfold Zit QC;simp only [Zp,Zk,Zo,Zn,Zr,Zu,Zq,Zy,ZkC l _ h hx.1,Jb l x h hx,Zd,ZV,Qe];by_cases c:YS l x.stage=7
 ·simp only [c,M8,Zs,U1];cases ZR l x <;> cases x.next.isEmpty <;> simp
 ·simp only [show (YS l x.stage==7)=false from Mn.2 c,Zh,Uf c];cases ZR l x <;> cases x.next.isEmpty <;> simp
theorem ZFR (l:List Path) (x:Control) (h:Sm l) (hx:ZX x):Zji l x=some (QC l x):=by
 unfold Zji QC;simp only [Zp,Zk,Zo,Zn,Zr,Zu,Zq,Zy,ZkD l _ h hx.1,KI l x h hx,Zd,ZV,Zol];by_cases c:YS l x.stage=7
 ·simp only [c,M8,Zs,U1];cases ZR l x <;> cases x.next.isEmpty <;> simp
 ·simp only [show (YS l x.stage==7)=false from Mn.2 c,Zh,Uf c];cases ZR l x <;> cases x.next.isEmpty <;> simp
theorem ZFS (p:Path):0<=YZ p/\YZ p<=5:=by
 unfold YZ;split
 ·split
  ·omega
  ·split <;> omega
 ·omega
theorem ZFT {n c:Int} (h:0<=n/\n<=5) (h':0<=c/\c<=5):0<=KH n c/\KH n c<=5:=by unfold KH;split <;> omega
theorem Zuy (l:List Path) (x:Int):∀(s:List Int) (n:Int),0<=n/\n<=5->0<=s.foldl (Vn l x) n/\s.foldl (Vn l x) n<=5
 | [],n,h=>h
 |y::s,n,h=>by
  rw [Md];refine Zuy l x s _ ?_;unfold Vn;split
  ·exact ZFT h (ZFS _)
  ·exact h
theorem Zuz (l:List Path) (b:List Int):∀(s:List Int) (n:Int),0<=n/\n<=5->0<=s.foldl (fun n x=>b.foldl (Vn l x) n) n/\s.foldl (fun n x=>b.foldl (Vn l x) n) n<=5
 | [],n,h=>h
 |y::s,n,h=>by
  rw [Md];exact Zuz l b s _ (Zuy l y b n h)
theorem ZdP (l:List Path) (a b:List Int):0<=Yy l a b/\Yy l a b<=5:=by
 unfold Yy;split
 ·exact Zuz l _ _ 0 (by omega)
 ·omega
def QD (l:List Path) (x:Control) (p:Int):Control×Bool:=
 if QC l x && (XN l p && !has x.stage p) then
  (if Yy l x.stage [p]=0 then (⟨[p],0,[],0⟩,true) else (⟨x.stage,x.since,[p],Yy l x.stage [p]⟩,true))
 else (x,false)
theorem Xw (p:Int):Sm [p]:=by unfold Sm;simp
theorem ZFU (l:List Path) (x:Control) (p:Int) (h:Sm l) (hx:ZX x):Ziu l x p=some (QD l x p):=by
 unfold Ziu QD XN;simp only [Zp,Zk,Zo,Zn,Zr,Zu,Zq,Zy,ZdM x hx,XI _ _ h,ZFQ l x h hx,Zd,QV _ _ hx.1,Xs,Zs6,Zkr l _ _ h hx.1 (Xw p)];cases QC l x with
 |false=>simp
 |true=>
  by_cases hf:ZD l p < 0
  ·simp [hf]
  ·simp only [hf,U3,Zh,Xd hf,Ui,UT,UW];by_cases hk:(ZQ l p).kind=2
   ·simp [hk]
   ·simp only [show ((ZQ l p).kind==2)=false from Mn.2 hk,show ((ZQ l p).kind != 2)=true from bne_iff_ne.2 hk,Zh,UW];cases has x.stage p with
    |true=>simp
    |false=>
     by_cases hc:Yy l x.stage [p]=0
     ·simp [hc]
     ·simp [hc,show (Yy l x.stage [p]==0)=false from Mn.2 hc]
theorem ZFV (l:List Path) (x:Control) (p:Int) (h:Sm l) (hx:ZX x):Zjj l x p=some (QD l x p):=by
 have hc0:=(ZdP l x.stage [p]).1;unfold Zjj QD;simp only [Zp,Zk,Zo,Zn,Zr,Zu,Zq,Zy,Zgb x hx,ZoI _ _ h,ZFR l x h hx,Zd,Ja _ _ hx.1,Zs6,Zkq l _ _ h hx.1 (Xw p)];cases QC l x with
 |false=>simp
 |true=>
  cases XN l p with
  |false=>simp
  |true=>
    cases has x.stage p with
    |true=>simp
    |false=>
     by_cases hc:Yy l x.stage [p]=0
     ·simp [hc]
     ·simp [hc,show Yy l x.stage [p] > 0 by omega]
def Xn (l:List Path) (x:Control):Control:=
 if ZR l x=true then
  (if x.next.isEmpty=true then {x with since:=if x.since < 1000000 then x.since + 1 else 1000000} else if x.left > 1 then {x with left:=x.left - 1} else ⟨x.next,0,[],0⟩)
 else x
theorem Zcn {l:List Path} {x:Control} (h:ZR l x=true):(0<=x.since/\x.since<=1000000)/\(x.next.isEmpty=false->1<=x.left/\x.left<=5):=by
 unfold ZR inR at h;simp only [Ub,UI] at h;refine ⟨h.1.2,fun hn=> ?_⟩;have h2:=h.2;rw [Uf (by intro e;rw [e] at hn;cases hn)] at h2;simp only [Ub,UI] at h2;have:=(ZdP l x.stage x.next).2;omega
theorem ZoJ (l:List Path) (x:Control) (h:Sm l) (hx:ZX x):Zdi l x=some (Xn l x):=by
 unfold Zdi Xn;simp only [Zp,Zk,Zo,Zn,Zr,Zu,Zq,Zy,ZdM x hx,Jb l x h hx,Zd,ZV,Qe,Zcd];cases hc:ZR l x with
 |false=>simp
 |true=>
  obtain ⟨h1,h2⟩:=Zcn hc;cases hn:x.next.isEmpty with
  |true=>
   rw [Zz (by omega) (by omega)];simp;by_cases c:x.since < 1000000
   ·rw [Ul c];by_cases c2:x.since + 1 < 1000000
    ·rw [Ul c2]
    ·rw [Uf c2];omega
   ·rw [Uf c,Uf (by omega)]
  |false=>
   obtain ⟨h3,h4⟩:=h2 hn;rw [show W (x.left - 1)=x.left - 1 from Zz (by omega) (by omega)];by_cases c:x.left > 1
   ·simp [c,show (x.left - 1==0)=false from Mn.2 (by omega)]
   ·simp [c,show x.left=1 by omega]
theorem ZoK (l:List Path) (x:Control) (h:Sm l) (hx:ZX x):Zds l x=some (Xn l x):=by
 unfold Zds Xn;simp only [Zp,Zk,Zo,Zn,Zr,Zu,Zq,Zy,Zgb x hx,KI l x h hx,Zd,ZV,Qe,KM _ hx.2];cases hc:ZR l x with
 |false=>simp
 |true=>
  obtain ⟨h1,h2⟩:=Zcn hc;cases hn:x.next.isEmpty with
  |true=>
   rw [Zz (by omega) (by omega)];simp;by_cases c:x.since < 1000000
   ·rw [Ul c,Uf (by omega)]
   ·rw [Uf c,Ul (by omega)]
  |false=>
   obtain ⟨h3,h4⟩:=h2 hn;rw [show W (x.left - 1)=x.left - 1 from Zz (by omega) (by omega)];by_cases c:x.left > 1 <;> simp [c]
theorem ZFW {l:List Path} {x:Control} {p:Int} (hx:ZX x):ZX (QD l x p).1:=by
 unfold QD;split
 ·split
  ·exact ⟨Xw p,by unfold Sm;simp⟩
  ·exact ⟨hx.1,Xw p⟩
 ·exact hx
theorem ZoL {l:List Path} {x:Control} (hx:ZX x):ZX (Xn l x):=by
 unfold Xn;split
 ·split
  ·exact hx
  ·split
   ·exact hx
   ·exact ⟨hx.2,by unfold Sm;simp⟩
 ·exact hx
def Xe (l:List Path) (x:Control) (p:Int):Control:=if (QD l x p).2=true then (QD l x p).1 else Xn l x
theorem ZuA (l:List Path) (x:Control) (p:Int) (h:Sm l) (hx:ZX x):Ze8 l x p=some (Xe l x p):=by
 unfold Ze8 Xe;simp only [Zp,Zk,Zo,Zn,Zr,Zu,Zq,Zy,ZFU l x p h hx,ZoJ l x h hx,Zd];cases (QD l x p).2 <;> simp [Zy]
theorem ZuB (l:List Path) (x:Control) (p:Int) (h:Sm l) (hx:ZX x):Zfq l x p=some (Xe l x p):=by
 unfold Zfq Xe;simp only [Zp,Zk,Zo,Zn,Zr,Zu,Zq,Zy,ZFV l x p h hx,ZoK l x h hx,Zd];cases (QD l x p).2 <;> simp [Zy]
theorem ZkJ {l:List Path} {x:Control} {p:Int} (hx:ZX x):ZX (Xe l x p):=by
 unfold Xe;split
 ·exact ZFW hx
 ·exact ZoL hx
theorem ZkK {l:List Path}:ZH l []=ZJ l:=by unfold ZH;rfl
theorem Zgc {l:List Path} {a:List Int} (h:ZH l a=true):ZJ l=true:=by
 unfold ZH at h;rw [Ub] at h;exact h.2
theorem ZuC {l:List Path} {p:Int} (h:ZJ l=true) (hp:¬ZD l p < 0):ZH l [p]=true:=by
 unfold ZH;simp [goT,hp,Vl,h]
theorem ZoM {l:List Path} {x:Control} (h:ZR l x=true):x.stage≠ []/\ZH l x.stage=true/\ZH l x.next=true:=by
 unfold ZR at h;simp only [Ub] at h;refine ⟨fun e=> ?_,h.1.1.1.2,h.1.1.2⟩;have:=h.1.1.1.1;rw [e] at this;cases this
theorem ZoN {l:List Path} {x:Control} (h:ZR l x=true):ZR l (Xn l x)=true:=by
 obtain ⟨a1,a2,a3⟩:=ZoM h;obtain ⟨h1,h2⟩:=Zcn h;have ha:=Zgc a2;unfold Xn;rw [Ul h];unfold ZR inR at h ⊢;simp only [Ub,UI] at h;cases hn:x.next with
 |nil=>
  rw [hn] at h;simp at h;simp [a1,a2,ZkK,ha,h];split <;> omega
 |cons b r=>
  rw [hn] at h a3;have h3:=h2 (by rw [hn];rfl);have h4:=h.2;simp at h4;by_cases c:x.left > 1
  ·simp [c,a1,a2,a3,h1];omega
  ·simp [c,a3,ZkK,ha]
theorem ZFX {l:List Path} {x:Control} {p:Int} (h:ZR l x=true):ZR l (QD l x p).1=true:=by
 unfold QD;split
 ·rename_i hc;simp only [Ub,XN] at hc;have hp:¬ZD l p < 0:=by simpa using hc.2.1.1
  obtain ⟨a1,a2,a3⟩:=ZoM h;obtain ⟨h1,h2⟩:=Zcn h;have ha:=Zgc a2;have h0:=ZdP l x.stage [p];split
  ·simp [ZR,ZuC ha hp,ZkK,ha,inR]
  ·simp [ZR,ZuC ha hp,a1,a2,inR,h1];omega
 ·exact h
theorem ZoO {l:List Path} {x:Control} {p:Int} (h:ZR l x=true):ZR l (Xe l x p)=true:=by
 unfold Xe;split
 ·exact ZFX h
 ·exact ZoN h
theorem ZuD {l:List Path}:∀{w:List Want} {pv:Option Int},goW l pv w=true->∀x∈w,Zch l x=true
 | [],_,_,x,hx=>by cases hx
 |y::w,pv,h,x,hx=>by
  simp only [goW,Ub] at h;rcases List.mem_cons.1 hx with rfl |hx
  ·exact h.1.1
  ·exact ZuD h.2 x hx
theorem ZkL {l:List Path} {w:List Want} (h:Yl l w=true) {x:Want} (hx:x∈w):¬ZD l x.path < 0/\0<=x.wait/\x.wait<=100000:=by
 unfold Yl at h;rw [Ub] at h;have:=ZuD h.2 x hx;unfold Zch inR at this;simpa using this
theorem Zgd {β:Type} {l:List Path} {y:Control} {id:Int} (hc:ZR l y=true) (h:¬ZD l id < 0) (K:Int->Option β):Z4 (XK l y) (ZD l id) K=K (XJ y id):=by
 obtain ⟨i,x,h1,h2,h3⟩:=JZ h;have:(XK l y)[i]? =some (XJ y x.id):=by
  unfold XK;rw [Ul hc,Mf,h1];rfl
 rw [h2,Zi this,h3]
theorem ZuE {l:List Path} {y:Control} (hc:ZR l y=true):(XK l y).length=l.length:=by
 unfold XK;rw [Ul hc,Uy]
def KP (n:Int):Int:=if n < 100000 then n + 1 else 100000
def J6 (y:Control) (w:List Want):List Want:=w.filterMap fun x=>if XJ y x.path=1 then none else some ⟨x.path,KP x.wait⟩
theorem ZkM (l:List Want) (a b:Int) {β:Type} (K:List Want->Option β):rws Zc (l.map Zc.enc ++ [[I a,I b]]) K=K (l ++ [(⟨a,b⟩:Want)]):=
 (Zaq _ _ _ K).trans ((ZK l _).trans (ZDs _ _ fun l'=>K (l ++ l')))
theorem ZuF (l:List Path) (y:Control) (w:List Want) (h:Sm l) (hy:ZX y) (hw:Sm w) (hc:ZR l y=true) (ha:Yl l w=true):Zdj l y w=some (J6 y w):=by
 unfold Sm at hw;unfold Zdj J6;simp only [Zp,Zk,Zo,Zn,Zr,Zu,Zq,Zy,Zf2 l y h hy,Zd,ZK,Xc,Zau,Yu];refine Zkl w _ (by omega) (fun k acc=>(l,w,acc,XK l y,(k:Int))) some rfl ?_ ?_
 ·intro rec acc ha;simp
 ·intro rec k x acc hx hk hl;obtain ⟨h1,h2,h3⟩:=ZkL ha (Yd hx);simp [hk,Zi hx,XI _ _ h,Zgd hc h1,Zw (show k<=9223372036854775806 by omega),Zcd,show W (x.wait + 1)=x.wait + 1 from Zz (by omega) (by omega)];by_cases c:XJ y x.path=1
  ·simp [c]
  ·have hb:(if x.wait + 1 < 100000 then x.wait + 1 else 100000)=KP x.wait:=by unfold KP;split <;> split <;> omega
   simp [c,show (XJ y x.path != 1)=true from bne_iff_ne.2 c,hb,ZkM,show (acc.length + 1) * 16<=140737488355328 by omega,show acc.length<=1152921504606846975 by omega]
theorem ZuG (l:List Path) (y:Control) (w:List Want) (h:Sm l) (hy:ZX y) (hw:Sm w) (hc:ZR l y=true) (ha:Yl l w=true):Zb8 l y w=some (J6 y w):=by
 unfold Sm at hw;unfold Zb8 J6;simp only [Zp,Zk,Zo,Zn,Zr,Zu,Zq,Zy,Zks l y h hy,Zd,ZK,Xc,Zau,Yu,ZV,ZuE hc];refine Zkl w _ (by omega) (fun k acc=>(l,acc,XK l y,w,(w.length:Int),(k:Int))) some rfl ?_ ?_
 ·intro rec acc ha;simp
 ·intro rec k x acc hx hk hl;obtain ⟨h1,h2,h3⟩:=ZkL ha (Yd hx);obtain ⟨i,p,i1,i2,_⟩:=JZ h1;have i3:i < l.length:=(List.getElem?_eq_some_iff.1 i1).1;simp [hk,Zi hx,Qd _ _ h,Zgd hc h1,Zw (show k<=9223372036854775806 by omega),ZuE hc,h1,show ¬((l.length:Int)<=ZD l x.path) by omega,show W (x.wait + 1)=x.wait + 1 from Zz (by omega) (by omega)];by_cases c:XJ y x.path=1
  ·simp [c]
  ·have hb:(if 100000 < x.wait + 1 then 100000 else x.wait + 1)=KP x.wait:=by unfold KP;split <;> split <;> omega
   simp [c,show (XJ y x.path != 1)=true from bne_iff_ne.2 c,hb,ZkM,show (acc.length + 1) * 16<=140737488355328 by omega,show acc.length<=1152921504606846975 by omega]
theorem ZuH {y:Control} {w:List Want} (h:Sm w):Sm (J6 y w):=Mk (List.length_filterMap_le _ _) h
def J7 (r:Prio):Prio:=if r.left<=1 then ⟨0,0⟩ else ⟨r.path,r.left - 1⟩
theorem ZkN {l:List Path} {x:Prio} (h:Y0 l x=true):0<=x.left/\x.left<=20:=by
 unfold Y0 inR at h;simp only [Ub,Ma,UI] at h;rcases h.2 with h |h
 ·rw [h];exact ⟨by decide,by decide⟩
 ·omega
theorem ZuI (r:Prio) (h:0<=r.left/\r.left<=20):Zb9 r=some (J7 r):=by
 unfold Zb9 J7;by_cases c:r.left<=1
 ·simp [c]
 ·simp [c];exact Zz (by omega) (by omega)
theorem ZaW {t:Town} (h:Z7 t=true):ZR t.paths t.control=true/\Yl t.paths t.wants=true/\Y0 t.paths t.prio=true/\QW t.paths t.lamps=true/\YE t.record=true/\t.record≠ []/\(0<=t.books/\t.books<=1000)/\(0<=t.now/\t.now<=1000000)/\t.record.length<=60:=by
 unfold Z7 inR at h;simp only [Ub,UI,UH] at h;have hr:=h.1.1.1.1.1.1.2;refine ⟨h.1.1.1.1.1.1.1.1.1.1,h.1.1.1.1.1.1.1.1.1.2,h.1.1.1.1.1.1.1.1.2,h.1.1.1.1.1.1.1.2,hr,fun e=> ?_,h.1.2,h.2,?_⟩
 ·have:=h.1.1.1.1.1.2;rw [e] at this;cases this
 ·unfold YE at hr;rw [Ub,UI] at hr;exact hr.1
theorem ZuJ (t:Town) (h:Zx t):QP t=some (Ye t.paths t.lamps t.power):=by
 unfold QP;simp [Zkt _ _ _ h.1 h.2.2.2.1]
theorem ZuK (t:Town) (h:Zx t):QT t=some (Ye t.paths t.lamps t.power):=by
 unfold QT;simp [Zku _ _ _ h.1 h.2.2.2.1]
def ZaX (t:Town) (b:Bool):Town×Bool:=if Z7 t && !(t.power==b) then VU t (Vs {t with power:=b}) true else (t,false)
theorem VV {t u:Town} (h:Z7 t=true) (hr:u.record=t.record) (hu:Zx u):Zx (Vs u):=ZFE hu (by rw [hr];have:=(ZaW h).2.2.2.2.2.2.2.2;omega)
theorem ZkO {t u:Town} (h:Z7 t=true) (hr:u.record=t.record) (hb:u.books=t.books) (hu:Zx u):QQ u=some (Vs u):=by
 have:=ZaW h;exact ZFH u hu (by rw [hr];omega) (by rw [hb];omega)
theorem ZkP {t u:Town} (h:Z7 t=true) (hr:u.record=t.record) (hb:u.books=t.books) (hu:Zx u):Vj u=some (Vs u):=by
 have:=ZaW h;exact ZFI u hu (by rw [hr];omega) (by rw [hb];omega)
theorem ZFY (t:Town) (b:Bool) (h:Zx t):Zil t b=some (ZaX t b):=by
 have h':Zx {t with power:=b}:=h;unfold Zil ZaX;simp only [Zp,Zk,Zo,Zn,Zr,Zu,Zq,ZK,ZT,ZS,Z3,Z0,Zy,ZW,QB t h,KK t h,Zd];cases ht:Z7 t with
 |false=>simp
 |true=>
  have e:=ZkO (u:={t with power:=b}) ht rfl rfl h';have hn:=VV (u:={t with power:=b}) ht rfl h';cases hp:t.power==b with
  |true=>simp
  |false=>simp [e,Zy,ZW,KO t _ true h hn]
theorem ZFZ (t:Town) (b:Bool) (h:Zx t):Zjl t b=some (ZaX t b):=by
 have h':Zx {t with power:=b}:=h;unfold Zjl ZaX;simp only [Zp,Zk,Zo,Zn,Zr,Zu,Zq,ZK,ZT,ZS,Z3,Z0,Zy,ZW,Jg t h,KL t h,Zd];cases ht:Z7 t with
 |false=>simp
 |true=>
  have e:=ZkP (u:={t with power:=b}) ht rfl rfl h';have hn:=VV (u:={t with power:=b}) ht rfl h';cases hp:t.power==b with
  |true=>simp
  |false=>simp [e,Zy,ZW,ZaU t _ true h hn]
theorem ZF0 {t:Town} (h:Zx t) (b:Bool):Zx (ZaX t b).1:=by
 unfold ZaX;split
 ·rename_i hc;rw [Ub] at hc;exact ZdO h (VV (t:=t) hc.1 rfl h)
 ·exact h
def ZaY (t:Town) (p:Int):Town:=
 if Ye t.paths t.lamps t.power=0 then {t with now:=t.now + 1,control:=Xe t.paths t.control p,wants:=J6 (Xe t.paths t.control p) t.wants,prio:=J7 t.prio} else {t with now:=t.now + 1}
def ZaZ (t:Town) (p:Int):Town×Bool:=if Z7 t && XN t.paths p then VU t (Vs (ZaY t p)) true else (t,false)
theorem ZoP {t:Town} (h:Zx t) (p:Int):Zx (ZaY t p):=by
 obtain ⟨h0,h1,h2,h3,h4⟩:=h;unfold ZaY;split
 ·exact ⟨h0,ZkJ h1,ZuH h2,h3,h4⟩
 ·exact ⟨h0,h1,h2,h3,h4⟩
theorem ZoQ (t:Town) (p:Int):(ZaY t p).record=t.record/\(ZaY t p).books=t.books:=by
 unfold ZaY;split <;> exact ⟨rfl,rfl⟩
theorem ZF1 (t:Town) (p:Int) (h:Zx t):Ziv t p=some (ZaZ t p):=by
 have hh:=ZoP h p;obtain ⟨hr,hb⟩:=ZoQ t p;unfold Ziv ZaZ XN;simp only [Zp,Zk,Zo,Zn,Zr,Zu,Zq,ZK,ZT,ZS,Z3,Z0,Zy,ZW,XI _ _ h.1,QB t h,KK t h,ZuJ t h,ZuA _ _ p h.1 h.2.1,Zd,Xs];cases ht:Z7 t with
 |false=>simp
 |true=>
  by_cases hf:ZD t.paths p < 0
  ·simp [hf]
  ·simp only [hf,U3,Zh,Xd hf,Ui,UT,UW];by_cases hk:(ZQ t.paths p).kind=2
   ·simp [hk]
   ·simp only [show ((ZQ t.paths p).kind==2)=false from Mn.2 hk,show ((ZQ t.paths p).kind != 2)=true from bne_iff_ne.2 hk,Zh,U1];obtain ⟨p1,p2,p3,p4,p5,p6,p7,p8,p9⟩:=ZaW ht;have hl:=ZkN p3;have hw:=ZuF t.paths (Xe t.paths t.control p) t.wants h.1 (ZkJ h.2.1) h.2.2.1 (ZoO p1) p2;have e:=ZkO ht hr hb hh;have hn:=VV ht hr hh;rw [show W (t.now + 1)=t.now + 1 from Zz (by omega) (by omega)];unfold ZaY at e hn ⊢;by_cases c:Ye t.paths t.lamps t.power=0
    ·simp only [c,U1] at e hn ⊢;simp only [M8,Zs,hw,Zd];by_cases c2:t.prio.left > 1
     ·have hs:J7 t.prio=⟨t.prio.path,t.prio.left - 1⟩:=by unfold J7;rw [Uf (by omega)]
      rw [hs] at e hn ⊢;simp [c2,e,Zy,ZW,KO t _ true h hn,show W (t.prio.left - 1)=t.prio.left - 1 from Zz (by omega) (by omega)]
     ·have hs:J7 t.prio=⟨0,0⟩:=by unfold J7;rw [Ul (by omega)]
      rw [hs] at e hn ⊢;simp [c2,e,Zy,ZW,KO t _ true h hn]
    ·simp only [c,Mw] at e hn ⊢;simp [show (Ye t.paths t.lamps t.power==0)=false from Mn.2 c,e,Zy,ZW,KO t _ true h hn]
theorem ZF2 (t:Town) (p:Int) (h:Zx t):Zjk t p=some (ZaZ t p):=by
 have hh:=ZoP h p;obtain ⟨hr,hb⟩:=ZoQ t p;unfold Zjk ZaZ;simp only [Zp,Zk,Zo,Zn,Zr,Zu,Zq,ZK,ZT,ZS,Z3,Z0,Zy,ZW,Jg t h,KL t h,ZuK t h,ZoI _ _ h.1,ZuB _ _ p h.1 h.2.1,Zd,Xs];cases ht:Z7 t with
 |false=>simp
 |true=>
  cases hk:XN t.paths p with
  |false=>simp
  |true=>
    obtain ⟨p1,p2,p3,p4,p5,p6,p7,p8,p9⟩:=ZaW ht;have hl:=ZkN p3;have hw:=ZuG t.paths (Xe t.paths t.control p) t.wants h.1 (ZkJ h.2.1) h.2.2.1 (ZoO p1) p2;have e:=ZkP ht hr hb hh;have hn:=VV ht hr hh;rw [show W (t.now + 1)=t.now + 1 from Zz (by omega) (by omega)];unfold ZaY at e hn ⊢;by_cases c:Ye t.paths t.lamps t.power=0
    ·simp only [c,U1] at e hn ⊢;simp [hw,ZuI _ hl,e,Zy,ZW,ZaU t _ true h hn]
    ·simp only [c,Mw] at e hn ⊢;simp [show (Ye t.paths t.lamps t.power==0)=false from Mn.2 c,e,Zy,ZW,ZaU t _ true h hn]
theorem ZF3 {t:Town} (h:Zx t) (p:Int):Zx (ZaZ t p).1:=by
 unfold ZaZ;split
 ·rename_i hc;rw [Ub] at hc;exact ZdO h (VV hc.1 (ZoQ t p).1 (ZoP h p))
 ·exact h
theorem ZoR {α V β:Type} (l:List α) (p:α->Bool) (hl:l.length<=1099511627776) (st:Nat->V) (R:Nat->Option β) {F:(V->Option β)->V->Option β} {v:V} (hv:v=st 0)
  (h0:∀rec,F rec (st l.length)=R l.length)
  (h1:∀rec k x,l[k]? =some x->k < l.length->F rec (st k)=if p x=true then rec (st (k + 1)) else R k):Zf F NN v=R (l.takeWhile p).length:=by
 refine (Yc l (by omega) (fun k (_:Unit)=>st k) () (fun s k _=>R (k + (s.takeWhile p).length)) hv ?_ ?_).trans (by simp)
 ·intro rec _;rw [h0];simp
 ·intro rec k x _ hx hk hr;rw [h1 rec k x hx hk,Fr];cases p x with
  |true=>
   simp only [U1];rw [hr ()];congr 1;simp;omega
  |false=>simp
def Y2 (w:List Want) (p:Int) (k:Nat):List Want:=w.take k ++ [(⟨p,0⟩:Want)] ++ w.drop k
def J8 (l:List Path) (w:List Want) (p:Int):List Want×Bool:=
 if Yl l (Y2 w p (w.takeWhile fun x=>decide (x.path < p)).length)=true then (Y2 w p (w.takeWhile fun x=>decide (x.path < p)).length,true) else (w,false)
theorem ZkQ (w:List Want) (p:Int) {k:Nat} (hk:k<=w.length):(Y2 w p k).length=w.length + 1:=by
 unfold Y2;simp only [Uh,Uc,Uu,Mp];omega
theorem ZoS {α:Type} (p:α->Bool) (l:List α):(l.takeWhile p).length<=l.length:=(List.takeWhile_sublist p).length_le
theorem ZF4 (w:List Want) (p:Int) (k:Nat) {β:Type} (K:List Want->Option β):rws Zc (((w.take k).map Zc.enc ++ [[I p,I 0]]) ++ (w.drop k).map Zc.enc) K=K (Y2 w p k):=by
 have e:((w.take k).map Zc.enc ++ [[I p,I 0]]) ++ (w.drop k).map Zc.enc=(Y2 w p k).map Zc.enc:=by
  have h1:=UY (f:=Zc.enc) (l₁:=w.take k ++ [(⟨p,0⟩:Want)]) (l₂:=w.drop k);have h2:=UY (f:=Zc.enc) (l₁:=w.take k) (l₂:= [(⟨p,0⟩:Want)]);exact (h1.trans (UC (· ++ _) h2)).symm
 rw [e];exact ZK _ _
theorem ZuL (w:List Want) (p:Int) (k:Nat) {β:Type} (K:List Want->Option β):rws Zc (((w.take k).map Zc.enc ++ [[I p,I 0]]) ++ ((w.take w.length).drop k).map Zc.enc) K=K (Y2 w p k):=by
 rw [MT];exact ZF4 w p k K
theorem ZF5 (l:List Path) (w:List Want) (p:Int) (hl:Sm l) (hw:Sm w):Zif l w p=some (J8 l w p):=by
 have hw':=hw;unfold Sm at hw';have hk:=ZoS (fun x:Want=>decide (x.path < p)) w;unfold Zif;simp only [Zp,Zk,Zo,Zn,Zr,Zu,ZK,Xc,Zau];refine (ZoR w (fun x=>decide (x.path < p)) (by omega) (fun k=>(l,w,p,(k:Int))) (fun k=>some (if Yl l (Y2 w p k)=true then (Y2 w p k,true) else (w,false))) rfl ?_ ?_).trans rfl
 ·intro rec;rw [show decide (((w.length:Nat):Int) < ((w.length:Nat):Int))=false from Um (by omega),Zh];simp only [Ux,show Int.toNat 0=0 from rfl,ML,Ztf,Ztg,Zc6,Xc,UQ,Uh,Uc,Uu,Mp,ZuL,Zom l (Y2 w p w.length) hl (by rw [ZkQ w p (Uq _)];omega),Zd];rw [Zt (by omega),Zt (by omega),Zt (by omega),Zt (by omega),Zt (by omega)];cases Yl l (Y2 w p w.length) with
  |true=>simp
  |false=>
   simp only [UT,Zs,ZK];rw [Zt (by omega)];simp
 ·intro rec k x hx hkl;rw [show decide (((k:Nat):Int) < ((w.length:Nat):Int))=true from Uv (by omega),Zs,Zi hx];by_cases c:x.path < p
  ·simp [c,Zw (show k<=9223372036854775806 by omega)]
  rw [Um c,Zh,Uf (by simp)];simp only [Ux,show Int.toNat 0=0 from rfl,ML,Ztf,Ztg,Zc6,Xc,UQ,Uh,Uc,Uu,Mp,ZuL,Zom l (Y2 w p k) hl (by rw [ZkQ w p (by omega)];omega),Zd];rw [Zt (by omega),Zt (by omega),Zt (by omega),Zt (by omega),Zt (by omega)];cases Yl l (Y2 w p k) with
  |true=>simp
  |false=>
   simp only [UT,Zs,ZK];rw [Zt (by omega)];simp
theorem ZF6 (w:List Want) (p:Int) (h:Sm w):Zjb w p=some (w.any fun x=>x.path==p):=by
 unfold Sm at h;unfold Zjb ZnS;simp only [ZK,Xc];generalize hI:Zf (_:_->_->Option Int) NN _=J0;have hI':J0=match w.findIdx? (fun x=>x.path==p) with |some i=>some (i:Int) |none=>some (-1):=by
  rw [←hI];refine Zcf w (fun x=>x.path==p) (by omega) (fun k=>(w,p,(w.length:Int),(k:Int))) (fun i=>some (i:Int)) (some (-1)) rfl ?_ ?_
  ·intro rec;simp
  ·intro rec k a ha hk;unfold ZnR;simp [hk,Zi ha,Zw (show k<=9223372036854775806 by omega),ZB]
 rw [hI',←Zce];cases w.findIdx? (fun x=>x.path==p) <;> simp
theorem ZuM {l:List Path} {p:Int}:∀{w:List Want} {pv:Option Int},goW l pv w=true->∀x∈w,(∀q,pv=some q->q < x.path)
 | [],_,_,x,hx=>by cases hx
 |y::w,pv,h,x,hx=>fun q hq=>by
  simp only [goW,Ub] at h;have h1:q < y.path:=by
   have:=h.1.2;rw [hq] at this;simpa [later] using this
  rcases List.mem_cons.1 hx with rfl |hx
  ·exact h1
  ·have:=ZuM (p:=p) h.2 x hx _ rfl;omega
theorem ZF7 {l:List Path} {a:List Want} {y:Want} {b:List Want}:∀{pv:Option Int},goW l pv (a ++ y::b)=true->∀x∈b,y.path < x.path:=by
 induction a with
 |nil=>
  intro pv h x hx;simp only [U9,goW,Ub] at h;exact ZuM (p:=0) h.2 x hx _ rfl
 |cons z a ih=>
  intro pv h x hx;simp only [U5,goW,Ub] at h;exact ih h.2 x hx
theorem ZuN {α:Type} {p:α->Bool}:∀{l:List α} {x:α},x∈l.takeWhile p->p x=true
 | [],_,h=>by cases h
 |y::l,x,h=>by
  rw [Fr] at h;split at h
  ·rename_i hy;rcases List.mem_cons.1 h with rfl |h
   ·exact hy
   ·exact ZuN h
  ·cases h
theorem ZF8 {l:List Path} {w:List Want} {p:Int} (h:(w.any fun x=>x.path==p)=true):J8 l w p=(w,false):=by
 unfold J8;rw [Uf];intro ha;unfold Yl at ha;rw [Ub] at ha;obtain ⟨x,hx,hp⟩:=List.any_eq_true.1 h;have hp:x.path=p:=by simpa using hp
 have hsplit:w=w.takeWhile (fun x=>decide (x.path < p)) ++ w.dropWhile (fun x=>decide (x.path < p)):=(List.takeWhile_append_dropWhile).symm;have hd:x∈w.dropWhile (fun x=>decide (x.path < p)):=by
  rw [hsplit] at hx;rcases List.mem_append.1 hx with hx |hx
  ·have:=ZuN hx;simp at this;omega
  ·exact hx
 have hdr:w.drop (w.takeWhile (fun x=>decide (x.path < p))).length=w.dropWhile (fun x=>decide (x.path < p)):=by
  have:=List.drop_left (l₁:=w.takeWhile (fun x=>decide (x.path < p))) (l₂:=w.dropWhile (fun x=>decide (x.path < p)));rw [List.takeWhile_append_dropWhile] at this;exact this
 have:=ha.2;unfold Y2 at this;rw [hdr,Uw] at this;have:=ZF7 this x hd;simp only at this;omega
theorem ZF9 (l:List Path) (w:List Want) (p:Int) (hl:Sm l) (hw:Sm w):Zjc l w p=some (J8 l w p):=by
 have hw':=hw;unfold Sm at hw';have hk:=ZoS (fun x:Want=>decide (x.path < p)) w;unfold Zjc;simp only [Zp,Zk,Zo,Zn,Zr,Zu,ZK,Xc,Zau,Zga _ hw,Zd,Znu,ZF6 _ p hw];rw [Zt (by simp [AV.okU])];cases hd:w.any fun x=>x.path==p with
 |true=>rw [Zs,ZF8 hd]
 |false=>
 rw [Zh];have ins:∀k:Nat,k<=w.length->ZeU w (k:Int) [(⟨p,0⟩:Want)]=some (Y2 w p k):=by
  intro k hk;unfold ZeU Zax Y2;rw [Zt (by simp;omega),Ux]
 refine (ZoR w (fun x=>decide (x.path < p)) (by omega) (fun k=>((l,w,w,(k:Int)),p)) (fun k=>some (if Yl l (Y2 w p k)=true then (Y2 w p k,true) else (w,false))) rfl ?_ ?_).trans rfl
 ·intro rec;rw [show decide (((w.length:Nat):Int) < ((w.length:Nat):Int))=false from Um (by omega),Zh];simp only [ins _ (Uq _),Zd,ZK,Zon l (Y2 w p w.length) hl (by rw [ZkQ w p (Uq _)];omega)];cases Yl l (Y2 w p w.length) <;> simp [Zga _ hw]
 ·intro rec k x hx hkl;rw [show decide (((k:Nat):Int) < ((w.length:Nat):Int))=true from Uv (by omega),Zs,Zi hx];by_cases c:x.path < p
  ·simp [c,Zw (show k<=9223372036854775806 by omega)]
  rw [Um c,Zh,Uf (by simp)];simp only [ins k (by omega),Zd,ZK,Zon l (Y2 w p k) hl (by rw [ZkQ w p (by omega)];omega)];cases Yl l (Y2 w p k) <;> simp [Zga _ hw]
theorem ZoT:∀{l:List Path} {pv:Option Int},goP pv l=true->∀x∈l,Z8 x=true
 | [],_,_,x,hx=>by cases hx
 |y::l,none,h,x,hx=>by
  simp only [goP,Ub] at h;rcases List.mem_cons.1 hx with rfl |hx
  ·exact h.1
  ·exact ZoT h.2 x hx
 |y::l,some i,h,x,hx=>by
  simp only [goP,Ub] at h;rcases List.mem_cons.1 hx with rfl |hx
  ·exact h.1.1
  ·exact ZoT h.2 x hx
theorem ZdQ {l:List Path} (h:ZJ l=true) {p:Int} (hp:¬ZD l p < 0):1<=p/\p<=20:=by
 obtain ⟨i,x,h1,h2,h3⟩:=JZ hp;unfold ZJ at h;rw [Ub] at h;have:=ZoT h.2 x (Yd h1);unfold Z8 inR at this;simp only [Ub,UI] at this;rw [←h3];exact this.1.1.1.1
theorem ZuO {l:List Path} (h:ZJ l=true):∀{w:List Want} {q:Int},0<=q->goW l (some q) w=true->q + w.length<=20\/w= []
 | [],_,_,_=> .inr rfl
 |y::w,q,hq,hg=>by
  simp only [goW,Ub] at hg;have h1:q < y.path:=by simpa [later] using hg.1.2
  have h2:¬ZD l y.path < 0:=by
   have:=hg.1.1;unfold Zch at this;simp only [Ub,UH,U7] at this;exact this.1
  have h3:=ZdQ h h2;refine .inl ?_;rw [UJ];rcases ZuO h (by omega) hg.2 with h4 |h4
  ·omega
  ·rw [h4];simp;omega
theorem ZGa {l:List Path} {w:List Want} (h:Yl l w=true):w.length<=20:=by
 unfold Yl at h;rw [Ub] at h;cases w with
 |nil=>simp
 |cons y w=>
  have hg:goW l (some 0) (y::w)=true:=by
   have h2:=h.2;simp only [goW,Ub] at h2 ⊢;refine ⟨⟨h2.1.1,?_⟩,h2.2⟩;have:¬ZD l y.path < 0:=by
    have:=h2.1.1;unfold Zch at this;simp only [Ub,UH,U7] at this;exact this.1
   have:=ZdQ h.1 this;simp [later];omega
  rcases ZuO h.1 (by omega) hg with h4 |h4
  ·omega
  ·cases h4
theorem ZoU {l:List Path} {w:List Want} {p:Int} (h:Sm w):Sm (J8 l w p).1:=by
 unfold J8;split
 ·rename_i hc;have:=ZGa hc;unfold Sm;simp only;omega
 ·exact h
def Zco (t:Town) (p:Int):Town×Bool:=VU t {t with wants:=(J8 t.paths t.wants p).1} (J8 t.paths t.wants p).2
theorem ZGb (t:Town) (p:Int) (h:Zx t):Zig t p=some (Zco t p):=by
 have h':Zx {t with wants:=(J8 t.paths t.wants p).1}:=⟨h.1,h.2.1,ZoU h.2.2.1,h.2.2.2⟩
 unfold Zig Zco;simp only [Zp,Zk,Zo,Zn,Zr,Zu,Zq,ZK,ZT,ZS,Z3,Z0,Zy,ZW,QB t h,ZF5 _ _ p h.1 h.2.2.1,Zd,KO t _ _ h h']
theorem ZGc (t:Town) (p:Int) (h:Zx t):Zjd t p=some (Zco t p):=by
 have h':Zx {t with wants:=(J8 t.paths t.wants p).1}:=⟨h.1,h.2.1,ZoU h.2.2.1,h.2.2.2⟩
 unfold Zjd Zco;simp only [Zp,Zk,Zo,Zn,Zr,Zu,Zq,ZK,ZT,ZS,Z3,Z0,Zy,ZW,Jg t h,ZF9 _ _ p h.1 h.2.2.1,Zd,ZaU t _ _ h h']
theorem ZGd {t:Town} (h:Zx t) (p:Int):Zx (Zco t p).1:=ZdO h ⟨h.1,h.2.1,ZoU h.2.2.1,h.2.2.2⟩
def Jh (s:List Int) (b:Option Want) (y:Want):Option Want:=if has s y.path=true then b else match b with |none=>some y |some x=>if x.wait < y.wait then some y else some x
def Za0 (w:List Want) (s:List Int):Int:=match w.foldl (Jh s) none with |none=>0 |some x=>x.path
def Za1 (w:List Want) (b:Int):Option Want:=if b < 0 then none else w[b.toNat]?
theorem ZGe (w:List Want) (s:List Int) (hw:Sm w) (hs:Sm s):Zim w s=some (Za0 w s):=by
 have hw':=hw;unfold Sm at hw';unfold Zim;simp only [Zp,Zk,Zo,Zn,Zr,ZK,Zq,Xc,Zau];refine (Yj w (by omega) (fun k (b:Int)=>(w,s,b,(k:Int))) (-1) (fun _ b=>b= -1\/∃(n:Nat) (x:Want),b=n/\w[n]? =some x) (.inl rfl) (fun r _ b=>some (match r.foldl (Jh s) (Za1 w b) with |none=>0 |some x=>x.path)) rfl ?_ ?_).trans ?_
 ·intro rec b hJ;rcases hJ with rfl | ⟨n,x,rfl,hx⟩
  ·simp [Za1]
  ·simp [Za1,Zi hx,hx,show ¬((n:Int) < 0) by omega]
 ·intro rec k x b hJ hx hk hr;simp only [Uo] at hr;have hk2:k<=9223372036854775806:=by omega
  simp only [show decide (((k:Nat):Int) < ((w.length:Nat):Int))=true from Uv (by omega),Zs,Zi hx,QV s _ hs,Zd,Zw hk2,Md];have hk':Za1 w (k:Int)=some x:=by simp [Za1,hx,show ¬((k:Int) < 0) by omega]
  cases hh:has s x.path with
  |true=>simp [Jh,hh,hr b hJ]
  |false=>
   have h2:=hr (k:Int) (.inr ⟨k,x,rfl,hx⟩);rcases hJ with rfl | ⟨n,y,rfl,hy⟩
   ·simp [Jh,hh,h2,hk',show Za1 w (-1)=none from rfl]
   ·have hn':Za1 w (n:Int)=some y:=by simp [Za1,hy,show ¬((n:Int) < 0) by omega]
    have h3:=hr (n:Int) (.inr ⟨n,y,rfl,hy⟩);simp only [hn',UT,Zs,show decide ((n:Int) < 0)=false from Um (by omega),Zh,Zi hy];by_cases c:x.wait > y.wait
    ·simp [Jh,hh,c,h2,hk']
    ·simp [Jh,hh,c,h3,hn',show ¬y.wait < x.wait by omega]
 ·rfl
theorem ZGf (w:List Want) (s:List Int) (hw:Sm w) (hs:Sm s):Zjn w s=some (Za0 w s):=by
 have hw':=hw;unfold Sm at hw';unfold Zjn;simp only [Zp,Zk,Zo,Zn,Zr,ZK,Zq,Xc,Zau];refine (Yj w (by omega) (fun k (b:Bool×Want)=>((s,b.1,w,(w.length:Int),(k:Int)),b.2)) (false,⟨0,0⟩) (fun _ b=>b.1=false->b.2=⟨0,0⟩) (fun _=>rfl) (fun r _ b=>some (match r.foldl (Jh s) (if b.1=true then some b.2 else none) with |none=>0 |some x=>x.path)) rfl ?_ ?_).trans ?_
 ·rintro rec ⟨f,z⟩ hJ;cases f with
  |true=>simp
  |false=>
   obtain rfl:z=⟨0,0⟩:=hJ rfl;simp
 ·rintro rec k x ⟨f,z⟩ hJ hx hk hr;simp only [Uo] at hr;have hk2:k<=9223372036854775806:=by omega
  simp only [show decide (((k:Nat):Int) < ((w.length:Nat):Int))=true from Uv (by omega),Zs,Zi hx,Ja s _ hs,Zd,Zw hk2,Md];have e1:=hr (true,x) (by simp);have e2:=hr (f,z) hJ;cases hh:has s x.path with
  |true=>simpa [Jh,hh] using e2
  |false=>
   cases f with
   |false=>simpa [Jh,hh] using e1
   |true=>
    by_cases c:x.wait > z.wait
    ·simpa [Jh,hh,c] using e1
    ·simpa [Jh,hh,c,show ¬z.wait < x.wait by omega] using e2
 ·rfl
def QZ (l:List Path) (x:Control):Bool:=ZR l x && (x.next.isEmpty && decide (x.since>=YS l x.stage))
theorem ZoV (l:List Path) (x:Control) (h:Sm l) (hx:ZX x):ZbZ l x=some (QZ l x):=by
 unfold ZbZ QZ;simp only [Zp,Zk,Zo,Zn,Zr,Zu,Zq,Zy,Jb l x h hx,Zd,ZV,Qe,ZkC l _ h hx.1];cases ZR l x <;> cases x.next.isEmpty <;> simp
theorem ZoW (l:List Path) (x:Control) (h:Sm l) (hx:ZX x):Zca l x=some (QZ l x):=by
 unfold Zca QZ;simp only [Zp,Zk,Zo,Zn,Zr,Zu,Zq,Zy,KI l x h hx,Zd,ZV,Qe,ZkD l _ h hx.1];cases ZR l x <;> cases x.next.isEmpty <;> simp
def ZkR:ByteArray:=bs []
def Za2:ByteArray:=bs [104,111,108,100]
def Za3:ByteArray:=bs [99,97,108,108]
def J9 (l:List Path) (x:Control) (r:Prio):ByteArray:=
 if ZR l x && (Y0 l r && !(r.path==0)) then (if has x.stage r.path && x.next.isEmpty then Za2 else if !has x.stage r.path && QZ l x then Za3 else ZkR) else ZkR
theorem ZGg (l:List Path) (x:Control) (r:Prio) (h:Sm l) (hx:ZX x):Zip l x r=some (J9 l x r):=by
 unfold Zip J9 ZkR Za2 Za3;simp only [Zp,Zk,Zo,Zn,Zr,Zu,Zq,Zy,Jb l x h hx,Zd,ZV,Qe,Zkx l _ h,QV _ _ hx.1,ZoV l x h hx];cases ZR l x <;> cases Y0 l r <;> cases (r.path==0) <;> cases has x.stage r.path <;> cases x.next.isEmpty <;> cases QZ l x <;> rfl
theorem ZGh (l:List Path) (x:Control) (r:Prio) (h:Sm l) (hx:ZX x):Zjm l x r=some (J9 l x r):=by
 unfold Zjm J9 ZkR Za2 Za3;simp only [Zp,Zk,Zo,Zn,Zr,Zu,Zq,Zy,KI l x h hx,Zd,ZV,Qe,Zky l _ h,Ja _ _ hx.1,ZoW l x h hx];cases ZR l x <;> cases Y0 l r <;> cases (r.path==0) <;> cases has x.stage r.path <;> cases x.next.isEmpty <;> cases QZ l x <;> rfl
theorem ZGi {i j:Nat} (h:i + j<=1099511627776):W (Int.fdiv (Go.IntKind.wrap Go.IntKind.u64 (W ((i:Int) + (j:Int)))) ((2:Int) ^ (Min.min (Int.toNat (1:Int)) (Go.IntKind.bits Go.IntKind.u64))))=(((i + j) / 2:Nat):Int):=by
 rw [show W ((i:Int) + (j:Int))=(i:Int) + j from Zz (by omega) (by omega),show ((2:Int) ^ (Min.min (Int.toNat (1:Int)) (Go.IntKind.bits Go.IntKind.u64)))=2 from rfl];have e:Go.IntKind.wrap Go.IntKind.u64 ((i:Int) + j)=(i:Int) + j:=by
  unfold IntKind.wrap;rw [show IntKind.u64.signed=false from rfl,show IntKind.u64.bits=64 from rfl];simp;omega
 rw [e,Int.fdiv_eq_ediv_of_nonneg _ (by omega),Zz (by omega) (by omega)];omega
def low (l:List Int) (n:Int):Nat:=(l.takeWhile fun x=>decide (x < n)).length
theorem ZkS (l:List Int) (n:Int):low l n<=l.length:=ZoS _ _
theorem ZkT:∀{l:List Int} {n:Int} {i:Nat} {a:Int},i < low l n->l[i]? =some a->a < n
 | [],n,i,a,h,hx=>by cases hx
 |y::l,n,i,a,h,hx=>by
  unfold low at h;rw [Fr] at h;by_cases c:y < n
  ·rw [Ul (by simp [c])] at h;cases i with
   |zero=>cases hx;exact c
   |succ i=>exact ZkT (i:=i) (by unfold low;simpa using h) hx
  ·rw [Uf (by simp [c])] at h;cases h
theorem ZoX:∀{l:List Int} {n:Int} {a:Int},l[low l n]? =some a->¬a < n
 | [],n,a,h=>by cases h
 |y::l,n,a,h=>by
  unfold low at h;rw [Fr] at h;by_cases c:y < n
  ·rw [Ul (by simp [c])] at h;exact ZoX (l:=l) (n:=n) (by unfold low;simpa using h)
  ·rw [Uf (by simp [c])] at h;cases h;exact c
theorem ZoY {l:List Int} (hp:l.Pairwise (· < ·)) {n:Int} {i:Nat} {a:Int} (h:low l n<=i) (hx:l[i]? =some a):¬a < n:=by
 obtain ⟨hi,rfl⟩:=List.getElem?_eq_some_iff.1 hx;have h1:l[low l n]? =some l[low l n]:=Ua (by omega);have h2:=ZoX h1;rcases Nat.lt_or_eq_of_le h with h |h
 ·have:=MH.1 hp (low l n) i (by omega) hi h;omega
 ·simp only [←h];exact h2
theorem ZGj (x y:Int):ZiZ x y=some (decide (x < y)):=by
 unfold ZiZ ZiY;simp
theorem ZGk (l:List Int) (n:Int) (hs:Sm l) (hp:l.Pairwise (· < ·)):Zi1 l n=some ((low l n:Int),decide (l[low l n]? =some n)):=by
 unfold Sm at hs;unfold Zi1;simp only [Zp,Zk,Zo,Zn,Zr,Zq,ZV,Yu];refine ZhO (R:=fun _=>some ((low l n:Int),decide (l[low l n]? =some n))) (fun v=>(v.2.2.2.2 - v.2.2.2.1).toNat) (fun v=>∃i j:Nat,v=(l,n,(l.length:Int),(i:Int),(j:Int))/\i<=low l n/\low l n<=j/\j<=l.length) ?_ NN _ ⟨0,l.length,rfl,Mm _,ZkS l n,Uq _⟩ (Kz (by simp;omega));rintro rec _ ⟨i,j,rfl,h1,h2,h3⟩ hr;by_cases c:i < j
 ·have hlt:(i + j) / 2 < l.length:=by omega
  have hx:l[(i + j) / 2]? =some l[(i + j) / 2]:=Ua hlt;simp only [show decide ((i:Int) < (j:Int))=true from Uv (by omega),Zs,ZGi (show i + j<=1099511627776 by omega),Zi hx,ZGj,Zd,Zw (show (i + j) / 2<=9223372036854775806 by omega)];by_cases c2:l[(i + j) / 2] < n
  ·rw [Uv c2,Zs];refine hr _ ⟨(i + j) / 2 + 1,j,by simp,?_,h2,h3⟩ (by simp;omega);rcases U2 ((i + j) / 2) (low l n) with h |h
   ·omega
   ·exact absurd c2 (ZoY hp h hx)
  ·rw [Um c2,Zh];refine hr _ ⟨i,(i + j) / 2,rfl,h1,?_,by omega⟩ (by simp;omega);rcases U2 ((i + j) / 2) (low l n) with h |h
   ·exact absurd (ZkT h hx) c2
   ·exact h
 ·have hi:i=low l n:=by omega
  subst hi;simp only [show decide (((low l n:Nat):Int) < (j:Int))=false from Um (by omega),Zh];by_cases c3:low l n < l.length
  ·have hx:l[low l n]? =some l[low l n]:=Ua c3;simp only [show decide (((low l n:Nat):Int) < ((l.length:Nat):Int))=true from Uv (by omega),Zs,Zi hx];unfold Zi0;by_cases c4:l[low l n]=n
   ·simp [c4,hx]
   ·simp [c4,hx,show (l[low l n]==n)=false from Mn.2 c4]
  ·have hx:l[low l n]? =none:=UP (by omega);simp only [show decide (((low l n:Nat):Int) < ((l.length:Nat):Int))=false from Um (by omega),Zh,hx];simp
def ins (l:List Int) (n:Int):List Int:=l.take (low l n) ++ [n] ++ l.drop (low l n)
def YA (l:List Int) (n:Int):List Int:=if l[low l n]? =some n then l else ins l n
theorem ZuP (l:List Int) (n:Int):(ins l n).length=l.length + 1:=by
 have:=ZkS l n;unfold ins;simp only [Uh,Uc,Uu,Mp];omega
theorem ZGl (l:List Int) (n:Int) (k:Nat) {β:Type} (K:List Int->Option β):rws iR (((l.take k).map iR.enc ++ [[I n]]) ++ (l.drop k).map iR.enc) K=K (l.take k ++ [n] ++ l.drop k):=by
 have e:((l.take k).map iR.enc ++ [[I n]]) ++ (l.drop k).map iR.enc=(l.take k ++ [n] ++ l.drop k).map iR.enc:=by
  have h1:=UY (f:=iR.enc) (l₁:=l.take k ++ [n]) (l₂:=l.drop k);have h2:=UY (f:=iR.enc) (l₁:=l.take k) (l₂:= [n]);exact (h1.trans (UC (· ++ _) h2)).symm
 rw [e];exact Zq _ _
theorem ZuQ (l:List Int) (n:Int) (k:Nat) {β:Type} (K:List Int->Option β):rws iR (((l.take k).map iR.enc ++ [[I n]]) ++ ((l.take l.length).drop k).map iR.enc) K=K (l.take k ++ [n] ++ l.drop k):=by
 rw [MT];exact ZGl l n k K
theorem ZoZ (l:List Int) (n:Int) (h:Sm l):Zde l n=some (YA l n):=by
 have h':=h;unfold Sm at h';unfold Zde;simp only [Zp,Zk,Zo,Zn,Zr,Zq,ZV,Yu];have hk:=ZkS l n;refine (ZoR l (fun x=>decide (x < n)) (by omega) (fun k=>(l,n,(k:Int))) (fun k=>some (if l[k]? =some n then l else l.take k ++ [n] ++ l.drop k)) rfl ?_ ?_).trans rfl
 ·intro rec;rw [show decide (((l.length:Nat):Int) < ((l.length:Nat):Int))=false from Um (by omega),Zh,Zh];simp only [Ux,show Int.toNat 0=0 from rfl,ML,Zs3,Zs4,Zas,ZV,UQ,Uh,Uc,Uu,Mp,ZuQ];rw [Zt (by omega),Zt (by omega),Zt (by omega),Zt (by omega),Zt (by omega)];rw [Uf (by simp)]
 ·intro rec k x hx hkl;rw [show decide (((k:Nat):Int) < ((l.length:Nat):Int))=true from Uv (by omega),Zs,Zi hx];by_cases c:x < n
  ·simp [c,Zw (show k<=9223372036854775806 by omega)]
  rw [Um c,Zh,Zs,Zi hx,Uf (by simp),hx];simp only [Zp,Zk,Zo,Zn,Zr,Ux,show Int.toNat 0=0 from rfl,ML,Zs3,Zs4,Zas,ZV,UQ,Uh,Uc,Uu,Mp,ZuQ,Zq];by_cases c2:x=n
  ·subst c2;rw [M8,Zs,Zt (by omega),Ul rfl]
  ·rw [show (x==n)=false from Mn.2 c2,Zh,Zt (by omega),Zt (by omega),Zt (by omega),Zt (by omega),Zt (by omega),Uf (by simp [c2])]
theorem ZGm (l:List Int) (n:Int) (h:Sm l) (hp:l.Pairwise (· < ·)):Zi2 l n=some (ins l n):=by
 have h':=h;unfold Sm at h';have hk:=ZkS l n;unfold Zi2;simp only [Zp,Zk,Zo,Zn,Zr,Zq,ZGk l n h hp,KM l h,Zd,Znr];rw [Zt (by simp)];unfold ZnA Zax ins;rw [Zt (by simp;omega),Ux];rfl
theorem ZuR {l:List Path} {ids:List Int}:∀{r:List Int} {k:Nat},goT l ids k r=true->∀i x,r[i]? =some x->¬ZD l x < 0/\Vl ids (k + i) x=true
 | [],k,h,i,x,hx=>by cases hx
 |y::r,k,h,i,x,hx=>by
  unfold goT at h;simp only [Ub,UH,U7] at h;cases i with
  |zero=>cases hx;exact ⟨h.1.1.1,h.1.1.2⟩
  |succ i=>
   have:=ZuR h.2 i x hx
   rwa [show k + 1 + i=k + (i + 1) by omega] at this
theorem Zo0 {l:List Path} {a:List Int} (h:ZH l a=true):∀(i:Nat) (x:Int),a[i]? =some x->¬ZD l x < 0/\Vl a i x=true:=fun i x hx=>by
 unfold ZH at h;rw [Ub] at h;simpa using ZuR h.1 i x hx
theorem Zo1 {l:List Path} {a:List Int} (h:ZH l a=true) {i:Nat} {x y:Int} (hx:a[i]? =some x) (hy:a[i + 1]? =some y):x < y:=by
 have:=(Zo0 h (i + 1) y hy).2;unfold Vl at this;rw [Uf (by omega),Nat.add_sub_cancel,hx] at this;simpa using this
theorem ZuS {l:List Path} {a:List Int} (h:ZH l a=true):∀(d i:Nat) (x y:Int),a[i]? =some x->a[i + d + 1]? =some y->x < y
 | 0,i,x,y,hx,hy=>Zo1 h hx hy
 |d + 1,i,x,y,hx,hy=>by
  have hl:i + (d + 1) + 1 < a.length:=(List.getElem?_eq_some_iff.1 hy).1;have hz:a[i + d + 1]? =some a[i + d + 1]:=Ua (by omega);have h1:=ZuS h d i x _ hx hz;have h2:=Zo1 h hz (by rw [show i + d + 1 + 1=i + (d + 1) + 1 by omega];exact hy);omega
theorem ZkU {l:List Path} {a:List Int} (h:ZH l a=true):a.Pairwise (· < ·):=by
 rw [MH];intro i j hi hj hij;exact ZuS h (j - i - 1) i _ _ (Ua hi) (by rw [show i + (j - i - 1) + 1=j by omega];exact Ua hj)
theorem ZkV {l:List Path} {a:List Int} (h:ZH l a=true):a.length<=20:=by
 have ha:=Zgc h;have ge:∀(i:Nat) (x:Int),a[i]? =some x->(i:Int) + 1<=x:=fun i=>by
  induction i with
  |zero=>
   intro x hx;have:=ZdQ ha (Zo0 h 0 x hx).1;omega
  |succ i ih=>
   intro x hx;have hl:=(List.getElem?_eq_some_iff.1 hx).1;have hz:a[i]? =some a[i]:=Ua (by omega);have h1:=ih _ hz;have h2:=Zo1 h hz hx;omega
 rcases MW a.length with h0 |h0
 ·omega
 ·have hz:a[a.length - 1]? =some a[a.length - 1]:=Ua (by omega);have h1:=ge _ _ hz;have h2:=ZdQ ha (Zo0 h _ _ hz).1;omega
theorem Zge {l:List Path} {a:List Int} (h:ZH l a=true):Sm a:=by
 have:=ZkV h;unfold Sm;omega
theorem ZuT {l:List Int} (hp:l.Pairwise (· < ·)) {n:Int}:has l n=true↔l[low l n]? =some n:=by
 unfold has;rw [List.any_eq_true];constructor
 ·rintro ⟨x,hx,hxn⟩;have hxn:x=n:=by simpa using hxn
  subst hxn;obtain ⟨i,hi⟩:=Mh hx;rcases FE i (low l x) with h |h |h
  ·have:=ZkT h hi;omega
  ·rw [←h];exact hi
  ·have hl:=(List.getElem?_eq_some_iff.1 hi).1;have hz:l[low l x]? =some l[low l x]:=Ua (by omega);have h1:=ZoX hz;have h2:=MH.1 hp (low l x) i (by omega) hl h;have h3:=(List.getElem?_eq_some_iff.1 hi).2;omega
 ·intro h;exact ⟨n,Uk h,by simp⟩
def Ka (l:List Path) (a:List Int) (p:Path):List Int:=if ZH l (YA a p.id)=true then YA a p.id else a
def X2 (l:List Path) (ids:List Int):List Int:=if ZH l ids=true then l.foldl (Ka l) ids else ids
theorem Zo2 {l:List Path} {a:List Int} {p:Path} (h:ZH l a=true):ZH l (Ka l a p)=true:=by
 unfold Ka;split
 ·assumption
 ·exact h
theorem ZuU {l:List Path} {a:List Int} (h:ZH l a=true) (n:Int):Sm (YA a n):=by
 have:=ZkV h;unfold YA;split
 ·exact Zge h
 ·unfold Sm;rw [ZuP];omega
theorem ZGn {l:List Path} {a:List Int} (h:ZH l a=true) {n:Int} (hn:has a n=true):YA a n=a:=by
 unfold YA;rw [Ul ((ZuT (ZkU h)).1 hn)]
theorem ZGo {l:List Path} {a:List Int} (h:ZH l a=true) {n:Int} (hn:has a n=false):YA a n=ins a n:=by
 unfold YA;rw [Uf (fun e=>by rw [(ZuT (ZkU h)).2 e] at hn;cases hn)]
theorem Zo3 {l:List Path}:∀{r:List Path} {a:List Int},ZH l a=true->ZH l (r.foldl (Ka l) a)=true
 | [],a,h=>h
 |p::r,a,h=>by
  rw [Md];exact Zo3 (Zo2 h)
theorem Zcp {l:List Path} {ids:List Int} (h:Sm ids):Sm (X2 l ids):=by
 unfold X2;split
 ·rename_i hc;exact Zge (Zo3 hc)
 ·exact h
theorem ZkW (l:List Path) (ids:List Int) (hl:Sm l) (hi:Sm ids):Zdf l ids=some (X2 l ids):=by
 have hl':=hl;have hi':=hi;unfold Sm at hl' hi';unfold Zdf;simp only [Zp,Zk,Zo,Zn,Zr,Zu,Zq,Yp,ZV,Xs,Zas];rw [Zt (by simp;omega)];refine (Yj l (by omega) (fun k (a:List Int)=>(l,ids,a,(k:Int))) ids (fun _ a=>(ZH l ids=true->ZH l a=true)/\(ZH l ids=false->a=ids)) ⟨fun h=>h,fun _=>rfl⟩ (fun r _ a=>some (if ZH l ids=true then r.foldl (Ka l) a else ids)) rfl ?_ ?_).trans ?_
 ·intro rec a hJ;rw [show decide (((l.length:Nat):Int) < ((l.length:Nat):Int))=false from Um (by omega),Zh];cases hc:ZH l ids with
  |true=>simp
  |false=>simp [hJ.2 hc]
 ·intro rec k p a hJ hx hk hr;simp only [Uo] at hr;simp only [show decide (((k:Nat):Int) < ((l.length:Nat):Int))=true from Uv (by omega),Zs,VQ l ids hl hi,Zd,Zi hx,Zw (show k<=9223372036854775806 by omega)];cases hc:ZH l ids with
  |false=>simp [hJ.2 hc]
  |true=>
   have ha:=hJ.1 hc;have e:=hr (Ka l a p) ⟨fun _=>Zo2 ha,fun h=>by rw [hc] at h;cases h⟩;rw [hc,Ul rfl] at e;simp only [Zs,ZoZ a p.id (Zge ha),Zd,VQ l _ hl (ZuU ha p.id),U1,Md];unfold Ka at e ⊢;cases hd:ZH l (YA a p.id) <;> simp [hd] at e ⊢ <;> exact e
 ·rfl
theorem ZkX (l:List Path) (ids:List Int) (hl:Sm l) (hi:Sm ids):Zdm l ids=some (X2 l ids):=by
 have hl':=hl;unfold Sm at hl';unfold Zdm X2;simp only [Zp,Zk,Zo,Zn,Zr,Zu,Zq,Yp,ZV,Xs,KM ids hi,KG l ids hl hi,Zd];cases hc:ZH l ids with
 |false=>simp
 |true=>
 simp only [Ui,Zh,U1];refine (Yj l (by omega) (fun k (a:List Int)=>(l,a,l,(l.length:Int),(k:Int))) ids (fun _ a=>ZH l a=true) hc (fun r _ a=>some (r.foldl (Ka l) a)) rfl ?_ ?_).trans rfl
 ·intro rec a hJ;rw [show decide (((l.length:Nat):Int) < ((l.length:Nat):Int))=false from Um (by omega),Zh];rfl
 ·intro rec k p a ha hx hk hr;simp only [Uo] at hr;have e:=hr (Ka l a p) (Zo2 ha);simp only [show decide (((k:Nat):Int) < ((l.length:Nat):Int))=true from Uv (by omega),Zs,Ja a _ (Zge ha),Zd,Zi hx,Zw (show k<=9223372036854775806 by omega),Md];unfold Ka at e ⊢;cases hh:has a p.id with
  |true=>
   have hp:=ZGn ha hh;rw [hp,ha,Ul rfl] at e;rw [Zs,hp,ha,Ul rfl];exact e
  |false=>
   have hp:=ZGo ha hh;have hs:=ZuU ha p.id;rw [hp] at e hs ⊢;simp only [Zh,ZGm a p.id (Zge ha) (ZkU ha),Zd,KG l _ hl hs];cases hd:ZH l (ins a p.id) <;> simp [hd] at e ⊢ <;> exact e
def X3 (l:List Path) (x:Control) (w:List Want):List Int:=
 if Za0 w x.stage=0 then [] else if ZR l x && Yl l w then X2 l [Za0 w x.stage] else []
theorem Za4:Sm ([]:List Int):=by unfold Sm;simp
theorem Zo4 (l:List Path) (x:Control) (w:List Want):Sm (X3 l x w):=by
 unfold X3;split
 ·exact Za4
 ·split
  ·exact Zcp (Xw _)
  ·exact Za4
theorem ZuV (l:List Path) (x:Control) (w:List Want) (h:Sm l) (hx:ZX x) (hw:Sm w):Ze6 l x w=some (X3 l x w):=by
 unfold Ze6 X3;simp only [Zp,Zk,Zo,Zn,Zr,Zu,Zq,ZK,Zy,ZGe w _ hw hx.1,Jb l x h hx,Zkw l w h hw,ZkW l _ h (Xw _),Zd];by_cases c:Za0 w x.stage=0
 ·simp [c]
 ·rw [show (Za0 w x.stage==0)=false from Mn.2 c,Zh,Uf c];cases ZR l x <;> cases Yl l w <;> simp [ZkW l _ h (Xw _)]
theorem ZuW (l:List Path) (x:Control) (w:List Want) (h:Sm l) (hx:ZX x) (hw:Sm w):Zfu l x w=some (X3 l x w):=by
 unfold Zfu X3;simp only [Zp,Zk,Zo,Zn,Zr,Zu,Zq,ZK,Zy,ZGf w _ hw hx.1,KI l x h hx,Zoo l w h hw,ZkX l _ h (Xw _),Zd];by_cases c:Za0 w x.stage=0
 ·simp [c]
 ·rw [show (Za0 w x.stage==0)=false from Mn.2 c,Zh,Uf c];cases ZR l x <;> cases Yl l w <;> simp [ZkX l _ h (Xw _)]
def Zcq (l:List Path) (x:Control) (w:List Want):Bool:=
 QZ l x && (!(X3 l x w).isEmpty && (decide (x.since>=60) || !w.any fun y=>has x.stage y.path))
theorem gt0 {α:Type} (l:List α):decide (((l.length:Nat):Int) > 0)= !l.isEmpty:=by
 cases l with
 |nil=>rfl
 |cons x l=>simp
theorem ZGp (l:List Path) (x:Control) (w:List Want) (h:Sm l) (hx:ZX x) (hw:Sm w):Zin l x w=some (Zcq l x w):=by
 have hw':=hw;unfold Sm at hw';unfold Zin Zcq;simp only [Zp,Zk,Zo,Zn,Zr,Zu,Zq,ZK,Zy,Xc,Zau];refine (Yc w (by omega) (fun k (b:Bool)=>((l,w,b,(k:Int)),x)) false (fun r _ b=>some (QZ l x && (!(X3 l x w).isEmpty && (decide (x.since>=60) || !(b || r.any fun y=>has x.stage y.path))))) rfl ?_ ?_).trans (by simp)
 ·intro rec b;rw [show decide (((w.length:Nat):Int) < ((w.length:Nat):Int))=false from Um (by omega),Zh];simp only [ZoV l x h hx,Zd,ZuV l x w h hx hw,ZV,gt0];cases QZ l x <;> cases (X3 l x w).isEmpty <;> cases b <;> simp
 ·intro rec k y b hy hk hr;simp only [Uo] at hr;simp only [show decide (((k:Nat):Int) < ((w.length:Nat):Int))=true from Uv (by omega),Zs,Zw (show k<=9223372036854775806 by omega),Zi hy,QV _ _ hx.1,Zd,FK];cases b with
  |true=>simp [hr true]
  |false=>simp [hr (has x.stage y.path)]
theorem ZGq (y:Want) (x:Control) (hx:ZX x):Zjo y x=some (has x.stage y.path):=by
 unfold Zjo;simp [Ja _ _ hx.1]
theorem ZGr (w:List Want) (x:Control) (h:Sm w) (hx:ZX x):Zjp w x=some (w.any fun y=>has x.stage y.path):=by
 unfold Sm at h;unfold Zjp ZnV;simp only [Zp,Zk,Zo,Zn,Zr,ZK,Zq,Zy,Xc,Zau];generalize hI:Zf (_:_->_->Option Int) NN _=J0;have hI':J0=match w.findIdx? (fun y=>has x.stage y.path) with |some i=>some (i:Int) |none=>some (-1):=by
  rw [←hI];refine Zcf w (fun y=>has x.stage y.path) (by omega) (fun k=>(w,x,(w.length:Int),(k:Int))) (fun i=>some (i:Int)) (some (-1)) rfl ?_ ?_
  ·intro rec;simp
  ·intro rec k a ha hk;simp [hk,Zi ha,Zw (show k<=9223372036854775806 by omega),ZGq a x hx,Zy,ZB]
 rw [hI',←Zce];cases w.findIdx? (fun y=>has x.stage y.path) <;> simp
theorem ZGs (l:List Path) (x:Control) (w:List Want) (h:Sm l) (hx:ZX x) (hw:Sm w):Zjq l x w=some (Zcq l x w):=by
 unfold Zjq Zcq;simp only [Zp,Zk,Zo,Zn,Zr,Zu,Zq,ZK,Zy,ZoW l x h hx,Zd,ZuW l x w h hx hw,ZV,Qe,ZGr w x hw hx];cases QZ l x <;> cases (X3 l x w).isEmpty <;> cases decide (x.since>=60) <;> simp
def Qg (l:List Path) (x:Control) (st:List Int):Control×Bool:=
 if QZ l x && (!st.isEmpty && (ZH l st && !decide (st=x.stage))) then
  (if Yy l x.stage st=0 then ⟨st,0,[],0⟩ else ⟨x.stage,x.since,st,Yy l x.stage st⟩,true) else (x,false)
theorem ZuX (l:List Path) (x:Control) (st:List Int) (h:Sm l) (hx:ZX x) (hs:Sm st):Ze7 l x st=some (Qg l x st):=by
 have hs':=hs;unfold Sm at hs';unfold Ze7 Qg;simp only [Zp,Zk,Zo,Zn,Zr,Zu,Zq,Zy,ZdM x hx,ZoV l x h hx,Zd,ZV,Qe,VQ l st h hs,Zoh st x.stage hs,Zkr l _ _ h hx.1 hs,Zas];cases QZ l x with
 |false=>simp [Zy]
 |true=>
 cases st.isEmpty with
 |true=>simp [Zy]
 |false=>
 cases ZH l st with
 |false=>simp [Zy]
 |true=>
 cases decide (st=x.stage) with
 |true=>simp [Zy]
 |false=>
  simp only [Ui,UT,Zh,Zs];rw [Zt (by simp;omega)];by_cases c:Yy l x.stage st=0
  ·simp [c]
  ·simp [c,show (Yy l x.stage st==0)=false from Mn.2 c];rw [Zt (by omega)]
theorem ZuY (l:List Path) (x:Control) (st:List Int) (h:Sm l) (hx:ZX x) (hs:Sm st):Zft l x st=some (Qg l x st):=by
 have h0:=(ZdP l x.stage st).1;unfold Zft Qg;simp only [Zp,Zk,Zo,Zn,Zr,Zu,Zq,Zy,Zgb x hx,ZoW l x h hx,Zd,ZV,Qe,KG l st h hs,Zoi st x.stage hs,Zkq l _ _ h hx.1 hs,KM st hs];cases QZ l x with
 |false=>simp [Zy]
 |true=>
 cases st.isEmpty with
 |true=>simp [Zy]
 |false=>
 cases ZH l st with
 |false=>simp [Zy]
 |true=>
 cases decide (st=x.stage) with
 |true=>simp [Zy]
 |false=>
  by_cases c:Yy l x.stage st=0
  ·simp [c]
  ·simp [c,show Yy l x.stage st > 0 by omega]
theorem ZuZ {l:List Path} {x:Control} {st:List Int} (hx:ZX x) (hs:Sm st):ZX (Qg l x st).1:=by
 unfold Qg;split
 ·simp only;split
  ·exact ⟨hs,Za4⟩
  ·exact ⟨hx.1,hs⟩
 ·exact hx
theorem Zu0 {l:List Path} {x:Control} {st:List Int} (h:ZR l x=true):ZR l (Qg l x st).1=true:=by
 unfold Qg;split
 ·rename_i hc;simp only [Ub,UH] at hc;obtain ⟨_,hne,ht,_⟩:=hc;obtain ⟨a1,a2,a3⟩:=ZoM h;obtain ⟨h1,h2⟩:=Zcn h;have ha:=Zgc a2;have h0:=ZdP l x.stage st;have hne':st≠ []:=fun e=>by rw [e] at hne;cases hne
  simp only;split
  ·simp [ZR,ht,hne,ZkK,ha,inR,hne']
  ·simp [ZR,ht,a1,a2,inR,h1,hne'];omega
 ·exact h
def Vt (l:List Path) (x:Control) (w:List Want):Control:=if Zcq l x w=true then (Qg l x (X3 l x w)).1 else Xn l x
theorem Zo5 {l:List Path} {x:Control} {w:List Want} (h:ZR l x=true):ZR l (Vt l x w)=true:=by
 unfold Vt;split
 ·exact Zu0 h
 ·exact ZoN h
theorem Zo6 {l:List Path} {x:Control} {w:List Want} (hx:ZX x):ZX (Vt l x w):=by
 unfold Vt;split
 ·exact ZuZ hx (Zo4 l x w)
 ·exact ZoL hx
theorem ZGt (l:List Path) (x:Control) (w:List Want) (h:Sm l) (hx:ZX x) (hw:Sm w):Zjr l x w=some (Vt l x w):=by
 unfold Zjr Vt;simp only [Zp,Zk,Zo,Zn,Zr,Zu,Zq,ZK,Zy,ZGs l x w h hx hw,Zd,ZuW l x w h hx hw,ZuY l x _ h hx (Zo4 l x w),ZoK l x h hx];cases Zcq l x w <;> simp
theorem ZGu (l:List Path) (x:Control) (w:List Want) (h:Sm l) (hx:ZX x) (hw:Sm w):Zio l x w=some (if ZR l x && Yl l w then (Vt l x w,J6 (Vt l x w) w) else (x,w)):=by
 have hw':=hw;unfold Sm at hw';unfold Zio;simp only [Zp,Zk,Zo,Zn,Zr,Zu,Zq,ZK,Zy,Jb l x h hx,Zkw l w h hw,ZdM x hx,ZoJ l x h hx,ZGp l x w h hx hw,ZuV l x w h hx hw,ZuX l x _ h hx (Zo4 l x w),Zd,Zc6,Xc];cases hc:ZR l x with
 |false=>
  simp only [UT,Zs];rw [Zt (by simp;omega)];simp
 |true=>
 cases ha:Yl l w with
 |false=>
  simp only [UT,Ui,Zs,Zh];rw [Zt (by simp;omega)];simp
 |true=>
 simp only [Ui,Zh,Mz,U1];cases hm:Zcq l x w with
 |true=>
  have hy:Vt l x w=(Qg l x (X3 l x w)).1:=by unfold Vt;rw [Ul hm]
  have hyc:=Zo5 (w:=w) hc;have hys:=Zo6 (l:=l) (w:=w) hx;rw [hy] at hyc hys;simp only [Zs,Zf2 l _ h hys,Zd,hy];unfold J6;refine Zkl w _ (by omega) (fun k acc=>((l,w,acc,XK l (Qg l x (X3 l x w)).1,(k:Int)),((⟨[],0,[],0⟩:Control),(Qg l x (X3 l x w)).1))) (fun acc=>some ((Qg l x (X3 l x w)).1,acc)) rfl ?_ ?_
  ·intro rec acc hl;simp [Zy]
  ·intro rec k z acc hz hk hl;obtain ⟨h1,h2,h3⟩:=ZkL ha (Yd hz);simp [hk,Zi hz,XI _ _ h,Zgd hyc h1,Zw (show k<=9223372036854775806 by omega),Zcd,show W (z.wait + 1)=z.wait + 1 from Zz (by omega) (by omega),Zy];by_cases c:XJ (Qg l x (X3 l x w)).1 z.path=1
   ·simp [c]
   ·have hb:(if z.wait + 1 < 100000 then z.wait + 1 else 100000)=KP z.wait:=by unfold KP;split <;> split <;> omega
    simp [c,show (XJ (Qg l x (X3 l x w)).1 z.path != 1)=true from bne_iff_ne.2 c,hb,ZkM,show (acc.length + 1) * 16<=140737488355328 by omega,show acc.length<=1152921504606846975 by omega]
 |false=>
  have hy:Vt l x w=Xn l x:=by unfold Vt;rw [Uf (by rw [hm];simp)]
  have hyc:=Zo5 (w:=w) hc;have hys:=Zo6 (l:=l) (w:=w) hx;rw [hy] at hyc hys;simp only [Zh,Zf2 l _ h hys,Zd,hy];unfold J6;refine Zkl w _ (by omega) (fun k acc=>((l,w,acc,XK l (Xn l x),(k:Int)),((⟨[],0,[],0⟩:Control),(Xn l x)))) (fun acc=>some ((Xn l x),acc)) rfl ?_ ?_
  ·intro rec acc hl;simp [Zy]
  ·intro rec k z acc hz hk hl;obtain ⟨h1,h2,h3⟩:=ZkL ha (Yd hz);simp [hk,Zi hz,XI _ _ h,Zgd hyc h1,Zw (show k<=9223372036854775806 by omega),Zcd,show W (z.wait + 1)=z.wait + 1 from Zz (by omega) (by omega),Zy];by_cases c:XJ (Xn l x) z.path=1
   ·simp [c]
   ·have hb:(if z.wait + 1 < 100000 then z.wait + 1 else 100000)=KP z.wait:=by unfold KP;split <;> split <;> omega
    simp [c,show (XJ (Xn l x) z.path != 1)=true from bne_iff_ne.2 c,hb,ZkM,show (acc.length + 1) * 16<=140737488355328 by omega,show acc.length<=1152921504606846975 by omega]
def Kb (l:List Path) (x:Control) (w:List Want) (r:Prio):Control:=
 if (J9 l x r).toList==Za2.toList then Xn l x else if (J9 l x r).toList==Za3.toList then (Qg l x (X2 l [r.path])).1 else Vt l x w
def Kc (l:List Path) (x:Control) (w:List Want) (r:Prio):Control×(List Want×Prio):=
 if ZR l x && (Yl l w && Y0 l r) then (Kb l x w r,J6 (Kb l x w r) w,J7 r) else (x,w,r)
theorem Zu1 {l:List Path} {x:Control} {w:List Want} {r:Prio} (h:ZR l x=true):ZR l (Kb l x w r)=true:=by
 unfold Kb;split
 ·exact ZoN h
 ·split
  ·exact Zu0 h
  ·exact Zo5 h
theorem Zo7 {l:List Path} {x:Control} {w:List Want} {r:Prio} (h:ZX x):ZX (Kb l x w r):=by
 unfold Kb;split
 ·exact ZoL h
 ·split
  ·exact ZuZ h (Zcp (Xw _))
  ·exact Zo6 h
theorem ZGv (r:Prio):(if r.left > 1 then (⟨r.path,r.left - 1⟩:Prio) else ⟨0,0⟩)=J7 r:=by
 unfold J7;by_cases c:r.left > 1
 ·rw [Ul c,Uf (by omega)]
 ·rw [Uf c,Ul (by omega)]
theorem ZGw (l:List Path) (x:Control) (w:List Want) (r:Prio) (h:Sm l) (hx:ZX x) (hw:Sm w):Ziq l x w r=some (Kc l x w r):=by
 have hw':=hw;unfold Sm at hw';unfold Ziq Kc;simp only [Zp,Zk,Zo,Zn,Zr,Zu,Zq,ZK,Zy,Jb l x h hx,Zkw l w h hw,Zkx l r h,ZdM x hx,ZoJ l x h hx,ZGu l x w h hx hw,ZGg l x r h hx,ZkW l _ h (Xw _),ZuX l x _ h hx (Zcp (Xw _)),Zd,Zc6,Xc];cases hc:ZR l x with
 |false=>
  simp only [UT,Zs];rw [Zt (by simp;omega)];simp
 |true=>
 cases ha:Yl l w with
 |false=>
  simp only [UT,Ui,Zs,Zh];rw [Zt (by simp;omega)];simp
 |true=>
 cases hp:Y0 l r with
 |false=>
  simp only [UT,Ui,Zs,Zh];rw [Zt (by simp;omega)];simp
 |true=>
 have hl:=ZkN hp;have hyc:=Zu1 (w:=w) (r:=r) hc;have hys:=Zo7 (l:=l) (w:=w) (r:=r) hx;have hwt:=ZuF l (Kb l x w r) w h hys hw hyc ha;simp only [Ui,Zh,Mz,U1,show (bs [104,111,108,100])=Za2 from rfl,show (bs [99,97,108,108])=Za3 from rfl,show W (r.left - 1)=r.left - 1 from Zz (by omega) (by omega)];rw [←ZGv r];unfold Kb at hwt ⊢;cases c1:(J9 l x r).toList==Za2.toList with
 |true=>
  rw [c1,Ul rfl] at hwt;simp only [Zs,U1,hwt,Zd];by_cases c:r.left > 1 <;> simp [c]
 |false=>
  rw [c1,Uf (by simp)] at hwt;cases c2:(J9 l x r).toList==Za3.toList with
  |true=>
   rw [c2,Ul rfl] at hwt;simp only [Zs,Zh,U1,hwt,Zd];by_cases c:r.left > 1 <;> simp [c]
  |false=>
   simp only [Zh];by_cases c:r.left > 1 <;> simp [c]
theorem ZGx (l:List Path) (x:Control) (w:List Want) (r:Prio) (h:Sm l) (hx:ZX x) (hw:Sm w):Zjs l x w r=some (Kc l x w r):=by
 unfold Zjs Kc;simp only [Zp,Zk,Zo,Zn,Zr,Zu,Zq,ZK,Zy,KI l x h hx,Zoo l w h hw,Zky l r h,Zgb x hx,Zga w hw,ZoK l x h hx,ZGt l x w h hx hw,ZGh l x r h hx,ZkX l _ h (Xw _),ZuY l x _ h hx (Zcp (Xw _)),Zd];cases hc:ZR l x with
 |false=>simp
 |true=>
 cases ha:Yl l w with
 |false=>simp
 |true=>
 cases hp:Y0 l r with
 |false=>simp
 |true=>
 have hl:=ZkN hp;have hyc:=Zu1 (w:=w) (r:=r) hc;have hys:=Zo7 (l:=l) (w:=w) (r:=r) hx;have hwt:=ZuG l (Kb l x w r) w h hys hw hyc ha;simp only [Ui,Zh,Mz,U1,show (bs [104,111,108,100])=Za2 from rfl,show (bs [99,97,108,108])=Za3 from rfl,ZuI r hl];unfold Kb at hwt ⊢;cases c1:(J9 l x r).toList==Za2.toList with
 |true=>
  rw [c1,Ul rfl] at hwt;simp [hwt]
 |false=>
  rw [c1,Uf (by simp)] at hwt;cases c2:(J9 l x r).toList==Za3.toList with
  |true=>
   rw [c2,Ul rfl] at hwt;simp [hwt]
  |false=>
   rw [c2,Uf (by simp)] at hwt;simp [hwt]
def Za5 (t:Town):Town:=
 if Ye t.paths t.lamps t.power=0 then {t with now:=t.now + 1,control:=(Kc t.paths t.control t.wants t.prio).1,wants:=(Kc t.paths t.control t.wants t.prio).2.1,prio:=(Kc t.paths t.control t.wants t.prio).2.2} else {t with now:=t.now + 1}
def Q0 (t:Town):Town×Bool:=if Z7 t=true then VU t (Vs (Za5 t)) true else (t,false)
theorem Zu2 {l:List Path} {x:Control} {w:List Want} {r:Prio} (hx:ZX x) (hw:Sm w):ZX (Kc l x w r).1/\Sm (Kc l x w r).2.1:=by
 unfold Kc;split
 ·exact ⟨Zo7 hx,ZuH hw⟩
 ·exact ⟨hx,hw⟩
theorem Zo8 {t:Town} (h:Zx t):Zx (Za5 t):=by
 obtain ⟨h0,h1,h2,h3,h4⟩:=h;unfold Za5;split
 ·exact ⟨h0,(Zu2 h1 h2).1,(Zu2 h1 h2).2,h3,h4⟩
 ·exact ⟨h0,h1,h2,h3,h4⟩
theorem Zo9 (t:Town):(Za5 t).record=t.record/\(Za5 t).books=t.books:=by
 unfold Za5;split <;> exact ⟨rfl,rfl⟩
theorem ZGy (t:Town) (h:Zx t):Zir t=some (Q0 t):=by
 have hh:=Zo8 h;obtain ⟨hr,hb⟩:=Zo9 t;unfold Zir Q0;simp only [Zp,Zk,Zo,Zn,Zr,Zu,Zq,ZK,ZT,ZS,Z3,Z0,Zy,ZW,QB t h,KK t h,ZuJ t h,ZGw _ _ _ t.prio h.1 h.2.1 h.2.2.1,Zd];cases ht:Z7 t with
 |false=>simp
 |true=>
  obtain ⟨p1,p2,p3,p4,p5,p6,p7,p8,p9⟩:=ZaW ht;have e:=ZkO ht hr hb hh;have hn:=VV ht hr hh;rw [show W (t.now + 1)=t.now + 1 from Zz (by omega) (by omega)];unfold Za5 at e hn ⊢;by_cases c:Ye t.paths t.lamps t.power=0
  ·simp only [c,U1] at e hn ⊢;simp [e,Zy,ZW,KO t _ true h hn]
  ·simp only [c,Mw] at e hn ⊢;simp [show (Ye t.paths t.lamps t.power==0)=false from Mn.2 c,e,Zy,ZW,KO t _ true h hn]
theorem Zu3 (t:Town) (h:Zx t):Zfv t=some (Q0 t):=by
 have hh:=Zo8 h;obtain ⟨hr,hb⟩:=Zo9 t;unfold Zfv Q0;simp only [Zp,Zk,Zo,Zn,Zr,Zu,Zq,ZK,ZT,ZS,Z3,Z0,Zy,ZW,Jg t h,KL t h,ZuK t h,ZGx _ _ _ t.prio h.1 h.2.1 h.2.2.1,Zd];cases ht:Z7 t with
 |false=>simp
 |true=>
  obtain ⟨p1,p2,p3,p4,p5,p6,p7,p8,p9⟩:=ZaW ht;have e:=ZkP ht hr hb hh;have hn:=VV ht hr hh;rw [show W (t.now + 1)=t.now + 1 from Zz (by omega) (by omega)];unfold Za5 at e hn ⊢;by_cases c:Ye t.paths t.lamps t.power=0
  ·simp only [c,U1] at e hn ⊢;simp [e,Zy,ZW,ZaU t _ true h hn]
  ·simp only [c,Mw] at e hn ⊢;simp [show (Ye t.paths t.lamps t.power==0)=false from Mn.2 c,e,Zy,ZW,ZaU t _ true h hn]
theorem Zpa {t:Town} (h:Zx t):Zx (Q0 t).1:=by
 unfold Q0;split
 ·rename_i hc;exact ZdO h (VV hc (Zo9 t).1 (Zo8 h))
 ·exact h
def Za6 (t:Town):Nat->Town->Town×Bool
 | 0,u=>(u,true)
 |k + 1,u=>if (Q0 u).2=true then Za6 t k (Q0 u).1 else (t,false)
def Za7 (t:Town) (n:Int):Town×Bool:=if inR n 1 100=true then Za6 t n.toNat t else (t,false)
theorem Zu4 {t:Town} (ht:Zx t):∀{k:Nat} {u:Town},Zx u->Zx (Za6 t k u).1
 | 0,u,hu=>hu
 |k + 1,u,hu=>by
  unfold Za6;split
  ·exact Zu4 ht (Zpa hu)
  ·exact ht
theorem ZGz {t:Town} (h:Zx t) (n:Int):Zx (Za7 t n).1:=by
 unfold Za7;split
 ·exact Zu4 h h
 ·exact h
abbrev Ji:Town:=⟨[],(⟨[],0,[],0⟩:Control),[],(⟨0,0⟩:Prio),[],false,[],0,0⟩
theorem Zu5 {F:(((Int×Int)×(Town×(Town×Town)))->Option (Town×Bool))->((Int×Int)×(Town×(Town×Town)))->Option (Town×Bool)} {t:Town} {n:Int} (hn:n<=100)
  (h0:∀rec u (i:Nat),Zx u->¬(i:Int) < n->F rec ((n,(i:Int)),(t,(Ji,u)))=some (u,true))
  (h1:∀rec u (i:Nat),Zx u->(i:Int) < n->F rec ((n,(i:Int)),(t,(Ji,u)))=if (Q0 u).2=true then rec ((n,((i + 1:Nat):Int)),(t,(Ji,(Q0 u).1))) else some (t,false))
  {i:Nat} {u:Town} (hu:Zx u):Zf F NN ((n,(i:Int)),(t,(Ji,u)))=some (Za6 t (n.toNat - i) u):=by
 refine ZhO (R:=fun v=>some (Za6 t (n.toNat - v.1.2.toNat) v.2.2.2)) (fun v=>n.toNat - v.1.2.toNat) (fun v=>∃(i:Nat) (u:Town),v=((n,(i:Int)),(t,(Ji,u)))/\Zx u) ?_ NN _ ⟨i,u,rfl,hu⟩ (Kz (by omega));rintro rec _ ⟨i,u,rfl,hu⟩ hr;by_cases c:(i:Int) < n
 ·rw [h1 rec u i hu c];have e:n.toNat - i=n.toNat - (i + 1) + 1:=by omega
  simp only [Ux];rw [e,Za6];split
  ·rw [hr _ ⟨i + 1,_,rfl,Zpa hu⟩ (by simp only [Ux];omega)];simp only [Ux]
  ·rfl
 ·rw [h0 rec u i hu c];simp only [Ux];rw [show n.toNat - i=0 by omega];rfl
theorem ZGA (t:Town) (n:Int) (h:Zx t):Zis t n=some (Za7 t n):=by
 unfold Zis Za7;simp only [Zp,Zk,Zo,Zn,Zr,Zu,Zq,ZK,ZT,ZS,Z3,Z0,Zy,ZW,QB t h,JX,Zd];cases hn:inR n 1 100 with
 |false=>simp
 |true=>
  have hn':1<=n/\n<=100:=by simpa [inR] using hn
  simp only [Ui,Zh,U1];refine (Zu5 (t:=t) (n:=n) (i:=0) (u:=t) hn'.2 ?_ ?_ h).trans (by simp)
  ·intro rec u i hu hi;simp [hi,Zy,ZW]
  ·intro rec u i hu hi;simp only [Zp,Zk,Zo,Zn,Zr,Zu,Zq,ZK,ZT,ZS,Z3,Z0,Zy,ZW,Uv hi,Zs,ZGy u hu,Zd,QB t h,Zw (show i<=9223372036854775806 by omega)];cases (Q0 u).2 <;> simp
theorem ZGB (t:Town) (n:Int) (h:Zx t):Zjt t n=some (Za7 t n):=by
 unfold Zjt Za7;simp only [Zp,Zk,Zo,Zn,Zr,Zu,Zq,ZK,ZT,ZS,Z3,Z0,Z0,Zy,ZW,Jg t h,ZaJ,Zd,Zu3 t h];cases hn:inR n 1 100 with
 |false=>simp
 |true=>
  have hn':1<=n/\n<=100:=by simpa [inR] using hn
  simp only [Ui,Zh,U1,show decide ((0:Int) < n)=true from Uv (by omega),Zs,show W (0 + 1)=((1:Nat):Int) from Zz (by omega) (by omega)];have e:n.toNat=n.toNat - 1 + 1:=by omega
  rw [e,Za6];cases h2:(Q0 t).2 with
  |false=>simp
  |true=>
   simp only [Ui,Zh,U1];refine Zu5 (t:=t) (n:=n) (i:=1) (u:=(Q0 t).1) hn'.2 ?_ ?_ (Zpa h)
   ·intro rec u i hu hi;simp [hi,Zy,ZW]
   ·intro rec u i hu hi;simp only [Zp,Zk,Zo,Zn,Zr,Zu,Zq,ZK,ZT,ZS,Z3,Z0,Z0,Zy,ZW,Uv hi,Zs,Zu3 u hu,Zd,Jg t h,Zw (show i<=9223372036854775806 by omega)];cases (Q0 u).2 <;> simp
def XO (l:List Path) (c:List (List Int)) (p:Path):List (List Int):=if cov c p.id=true then c else c ++ [X2 l [p.id]]
def Y3 (l:List Path):List (List Int):=if ZJ l=true then l.foldl (XO l) [] else []
theorem Zu6 (a:List Int) (n x:Int):has (YA a n) x=(has a x || n==x):=by
 unfold YA;split
 ·rename_i h;have hm:n∈a:=Uk h;by_cases c:n=x
  ·subst c;have:has a n=true:=by unfold has;exact List.any_eq_true.2 ⟨n,hm,by simp⟩
   rw [this];rfl
  ·rw [show (n==x)=false from Mn.2 c,Bool.or_false]
 ·unfold ins has;have e:a.any (fun y=>y==x)=((a.take (low a n)).any (fun y=>y==x) || (a.drop (low a n)).any fun y=>y==x):=by
   rw [←List.any_append,Up]
  rw [e];simp only [List.any_append,FK,List.any_nil,Bool.or_false];cases (a.take (low a n)).any (fun y=>y==x) <;> cases (a.drop (low a n)).any (fun y=>y==x) <;> cases (n==x) <;> rfl
theorem Zpb (a:List Int) (n:Int):(YA a n).length<=a.length + 1:=by
 unfold YA;split
 ·omega
 ·rw [ZuP];exact Uq _
theorem ZGC (l:List Path) (p:Int):(X2 l [p]).length<=20:=by
 unfold X2;split
 ·rename_i h;exact ZkV (Zo3 h)
 ·simp
theorem ZGD (s:List Int):∀(a:List Int) (x:Int),has (s.foldl YA a) x=(has a x || has s x):=by
 induction s with
 |nil=>intro a x;simp [has]
 |cons y s ih=>
  intro a x;rw [Md,ih,Zu6];unfold has;rw [FK];cases a.any (fun z=>z==x) <;> cases (y==x) <;> simp
theorem ZGE (s:List Int):∀(a:List Int),(s.foldl YA a).length<=a.length + s.length:=by
 induction s with
 |nil=>intro a;simp
 |cons y s ih=>
  intro a;rw [Md,UJ];have:=ih (YA a y);have:=Zpb a y;omega
theorem Zcr {l:List Path} (h:ZJ l=true):l.length<=12:=by
 unfold ZJ at h;rw [Ub] at h;exact FF h.1
theorem ZkY {o p q:Own} (h0:okO o p=true) (h1:okO o q=true) (l:List (List Int)) (a:List Int) {β:Type} (K:List (List Int)->Option β):
  rws (Zg (rX o 1 iR)) (l.map (Zg (rX p 1 iR)).enc ++ [[.slc q 1 (a.map iR.enc)]]) K=K (l ++ [a]):=
 (Zaq (Zg (rX o 1 iR)) _ _ K).trans ((ZeP h0 l _).trans (ZeP h1 [a] fun l'=>K (l ++ l')))
theorem Zu7 (l:List Path) (h:Sm l):Zfm l=some (Y3 l):=by
 unfold Zfm Y3;simp only [Zp,Zk,Zo,Zn,Zr,Zu,ZbP,JH,Yp,Vg,Xs,JW l h,Zd];cases ha:ZJ l with
 |false=>simp
 |true=>
 have hl:=Zcr ha;simp only [Ui,Zh,U1];refine (Yj l (by omega) (fun k (c:List (List Int))=>(l,c,l,(l.length:Int),(k:Int))) [] (fun k c=>c.length<=k/\∀y∈c,Sm y) ⟨Uq _,fun y hy=>by cases hy⟩ (fun r _ c=>some (r.foldl (XO l) c)) rfl ?_ ?_).trans rfl
 ·intro rec c hJ;rw [show decide (((l.length:Nat):Int) < ((l.length:Nat):Int))=false from Um (by omega),Zh];rfl
 ·intro rec k p c hJ hx hk hr;simp only [Uo] at hr;have hS:SmS c:=⟨by unfold Sm;omega,hJ.2⟩
  simp only [show decide (((k:Nat):Int) < ((l.length:Nat):Int))=true from Uv (by omega),Zs,Zi hx,Zud c _ hS,Zd,ZkX l _ h (Xw _),Zw (show k<=9223372036854775806 by omega),Md];cases hc:cov c p.id with
  |true=>
   have e:XO l c p=c:=by unfold XO;rw [Ul hc]
   rw [e];simpa using hr c ⟨by omega,hJ.2⟩
  |false=>
   have e:XO l c p=c ++ [X2 l [p.id]]:=by unfold XO;rw [Uf (by rw [hc];simp)]
   have hr':=hr (c ++ [X2 l [p.id]]) ⟨by simp;omega,fun y hy=>by
    rcases List.mem_append.1 hy with hy |hy
    ·exact hJ.2 y hy
    ·rw [Ml.1 hy];exact Zcp (Xw _)⟩
   rw [e,←hr'];simp only [UT,Zs];rw [Zt (by simp;omega)];simp only [ZkY (o:= .own) (p:= .own) (q:= .own) rfl rfl]
theorem Zu8 (l:List Path) (h:Sm l):ZeY l=some (Y3 l):=by
 have hl':=h;unfold Sm at hl';unfold ZeY Y3;simp only [Zp,Zk,Zo,Zn,Zr,Zu,Zq,Zat,Yp,ZV,Vg,Xs,Yu,V9 l h,Zd];refine (Yj l (by omega) (fun k (c:List (List Int)×List Int)=>(l,c.1,c.2,(k:Int))) ([],[]) (fun k c=>(ZJ l=true->c.1.length<=k/\c.2.length<=20 * k/\∀x,has c.2 x=cov c.1 x)/\(ZJ l=false->c.1= [])) ⟨fun _=>⟨Uq _,Uq _,fun x=>rfl⟩,fun _=>rfl⟩ (fun r _ c=>some (if ZJ l=true then r.foldl (XO l) c.1 else [])) rfl ?_ ?_).trans rfl
 ·rintro rec ⟨c,d⟩ hJ;rw [show decide (((l.length:Nat):Int) < ((l.length:Nat):Int))=false from Um (by omega),Zh];cases ha:ZJ l with
  |true=>rfl
  |false=>rw [hJ.2 ha];rfl
 ·rintro rec k p ⟨c,d⟩ hJ hx hk hr;simp only [Uo] at hr;simp only [show decide (((k:Nat):Int) < ((l.length:Nat):Int))=true from Uv (by omega),Zs,V9 l h,Zd,Zw (show k<=9223372036854775806 by omega)];cases ha:ZJ l with
  |false=>simp [show c= [] from hJ.2 ha]
  |true=>
  have hl:=Zcr ha;obtain ⟨j1,j2,j3⟩:=hJ.1 ha;simp only at j1 j2 j3;have hd:Sm d:=by unfold Sm;omega
  simp only [Zs,Zi hx,QV d _ hd,Zd,j3,ZkW l _ h (Xw _),U1,Md];simp only [ha,U1] at hr;cases hc:cov c p.id with
  |true=>
   have e:XO l c p=c:=by unfold XO;rw [Ul hc]
   rw [e,Zs];exact hr (c,d) ⟨fun _=>⟨Nat.le_succ_of_le j1,by show d.length<=20 * (k + 1);omega,j3⟩,fun h=>by cases h⟩
  |false=>
   have e:XO l c p=c ++ [X2 l [p.id]]:=by unfold XO;rw [Uf (by rw [hc];simp)]
   have hs:=ZGC l p.id;have hr':=hr (c ++ [X2 l [p.id]],(X2 l [p.id]).foldl YA d) ⟨fun _=>⟨by simp;omega,by
    have:=ZGE (X2 l [p.id]) d;simp only;omega,fun x=>by
    simp only;rw [ZGD,j3];unfold cov;rw [List.any_append];simp⟩,fun h=>by cases h⟩
   rw [e,Zh];rw [Zt (by simp;omega)];simp only [ZkY (o:= .shr) (p:= .shr) (q:= .shr) rfl rfl];generalize hst:X2 l [p.id]=st at hs hr' ⊢;refine (Yj st (by omega) (fun m (a:List Int)=>(l,c ++ [st],a,(k:Int),st,(m:Int))) d (fun m a=>a.length<=240 + m) (by omega) (fun r _ a=>rec (l,c ++ [st],r.foldl YA a,(k:Int) + 1)) rfl ?_ ?_).trans hr'
   ·intro rec2 a ha2;rw [show decide (((st.length:Nat):Int) < ((st.length:Nat):Int))=false from Um (by omega),Zh];simp [Zw (show k<=9223372036854775806 by omega)]
   ·intro rec2 m y a ha2 hy hm hr2;simp only [Uo] at hr2;have hsa:Sm a:=by unfold Sm;omega
    have:=Zpb a y;simp only [show decide (((m:Nat):Int) < ((st.length:Nat):Int))=true from Uv (by omega),Zs,Zi hy,ZoZ a y hsa,Zd,Zw (show m<=9223372036854775806 by omega),Md];exact hr2 (YA a y) (by omega)
def ZkZ (l:List Path) (s:List Int):Town:=⟨l,⟨s,0,[],0⟩,[],⟨0,0⟩,[],true,[],0,0⟩
def Zcs (l:List Path) (s:List Int):Town:=⟨l,⟨s,0,[],0⟩,[],⟨0,0⟩,[],true,(J5 [] 0 (XK l ⟨s,0,[],0⟩)).1,0,0⟩
def Zct (l:List Path):Town×Bool:=match Y3 l with
 | []=>(Ji,false)
 |s::_=>if Z7 (Zcs l s)=true then (Zcs l s,true) else (Ji,false)
theorem Zpc {l:List Path} {s:List Int} {r:List (List Int)} (h:Y3 l=s::r):Sm s:=by
 have main:∀(t:List Path) (c:List (List Int)),(∀y∈c,Sm y)->∀y∈t.foldl (XO l) c,Sm y:=by
  intro t
  induction t with
  |nil=>exact fun c hc=>hc
  |cons p t ih=>
   intro c hc;rw [Md];refine ih _ ?_;unfold XO;split
   ·exact hc
   ·intro y hy;rcases List.mem_append.1 hy with hy |hy
    ·exact hc y hy
    ·rw [Ml.1 hy];exact Zcp (Xw _)
 unfold Y3 at h;split at h
 ·exact main l [] (fun y hy=>by cases hy) s (by rw [h];exact Uj ..)
 ·cases h
theorem Zu9 {l:List Path} {s:List Int} (h:Sm l) (hs:Sm s):Zx (ZkZ l s):=⟨h,⟨hs,Za4⟩,by unfold Sm;simp [ZkZ],by unfold Sm;simp [ZkZ],ZaT⟩
theorem Zpd (l:List Path) (x:Control) (h:Sm l):Sm (XK l x):=by
 unfold Sm at h;unfold Sm XK;split
 ·rw [Uy];exact h
 ·simp
theorem Zpe {l:List Path} {s:List Int} (h:Sm l) (hs:Sm s):Zx (Zcs l s):=by
 obtain ⟨a,b,c,d,_⟩:=Zu9 h hs;exact ⟨a,b,c,d,ZoF ZaT (by simp) (Zpd l _ h)⟩
theorem ZGF {l:List Path} (h:Sm l):Zx (Zct l).1:=by
 have h0:Zx Ji:=⟨sm0,⟨Za4,Za4⟩,sm0,sm0,ZaT⟩
 unfold Zct;split
 ·exact h0
 ·rename_i s r hc;split
  ·exact Zpe h (Zpc hc)
  ·exact h0
where sm0 {α:Type}:Sm ([]:List α):=by unfold Sm;simp
theorem ZGG (l:List Path) (h:Sm l):Zib l=some (Zct l):=by
 unfold Zib Zct;simp only [Zp,Zk,Zo,Zn,Zr,Zu,Zq,Zat,ZhQ,Vg,Qe,ZK,ZT,ZS,Z3,Z0,Zy,ZW,Zu8 l h,Zd];cases hc:Y3 l with
 |nil=>simp
 |cons s r=>
  have hs:=Zpc hc;have e:=QB _ (Zu9 h hs);have e1:=KK _ (Zpe h hs);unfold Zcs at e1;unfold ZkZ at e;simp only [List.isEmpty_cons,Zh,ZsY,e,Zd,Zf2 l ⟨s,0,[],0⟩ h ⟨hs,Za4⟩,ZoE [] 0 _ ZaT (by simp) (Zpd l _ h),ZS,Z3,Z0];rw [e1];unfold Zcs;generalize Z7 _=b;cases b <;> simp
theorem ZGH (l:List Path) (h:Sm l):Zi8 l=some (Zct l):=by
 unfold Zi8 Yq Z6 Zct VD;simp only [Zp,Zk,Zo,Zn,Zr,Zu,Zq,Zat,ZbP,JH,ZhQ,Ztb,ZDp,Vg,Qe,ZS,Z3,Z0,Z0,ZK,ZT,Zy,ZW,Zu7 l h,Zd,Zut l h,Ky];cases hc:Y3 l with
 |nil=>simp
 |cons s r=>
  have hs:=Zpc hc;have e1:=KL _ (Zpe h hs);unfold Zcs at e1;simp only [List.isEmpty_cons,Zh,ZsY,Zd,Ky,Zks l ⟨s,0,[],0⟩ h ⟨hs,Za4⟩,Zuu [] 0 _ ZaT (by simp) (Zpd l _ h),Z3,Z0];rw [e1];unfold Zcs;generalize Z7 _=b;cases b <;> simp
theorem Zva:∀(n:Nat) (l:List Nat),l.Nodup->(∀x∈l,x < n)->l.length<=n
 | 0,l,_,h=>by
  cases l with
  |nil=>simp
  |cons a l=>exact absurd (h a (Uj ..)) (Nat.not_lt_zero _)
 |n + 1,l,hn,h=>by
  have h1:=Zva n (l.erase n) (hn.erase n) (fun x hx=>by
   have h2:=h x (List.mem_of_mem_erase hx);have h3:x≠n:=fun e=>by subst e;exact (hn.not_mem_erase) hx
   omega)
  rw [List.length_erase] at h1;split at h1 <;> omega
theorem Zvb (l:List Path) (x:List Lamp):∀(r:List Lamp) (k:Nat),goL l x k r=true->∀(j:Nat) (p:Lamp),r[j]? =some p->ZdG l p=true/\(x.take (k + j)).all (J1 p)=true
 | [],k,_,j,p,h=>by simp at h
 |q::r,k,hg,j,p,h=>by
  simp only [goL,Ub] at hg;cases j with
  |zero=>simp at h;subst h;exact hg.1
  |succ j=>
   have:=Zvb l x r (k + 1) hg.2 j p (by simpa using h)
   rwa [show k + 1 + j=k + (j + 1) by omega] at this
theorem Zpf:∀{l:List Path} {o:Option Int},goP o l=true->∀p∈l,Z8 p=true
 | [],_,_,p,hp=>by cases hp
 |q::l,o,h,p,hp=>by
  cases o with
  |none=>
   simp only [goP,Ub] at h;rcases List.mem_cons.1 hp with rfl |hp
   ·exact h.1
   ·exact Zpf h.2 p hp
  |some i=>
   simp only [goP,Ub] at h;rcases List.mem_cons.1 hp with rfl |hp
   ·exact h.1.1
   ·exact Zpf h.2 p hp
theorem Zvc {l:List Path} {id:Int} (h:¬ZD l id < 0):∃p∈l,p.id=id:=by
 unfold ZD at h;split at h
 ·rename_i i hi;obtain ⟨hlt,hp,_⟩:=List.findIdx?_eq_some_iff_getElem.1 hi;exact ⟨l[i],List.getElem_mem hlt,by simpa using hp⟩
 ·omega
theorem Zpg {l:List Path} (hl:ZJ l=true) {p:Lamp} (h:ZdG l p=true):1<=p.path/\p.path<=20/\0<=p.colour/\p.colour<=1:=by
 unfold ZdG at h;simp only [Ub,UH,U7] at h;unfold ZJ at hl;rw [Ub] at hl;obtain ⟨q,hq,e⟩:=Zvc h.1;have:=Zpf hl.2 q hq;unfold Z8 inR at this;simp only [Ub,UI] at this;have h2:=h.2;unfold inR at h2;simp only [Ub,UI] at h2;omega
theorem ZGI {l:List Path} {x:List Lamp} (h:QW l x=true):x.length<=42:=by
 unfold QW at h;rw [Ub] at h;obtain ⟨hg,hl⟩:=h;have hat:=Zvb l x x 0 hg
 let f:Lamp->Nat:=fun q=>(q.path * 2 + q.colour).toNat
 have h1:(x.map f).length<=42:=by
  refine Zva 42 _ ?_ ?_
  ·unfold List.Nodup;rw [List.pairwise_map,MH];intro i j hi hj hij e;have ha:=hat i x[i] (Ua hi);have hb:=hat j x[j] (Ua hj);have ra:=Zpg hl ha.1;have rb:=Zpg hl hb.1;have hm:x[i]∈x.take (0 + j):=by
    rw [U0,List.mem_take_iff_getElem];exact ⟨i,by omega,rfl⟩
   have:=MS.1 hb.2 _ hm;unfold J1 at this;simp only [UH,Ff,Mn,ne_eq] at this;have e':(x[i].path * 2 + x[i].colour).toNat=(x[j].path * 2 + x[j].colour).toNat:=e;omega
  ·intro v hv;obtain ⟨q,hq,rfl⟩:=List.mem_map.1 hv;obtain ⟨i,hi⟩:=List.mem_iff_getElem?.1 hq;have:=Zpg hl (hat i q hi).1;show (q.path * 2 + q.colour).toNat < 42;omega
 simpa using h1
theorem Zph {t:Town} (h:Z7 t=true):t.lamps.length<=42:=ZGI (ZaW h).2.2.2.1
theorem Zcu {σ:Type} {e e':σ->List AV} (h:∀x,Q6 (e x)=e' x):∀l:List σ,ZY (l.map e)=l.map e'
 | []=>rfl
 |x::l=>by simp only [Mb,ZY,h,Zcu h l]
@[simp] theorem ZN9 (l:List Int):ZY (l.map iR.enc)=l.map iR.enc:=Zcu (fun _=>rfl) l
@[simp] theorem ZOa (l:List Path):ZY (l.map Ze.enc)=l.map Ze.enc:=Zcu (fun _=>rfl) l
@[simp] theorem ZOb (l:List Want):ZY (l.map Zc.enc)=l.map Zc.enc:=Zcu (fun _=>rfl) l
@[simp] theorem ZOc (l:List Lamp):ZY (l.map Zl.enc)=l.map Zl.enc:=Zcu (fun _=>rfl) l
@[simp] theorem ZOd (l:List Note):ZY (l.map (Zb Own.unq).enc)=l.map (Zb Own.own).enc:=Zcu (fun x=>by show Q6 [I x.second, .slc Own.unq 1 (x.lights.map iR.enc),I x.sig]= [I x.second, .slc Own.own 1 (x.lights.map iR.enc),I x.sig];simp [Q6,AV.frz]) l
@[simp] theorem ZOe (l:List Lamp) (a b:Int) (c:Bool) {β:Type} (K:List Lamp->Option β):rws Zl (l.map Zl.enc ++ [[I a,I b,Bl c]]) K=K (l ++ [(⟨a,b,c⟩:Lamp)]):=
 (Zaq _ _ _ K).trans (ZT l _)
theorem ZGJ {σ τ:Type} (f:σ->τ) (l:List σ) (i:Nat) (x:σ):(l.map f).set i (f x)=(l.set i x).map f:=List.map_set.symm
@[simp] theorem ZOf (l:List Lamp) (i:Nat) (a b:Int) (c:Bool) {β:Type} (K:List Lamp->Option β):rws Zl ((l.map Zl.enc).set i [I a,I b,Bl c]) K=K (l.set i ⟨a,b,c⟩):=by
 have:(l.map Zl.enc).set i [I a,I b,Bl c]=(l.set i ⟨a,b,c⟩).map Zl.enc:=ZGJ Zl.enc l i ⟨a,b,c⟩;exact (UC (fun z=>rws Zl z K) this).trans (ZT _ K)
def hit (p c:Int) (x:Lamp):Bool:=x.path==p && x.colour==c
def Vu (p c:Int) (b:Bool) (x:Lamp):Lamp:=if hit p c x=true then ⟨x.path,x.colour,b⟩ else x
def ZdR (l:List Lamp) (p c:Int) (b:Bool):List Lamp:=if l.any (hit p c)=true then l.map (Vu p c b) else l.map (Vu p c b) ++ [⟨p,c,b⟩]
theorem Zvd {β V:Type} (l:List Lamp) (p c:Int) (b:Bool) (hl:l.length<=1099511627776) (st:Nat->List Lamp->Bool->V) (K:List Lamp->Bool->Option β) {F:(V->Option β)->V->Option β} {v:V} (hv:v=st 0 l false)
  (h0:∀rec ls f,ls.length=l.length->F rec (st l.length ls f)=K ls f)
  (h1:∀rec k x (ls:List Lamp) f,ls[k]? =some x->k < l.length->ls.length=l.length->F rec (st k ls f)=if hit p c x=true then rec (st (k + 1) (ls.set k (Vu p c b x)) true) else rec (st (k + 1) ls f)):
  Zf F NN v=K (l.map (Vu p c b)) (l.any (hit p c)):=by
 refine (Yj l (by omega) (fun k (a:List Lamp×Bool)=>st k a.1 a.2) (l,false) (fun k a=>a.1=(l.take k).map (Vu p c b) ++ l.drop k/\a.2=(l.take k).any (hit p c)) ⟨by simp,by simp⟩ (fun _ _ _=>K (l.map (Vu p c b)) (l.any (hit p c))) hv ?_ ?_)
 ·intro rec a ⟨e1,e2⟩;rw [h0 rec a.1 a.2 (by rw [e1];simp),e1,e2];simp
 ·intro rec k x a ⟨e1,e2⟩ hx hk hrec;have hlen:a.1.length=l.length:=by rw [e1];simp;omega
  have hat:a.1[k]? =some x:=by
   rw [e1,Mi (by simp;omega)];simp only [Uy,Uc,US];rw [show k + (k - min k l.length)=k by omega];exact hx
  have hmin:min k l.length=k:=by omega
  have htk:l.take (k + 1)=l.take k ++ [x]:=by
   rw [MF,hx];rfl
  have hdr:l.drop k=x::l.drop (k + 1):=by
   rw [UF hk];congr 1;exact (List.getElem?_eq_some_iff.1 hx).2
  rw [h1 rec k x a.1 a.2 hat hk hlen];split
  ·rename_i hh;refine hrec (_,_) ⟨?_,?_⟩
   ·show a.1.set k _=_;rw [e1,htk,hdr,List.set_append_right _ _ (by simp;omega)];simp only [Uy,Uc,hmin,Nat.sub_self,List.set_cons_zero,UY,Mb,List.map_nil,Uw,U5,U9]
   ·show true=_;rw [htk];simp [hh]
  ·rename_i hh;have hh':hit p c x=false:=by simpa using hh
   refine hrec (_,_) ⟨?_,?_⟩
   ·show a.1=_;rw [e1,htk,hdr];simp [Vu,hh']
   ·show a.2=_;rw [htk,e2];simp [hh']
def Za8 (t:Town) (p c:Int) (b:Bool):Town:={t with lamps:=ZdR t.lamps p c b}
def KQ (t:Town) (p c:Int) (b:Bool):Town×Bool:=if Z7 t then VU t (Vs (Za8 t p c b)) true else (t,false)
theorem ZGK (l:List Lamp) (p c:Int) (b:Bool):(ZdR l p c b).length<=l.length + 1:=by
 unfold ZdR;split <;> simp
theorem Zpi {t:Town} (ht:Z7 t=true) (h:Zx t) (p c:Int) (b:Bool):Zx (Za8 t p c b):=by
 obtain ⟨h0,h1,h2,h3,h4⟩:=h;have:=ZGK t.lamps p c b;have:=Zph ht;exact ⟨h0,h1,h2,by show (ZdR _ _ _ _).length<=_;omega,h4⟩
theorem ZGL (t:Town) (p c:Int) (b:Bool) (h:Zx t):Zik t p c b=some (KQ t p c b):=by
 unfold Zik tU aT KQ;simp only [Zp,Zk,Zo,Zn,Zr,Zu,Zq,ZK,ZT,ZS,Z3,Z0,Zc8,Zy,ZW,QB t h,KK t h,Zd];cases ht:Z7 t with
 |false=>simp
 |true=>
  have hl:=Zph ht;have h':=Zpi ht h p c b;have e:=ZkO (u:=Za8 t p c b) ht rfl rfl h';have hn:=VV (u:=Za8 t p c b) ht rfl h';have hd:=KO t _ true h hn;simp only [Zp,Zk,Zo,Zn,Zr,Ui,JV,AV.okU,Y7,Ztd,Zs5,Zth,Ztj,Zto,Mz,Zog,Ztc,Znr,Znu,Zti,Ztn,Zu,Zq,ZK,ZT,Zc8,Zy,ZW];refine (Zvd t.lamps p c b (by omega) (fun k ls f=>((p,c,b,f,(k:Int)),(t,(⟨[],⟨[],0,[],0⟩,[],⟨0,0⟩,[],false,[],0,0⟩:Town),{t with lamps:=ls}))) (fun ls f=>(bnd (QQ {t with lamps:=if f=true then ls else ls ++ [⟨p,c,b⟩]}) fun r=>bnd (Qz t r true) fun r27=>some (r27.1,r27.2))) rfl ?_ ?_).trans ?_
  ·intro rec ls f hlen;cases f with
   |false=>
    simp [hlen,Zy];rw [Zt (by omega)]
   |true=>simp [hlen,Zy]
  ·intro rec k x ls f hx hk hlen;have hk':k < ls.length:=by omega
   unfold hit Vu hit;cases hp:x.path==p <;> cases hc:x.colour==c <;> simp [hk,hk',Zi hx,X0 hx,hp,hc,Zy,ZW,Zw (show k<=9223372036854775806 by omega)]
  ·have:(if t.lamps.any (hit p c)=true then t.lamps.map (Vu p c b) else t.lamps.map (Vu p c b) ++ [⟨p,c,b⟩])=ZdR t.lamps p c b:=rfl;rw [this];show (bnd (QQ (Za8 t p c b)) fun r=>bnd (Qz t r true) fun r27=>some (r27.1,r27.2))=_;rw [e,Zd,hd,Zd];rfl
theorem Zve (t:Town) (p c:Int) (b:Bool) (h:Zx t):Zfs t p c b=some (KQ t p c b):=by
 unfold Zfs tU aT KQ;simp only [Zp,Zk,Zo,Zn,Zr,Zu,Zq,ZK,ZT,ZS,Z3,Z0,Zc8,Zy,ZW,Jg t h,KL t h,Zd];cases ht:Z7 t with
 |false=>simp
 |true=>
  have hl:=Zph ht;have h':=Zpi ht h p c b;have e:=ZkP (u:=Za8 t p c b) ht rfl rfl h';have hn:=VV (u:=Za8 t p c b) ht rfl h';have hd:=ZaU t _ true h hn;simp only [Zp,Zk,Zo,Zn,Zr,Ui,JV,AV.okU,Y7,Ztd,Zs5,Zth,Ztj,Zto,Mz,Zog,Ztc,Znr,Znu,Zti,Ztn,Zu,Zq,ZK,ZT,Zc8,ZDt,JI,Zy,ZW];refine (Zvd t.lamps p c b (by omega) (fun k ls f=>((p,c,b,f,(t.lamps.length:Int),(k:Int)),(t,(⟨[],⟨[],0,[],0⟩,[],⟨0,0⟩,[],false,[],0,0⟩:Town),{t with lamps:=ls}))) (fun ls f=>(bnd (Vj {t with lamps:=if f=true then ls else ls ++ [⟨p,c,b⟩]}) fun r=>bnd (QS t r true) fun r27=>some (r27.1,r27.2))) rfl ?_ ?_).trans ?_
  ·intro rec ls f hlen;cases f with
   |false=>
    simp [hlen,Zy];rw [Zt (by omega)]
   |true=>simp [hlen,Zy]
  ·intro rec k x ls f hx hk hlen;have hk':k < ls.length:=by omega
   unfold hit Vu hit;cases hp:x.path==p <;> cases hc:x.colour==c <;> simp [hk,hk',Zi hx,X0 hx,hp,hc,Zy,ZW,Zw (show k<=9223372036854775806 by omega)]
  ·have:(if t.lamps.any (hit p c)=true then t.lamps.map (Vu p c b) else t.lamps.map (Vu p c b) ++ [⟨p,c,b⟩])=ZdR t.lamps p c b:=rfl;rw [this];show (bnd (Vj (Za8 t p c b)) fun r=>bnd (QS t r true) fun r27=>some (r27.1,r27.2))=_;rw [e,Zd,hd,Zd];rfl
theorem ZGM {t:Town} (h:Zx t) (p c:Int) (b:Bool):Zx (KQ t p c b).1:=by
 unfold KQ;split
 ·rename_i hc;exact ZdO h (VV (t:=t) hc rfl (Zpi hc h p c b))
 ·exact h
def ZdS (t:Town) (e:Evt):Town×Bool:=
 if e.kind=1 then Zco t e.path else if e.kind=2 then Zcm t e.path else if e.kind=3 then KQ t e.path e.n e.on else if e.kind=4 then ZaX t e.on else
 if e.kind=5 then Za7 t e.n else if e.kind=6 then ZaZ t e.path else (t,false)
theorem Zpj (t:Town) (e:Evt) (h:Zx t):Ze9 t e=some (ZdS t e):=by
 unfold Ze9 ZdS;simp only [Zp,Zk,Zo,Zn,Zr,Zu,Zq,ZK,ZT,ZS,Z3,Z0,Zy,ZW,ZGb t _ h,ZFN t _ h,ZGL t _ _ _ h,ZFY t _ h,ZGA t _ h,ZF1 t _ h,QB t h,Zd,ZB,Fz]
 repeat (split; · rfl)
 rfl
theorem ZGN {t:Town} (h:Zx t) (e:Evt):Zx (ZdS t e).1:=by
 unfold ZdS;split
 ·exact ZGd h _
 split
 ·exact ZFP h _
 split
 ·exact ZGM h _ _ _
 split
 ·exact ZF0 h _
 split
 ·exact ZGz h _
 split
 ·exact ZF3 h _
 ·exact h
theorem Zvf (l:List Path) (a b c d:Int) {β:Type} (K:List Path->Option β):rws Ze (l.map Ze.enc ++ [[I a,I b,I c,I d]]) K=K (l ++ [(⟨a,b,c,d⟩:Path)]):=
 (Zaq _ _ _ K).trans (Zu l _)
theorem Zvg {z:List (Path×Int)}:∀(r:List (Path×Int)) (k:Nat),goS z k r=true->∀(j:Nat) (y:Path×Int),r[j]? =some y->inR y.2 0 2=true/\(z.take (k + j)).all (ZaO y)=true
 | [],k,_,j,y,h=>by simp at h
 |q::r,k,hg,j,y,h=>by
  simp only [goS,Ub] at hg;cases j with
  |zero=>simp at h;subst h;exact hg.1
  |succ j=>
   have:=Zvg r (k + 1) hg.2 j y (by simpa using h)
   rwa [show k + 1 + j=k + (j + 1) by omega] at this
theorem ZGO:∀a b c d:Fin 4,ZaK (2 * ((a:Nat):Int)) (2 * ((b:Nat):Int) + 1) (2 * ((c:Nat):Int)) (2 * ((d:Nat):Int) + 1)=ZaK (2 * ((c:Nat):Int)) (2 * ((d:Nat):Int) + 1) (2 * ((a:Nat):Int)) (2 * ((b:Nat):Int) + 1):=by
 decide
theorem Zk0 {n:Int} (h:0<=n/\n<=3):∃a:Fin 4,n=((a:Nat):Int):=⟨⟨n.toNat,by omega⟩,by simp;omega⟩
theorem Zvh {p:Path} (h:Z8 p=true):(0<=p.src/\p.src<=3)/\(0<=p.dst/\p.dst<=3):=by
 unfold Z8 inR at h;simp only [Ub,UI] at h;exact ⟨h.1.1.2,h.1.2⟩
theorem Zvi (a:Path):Z1 a a=false:=by
 unfold Z1;split
 ·rfl
 ·split
  ·rfl
  ·rename_i h;have h2:¬a.kind=2:=fun e=>h ⟨e,e⟩
   simp [h2]
theorem Zpk (a b:Path):Z1 a b=Z1 b a:=by
 cases ha:Z8 a with
 |false=>unfold Z1;simp [ha]
 |true=>
 cases hb:Z8 b with
 |false=>unfold Z1;simp [hb]
 |true=>
  obtain ⟨a1,a2⟩:=Zvh ha;obtain ⟨b1,b2⟩:=Zvh hb;obtain ⟨x,hx⟩:=Zk0 a1;obtain ⟨y,hy⟩:=Zk0 a2;obtain ⟨z,hz⟩:=Zk0 b1;obtain ⟨u,hu⟩:=Zk0 b2;have:=ZGO x y z u;unfold Z1;simp only [ha,hb,Bool.true_eq_false,or_self,Mw];by_cases c1:a.kind=2 <;> by_cases c2:b.kind=2 <;> simp only [c1,c2,and_self,and_true,and_false,FQ,false_and,U1,Mw]
  by_cases d1:a.src=b.src
  ·rw [Ul d1,Ul d1.symm]
  ·rw [Uf d1,Uf (show ¬b.src=a.src from fun e=>d1 e.symm)];by_cases d2:a.dst=b.dst
   ·rw [Ul d2,Ul d2.symm]
   ·rw [Uf d2,Uf (show ¬b.dst=a.dst from fun e=>d2 e.symm),hx,hy,hz,hu];exact this
theorem Zvj {p:List Path}:∀{l:List Note},(∀x∈l,0<=x.second)->goU p l= -1->∀x∈l,Vo p x.lights=true
 | [],_,_,x,hx=>by cases hx
 |y::l,h0,h,x,hx=>by
  rw [goU] at h;split at h
  ·rename_i hy;rcases List.mem_cons.1 hx with rfl |hx
   ·exact hy
   ·exact Zvj (fun z hz=>h0 z (Ug _ hz)) h x hx
  ·have:=h0 y (Uj ..);omega
theorem ZGP {t:Town} (h:Z7 t=true) {e:Note} (he:e∈t.record):Vo t.paths e.lights=true:=by
 have h':=h;simp only [Z7,Ub,UI] at h';obtain ⟨⟨⟨⟨⟨⟨⟨⟨⟨⟨h1,h2⟩,h3⟩,h4⟩,h5⟩,h6⟩,h7⟩,h8⟩,h9⟩,h10⟩,h11⟩:=h';unfold ZaQ at h7;rw [Ul h5] at h7;exact Zvj (fun x hx=>(ZfY h5 x hx).2.1) h7 e he
theorem Zvk {s:Int}:∀(l:List Note) (k:Nat) (a:Int) (i:Nat) (x:Note),Vp s l k a=((k + i:Nat):Int)->l[i]? =some x->a < k->x.second<=s
 | [],k,a,i,x,h,hx,_=>by simp at hx
 |y::r,k,a,i,x,h,hx,ha=>by
  rw [Vp] at h;cases i with
  |zero=>
   simp at hx;subst hx;by_cases c:y.second<=s
   ·exact c
   ·rw [Uf c] at h;rcases Zoq (s:=s) r (k + 1) a with h2 | ⟨j,_,h2⟩
    ·rw [h2] at h;omega
    ·rw [h2] at h;omega
  |succ i=>
   refine Zvk r (k + 1) _ i x (by rw [h];congr 1;omega) (by simpa using hx) ?_;split <;> omega
theorem ZGQ {t:Town} {p s:Int} (h:(Y1 t p s).2=true):Z7 t=true/\(∃(m:Nat) (q:Path),ZD t.paths p=(m:Int)/\t.paths[m]? =some q/\ZQ t.paths p=q/\∃(i:Nat) (e:Note) (x:Int),e∈t.record/\t.record[i]? =some e/\Zci t.record s=some e/\QX t.record s=(i:Int)/\e.second<=s/\e.lights[m]? =some x/\0<=x/\x<=2/\s<=t.now/\
  (Y1 t p s).1=⟨p,s,x,VT t.record m s,goO q (t.paths.zip e.lights) 0⟩):=by
 unfold Y1 at h ⊢;split at h
 ·cases h
 ·rename_i hc;have hn:¬Z7 t=false/\¬ZD t.paths p < 0/\¬t.now < s:=⟨fun e=>hc (.inl e),fun e=>hc (.inr (.inl e)),fun e=>hc (.inr (.inr e))⟩
  have ht:Z7 t=true:=by simpa using hn.1
  refine ⟨ht,?_⟩;rw [Uf hc];rcases J4 t.record s with ⟨e1,_⟩ | ⟨i,e,e1,e2,e3,e4⟩
  ·rw [e1] at h;cases h
  ·obtain ⟨m,q,q1,q2,_⟩:=JZ hn.2.1;have hq:ZQ t.paths p=q:=by unfold ZQ;rw [q2,Ux,q1];rfl
   have he:=Yd e1;have hs:=ZGP ht he;have hlen:=(Zot ht he).1;have hm:m < t.paths.length:=(List.getElem?_eq_some_iff.1 q1).1;have hx:e.lights[m]? =some e.lights[m]:=Ua (by omega);have hz:(t.paths.zip e.lights)[m]? =some (q,e.lights[m]):=by rw [List.getElem?_zip_eq_some];exact ⟨q1,hx⟩
   have hs2:=hs;unfold Vo at hs2;simp only [Ub,UI] at hs2;have hr:=(Zvg _ 0 hs2.2 m _ hz).1;unfold inR at hr;simp only [Ub,UI] at hr;have hsec:e.second<=s:=by
    unfold QX at e2;rw [Ul e4] at e2;exact Zvk t.record 0 (-1) i e (by rw [e2,U0]) e1 (by omega)
   refine ⟨m,q,q2,q1,hq,i,e,e.lights[m],he,e1,e3,e2,hsec,hx,hr.1,hr.2,by omega,?_⟩;rw [e3];simp only;rw [q2,hq];have:Qc e (m:Int)=e.lights[m]:=by
    unfold Qc;rw [Ul (by omega),Ux,hx]
   rw [this]
theorem Zvl {l:List Path} {ids:List Int}:∀{r:List Int} {k:Nat},goT l ids k r=true->∀(i:Nat) (x:Int),r[i]? =some x->(ids.take (k + i)).all (Vm l x)=true
 | [],_,_,i,x,hx=>by simp at hx
 |y::r,k,h,i,x,hx=>by
  simp only [goT,Ub] at h;cases i with
  |zero=>simp at hx;subst hx;exact h.1.2
  |succ i=>
   have:=Zvl h.2 i x (by simpa using hx)
   rwa [show k + 1 + i=k + (i + 1) by omega] at this
theorem ZGR {l:List Path} {a:List Int} (h:ZH l a=true) {x y:Int} (hx:x∈a) (hy:y∈a):Z1 (ZQ l x) (ZQ l y)=false:=by
 unfold ZH at h;rw [Ub] at h;obtain ⟨i,hi⟩:=Mh hx;obtain ⟨j,hj⟩:=Mh hy;have key:∀{i j:Nat} {x y:Int},a[i]? =some x->a[j]? =some y->j < i->Z1 (ZQ l x) (ZQ l y)=false:=fun {i j x y} hi hj c=>by
  have h1:=Zvl h.1 i x hi;have hm:y∈a.take (0 + i):=by
   rw [U0,List.mem_iff_getElem?];exact ⟨j,by rw [UA,Ul c];exact hj⟩
  have:=MS.1 h1 _ hm;unfold Vm at this;simpa using this
 rcases FE i j with c |c |c
 ·rw [Zpk];exact key hj hi c
 ·subst c;rw [hi] at hj;cases hj;exact Zvi _
 ·exact key hi hj c
theorem Zpl {l:List Path} {x:Path} (hx:x∈l):¬ZD l x.id < 0:=by
 unfold ZD;split
 ·omega
 ·rename_i hn;have:=List.findIdx?_eq_none_iff.1 hn x hx;simp at this
theorem Zgf:∀(l:List Path) (pv:Option Int),goP pv l=true->(∀x∈l,∀a,pv=some a->a < x.id)/\l.Pairwise (fun x y=>x.id < y.id)
 | [],_,_=>⟨by simp, .nil⟩
 |x::l,pv,h=>by
  have h2:goP (some x.id) l=true:=by cases pv <;> · unfold goP at h;simp at h;simp [h]
  obtain ⟨g1,g2⟩:=Zgf l _ h2;have hx:∀a,pv=some a->a < x.id:=fun a e=>by
   subst e;unfold goP at h;simp at h;exact h.1.2
  refine ⟨fun y hy a e=> ?_,List.pairwise_cons.2 ⟨fun y hy=>g1 y hy x.id rfl,g2⟩⟩;rcases List.mem_cons.1 hy with rfl |hy
  ·exact hx a e
  ·have:=g1 y hy x.id rfl;have:=hx a e;omega
theorem Zk1 {l:List Path} (h:ZJ l=true):goP none l=true:=by
 unfold ZJ at h;rw [Ub] at h;exact h.2
theorem Jj {l:List Path} (h:ZJ l=true) {x:Path} (hx:x∈l):ZQ l x.id=x:=by
 obtain ⟨k,hx⟩:=Mh hx;obtain ⟨i,y,h1,h2,h3⟩:=JZ (Zpl (Uk hx));have hy:ZQ l x.id=y:=by unfold ZQ;rw [h2,Ux,h1];rfl
 rw [hy];have hp:=(Zgf l none (Zk1 h)).2;rcases FE i k with c |c |c
 ·have:=(MH.1 hp) i k (List.getElem?_eq_some_iff.1 h1).1 (List.getElem?_eq_some_iff.1 hx).1 c;rw [(List.getElem?_eq_some_iff.1 h1).2,(List.getElem?_eq_some_iff.1 hx).2] at this;omega
 ·subst c;rw [h1] at hx;exact Un hx
 ·have:=(MH.1 hp) k i (List.getElem?_eq_some_iff.1 hx).1 (List.getElem?_eq_some_iff.1 h1).1 c;rw [(List.getElem?_eq_some_iff.1 h1).2,(List.getElem?_eq_some_iff.1 hx).2] at this;omega
theorem ZdT {a:List Int} {n:Int}:has a n=true↔n∈a:=by
 unfold has;rw [List.any_eq_true];constructor
 ·rintro ⟨x,hx,h⟩;have:x=n:=by simpa using h
  exact this ▸ hx
 ·intro h;exact ⟨n,h,by simp⟩
theorem Zgg (l:List UInt8):ByteArray.mk l.toArray=bs l:=rfl
theorem YN (l:List UInt8):(bs l).size=l.length:=rfl
def Zvm:ByteArray:=bs [45]
def jn (a b:ByteArray) (r:List ByteArray):ByteArray:=r.foldl (fun a x=>a ++ b ++ x) a
def Za9 (l:List ByteArray) (b:ByteArray):ByteArray:=match l with | []=>Zvm |x::r=>jn x b r
def tot (l:List ByteArray) (b:ByteArray):Nat:=(l.map (fun x=>x.size + b.size)).sum
theorem ZdU (x:ByteArray) (l:List ByteArray) (b:ByteArray):tot (x::l) b=x.size + b.size + tot l b:=by simp [tot]
theorem Zvn (b:ByteArray):∀(r:List ByteArray) (a:ByteArray),(jn a b r).data.toList=a.data.toList ++ Lib.joinTail b.data.toList (r.map (·.data.toList))
 | [],a=>by simp [jn,Lib.joinTail]
 |x::r,a=>by
  show (jn (a ++ b ++ x) b r).data.toList=_;rw [Zvn b r];simp [Lib.joinTail]
theorem Zvo (x:ByteArray) (r:List ByteArray) (b:ByteArray):ZbQ (x::r) b=jn x b r:=by
 have h:(ZbQ (x::r) b).data.toList=(jn x b r).data.toList:=by
  rw [Zvn];show (Lib.join _ _).toArray.toList=_;rw [Mb,Lib.join_cons]
 have h2:(ZbQ (x::r) b).data=(jn x b r).data:=Array.toList_inj.1 h;exact M3 h2
theorem Zpm (b:ByteArray):∀(r:List ByteArray) (a:ByteArray),(jn a b r).size=a.size + tot r b
 | [],a=>by simp [jn,tot]
 |x::r,a=>by
  show (jn (a ++ b ++ x) b r).size=_;rw [Zpm b r,ZdU,UO,UO];omega
theorem ZGS (x:ByteArray) (r:List ByteArray) (b:ByteArray):(Lib.join ((x::r).map (·.data.toList)) b.data.toList).length=x.size + tot r b:=by
 have h:=Zpm b r x;rw [←Zvo] at h;exact h
theorem Zk2 (l:List ByteArray) (b:ByteArray) (h:l.length<=1099511627776) (ht:tot l b<=1099511627776):V7 l b=some (Za9 l b):=by
 unfold V7;cases l with
 |nil=>rfl
 |cons x r=>
  have hj:ZbR (x::r) b=some (jn x b r):=by
   unfold ZbR;rw [ZdU] at ht;rw [Zt ⟨by omega,by rw [ZGS];omega⟩,Zvo]
  simp [hj];rw [show (((r.length:Int) + 1)==0)=false by simp;omega];rfl
theorem Zk3 (l:List ByteArray) (b:ByteArray) (h:l.length<=1099511627776) (ht:tot l b<=1099511627776):V6 l b=some (Za9 l b):=by
 unfold V6;simp;refine (Yj l (by omega) (fun k acc=>(l,b,acc,(k:Int))) (bs []) (fun k acc=>(k=0->acc=bs [])/\acc.size + tot (l.drop k) b<=1099511627776) ⟨fun _=>rfl,by simpa [YN] using ht⟩
  (fun s k acc=>some (if l.length=0 then Zvm else if k=0 then (match s with | []=>acc |x::r=>jn (acc ++ x) b r) else jn acc b s)) rfl ?_ ?_).trans ?_
 ·intro rec acc hJ;simp [ZB];by_cases h0:l= []
  ·simp [h0];rfl
  ·simp [h0,jn]
 ·intro rec k x acc hJ hx hk hr;simp only [Uo] at hr;have hl0:¬l= []:=by rintro rfl;simp at hk
  obtain ⟨hJ0,hJ1⟩:=hJ;rw [show l.drop k=x::l.drop (k + 1) by
   have:=(List.getElem?_eq_some_iff.1 hx).2;rw [UF hk,this],ZdU] at hJ1
  simp [hk,Zi hx,Zw (show k<=9223372036854775806 by omega),hl0];by_cases h0:k=0
  ·subst h0;simp;rw [Zt (by omega)];have:=hr (acc ++ x) ⟨by omega,by rw [UO];omega⟩;simp [hl0] at this;simpa using this
  ·simp [h0,show 0 < k by omega];rw [Zt (by omega),Zt (by omega)];have:=hr (acc ++ b ++ x) ⟨by omega,by rw [UO,UO];omega⟩;simp [hl0] at this;simpa [jn] using this
 ·cases l with
  |nil=>rfl
  |cons x r=>simp [Za9];rw [show bs [] ++ x=x from by apply M3;simp [bs]]
@[simp] theorem Zvp {β:Type} (l:List ByteArray) (s:ByteArray) (K:List ByteArray->Option β):rws sR (l.map sR.enc ++ [[Sg s]]) K=K (l ++ [s]):=
 (UC (fun z=>rws sR z K) (UY (f:=sR.enc) (l₁:=l) (l₂:= [s])).symm).trans (Vd sR (l ++ [s]) K)
@[simp] theorem ZOg {β:Type} (l:List Int) (s:Int) (K:List Int->Option β):rws iR (l.map iR.enc ++ [[I s]]) K=K (l ++ [s]):=
 (UC (fun z=>rws iR z K) (UY (f:=iR.enc) (l₁:=l) (l₂:= [s])).symm).trans (Vd iR (l ++ [s]) K)
theorem Zba {α V β:Type} (l:List α) (f:α->ByteArray) (hl:l.length<=1099511627776) (st:Nat->List ByteArray->V) (K:List ByteArray->Option β) {F:(V->Option β)->V->Option β} {v:V} (hv:v=st 0 [])
  (h0:∀rec acc,acc.length=l.length->F rec (st l.length acc)=K acc)
  (h1:∀rec k x acc,l[k]? =some x->k < l.length->acc.length=k->F rec (st k acc)=rec (st (k + 1) (acc ++ [f x]))):Zf F NN v=K (l.map f):=by
 refine (Yj l (by omega) st [] (fun k acc=>acc.length=k) rfl (fun s _ acc=>K (acc ++ s.map f)) hv ?_ ?_).trans (by simp)
 ·intro rec acc h;rw [h0 rec acc h];simp
 ·intro rec k x acc h hx hk hr;rw [h1 rec k x acc hx hk h,hr _ (by simp [h])];simp
def X4 (v:Int):ByteArray:=if v=0 then bs [114] else if v=1 then bs [103] else if v=2 then bs [99] else bs [46]
theorem Zpn (v:Int):(X4 v).size=1:=by
 unfold X4;split <;> (try split) <;> (try split) <;> rfl
theorem KR {α:Type} (l:List α) (f:α->ByteArray) (b:ByteArray) (n:Nat) (h:∀x∈l,(f x).size<=n):tot (l.map f) b<=l.length * (n + b.size):=by
 induction l with
 |nil=>simp [tot]
 |cons x l ih=>
  rw [Mb,ZdU,UJ,Nat.succ_mul];have:=ih fun y hy=>h y (Ug _ hy)
  have:=h x (Uj ..);omega
def Kd (l:List Int):ByteArray:=Za9 (l.map X4) (bs [])
theorem Zk4 (l:List Int) (h:Sm l):Zb0 l=some (Kd l):=by
 unfold Sm at h;unfold Zb0 Kd;simp;refine (Zba l X4 (by omega) (fun k acc=>(l,acc,(k:Int))) (fun a=>V6 a (bs [])) rfl ?_ ?_).trans ?_
 ·intro rec acc ha;simp
 ·intro rec k x acc hx hk ha;simp [hk,Zi hx,V8,Zw (show k<=9223372036854775806 by omega),ha,show (k + 1) * 16<=140737488355328 by omega,show k<=1152921504606846975 by omega];by_cases h0:0<=x
  ·by_cases h2:x<=2
   ·rw [Zz (by omega) (by omega)];simp [h0,h2];rw [Zt ⟨by omega,by show x + 1<=3;omega⟩];have:x=0\/x=1\/x=2:=by omega
    rcases this with rfl |rfl |rfl <;> rfl
   ·simp [h2];rw [show X4 x=bs [46] by simp [X4,show x≠0 by omega,show x≠1 by omega,show x≠2 by omega]]
  ·simp [h0];rw [show X4 x=bs [46] by simp [X4,show x≠0 by omega,show x≠1 by omega,show x≠2 by omega]]
 ·refine Zk3 _ _ (by simp;omega) ?_;have:=KR l X4 (bs []) 1 fun x _=>Nat.le_of_eq (Zpn x)
  simp [YN] at this;omega
theorem Zk5 (l:List Int) (h:Sm l):Zcb l=some (Kd l):=by
 unfold Sm at h;unfold Zcb Kd;simp;refine (Zba l X4 (by omega) (fun k acc=>(acc,l,(l.length:Int),(k:Int))) (fun a=>V7 a (bs [])) rfl ?_ ?_).trans ?_
 ·intro rec acc ha;simp
 ·intro rec k x acc hx hk ha;simp [hk,Zi hx,Zw (show k<=9223372036854775806 by omega),ha,show (k + 1) * 16<=140737488355328 by omega,show k<=1152921504606846975 by omega];by_cases e0:x=0
  ·simp [e0,X4,bs]
  by_cases e1:x=1
  ·simp [e1,X4,bs]
  by_cases e2:x=2
  ·simp [e2,X4,bs]
  simp [e0,e1,e2,X4,ZB,bs]
 ·refine Zk2 _ _ (by simp;omega) ?_;have:=KR l X4 (bs []) 1 fun x _=>Nat.le_of_eq (Zpn x)
  simp [YN] at this;omega
theorem Zvq {n:Int} (h:Rg n): -9223372036854775808<=n/\n<=9223372036854775807:=h
theorem Q1 (n:Int) (h:Rg n):X1 n=some (Yf n):=by
 unfold X1 Zc9;rw [Zt (Zvq h)];rfl
def dig:Nat->ByteArray->ByteArray
 |u,s=>if h:u=0 then s else dig (u / 10) (bs [UInt8.ofNat (48 + u % 10)] ++ s)
termination_by u=>u
decreasing_by omega
theorem Zk6 (s:ByteArray):dig 0 s=s:=by rw [dig];simp
theorem Zk7 {u:Nat} (h:u≠0) (s:ByteArray):dig u s=dig (u / 10) (bs [UInt8.ofNat (48 + u % 10)] ++ s):=by rw [dig];simp [h]
theorem ZGT:∀(u:Nat) (s:ByteArray),u≠0->(dig u s).data.toList=Lib.decDigits u ++ s.data.toList:=by
 intro u
 induction u using Nat.strongRecOn with
 | _ u ih=>
  intro s h;rw [Zk7 h];by_cases hs:u < 10
  ·rw [show u / 10=0 by omega,Zk6,Lib.decDigits,dif_pos hs,show u % 10=u by omega];simp [bs]
  ·rw [ih (u / 10) (by omega) _ (by omega),Lib.decDigits.eq_1 u,dif_neg hs];simp [bs]
theorem Zvr (n:Int) {β:Type} (K:ByteArray->Option β):bst [[AV.lit (.int .u8 n)]] K=K (bs [UInt8.ofNat n.toNat]):=rfl
theorem Zvs {n:Int} (h:0<=n) (h':n<=255):IntKind.u8.wrap n=n:=by
 have e:IntKind.u8.wrap n=n % 256:=by
  unfold IntKind.wrap;rw [show IntKind.u8.signed=false from rfl,show IntKind.u8.bits=8 from rfl];simp
 rw [e];omega
theorem ZGU (x:Int):(Int.tmod x 10).natAbs=x.natAbs % 10/\(0<=x->0<=Int.tmod x 10)/\(x<=0->Int.tmod x 10<=0):=by
 refine ⟨by rw [Int.natAbs_tmod];rfl,fun h=>Int.tmod_nonneg 10 h,fun h=> ?_⟩;have:=Int.tmod_nonneg 10 (show 0<= -x by omega);rw [Int.neg_tmod] at this;omega
theorem ZGV (x:Int):(Int.tdiv x 10).natAbs=x.natAbs / 10/\(0<=x->0<=Int.tdiv x 10)/\(x<=0->Int.tdiv x 10<=0):=by
 refine ⟨by rw [Int.natAbs_tdiv];rfl,fun h=>Int.tdiv_nonneg h (by decide),fun h=> ?_⟩;have:=Int.tdiv_nonneg (show 0<= -x by omega) (show (0:Int)<=10 by decide);rw [Int.neg_tdiv] at this;omega
theorem ZGW (s:ByteArray):(bs [45] ++ s).data.toList=45::s.data.toList:=by simp [bs]
theorem Zvt {n:Int} (h:n≠0):Yf n=if n < 0 then bs [45] ++ dig n.natAbs (bs []) else dig n.natAbs (bs []):=by
 have hd:∀u,u≠0->(dig u (bs [])).data.toList=Lib.decDigits u:=fun u hu=>by rw [ZGT u _ hu];simp [bs]
 have key:(Yf n).data.toList=(if n < 0 then bs [45] ++ dig n.natAbs (bs []) else dig n.natAbs (bs [])).data.toList:=by
  show (Lib.itoa n).toArray.toList=_;unfold Lib.itoa;split
  ·rw [ZGW,hd _ (by omega)]
  ·rw [hd _ (by omega),show n.toNat=n.natAbs by omega]
 exact M3 (Array.toList_inj.1 key)
theorem QE (n:Int) (h:Rg n):XF n=some (Yf n):=by
 obtain ⟨h0,h1⟩:=Zvq h;unfold XF;by_cases hz:n=0
 ·subst hz;have:Yf 0=bs [48]:=by
   unfold Yf Lib.itoa;rw [Uf (by decide),Lib.decDigits,dif_pos (by decide)];rfl
  rw [this];rfl
 rw [show (n==0)=false by simpa using hz,Zh,Zvt hz];refine (ZhO (R:=fun v:Int×ByteArray×Int=>some (if v.1 < 0 then bs [45] ++ dig v.2.2.natAbs v.2.1 else dig v.2.2.natAbs v.2.1)) (fun v=>20 - v.2.1.size)
  (fun v=>v.2.1.size<=19/\10 ^ v.2.1.size * v.2.2.natAbs<=9223372036854775808) ?_ NN (n,bs [],n) ⟨by simp [YN],by simp [YN];omega⟩ (by rw [Zl9];simp [YN])).trans rfl
 rintro rec ⟨m,s,x⟩ ⟨i1,i2⟩ hr;simp only at i1 i2 hr ⊢;by_cases hx:x=0
 ·subst hx;simp [Zk6];by_cases hm:m < 0
  ·simp [hm];rw [Zt (by show 1 + s.size<=_;omega)]
  ·simp [hm]
 ·rw [show (x != 0)=true by simpa using hx,Zs];have hs18:s.size<=18:=by
   refine Nat.le_of_not_lt fun hlt=> ?_
   have h19:10 ^ 19<=10 ^ s.size:=Mj (by decide) hlt;have:10 ^ s.size * 1<=10 ^ s.size * x.natAbs:=Fp _ (by omega);omega
  obtain ⟨a1,a2,a3⟩:=ZGU x;obtain ⟨b1,b2,b3⟩:=ZGV x;have hxb:x.natAbs<=9223372036854775808:=by
   have:1 * x.natAbs<=10 ^ s.size * x.natAbs:=UL _ (Nat.pow_pos (by decide));omega
  have hW:W (Int.tdiv x 10)=Int.tdiv x 10:=Zz (by omega) (by omega);have hrec:∀d:UInt8,d=UInt8.ofNat (48 + x.natAbs % 10)->ifA ((bs [d]).size + s.size<=1099511627776) (rec (m,bs [d] ++ s,W (Int.tdiv x 10)))=some (if m < 0 then bs [45] ++ dig x.natAbs s else dig x.natAbs s):=by
   rintro d rfl;rw [Zt (by show 1 + s.size<=_;omega),hW,hr (m,_,Int.tdiv x 10) ⟨by simp [UO,YN];omega,?_⟩ (by simp only [UO,YN,Mp];omega),Zk7 (u:=x.natAbs) (by omega),b1];simp only [UO,YN,b1];have e:10 ^ ([UInt8.ofNat (48 + x.natAbs % 10)].length + s.size)=10 ^ s.size * 10:=by rw [Mp,Nat.add_comm,Nat.pow_succ]
   rw [e,Nat.mul_assoc];exact Mk (Fp _ (Nat.mul_div_le _ _)) i2
  by_cases hd:Int.tmod x 10 < 0
  ·rw [show decide (Int.tmod x 10 < 0)=true by simpa using hd,Zs,Zz (n:=0 - Int.tmod x 10) (by omega) (by omega),Zz (by omega) (by omega),Zvs (by omega) (by omega),Zvr];exact hrec _ (by congr 1;omega)
  ·rw [show decide (Int.tmod x 10 < 0)=false by simpa using hd,Zh,Zz (by omega) (by omega),Zvs (by omega) (by omega),Zvr];exact hrec _ (by congr 1;omega)
theorem Y4 {n:Int} (h:Rg n):(Yf n).size<=21:=Lib.itoa_length_le n h.1 h.2
def Qh (l:List Int):ByteArray:=Za9 (l.map Yf) (bs [32])
theorem ZdV (l:List Int) (h:Sm l) (hr:∀y∈l,Rg y):JO l=some (Qh l):=by
 unfold Sm at h;unfold JO Qh;simp;refine (Zba l Yf (by omega) (fun k acc=>(l,acc,(k:Int))) (fun a=>V6 a (bs [32])) rfl ?_ ?_).trans ?_
 ·intro rec acc ha;simp
 ·intro rec k x acc hx hk ha;simp [hk,Zi hx,QE x (hr x (Yd hx)),Zw (show k<=9223372036854775806 by omega),ha,show (k + 1) * 16<=140737488355328 by omega,show k<=1152921504606846975 by omega]
 ·refine Zk3 _ _ (by simp;omega) ?_;have:=KR l Yf (bs [32]) 21 fun x hx=>Y4 (hr x hx)
  simp [YN] at this;omega
theorem ZdW (l:List Int) (h:Sm l) (hr:∀y∈l,Rg y):JU l=some (Qh l):=by
 unfold Sm at h;unfold JU Qh;simp;refine (Zba l Yf (by omega) (fun k acc=>(acc,l,(l.length:Int),(k:Int))) (fun a=>V7 a (bs [32])) rfl ?_ ?_).trans ?_
 ·intro rec acc ha;simp
 ·intro rec k x acc hx hk ha;simp [hk,Zi hx,Q1 x (hr x (Yd hx)),Zw (show k<=9223372036854775806 by omega),ha,show (k + 1) * 16<=140737488355328 by omega,show k<=1152921504606846975 by omega]
 ·refine Zk2 _ _ (by simp;omega) ?_;have:=KR l Yf (bs [32]) 21 fun x hx=>Y4 (hr x hx)
  simp [YN] at this;omega
theorem Zpo (l:List ByteArray) (b:ByteArray):(Za9 l b).size<=tot l b + 1:=by
 cases l with
 |nil=>exact Nat.le_of_eq rfl
 |cons x r=>
  show (jn x b r).size<=_;rw [Zpm,ZdU];omega
theorem Zk8 {l:List Int} (h:Sm l) (hr:∀y∈l,Rg y):(Qh l).size<=23068673:=by
 have h1:=Zpo (l.map Yf) (bs [32]);have h2:=KR l Yf (bs [32]) 21 fun x hx=>Y4 (hr x hx)
 unfold Sm at h;simp [YN] at h2;unfold Qh;omega
theorem ZGX (x:Control) (h:ZX x) (hr:ZfH x):∃v,Ziy x=some v/\Zjw x=some v:=by
 obtain ⟨h0,h1⟩:=h;obtain ⟨k0,k1,k2,k3⟩:=hr;have z0:=Zk8 h0 k0.2;have z1:=Y4 k1;have z2:=Zk8 h1 k2.2;have z3:=Y4 k3;unfold Ziy Zjw;simp only [Zq,ZV,ZdV _ h0 k0.2,ZdW _ h0 k0.2,ZdV _ h1 k2.2,ZdW _ h1 k2.2,QE _ k1,Q1 _ k1,QE _ k3,Q1 _ k3,Zd,Zgg,UO,YN,UJ,UQ];simp only [Zt (show (Qh x.stage).size + (0 + 1 + 1 + 1)<=1099511627776 by omega),Zt (show (Qh x.stage).size + (0 + 1 + 1 + 1) + (Yf x.since).size<=1099511627776 by omega)];by_cases c:((x.next.length:Nat):Int) > 0
 ·simp only [c,Mr,Zs];refine ⟨Qh x.stage ++ bs [32,64,32] ++ Yf x.since ++ (bs [32,62,32] ++ Qh x.next ++ bs [32,105,110,32] ++ Yf x.left),?_,?_⟩
  ·rw [Zt (by omega),Zt (by omega),Zt (by omega),Zt (by omega)];simp only [ByteArray.append_assoc]
  ·rw [Zt (by omega),Zt (by omega),Zt (by omega),Zt (by omega)]
 ·simp only [c,U3,Zh];exact ⟨_,rfl,rfl⟩
theorem ZGY {l:List Int} (h:Sm l):(Kd l).size<=1048577:=by
 have h1:=Zpo (l.map X4) (bs []);have h2:=KR l X4 (bs []) 1 fun x _=>Nat.le_of_eq (Zpn x)
 unfold Sm at h;simp [YN] at h2;unfold Kd;omega
theorem ZGZ (x:Report) (hr:ZtA x):∃v,ZiT x=some v/\ZjG x=some v:=by
 obtain ⟨k0,k1,k2,k3,k4⟩:=hr;have hs:Sm [x.light]:=by unfold Sm;simp
 have z0:=Y4 k0;have z1:=Y4 k1;have z2:=ZGY hs;have z3:=Y4 k3;have z4:=Y4 k4;have e:∀K:List Int->Option ByteArray,rws iR [[I x.light]] K=K [x.light]:=fun K=>rfl
 unfold ZiT ZjG;simp only [e,Zk4 _ hs,Zk5 _ hs,QE _ k0,Q1 _ k0,QE _ k1,Q1 _ k1,QE _ k3,Q1 _ k3,QE _ k4,Q1 _ k4,Zd,Zgg,UO,YN,UJ,UQ];refine ⟨Yf x.path ++ bs [32] ++ Yf x.second ++ bs [32] ++ Kd [x.light] ++ bs [32] ++ Yf x.since ++ bs [32] ++ Yf x.other,?_,?_⟩ <;>
  rw [Zt (by omega),Zt (by omega),Zt (by omega),Zt (by omega),Zt (by omega),Zt (by omega),Zt (by omega),Zt (by omega)]
def Zcv (k:Int):ByteArray:=if k=1 then bs [99] else if k=2 then bs [119] else bs [98]
def Xx (p:Path):ByteArray:=if Z8 p then Yf p.id ++ Zcv p.kind ++ Yf p.src ++ Yf p.dst else bs []
theorem Zpp (k:Int):(Zcv k).size=1:=by
 unfold Zcv;split <;> (try split) <;> rfl
theorem Zvu {p:Path} (h:QU p):(Xx p).size<=64:=by
 obtain ⟨k0,k1,k2,k3⟩:=h;have z0:=Y4 k0;have z1:=Y4 k2;have z2:=Y4 k3;have z3:=Zpp p.kind;unfold Xx;split
 ·simp only [UO];omega
 ·exact Mm _
theorem Zvv (p:Path) (h:QU p):ZeW p=some (Xx p):=by
 obtain ⟨k0,k1,k2,k3⟩:=h;have z0:=Y4 k0;have z1:=Y4 k2;have z2:=Y4 k3;have z3:=Zpp p.kind;unfold ZeW Xx;rw [ZfR,Zd];cases hp:Z8 p with
 |false=>rfl
 |true=>
  have e:∀K:ByteArray->Option ByteArray,ZO sR [[Sg (bs [])],[Sg (bs [99])],[Sg (bs [119])],[Sg (bs [98])]] p.kind K=K (Zcv p.kind):=by
   intro K;rcases ZaI hp with e |e |e <;> rw [e] <;> rfl
  simp only [Ui,Zh,e,QE _ k0,QE _ k2,QE _ k3,Zd,UO,U1];rw [Zt (by omega),Zt (by omega),Zt (by omega)]
theorem Zvw (p:Path) (h:QU p):Zfk p=some (Xx p):=by
 obtain ⟨k0,k1,k2,k3⟩:=h;have z0:=Y4 k0;have z1:=Y4 k2;have z2:=Y4 k3;have z3:=Zpp p.kind;unfold Zfk Xx;rw [Zkj,Zd];cases hp:Z8 p with
 |false=>rfl
 |true=>
  have e:ByteArray.extract (bs [99,119,98]) (Int.toNat (W (p.kind - 1))) (Int.toNat p.kind)=Zcv p.kind:=by
   rcases ZaI hp with e |e |e <;> rw [e] <;> rfl
  have hk:W (p.kind - 1)=p.kind - 1:=by
   have:=ZaI hp;exact Zz (by omega) (by omega)
  simp only [Ui,Zh,e,Q1 _ k0,Q1 _ k2,Q1 _ k3,Zd,UO,U1];have:=ZaI hp;rw [hk,Zt ⟨by omega,by omega,by show p.kind<=3;omega⟩,Zt (by omega),Zt (by omega),Zt (by omega)]
def Zgh (l:List Path):ByteArray:=Za9 (l.map Xx) (bs [32])
theorem ZG0 (l:List Path) (h:Sm l) (hr:∀y∈l,QU y):Ziz l=some (Zgh l):=by
 unfold Sm at h;unfold Ziz Zgh;simp;refine (Zba l Xx (by omega) (fun k acc=>(l,acc,(k:Int))) (fun a=>V6 a (bs [32])) rfl ?_ ?_).trans ?_
 ·intro rec acc ha;simp
 ·intro rec k x acc hx hk ha;simp [hk,Zi hx,Zvv x (hr x (Yd hx)),Zw (show k<=9223372036854775806 by omega),ha,show (k + 1) * 16<=140737488355328 by omega,show k<=1152921504606846975 by omega]
 ·refine Zk3 _ _ (by simp;omega) ?_;have:=KR l Xx (bs [32]) 64 fun x hx=>Zvu (hr x hx)
  simp [YN] at this;omega
theorem ZG1 (l:List Path) (h:Sm l) (hr:∀y∈l,QU y):Zjx l=some (Zgh l):=by
 unfold Sm at h;unfold Zjx Zgh;simp;refine (Zba l Xx (by omega) (fun k acc=>(acc,l,(l.length:Int),(k:Int))) (fun a=>V7 a (bs [32])) rfl ?_ ?_).trans ?_
 ·intro rec acc ha;simp
 ·intro rec k x acc hx hk ha;simp [hk,Zi hx,Zvw x (hr x (Yd hx)),Zw (show k<=9223372036854775806 by omega),ha,show (k + 1) * 16<=140737488355328 by omega,show k<=1152921504606846975 by omega]
 ·refine Zk2 _ _ (by simp;omega) ?_;have:=KR l Xx (bs [32]) 64 fun x hx=>Zvu (hr x hx)
  simp [YN] at this;omega
def Zcw (a:List Part):Nat:=(a.map fun x=>x.stage.length).sum
theorem Zvx (x:Part) (a:List Part):Zcw (x::a)=x.stage.length + Zcw a:=by simp [Zcw]
def Zbb (x:Part):ByteArray:=Qh x.stage ++ bs [58] ++ Yf x.green
def Zk9 (l:List Part):ByteArray:=Za9 (l.map Zbb) (bs [32,124,32])
theorem ZG2 {x:Part} (h:Zki x) (hr:Zn2 x):(Zbb x).size<=22 * x.stage.length + 23:=by
 have h1:=Zpo (x.stage.map Yf) (bs [32]);have h2:=KR x.stage Yf (bs [32]) 21 fun y hy=>Y4 (hr.1.2 y hy)
 have h3:=Y4 hr.2;have h4:(bs [32]).size=1:=rfl;have h5:(bs [58]).size=1:=rfl;rw [h4,show 21 + 1=22 from rfl,Nat.mul_comm] at h2;unfold Zbb Qh;rw [UO,UO];omega
theorem Zvy (b:ByteArray):∀(l:List Part),(∀y∈l,Zki y)->(∀y∈l,Zn2 y)->tot (l.map Zbb) b<=22 * Zcw l + l.length * (23 + b.size)
 | [],_,_=>by simp [tot]
 |x::l,h,hr=>by
  rw [Mb,ZdU,Zvx,UJ,show (l.length + 1) * (23 + b.size)=l.length * (23 + b.size) + (23 + b.size) from Nat.succ_mul _ _];have:=Zvy b l (fun y hy=>h y (Ug _ hy)) (fun y hy=>hr y (Ug _ hy));have:=ZG2 (h x (Uj ..)) (hr x (Uj ..));omega
theorem ZG3 (l:List Part) (h:Sm l/\∀y∈l,Zki y) (hr:∀y∈l,Zn2 y) (hs:Zcw l<=1048576):Zfd l=some (Zk9 l)/\Zfz l=some (Zk9 l):=by
 obtain ⟨hl,he⟩:=h;unfold Sm at hl;have ht:=Zvy (bs [32,124,32]) l he hr;have hb:(bs [32,124,32]).size=3:=rfl;rw [hb] at ht;have step:∀x∈l,((Qh x.stage).size + 1<=1099511627776)/\((Qh x.stage ++ bs [58]).size + (Yf x.green).size<=1099511627776):=by
  intro x hx;have h1:=Zk8 (he x hx) (hr x hx).1.2;have h3:=Y4 (hr x hx).2;have h5:(bs [58]).size=1:=rfl;rw [UO];omega
 constructor
 ·unfold Zfd Zk9;simp;refine (Zba l Zbb (by omega) (fun k acc=>(l,acc,(k:Int))) (fun a=>V6 a (bs [32,124,32])) rfl ?_ ?_).trans ?_
  ·intro rec acc ha;simp
  ·intro rec k x acc hx hk ha;obtain ⟨s1,s2⟩:=step x (Yd hx);simp [hk,Zi hx,ZdV _ (he x (Yd hx)) (hr x (Yd hx)).1.2,QE _ (hr x (Yd hx)).2,Zw (show k<=9223372036854775806 by omega),ha,show (k + 1) * 16<=140737488355328 by omega,show k<=1152921504606846975 by omega,Zgg,YN,s1];simp [UO,YN] at s2;simp [s2,Zbb];rw [Zt (by omega)]
  ·exact Zk3 _ _ (by simp;omega) (by omega)
 ·unfold Zfz Zk9;simp;refine (Zba l Zbb (by omega) (fun k acc=>(acc,l,(l.length:Int),(k:Int))) (fun a=>V7 a (bs [32,124,32])) rfl ?_ ?_).trans ?_
  ·intro rec acc ha;simp
  ·intro rec k x acc hx hk ha;obtain ⟨s1,s2⟩:=step x (Yd hx);simp [hk,Zi hx,ZdW _ (he x (Yd hx)) (hr x (Yd hx)).1.2,Q1 _ (hr x (Yd hx)).2,Zw (show k<=9223372036854775806 by omega),ha,show (k + 1) * 16<=140737488355328 by omega,show k<=1152921504606846975 by omega,Zgg,YN,s1];simp [UO,YN] at s2;simp [s2,Zbb];rw [Zt (by omega)]
  ·exact Zk2 _ _ (by simp;omega) (by omega)
def VW (l:List Path) (ids:List Int):Bool:=(l.all fun p=>has ids p.id || !ZH l (YA ids p.id)) && ZH l ids
theorem ZG4 {a:List Int} {n:Int} (h:a.length<=1000):Sm (YA a n):=by have:=Zpb a n;unfold Sm;omega
theorem ZG5 (l:List Path) (ids:List Int) (h:Sm l) (hi:ids.length<=1000):ZiC l ids=some (VW l ids):=by
 have hl:=h;unfold Sm at hl;have hs:Sm ids:=by unfold Sm;omega
 unfold ZiC;simp only [Zu,Zq,Yp];refine (Xv l (fun p=>has ids p.id || !ZH l (YA ids p.id)) (by omega) (fun k=>(l,ids,(k:Int))) (some (ZH l ids)) (some false) rfl ?_ ?_).trans ?_
 ·intro rec;simp [VQ l ids h hs]
 ·intro rec k p hx hk;simp only [show decide ((k:Int) < (l.length:Int))=true by simpa using hk,Zs,Xs,Zi hx,QV _ _ hs,Zd,Zu,Zq,ZoZ ids p.id hs,VQ l _ h (ZG4 hi),Zw (show k<=9223372036854775806 by omega),Uo];cases has ids p.id with
  |true=>simp
  |false=>
   cases ZH l (YA ids p.id) <;> simp
 ·unfold VW;cases (l.all fun p=>has ids p.id || !ZH l (YA ids p.id)) <;> simp
def QF (l:List Path):List Path->List Int->List (List Int)->List (List Int)
 | [],ids,out=>if ids≠ []/\out.length < 40/\VW l ids=true then out ++ [ids] else out
 |p::r,ids,out=>QF l r ids (if ZH l (ids ++ [p.id])=true then QF l r (ids ++ [p.id]) out else out)
theorem Zgi (l:List Path):∀(r:List Path) (ids:List Int) (out:List (List Int)),out.length<=40->(QF l r ids out).length<=40
 | [],ids,out,h=>by
  unfold QF;split
  ·rename_i c;simp;omega
  ·exact h
 |p::r,ids,out,h=>by
  unfold QF;refine Zgi l r ids _ ?_;split
  ·exact Zgi l r _ out h
  ·exact h
theorem Zpq (l:List Path):∀(r:List Path) (ids:List Int) (out:List (List Int)),∀s∈QF l r ids out,s∈out\/(s.length<=ids.length + r.length/\VW l s=true/\s≠ [])
 | [],ids,out,s,h=>by
  unfold QF at h;split at h
  ·rename_i c;rcases List.mem_append.1 h with h |h
   ·exact .inl h
   ·rw [Ml.1 h];exact .inr ⟨by simp,c.2.2,c.1⟩
  ·exact .inl h
 |p::r,ids,out,s,h=>by
  unfold QF at h;rcases Zpq l r ids _ s h with h |h
  ·split at h
   ·rcases Zpq l r _ out s h with h |h
    ·exact .inl h
    ·refine .inr ⟨?_,h.2⟩;have:=h.1;simp at this ⊢;omega
   ·exact .inl h
  ·refine .inr ⟨?_,h.2⟩;have:=h.1;simp;omega
theorem Zla (l:List Path) (hl:l.length<=12):∀(m k:Nat) (ids:List Int) (out:List (List Int)),l.length - k < m->k<=l.length->ids.length<=k->out.length<=40->Zfe m l (k:Int) ids out=some (QF l (l.drop k) ids out)
 | 0,k,ids,out,h,_,_,_=>by omega
 |m + 1,k,ids,out,h,hk,hi,ho=>by
  have h':Sm l:=by unfold Sm;omega
  show ZnH (Zfe m) l (k:Int) ids out=_;unfold ZnH;simp only [Zu,Zq,JH,Yp,ZV,Vg];by_cases c:k=l.length
  ·subst c;rw [show (((l.length:Nat):Int)==((l.length:Nat):Int))=true by simp,Zs,M6];unfold QF;by_cases c1:ids= []
   ·subst c1;simp
   ·have hp:0 < ids.length:=List.length_pos_iff.2 c1;rw [show decide (((ids.length:Nat):Int) > 0)=true from Uv (by omega),Zs];by_cases c2:out.length < 40
    ·rw [show decide (((out.length:Nat):Int) < 40)=true from Uv (by omega),Zs,ZG5 l ids h' (by omega),Zd];cases hf:VW l ids with
     |true=>
      rw [Zs,Zt (by simp;omega),Zt (by simp;omega),Ul ⟨c1,c2,rfl⟩];have:=ZkY (o:= .own) (p:= .own) (q:= .own) rfl rfl out ids (fun l=>some l)
      first
      |exact this
      |simpa using this
     |false=>rw [Zh,Uf (fun h=>by simp at h)]
    ·rw [show decide (((out.length:Nat):Int) < 40)=false from Um (by omega),Zh,Uf (fun h=>c2 h.2.1)]
  ·have hlt:k < l.length:=by omega
   have hx:=Ua hlt;rw [show (((k:Nat):Int)==((l.length:Nat):Int))=false by simp;omega,Zh,Zt (by simp;omega)];rw [UF hlt];generalize l[k]=p at hx;have hs1:Sm (ids ++ [p.id]):=by unfold Sm;simp;omega
   simp only [Xs,Zi hx];rw [Zt (by simp;omega)];have hW:W ((k:Int) + 1)=((k + 1:Nat):Int):=by rw [Zw (by omega)];omega
   simp only [U9,Zas,Zcg,hW];unfold QF;rw [VQ l _ h' hs1,Zd];cases ht:ZH l (ids ++ [p.id]) with
   |true=>
    rw [Zs,Zla l hl m (k + 1) (ids ++ [p.id]) out (by omega) (by omega) (by simp;omega) ho,Zd];simp only [JH];rw [Zla l hl m (k + 1) ids _ (by omega) (by omega) (by omega) (Zgi l _ _ _ ho),Zd];simp only [JH,U1]
   |false=>
    rw [Zh,Zla l hl m (k + 1) ids out (by omega) (by omega) (by omega) ho,Zd];simp [JH]
def VX (l:List Path):List (List Int):=if ZJ l=true then QF l l [] [] else []
theorem ZG6 (l:List Path) (h:Sm l):ZiD l=some (VX l):=by
 unfold ZiD VX;simp only [Zu,V9 l h,Zd];cases ha:ZJ l with
 |false=>rfl
 |true=>
  have hs:=Zla l (Zcr ha) 64 0 [] [] (by have:=Zcr ha;omega) (by omega) (by simp) (by simp);simp only [ML] at hs;simp only [Ui,Zh,U1];rw [show Zty l 0 [] []=Zfe 64 l ((0:Nat):Int) [] [] from rfl,hs,Zd];simp only [JH]
theorem Zpr (l:List Path):(VX l).length<=40/\∀s∈VX l,s.length<=12:=by
 unfold VX;split
 ·rename_i h;refine ⟨Zgi l l [] [] (by simp),fun s hs=> ?_⟩;rcases Zpq l l [] [] s hs with h1 |h1
  ·cases h1
  ·have:=Zcr h;have:=h1.1;simp at this;omega
 ·exact ⟨by simp,fun s hs=>(by cases hs)⟩
theorem ltF (n:Nat):decide ((n:Int) < (n:Int))=false:=by simp
theorem Zvz {l:List Path}:∀(r:List Path) (c:List (List Int)),(∀s∈c,Sm s)->(∀s∈r.foldl (XO l) c,Sm s)/\(r.foldl (XO l) c).length<=c.length + r.length
 | [],c,h=>⟨h,by simp⟩
 |p::r,c,h=>by
  rw [Md];have h2:(∀s∈XO l c p,Sm s)/\(XO l c p).length<=c.length + 1:=by
   unfold XO;split
   ·exact ⟨h,by omega⟩
   ·refine ⟨fun s hs=> ?_,by simp⟩;rcases List.mem_append.1 hs with hs |hs
    ·exact h s hs
    ·rw [Ml.1 hs];exact Zcp (Xw _)
  obtain ⟨a1,a2⟩:=Zvz r _ h2.1;exact ⟨a1,by simp;omega⟩
theorem Zps (l:List Path):(∀s∈Y3 l,Sm s)/\(Y3 l).length<=12:=by
 unfold Y3;split
 ·rename_i h;obtain ⟨a1,a2⟩:=Zvz (l:=l) l [] (fun s hs=>(by cases hs));have:=Zcr h;exact ⟨a1,by simp at a2;omega⟩
 ·exact ⟨fun s hs=>(by cases hs),by simp⟩
def KS (l:List Path):List Part:=(Y3 l).map fun s=>⟨s,YS l s⟩
def QG (l:List Path):List Part:=if Ym l (KS l)=true then KS l else []
theorem Zpt (l:List Path):SmL (KS l):=by
 obtain ⟨h1,h2⟩:=Zps l;refine ⟨by unfold KS Sm;rw [Uy];omega,fun y hy=> ?_⟩;obtain ⟨s,hs,rfl⟩:=List.mem_map.1 hy;exact h1 s hs
theorem ZG7 (l:List Path):SmL (QG l):=by
 unfold QG;split
 ·exact Zpt l
 ·exact ⟨by unfold Sm;simp,fun y hy=>by cases hy⟩
theorem ZvA (l:List Part) (s:List Int) (g:Int) {β:Type} (K:List Part->Option β):rws (ZI Own.shr) (l.map (ZI Own.shr).enc ++ [[(AV.slc Own.shr 1 (s.map iR.enc)),I g]]) K=K (l ++ [(⟨s,g⟩:Part)]):=
 (Zaq (ZI Own.shr) _ _ K).trans ((Xm l _).trans (Xm [(⟨s,g⟩:Part)] fun l'=>K (l ++ l')))
theorem ZvB {α γ:Type} (f:α->γ) {l:List α} {k:Nat} {x:α} (h:l[k]? =some x):(l.take k).map f ++ [f x]=(l.take (k + 1)).map f:=by
 rw [MF,h];simp
def Ind (l:List Path) (a:List Int):Prop:=(∀x∈a,∃p∈l,p.id=x)/\a.Pairwise (· < ·)/\∀x∈a,∀y∈a,Z1 (ZQ l x) (ZQ l y)=false
theorem ZvC {l:List Path} {ids:List Int} (h:Ind l ids):∀(r:List Int) (k:Nat),ids.drop k=r->goT l ids k r=true
 | [],_,_=>rfl
 |x::r,k,hd=>by
  have hk:ids[k]? =some x:=by
   have:(ids.drop k)[0]? =some x:=by rw [hd];rfl
   rw [US] at this;exact this
  have hx:x∈ids:=Uk hk;obtain ⟨p,hp,hpx⟩:=h.1 x hx;have h1:¬ZD l x < 0:=by rw [←hpx];exact Zpl hp
  have h2:Vl ids k x=true:=by
   unfold Vl;split
   ·rfl
   ·rename_i hk0;have hlt:k < ids.length:=(List.getElem?_eq_some_iff.1 hk).1;have hk1:k - 1 < ids.length:=by omega
    rw [Ua hk1];have:=(MH.1 h.2.1) (k - 1) k hk1 hlt (by omega);rw [(List.getElem?_eq_some_iff.1 hk).2] at this;simpa using this
  have h3:(ids.take k).all (Vm l x)=true:=MS.2 fun y hy=>by
   unfold Vm;rw [h.2.2 x hx y (MJ hy)];rfl
  have h4:=ZvC h r (k + 1) (by rw [←MD,hd];rfl);unfold goT;rw [h2,h3,h4];simpa using h1
theorem Zgj {l:List Path} (hl:ZJ l=true) {a:List Int}:ZH l a=true↔Ind l a:=
 ⟨fun h=>⟨fun x hx=>by
   obtain ⟨p,hp,e⟩:=Zvc (ZdE h x hx);exact ⟨p,hp,e⟩,ZkU h,fun x hx y hy=>ZGR h hx hy⟩,
  fun h=>by
   unfold ZH;rw [ZvC h a 0 rfl,hl];rfl⟩
theorem ZG8 {a:List Int} (h:a.Pairwise (· < ·)) (n:Int):(YA a n).Pairwise (· < ·):=by
 unfold YA;split
 ·exact h
 ·rename_i hn;unfold ins;have hlo:∀x∈a.take (low a n),x < n:=fun x hx=>by
   obtain ⟨i,hi⟩:=Mh hx;rw [UA] at hi;split at hi
   ·exact ZkT ‹_› hi
   ·cases hi
  have hhi:∀x∈a.drop (low a n),n < x:=fun x hx=>by
   obtain ⟨i,hi⟩:=Mh hx;rw [US] at hi;have h1:=ZoY h (Nat.le_add_right _ _) hi;by_cases e:x=n
   ·subst e;cases i with
    |zero=>exact absurd hi hn
    |succ i=>
     have hlt:low a x + (i + 1) < a.length:=(List.getElem?_eq_some_iff.1 hi).1;have h0:low a x < a.length:=by omega
     have h2:=ZoY h (Uq _) (Ua h0);have h3:=(MH.1 h) (low a x) (low a x + (i + 1)) h0 hlt (by omega);rw [(List.getElem?_eq_some_iff.1 hi).2] at h3;omega
   ·omega
  have hs:(a.take (low a n) ++ a.drop (low a n)).Pairwise (· < ·):=by rw [Up];exact h
  obtain ⟨s1,s2,s3⟩:=List.pairwise_append.1 hs;refine List.pairwise_append.2 ⟨List.pairwise_append.2 ⟨s1,List.pairwise_singleton ..,fun x hx y hy=> ?_⟩,s2,fun x hx y hy=> ?_⟩
  ·rw [Ml.1 hy];exact hlo x hx
  ·rcases List.mem_append.1 hx with hx |hx
   ·exact s3 x hx y hy
   ·rw [Ml.1 hx];exact hhi y hy
theorem ZdX {a:List Int} {n x:Int}:x∈YA a n↔x∈a\/n=x:=by
 rw [←ZdT,Zu6,Ma,ZdT,Fz]
theorem Zgk {l:List Path} (hl:ZJ l=true) {e:List Int}:VW l e=true↔Ind l e/\∀p∈l,p.id∉e->∃x∈e,Z1 p (ZQ l x)=true:=by
 unfold VW;rw [Ub,Zgj hl];constructor
 ·rintro ⟨h1,h2⟩;refine ⟨h2,fun p hp hn=> ?_⟩;have:=MS.1 h1 p hp;rw [show has e p.id=false by rw [←Bool.not_eq_true,ZdT];exact hn,FJ,UH,←Bool.not_eq_true,Zgj hl] at this;by_cases c:∃x∈e,Z1 p (ZQ l x)=true
  ·exact c
  ·refine absurd ⟨fun x hx=> ?_,ZG8 h2.2.1 _,fun x hx y hy=> ?_⟩ this
   ·rcases ZdX.1 hx with hx |rfl
    ·exact h2.1 x hx
    ·exact ⟨p,hp,rfl⟩
   ·have key:∀z∈e,Z1 p (ZQ l z)=false:=fun z hz=>by
     cases hc:Z1 p (ZQ l z) with
     |false=>rfl
     |true=>exact absurd ⟨z,hz,hc⟩ c
    rcases ZdX.1 hx with hx |rfl
    ·rcases ZdX.1 hy with hy |rfl
     ·exact h2.2.2 x hx y hy
     ·rw [Jj hl hp,Zpk];exact key x hx
    ·rw [Jj hl hp];rcases ZdX.1 hy with hy |rfl
     ·exact key y hy
     ·rw [Jj hl hp];exact Zvi _
 ·rintro ⟨h1,h2⟩;refine ⟨MS.2 fun p hp=> ?_,h1⟩;cases hh:has e p.id with
  |true=>rfl
  |false=>
   rw [FJ,UH,←Bool.not_eq_true,Zgj hl];intro hI;have hn:p.id∉e:=fun hm=>by rw [ZdT.2 hm] at hh;cases hh
   obtain ⟨x,hx,hc⟩:=h2 p hp hn;have:=hI.2.2 p.id (ZdX.2 (.inr rfl)) x (ZdX.2 (.inl hx));rw [Jj hl hp,hc] at this;cases this
def Vv (l:List Path):List Path->List Int->List (List Int)
 | [],ids=>if ids≠ []/\VW l ids=true then [ids] else []
 |p::r,ids=>(if ZH l (ids ++ [p.id])=true then Vv l r (ids ++ [p.id]) else []) ++ Vv l r ids
theorem ZG9 {α:Type} {a b:List α} {n:Nat} (h:n<=40):a.take (40 - n) ++ b.take (40 - (n + (a.take (40 - n)).length))=(a ++ b).take (40 - n):=by
 rw [List.take_append,Uc];congr 2;omega
theorem Zlb (l:List Path):∀(r:List Path) (ids:List Int) (out:List (List Int)),out.length<=40->QF l r ids out=out ++ (Vv l r ids).take (40 - out.length)
 | [],ids,out,h=>by
  unfold QF Vv;by_cases c:ids≠ []/\VW l ids=true
  ·rw [Ul c];by_cases c2:out.length < 40
   ·rw [Ul ⟨c.1,c2,c.2⟩,U4 (by simp;omega)]
   ·rw [Uf (fun h=>c2 h.2.1),show 40 - out.length=0 by omega];simp
  ·rw [Uf c,Uf (fun h=>c ⟨h.1,h.2.2⟩)];simp
 |p::r,ids,out,h=>by
  unfold QF Vv;split
  ·rename_i ht;have h1:=Zlb l r (ids ++ [p.id]) out h;rw [Zlb l r ids _ (Zgi l r _ out h),h1,Uw,Uh,ZG9 h]
  ·rw [Zlb l r ids out h];simp
theorem ZdY {l:List Path} (hl:ZJ l=true):∀(r:List Path) (ids e:List Int),e∈Vv l r ids↔e≠ []/\VW l e=true/\∃t,e=ids ++ t/\t.Sublist (r.map (·.id))
 | [],ids,e=>by
  unfold Vv;constructor
  ·intro h;split at h
   ·rename_i c;rw [Ml.1 h];exact ⟨c.1,c.2,[],by simp,by simp⟩
   ·cases h
  ·rintro ⟨h1,h2,t,h3,h4⟩;have:t= []:=by simpa using h4
   subst this;rw [UK] at h3;subst h3;rw [Ul ⟨h1,h2⟩];exact Ml.2 rfl
 |p::r,ids,e=>by
  unfold Vv;rw [List.mem_append,ZdY hl r ids e];constructor
  ·rintro (h | ⟨h1,h2,t,h3,h4⟩)
   ·split at h
    ·obtain ⟨h1,h2,t,h3,h4⟩:=(ZdY hl r _ e).1 h;exact ⟨h1,h2,p.id::t,by rw [h3];simp,h4.cons₂ _⟩
    ·cases h
   ·exact ⟨h1,h2,t,h3,h4.cons _⟩
  ·rintro ⟨h1,h2,t,h3,h4⟩;rw [Mb] at h4;cases h4 with
   |cons _ h4=>exact .inr ⟨h1,h2,t,h3,h4⟩
   |cons_cons _ h4=>
    rename_i t';left;have hI:=((Zgk hl).1 h2).1;have hT:ZH l (ids ++ [p.id])=true:=by
     rw [Zgj hl];have e1:e=(ids ++ [p.id]) ++ t':=by rw [h3];simp
     rw [e1] at hI;exact ⟨fun x hx=>hI.1 x (Uz _ hx),(List.pairwise_append.1 hI.2.1).1,fun x hx y hy=>hI.2.2 x (Uz _ hx) y (Uz _ hy)⟩
    rw [Ul hT,ZdY hl r _ e];exact ⟨h1,h2,t',by rw [h3];simp,h4⟩
theorem ZvD {a b:List Int}:∀c:List Int,a < b->c ++ a < c ++ b
 | [],h=>h
 |x::c,h=>List.cons_lt_cons_iff.2 (.inr ⟨rfl,ZvD c h⟩)
theorem Zpu {l:List Path} (hl:ZJ l=true):∀(r:List Path) (ids:List Int),(∀p∈r,p∈l)->r.Pairwise (fun x y=>x.id < y.id)->(Vv l r ids).Pairwise (· < ·)
 | [],ids,_,_=>by
  unfold Vv;split
  ·exact List.pairwise_singleton ..
  ·exact .nil
 |p::r,ids,hm,hp=>by
  obtain ⟨hp1,hp2⟩:=List.pairwise_cons.1 hp;have hm2:∀q∈r,q∈l:=fun q hq=>hm q (Ug _ hq)
  unfold Vv;refine List.pairwise_append.2 ⟨?_,Zpu hl r ids hm2 hp2,fun e1 h1 e2 h2=> ?_⟩
  ·split
   ·exact Zpu hl r _ hm2 hp2
   ·exact .nil
  ·split at h1
   case isFalse=>cases h1
   rename_i hT;obtain ⟨_,_,t1,rfl,_⟩:=(ZdY hl r _ e1).1 h1;obtain ⟨_,f2,t2,rfl,s2⟩:=(ZdY hl r _ e2).1 h2;rw [Uw];refine ZvD ids ?_;rw [List.singleton_append];cases t2 with
   |nil=>
    rw [UK] at f2;have hI:=(Zgj hl).1 hT;have hn:p.id∉ids:=fun hx=>by
     have:=(List.pairwise_append.1 hI.2.1).2.2 p.id hx p.id (by simp);omega
    obtain ⟨x,hx,hc⟩:=((Zgk hl).1 f2).2 p (hm p (Uj ..)) hn;have:=hI.2.2 p.id (by simp) x (Uz _ hx);rw [Jj hl (hm p (Uj ..)),hc] at this;cases this
   |cons y t2=>
    have hy:y∈r.map (·.id):=s2.subset (Uj ..);obtain ⟨q,hq,rfl⟩:=List.mem_map.1 hy;exact List.cons_lt_cons_iff.2 (.inl (hp1 q hq))
def Qi (l:List Path) (set:Nat):List Int:=(l.zipIdx.filter fun x=>set.testBit x.2).map fun x=>x.1.id
def Jk (l:List Path) (set:Nat):Bool:=l.zipIdx.all fun x=>set.testBit x.2==l.zipIdx.all fun y=> !(set.testBit y.2 && Z1 x.1 y.1)
def Jl (l:List Path):List (List Int):=(List.range' 1 (2 ^ l.length - 1)).filterMap fun set=>if Jk l set=true then some (Qi l set) else none
theorem ZdZ {l:List Path} {set:Nat} {x:Int}:x∈Qi l set↔∃i p,l[i]? =some p/\set.testBit i=true/\p.id=x:=by
 unfold Qi;rw [List.mem_map];constructor
 ·rintro ⟨⟨p,i⟩,h,rfl⟩;obtain ⟨h1,h2⟩:=List.mem_filter.1 h;exact ⟨i,p,by rw [UN] at h1;exact h1,h2,rfl⟩
 ·rintro ⟨i,p,h1,h2,rfl⟩;exact ⟨(p,i),List.mem_filter.2 ⟨by rw [UN];exact h1,h2⟩,rfl⟩
theorem ZHa {l:List Path} (hl:ZJ l=true) {i j:Nat} {p q:Path} (hi:l[i]? =some p) (hj:l[j]? =some q) (h:p.id=q.id):i=j:=by
 have hp:=(Zgf l none (Zk1 hl)).2;have h1:=List.getElem?_eq_some_iff.1 hi;have h2:=List.getElem?_eq_some_iff.1 hj;rcases FE i j with c |c |c
 ·have:=(MH.1 hp) i j h1.1 h2.1 c;rw [h1.2,h2.2] at this;omega
 ·exact c
 ·have:=(MH.1 hp) j i h2.1 h1.1 c;rw [h1.2,h2.2] at this;omega
theorem Zbc {l:List Path} (hl:ZJ l=true) {set i:Nat} {p:Path} (hi:l[i]? =some p):p.id∈Qi l set↔set.testBit i=true:=by
 rw [ZdZ];constructor
 ·rintro ⟨j,q,h1,h2,h3⟩;rw [ZHa hl hi h1 h3.symm];exact h2
 ·exact fun h=>⟨i,p,hi,h,rfl⟩
theorem Zpv (l:List Path) (set:Nat):(Qi l set).Sublist (l.map (·.id)):=by
 have h:((l.zipIdx.filter fun x=>set.testBit x.2).map fun x=>x.1.id).Sublist (l.zipIdx.map fun x=>x.1.id):=(List.filter_sublist).map _;have e:l.zipIdx.map (fun x=>x.1.id)=l.map (·.id):=by
  rw [show (fun x:Path×Nat=>x.1.id)=(fun p:Path=>p.id) ∘ Prod.fst from rfl,←MP,List.zipIdx_map_fst]
 rw [e] at h;exact h
theorem ZvE {l:List Path} (hl:ZJ l=true):(l.map (·.id)).Pairwise (· < ·):=List.pairwise_map.2 (Zgf l none (Zk1 hl)).2
theorem ZHb {l:List Path} {set:Nat}:Jk l set=true↔∀i p,l[i]? =some p->(set.testBit i=true↔∀j q,l[j]? =some q->set.testBit j=true->Z1 p q=false):=by
 unfold Jk;rw [MS];have key:∀p:Path,(l.zipIdx.all fun y=> !(set.testBit y.2 && Z1 p y.1))=true↔∀j q,l[j]? =some q->set.testBit j=true->Z1 p q=false:=fun p=>by
  rw [MS];constructor
  ·intro h j q hj hb;have:=h (q,j) (by rw [UN];exact hj);simpa [hb] using this
  ·rintro h ⟨q,j⟩ hm;rw [UN] at hm;have:=h j q hm;cases hb:set.testBit j with
   |false=>simp [hb]
   |true=>simp [hb,this hb]
 constructor
 ·intro h i p hi;have:=h (p,i) (by rw [UN];exact hi);rw [Fz] at this;simp only at this;rw [this,key]
 ·rintro h ⟨p,i⟩ hm;rw [UN] at hm;rw [Fz,Bool.eq_iff_iff];simp only;rw [key];exact h i p hm
theorem ZvF {l:List Path} (hl:ZJ l=true) {set:Nat}:VW l (Qi l set)=true↔Jk l set=true:=by
 rw [Zgk hl,ZHb];constructor
 ·rintro ⟨hI,hM⟩ i p hi;have hp:=Uk hi;constructor
  ·intro hb j q hj hb2;have:=hI.2.2 p.id ((Zbc hl hi).2 hb) q.id ((Zbc hl hj).2 hb2)
   rwa [Jj hl hp,Jj hl (Uk hj)] at this
  ·intro h;cases hb:set.testBit i with
   |true=>rfl
   |false=>
    obtain ⟨x,hx,hc⟩:=hM p hp (fun hm=>by rw [(Zbc hl hi).1 hm] at hb;cases hb);obtain ⟨j,q,h1,h2,rfl⟩:=ZdZ.1 hx;rw [Jj hl (Uk h1),h j q h1 h2] at hc;cases hc
 ·intro h;refine ⟨⟨fun x hx=> ?_,(ZvE hl).sublist (Zpv l set),fun x hx y hy=> ?_⟩,fun p hp hn=> ?_⟩
  ·obtain ⟨j,q,h1,_,rfl⟩:=ZdZ.1 hx;exact ⟨q,Uk h1,rfl⟩
  ·obtain ⟨i,p,h1,h2,rfl⟩:=ZdZ.1 hx;obtain ⟨j,q,h3,h4,rfl⟩:=ZdZ.1 hy;rw [Jj hl (Uk h1),Jj hl (Uk h3)];exact (h i p h1).1 h2 j q h3 h4
  ·obtain ⟨i,hi⟩:=Mh hp;by_cases c:∃x∈Qi l set,Z1 p (ZQ l x)=true
   ·exact c
   ·refine absurd ((Zbc hl hi).2 ((h i p hi).2 fun j q hj hb=> ?_)) hn;cases hc:Z1 p q with
    |false=>rfl
    |true=>exact absurd ⟨q.id,(Zbc hl hj).2 hb,by rw [Jj hl (Uk hj)];exact hc⟩ c
def mk (f:Nat->Bool):Nat->Nat
 | 0=>0
 |n + 1=>mk f n ||| (if f n then 2 ^ n else 0)
theorem Zd0 (f:Nat->Bool):∀n i,(mk f n).testBit i=(decide (i < n) && f i)
 | 0,i=>by simp [mk]
 |n + 1,i=>by
  unfold mk;rw [Nat.testBit_or,Zd0 f n i];cases hf:f n with
  |true=>
   simp only [U1,Nat.testBit_two_pow];by_cases c:i=n
   ·subst c;simp [hf]
   ·have:decide (n=i)=false:=by simp;omega
    rw [this,Bool.or_false];congr 1;simp;omega
  |false=>
   simp only [MV,Mw,FI,Bool.or_false];by_cases c:i=n
   ·subst c;simp [hf]
   ·congr 1;simp;omega
theorem Zpw (f:Nat->Bool) (n:Nat):mk f n < 2 ^ n:=Nat.lt_pow_two_of_testBit _ fun i hi=>by
 rw [Zd0];simp;omega
theorem ZvG {l:List Path} (hl:ZJ l=true) {e:List Int} (h:Ind l e):∃set,set < 2 ^ l.length/\Qi l set=e:=by
 let f:Nat->Bool:=fun i=>match l[i]? with |some p=>has e p.id |none=>false
 refine ⟨mk f l.length,Zpw _ _,?_⟩;have hs:=(ZvE hl).sublist (Zpv l (mk f l.length));have hmem:∀x,x∈Qi l (mk f l.length)↔x∈e:=fun x=>by
  rw [ZdZ];constructor
  ·rintro ⟨i,p,h1,h2,rfl⟩;rw [Zd0,Ub] at h2;have:has e p.id=true:=by have:=h2.2;simpa only [f,h1] using this
   exact ZdT.1 this
  ·intro hx;obtain ⟨p,hp,rfl⟩:=h.1 x hx;obtain ⟨i,hi⟩:=Mh hp;refine ⟨i,p,hi,?_,rfl⟩;rw [Zd0,Ub];exact ⟨by simpa using (List.getElem?_eq_some_iff.1 hi).1,by simp only [f,hi];exact ZdT.2 hx⟩
 have hnd:∀{a:List Int},a.Pairwise (· < ·)->a.Nodup:=fun h=>h.imp fun h=>by omega
 exact List.Perm.eq_of_pairwise (le:=(· < ·)) (fun a b _ _ h1 h2=>by omega) hs h.2.1 ((List.perm_ext_iff_of_nodup (hnd hs) (hnd h.2.1)).2 hmem)
theorem ZHc {l:List Path} (hl:ZJ l=true) {a b:Nat} (ha:a < 2 ^ l.length) (hb:b < 2 ^ l.length) (h:Qi l a=Qi l b):a=b:=by
 refine FL fun i=> ?_
 by_cases hi:i < l.length
 ·have hx:=Ua hi;have h1:=Zbc hl (set:=a) hx;have h2:=Zbc hl (set:=b) hx;rw [h,h2] at h1;exact (Bool.eq_iff_iff.2 h1).symm
 ·have hp:2 ^ l.length<=2 ^ i:=Mj (by decide) (by omega);rw [FG (by omega),FG (by omega)]
theorem ZHd {l:List Path} (hl:ZJ l=true) {e:List Int}:e∈Jl l↔e≠ []/\VW l e=true:=by
 unfold Jl;rw [MX];constructor
 ·rintro ⟨set,h1,h2⟩;split at h2
  case isFalse=>cases h2
  rename_i hg;cases h2;rw [List.mem_range'_1] at h1;refine ⟨fun h0=> ?_,(ZvF hl).2 hg⟩;have:set=0:=by
   refine FL fun i=> ?_
   rw [FI];by_cases hi:i < l.length
   ·cases hb:set.testBit i with
    |false=>rfl
    |true=>
     have:=(Zbc hl (set:=set) (Ua hi)).2 hb;rw [h0] at this;cases this
   ·have hp:2 ^ l.length<=2 ^ i:=Mj (by decide) (by omega);exact FG (by omega)
  omega
 ·rintro ⟨h1,h2⟩;obtain ⟨set,hs,rfl⟩:=ZvG hl ((Zgk hl).1 h2).1;refine ⟨set,?_,by rw [Ul ((ZvF hl).1 h2)]⟩;rw [List.mem_range'_1];have:set≠0:=fun h0=>h1 (by
   subst h0;unfold Qi;simp)
  omega
theorem ZHe {l:List Path} (hl:ZJ l=true):(Jl l).Nodup:=by
 unfold Jl;refine List.Pairwise.filterMap (R:=fun a b=>a < b/\b < 2 ^ l.length) _ ?_ ?_
 ·rintro a b ⟨h1,h2⟩ x hx y hy;split at hx
  case isFalse=>cases hx
  split at hy
  case isFalse=>cases hy
  cases hx;cases hy;intro h;have:=ZHc hl (by omega) h2 h;omega
 ·rw [MH];intro i j hi hj hij;rw [List.length_range'] at hi hj;simp only [List.getElem_range'];omega
theorem ZHf {l:List Path} (hl:ZJ l=true):Qx (Jl l)=Vv l l []:=by
 have hs:=Zpu hl l [] (fun _ h=>h) (Zgf l none (Zk1 hl)).2;refine (ZsT ?_ (hs.imp fun h=>List.le_of_lt h)).symm;have hnd:(Vv l l []).Nodup:=hs.imp fun h e=>by
  subst e;exact List.lt_irrefl _ h
 refine (List.perm_ext_iff_of_nodup hnd (ZHe hl)).2 fun e=> ?_
 rw [ZHd hl,ZdY hl];constructor
 ·rintro ⟨h1,h2,_⟩;exact ⟨h1,h2⟩
 ·rintro ⟨h1,h2⟩;obtain ⟨set,_,rfl⟩:=ZvG hl ((Zgk hl).1 h2).1;exact ⟨h1,h2,_,rfl,Zpv l set⟩
theorem ZHg {l:List Path} (hl:ZJ l=true):VX l=(Qx (Jl l)).take 40:=by
 unfold VX;rw [Ul hl,Zlb l l [] [] (by simp),ZHf hl];simp
theorem Zlc (m:Nat) (h:m < 4611686018427387904):(BitVec.ofInt (IntKind.bits .i64) (m:Int)).toNat=m:=by
 show (BitVec.ofInt 64 (m:Int)).toNat=m;rw [BitVec.toNat_ofInt];omega
theorem Zld {m k:Nat} (h:m < 2 ^ k) (hk:k<=62):m < 4611686018427387904:=UB h (by
 have:=Mj (show 1<=2 by decide) hk;exact this)
theorem ZHh {m j k:Nat} (hm:m < 2 ^ k) (hj:j < 2 ^ k) (hk:k<=62):W ((BitVec.toNat (BitVec.ofInt (IntKind.bits .i64) (m:Int) |||BitVec.ofInt (IntKind.bits .i64) (j:Int)):Nat):Int)=((m |||j:Nat):Int):=by
 rw [BitVec.toNat_or,Zlc m (Zld hm hk),Zlc j (Zld hj hk)];have:=Zld (Nat.or_lt_two_pow hm hj) hk;exact Zz (by omega) (by omega)
theorem ZvH {m j:Nat} (hm:m < 4611686018427387904) (hj:j < 4611686018427387904):W ((BitVec.toNat (BitVec.ofInt (IntKind.bits .i64) (m:Int) &&& BitVec.ofInt (IntKind.bits .i64) (j:Int)):Nat):Int)=((m &&& j:Nat):Int):=by
 rw [BitVec.toNat_and,Zlc m hm,Zlc j hj];have:=Nat.and_le_left (n:=m) (m:=j);exact Zz (by omega) (by omega)
theorem Zpx {j:Nat} (hj:j<=12):W ((1:Int) * ((2:Int) ^ (Min.min (Int.toNat (j:Int)) (IntKind.bits .i64))))=((2 ^ j:Nat):Int):=by
 rw [Ux,show Min.min j (IntKind.bits .i64)=j from U8 (by show j<=64;omega),Int.one_mul];have h:2 ^ j<=2 ^ 12:=Mj (by decide) hj;have e:((2:Int) ^ j)=((2 ^ j:Nat):Int):=by simp
 rw [e];generalize (2:Nat) ^ j=m at h ⊢;exact Zz (by omega) (by omega)
theorem ZHi {s i:Nat} (hi:i<=12):Int.fdiv (s:Int) ((2:Int) ^ (Min.min (Int.toNat (i:Int)) (IntKind.bits .i64)))=((s >>> i:Nat):Int):=by
 rw [Ux,show Min.min i (IntKind.bits .i64)=i from U8 (by show i<=64;omega),Nat.shiftRight_eq_div_pow];rw [Int.fdiv_eq_ediv_of_nonneg _ (by exact Int.pow_nonneg (by decide))];simp
theorem ZHj {s i:Nat} (hs:s < 4611686018427387904) (hi:i<=12):(W ((BitVec.toNat (BitVec.ofInt (IntKind.bits .i64) (Int.fdiv (s:Int) ((2:Int) ^ (Min.min (Int.toNat (i:Int)) (IntKind.bits .i64)))) &&& BitVec.ofInt (IntKind.bits .i64) (1:Int)):Nat):Int)==1)=s.testBit i:=by
 have h1:s >>> i<=s:=by rw [Nat.shiftRight_eq_div_pow];exact Nat.div_le_self _ _
 rw [ZHi hi,show (1:Int)=((1:Nat):Int) from rfl,ZvH (by omega) (by decide),Nat.testBit,Nat.and_comm];rw [Nat.and_comm,Nat.and_one_is_mod];rcases Nat.mod_two_eq_zero_or_one (s >>> i) with h |h <;> rw [h] <;> rfl
def fc (l:List Path) (p:Path) (j:Nat):Bool:=match l[j]? with |some q=>Z1 p q |none=>false
theorem ZHk {l:List Path} {p:Path} {s:Nat}:(((mk (fc l p) l.length &&& s:Nat):Int)==0)=l.zipIdx.all fun y=> !(s.testBit y.2 && Z1 p y.1):=by
 rw [Bool.eq_iff_iff,Fz,MS];constructor
 ·intro h y hy;have h0:mk (fc l p) l.length &&& s=0:=by omega
  obtain ⟨q,j⟩:=y;rw [UN] at hy;have hb:(mk (fc l p) l.length &&& s).testBit j=false:=by rw [h0];exact FI j
  rw [Nat.testBit_and,Zd0,show fc l p j=Z1 p q by unfold fc;rw [hy],Uv (List.getElem?_eq_some_iff.1 hy).1,UW] at hb;simp only;rw [Bool.and_comm,hb];rfl
 ·intro h;have:mk (fc l p) l.length &&& s=0:=by
   refine FL fun j=> ?_
   rw [FI,Nat.testBit_and,Zd0];by_cases hj:j < l.length
   ·have hx:=Ua hj;have:=h (l[j],j) (by rw [UN];exact hx);simp only at this;rw [Uv hj,UW,show fc l p j=Z1 p l[j] by unfold fc;rw [hx],Bool.and_comm];cases hb:s.testBit j with
    |false=>rfl
    |true=>rw [hb] at this;simpa using this
   ·rw [Um hj];rfl
  rw [this];rfl
theorem Zle {V β:Type} {F:(V->Option β)->V->Option β} {v:V} (N:Nat) (hN:N<=1099511627776) (st:Nat->V) (J:Nat->Prop) (hJ:J 0) (R:Option β) (hv:v=st 0)
  (h0:∀rec,J N->F rec (st N)=R) (h1:∀rec k,k < N->J k->(J (k + 1)->rec (st (k + 1))=R)->F rec (st k)=R):Zf F NN v=R:=by
 refine Yj (List.range N) (by rw [Fi];omega) (fun k (_:Unit)=>st k) () (fun k _=>J k) hJ (fun _ _ _=>R) hv ?_ ?_
 ·intro rec _ h;rw [Fi] at h ⊢;exact h0 rec h
 ·intro rec k x _ hJ hx hk hr;rw [Fi] at hk;exact h1 rec k hk hJ fun h=>hr () h
def agl (l:List Path) (i:Nat):List Int:=(List.range l.length).map fun k=>if k < i then ((mk (fc l (l.getD k default)) l.length:Nat):Int) else 0
theorem Zbd (l:List Path) (i:Nat):(agl l i).length=l.length:=by unfold agl;simp
theorem Zgl {l:List Path} {i k:Nat} (hk:k < l.length):(agl l i)[k]? =some (if k < i then ((mk (fc l (l.getD k default)) l.length:Nat):Int) else 0):=by
 unfold agl;rw [Mf,List.getElem?_range hk];rfl
theorem ZHl (l:List Path):agl l 0=List.replicate l.length 0:=by
 unfold agl;apply List.ext_getElem
 ·simp
 ·intro i h1 h2;simp
theorem ZHm {l:List Path} {i:Nat} (hi:i < l.length):(agl l i).set i 0=agl l i:=by
 apply UV;intro k;rw [U6];split
 ·rename_i e;subst e;rw [Ul (by rw [Zbd];exact hi),Zgl hi,Uf (by omega)]
 ·rfl
theorem ZHn {l:List Path} {i:Nat} {p:Path} (hi:l[i]? =some p):(agl l i).set i ((mk (fc l p) l.length:Nat):Int)=agl l (i + 1):=by
 have hlt:=(List.getElem?_eq_some_iff.1 hi).1;apply UV;intro k;rw [U6];by_cases hk:k < l.length
 ·rw [Zgl hk];split
  ·rename_i e;subst e;rw [Zgl hlt,Ul (Nat.lt_succ_self i),MY,hi];simp [Zbd,hlt]
  ·rename_i e;rw [Zgl hk];by_cases c:k < i
   ·rw [Ul c,Ul (by omega)]
   ·rw [Uf c,Uf (by omega)]
 ·rw [Uf (by omega),UP (by rw [Zbd];omega),UP (by rw [Zbd];omega)]
def Zpy (l:List Path) (set:Nat) (x:Path×Nat):Bool:=set.testBit x.2==l.zipIdx.all fun y=> !(set.testBit y.2 && Z1 x.1 y.1)
def Ke (l:List Path) (set k:Nat):List Int:=((l.zipIdx.take k).filter fun x=>set.testBit x.2).map fun x=>x.1.id
theorem ZvI {l:List Path} {k:Nat} {p:Path} (h:l[k]? =some p):l.zipIdx[k]? =some (p,k):=by
 rw [List.getElem?_zipIdx,h];simp
theorem ZHo {l:List Path} {set k:Nat} {p:Path} (h:l[k]? =some p):Ke l set (k + 1)=if set.testBit k=true then Ke l set k ++ [p.id] else Ke l set k:=by
 unfold Ke;rw [MF,ZvI h,List.filter_append,UY];cases hb:set.testBit k with
 |true=>simp [hb]
 |false=>simp [hb]
theorem ZHp (l:List Path) (set k:Nat):(Ke l set k).length<=l.length:=by
 unfold Ke;rw [Uy];refine Mk (Fg _ _) ?_;rw [Uc,List.length_zipIdx];omega
def KT (l:List Path) (k:Nat):List (List Int):=(List.range' 1 k).filterMap fun set=>if Jk l set=true then some (Qi l set) else none
theorem ZvJ (l:List Path) (k:Nat):KT l (k + 1)=if Jk l (k + 1)=true then KT l k ++ [Qi l (k + 1)] else KT l k:=by
 unfold KT;rw [List.range'_concat,List.filterMap_append];simp only [MK,Nat.add_comm 1 k];cases hg:Jk l (k + 1) with
 |true=>simp [hg]
 |false=>simp [hg]
theorem ZvK (l:List Path) (k:Nat):(KT l k).length<=k:=by
 unfold KT;refine Mk (List.length_filterMap_le _ _) ?_;rw [List.length_range'];exact Uq _
@[simp] theorem ZHq (l:List (List Int)):ZY (l.map (Zg (rX Own.own 1 iR)).enc)=l.map (Zg (rX Own.own 1 iR)).enc:=Zcu (fun _=>rfl) l
theorem ZHr (l:List Int) (i:Nat) (v:Int) {β:Type} (K:List Int->Option β):rws iR ((l.map iR.enc).set i [I v]) K=K (l.set i v):=by
 have e:(l.map iR.enc).set i [I v]=(l.set i v).map iR.enc:=(Fo (f:=iR.enc) (l:=l) (i:=i) (a:=v)).symm;rw [e,Zq]
theorem ZHs (l:List Int) (v:Int) {β:Type} (K:List Int->Option β):rws iR (l.map iR.enc ++ [[I v]]) K=K (l ++ [v]):=Zcg l v K
theorem W1 {n:Nat} (h:n<=4000000000):W ((n:Int) + 1)=((n + 1:Nat):Int):=by rw [Zw (by omega)];omega
theorem ZHt (n:Nat) {β:Type} (K:List Int->Option β):rws iR (List.replicate ((n:Nat):Int).toNat [I 0]) K=K (List.replicate n 0):=by
 have e:List.replicate ((n:Nat):Int).toNat [I 0]=(List.replicate n (0:Int)).map iR.enc:=by
  rw [Ux]
  induction n with
  |zero=>rfl
  |succ n ih=>rw [MO,MO,ih];rfl
 rw [e,Zq]
theorem Zpz {β:Type} (l:List Int) (n:Nat) (K:Int->Option β):n_i l n K=Xl l n K:=ZDk l n K
theorem ZHu (l:List Path) (h:Sm l):Zjz l=some (VX l):=by
 unfold Zjz;simp only [Zu,Zq,JH,ZbP,Yp,ZV,Vg,JW l h,Zd,Xs,ZdD,ZHq,ZHt];cases ha:ZJ l with
 |false=>unfold VX;rw [ha];rfl
 |true=>
 have hn:=Zcr ha;rw [Ui,Zh,Zt (by simp;omega),ZHg ha];have hpow:2 ^ l.length<=4096:=Mj (n:=2) (by decide) hn;have hpow1:1<=2 ^ l.length:=Nat.one_le_two_pow;refine Zle l.length (by omega) (fun i=>((l,[],l,((l.length:Nat):Int),(i:Int)),agl l i)) (fun _=>True) trivial _ (by rw [ZHl];rfl) ?_ ?_
 ·intro rec _;simp only;rw [show decide (((l.length:Nat):Int) < ((l.length:Nat):Int))=false from Um (by omega),Zh];refine Zle (2 ^ l.length - 1) (by omega) (fun k=>((l,KT l k,((k + 1:Nat):Int)),agl l l.length)) (fun _=>True) trivial _ rfl ?_ ?_
  ·intro rec _;simp only;rw [Zpx hn,show decide (((2 ^ l.length - 1 + 1:Nat):Int) < ((2 ^ l.length:Nat):Int))=false from Um (by
    generalize 2 ^ l.length=m at hpow1 ⊢;omega),Zh]
   have hb:KT l (2 ^ l.length - 1)=Jl l:=rfl;have hbl:(Jl l).length<=4096:=by
    rw [←hb];exact Mk (ZvK _ _) (by omega)
   rw [hb];unfold ZnB;rw [Zt (by omega),Zd];have hsl:(Qx (Jl l)).length=(Jl l).length:=(ZhM _).length_eq;generalize Qx (Jl l)=S at hsl ⊢;by_cases c:40 < S.length
   ·rw [Ul (by omega),Zt (by omega),show (40:Int).toNat=40 from rfl,show Int.toNat 0=0 from rfl,ML,Zta,ZbP]
   ·rw [Uf (by omega),Zt (by omega),Ux,show Int.toNat 0=0 from rfl,ML,Zta,ZbP,U4 (Uq _),U4 (by omega)]
  ·intro rec k hk _ hr;have hr:=hr trivial;simp only;have hks:k + 1 < 2 ^ l.length:=by omega
   rw [Zpx hn,show decide (((k + 1:Nat):Int) < ((2 ^ l.length:Nat):Int))=true from Uv (by
    generalize 2 ^ l.length=m at hks ⊢;omega),Zs]
   refine Zle l.length (by omega) (fun i=>((l,KT l k,((k + 1:Nat):Int),true,Ke l (k + 1) i,l,((l.length:Nat):Int),(i:Int)),agl l l.length)) (fun i=>∀x∈l.zipIdx.take i,Zpy l (k + 1) x=true) (by simp) _ (by unfold Ke;simp) ?_ ?_
   ·intro rec2 hJ;simp only;rw [show decide (((l.length:Nat):Int) < ((l.length:Nat):Int))=false from Um (by omega),Zh,Zs];have hol:=ZvK l k;have hg:Jk l (k + 1)=true:=by
     unfold Jk;refine MS.2 fun x hx=>hJ x ?_
     rw [U4 (by simp)];exact hx
    have hid:Ke l (k + 1) l.length=Qi l (k + 1):=by
     unfold Ke Qi;rw [U4 (by simp)]
    rw [Zt (by simp;omega),ZkY (o:= .own) (p:= .own) (q:= .own) rfl rfl,W1 (by omega),hid];rw [ZvJ,Ul hg] at hr;exact hr
   ·intro rec2 i hi hJ hr2;simp only;have hx:=Ua hi;generalize l[i]=p at hx;rw [show decide ((i:Int) < ((l.length:Nat):Int))=true from Uv (by omega),Zs,Zi hx,Zt (by omega),Zt (by rw [Zbd];omega)];simp only [Ux];have hag:(agl l l.length)[i]? =some ((mk (fc l p) l.length:Nat):Int):=by
     rw [Zgl hi,Ul hi,MY,hx];rfl
    have hbi:=ZHj (s:=k + 1) (i:=i) (by omega) (by omega);rw [Ux] at hbi;rw [Zpz,X0 hag,hbi,ZvH (Zld (Zpw _ _) (by omega)) (by omega),ZHk,W1 (by omega)];have hgd:Zpy l (k + 1) (p,i)=((k + 1).testBit i==l.zipIdx.all fun y=> !((k + 1).testBit y.2 && Z1 p y.1)):=rfl;have hmem:(p,i)∈l.zipIdx:=by rw [UN];exact hx
    cases hb:((k + 1).testBit i != l.zipIdx.all fun y=> !((k + 1).testBit y.2 && Z1 p y.1)) with
    |true=>
     rw [Zs];have hng:Jk l (k + 1)=false:=by
      cases hg:Jk l (k + 1) with
      |false=>rfl
      |true=>
       have:=MS.1 hg (p,i) hmem;simp only at this;unfold bne at hb;rw [this] at hb;cases hb
     rw [ZvJ,hng,Uf (by decide)] at hr;exact hr
    |false=>
     rw [Zh];have hJ':∀x∈l.zipIdx.take (i + 1),Zpy l (k + 1) x=true:=fun x hx'=>by
      rw [MF,ZvI hx] at hx';rcases List.mem_append.1 hx' with h1 |h1
      ·exact hJ x h1
      ·have:x=(p,i):=by simpa using h1
       subst this;rw [hgd];unfold bne at hb;simpa using hb
     have hr3:=hr2 hJ';rw [ZHo hx] at hr3;have hil:=ZHp l (k + 1) i;cases hbit:(k + 1).testBit i with
     |true=>
      rw [Zs,Zt (by simp;omega),ZHs,W1 (by omega)];rw [hbit,Ul rfl] at hr3;exact hr3
     |false=>
      rw [Zh,W1 (by omega)];rw [hbit,Uf (by decide)] at hr3;exact hr3
 ·intro rec i hi _ hr;have hr:=hr trivial;simp only;have hx:=Ua hi;generalize l[i]=p at hx;rw [show decide ((i:Int) < ((l.length:Nat):Int))=true from Uv (by omega),Zs,Zi hx];refine Zle l.length (by omega) (fun j=>((l,[],(i:Int),l,((l.length:Nat):Int),(i:Int),l,((l.length:Nat):Int),(j:Int)),p,(agl l i).set i ((mk (fc l p) j:Nat):Int))) (fun _=>True) trivial _ (by rw [show ((mk (fc l p) 0:Nat):Int)=0 from rfl,ZHm hi];rfl) ?_ ?_
  ·intro rec2 _;simp only;rw [show decide (((l.length:Nat):Int) < ((l.length:Nat):Int))=false from Um (by omega),Zh,ZHn hx,W1 (by omega)];exact hr
  ·intro rec2 j hj _ hr2;have hr2:=hr2 trivial;simp only;have hy:=Ua hj;generalize l[j]=q at hy;rw [show decide ((j:Int) < ((l.length:Nat):Int))=true from Uv (by omega),Zs,Zi hy,W1 (by omega)];have hf:fc l p j=Z1 p q:=by unfold fc;rw [hy]
   have hmk:mk (fc l p) (j + 1)=mk (fc l p) j ||| (if fc l p j=true then 2 ^ j else 0):=rfl;rw [hmk,hf] at hr2;cases hc:Z1 p q with
   |false=>
    rw [Zh];rw [hc,Uf (by decide),Nat.or_zero] at hr2;exact hr2
   |true=>
    rw [hc,Ul rfl] at hr2;rw [Zs,Zt (by rw [UU,Zbd];omega)];simp only [Ux];have hag:((agl l i).set i ((mk (fc l p) j:Nat):Int))[i]? =some ((mk (fc l p) j:Nat):Int):=by
     rw [U6,Ul rfl,Ul (by rw [Zbd];exact hi)]
    rw [Zpz,X0 hag,Zt (by omega),Zt (by rw [UU,Zbd];omega),Zpz,X0 hag,ZHr,MQ];have hlt:mk (fc l p) j < 2 ^ 12:=UB (Zpw _ _) (Mj (by decide) (by omega));have hpj:2 ^ j < 2 ^ 12:=Nat.pow_lt_pow_right (by decide) (by omega);have hpw:=Zpx (j:=j) (by omega);rw [Ux] at hpw;rw [hpw,ZHh hlt hpj (by omega)];exact hr2
theorem ZvL (l:List Int) (n:Nat) {β:Type} (K:List Int->Option β):rws iR (l.map iR.enc ++ [[I ((n:Nat):Int)]]) K=K (l ++ [(n:Int)]):=Zcg l _ K
def KU (l:List Path):List Int:=(VX l).map fun s=>((s.length:Nat):Int)
theorem ZHv (l:List Path) (h:Sm l):ZiE l=some (KU l):=by
 unfold ZiE KU;simp only [Zu,ZG6 l h,Zd,JH,ZbP,Zq,Vg,ZV,Ztb];have hs:=(Zpr l).1;generalize VX l=S at hs;refine ZfZ S (fun s=>((s.length:Nat):Int)) (by omega) (fun k acc=>(acc,S,(k:Int))) some rfl ?_ ?_
 ·intro rec acc ha;simp only;rw [show decide (((S.length:Nat):Int) < ((S.length:Nat):Int))=false from Um (by omega),Zh]
 ·intro rec k x acc hx hk ha;simp only;rw [show decide ((k:Int) < ((S.length:Nat):Int))=true from Uv (by omega),Zs,Zi hx,Zt (by simp;omega),ZvL,W1 (by omega)]
theorem ZHw (l:List Path) (h:Sm l):ZjA l=some (KU l):=by
 unfold ZjA KU;simp only [Zu,ZHu l h,Zd,Zat,Zq,Vg,ZV,ZhQ];have hs:=(Zpr l).1;generalize VX l=S at hs;refine ZfZ S (fun s=>((s.length:Nat):Int)) (by omega) (fun k acc=>(acc,S,((S.length:Nat):Int),(k:Int))) some rfl ?_ ?_
 ·intro rec acc ha;simp only;rw [show decide (((S.length:Nat):Int) < ((S.length:Nat):Int))=false from Um (by omega),Zh]
 ·intro rec k x acc hx hk ha;simp only;rw [show decide ((k:Int) < ((S.length:Nat):Int))=true from Uv (by omega),Zs,Zi hx,Zt (by simp;omega),ZvL,W1 (by omega)]
theorem ZHx (l:List Path) (p:List Part) (h:Sm l) (hp:SmL p) (hpl:Ym l p=true) (id:Int) (hid:¬ZD l id < 0):Zdl l p id=some (ZdL l p id):=by
 have hrl:=Zf9 hpl id;obtain ⟨c1,c2⟩:=ZdK hpl;unfold Zdl ZdL;simp only [Zu,Xm,ZFy l p h hp hpl id hid,Zd,Zq,ZV];refine (Yj (List.range (2 * cyc l p)) (by simp;omega) (fun k (z:Int×Int)=>(YJ l p id,z.1,z.2,(k:Int))) ((0:Int),(0:Int)) (fun k z=>0<=z.2/\z.2<=k) (by simp) (fun ks _ z=>some (gW (YJ l p id) ks z.1 z.2)) rfl ?_ ?_).trans rfl
 ·intro rec z hz;simp [gW,hrl,Zcd,Zz (show -9223372036854775808<=2 * (cyc l p:Int) by omega) (by omega)]
 ·intro rec k x z hz hx hk hr;have hk':k < 2 * cyc l p:=by simpa using hk
  have hxk:x=k:=by
   rw [List.getElem?_range hk'] at hx;exact (Un hx).symm
  subst hxk;have hm:x % cyc l p < cyc l p:=Nat.mod_lt _ (by omega);have hg:(YJ l p id)[x % cyc l p]? =some (((YJ l p id)[x % cyc l p]?).getD 0):=by
   rw [Ua (by omega)];rfl
  have hgz:∀{β:Type} (K:Int->Option β),Z4 (YJ l p id) ((x:Int) % (cyc l p:Int)) K=K (((YJ l p id)[x % cyc l p]?).getD 0):=fun K=>by
   have:=Zi hg K
   rwa [Int.natCast_emod] at this
  simp only [Uo] at hr;simp [hrl,Zz (show -9223372036854775808<=2 * (cyc l p:Int) by omega) (by omega),show (x:Int) < 2 * (cyc l p:Int) by omega,Zus,hgz,Zw (show x<=9223372036854775806 by omega),Zz (show -9223372036854775808<=z.2 + 1 by omega) (by omega),show ¬cyc l p=0 by omega,gW,Zof]
  try rw [Zt (by intro e;rw [e] at hrl;simp at hrl;omega)]
  by_cases c:((YJ l p id)[x % cyc l p]?).getD 0=1
  ·have:=hr (if z.1 < 0 then 0 else z.1,0) (by constructor <;> omega);simp [c];simpa using this
  ·have:=hr (if z.1 < z.2 + 1 then z.2 + 1 else z.1,z.2 + 1) (by constructor <;> simp <;> omega);simp [c,show (((YJ l p id)[x % cyc l p]?).getD 0==1)=false by simp [c]];simpa using this
theorem ZHy (t:Town) (h:Zx t):∃v,ZiL t=some v/\ZjO t=some v:=by
 have h4:=h.2.2.2.2;have e1:ZiG t=some (Vo t.paths (Yz t)):=by unfold ZiG;simp [Zf3 t h,Zt4 _ _ h.1]
 have e2:ZjJ t=some (Vo t.paths (Yz t)):=by unfold ZjJ;simp [Zf4 t h,Zt5 _ _ h.1]
 unfold ZiL ZjO;simp only [Zp,Zk,Zo,Zn,Zr,Zu,Zq,ZK,ZT,ZS,Zy,ZW,KK t h,KL t h,e1,e2,ZE7 t h,ZE8 t h,ZEY t h,ZEZ t h,Zd];cases Z7 t
 ·exact ⟨_,rfl,rfl⟩
 cases Vo t.paths (Yz t)
 ·exact ⟨_,rfl,rfl⟩
 cases Zf5 t
 ·exact ⟨_,rfl,rfl⟩
 cases Zf0 t
 ·exact ⟨_,rfl,rfl⟩
 ·exact ⟨_,rfl,rfl⟩
theorem Zcx {β:Type} {s:ByteArray} {k:Nat} {c:UInt8} (h:s.data.toList[k]? =some c) (K:Int->Option β):Y8 s (k:Int) K=K (c.toNat:Int):=by
 unfold Y8;rw [Ul (by omega),Ux,h]
theorem ZpA (s:ByteArray):s.size=s.data.toList.length:=Array.length_toList.symm
def pd:List UInt8->Int->Option Int
 | [],n=>some n
 |c::r,n=>if (c.toNat:Int) < 48\/(57:Int) < (c.toNat:Int) then none else pd r (W (W (10 * n) + W (IntKind.u8.wrap ((c.toNat:Int) - 48))))
def Zcy (x:Option Int):Int×Bool:=match x with |none=>(0,false) |some n=>if (1000000000000:Int) < n then (0,false) else (n,true)
def Y5 (u:List UInt8):Int×Bool:=
 if u.length=0\/13 < u.length\/(1 < u.length/\u[0]? =some 48) then (0,false) else Zcy (pd u 0)
theorem ZvM (s:ByteArray) (hs:s.size<=1099511627776) {F:((ByteArray×Int×Int×Int)->Option (Int×Bool))->(ByteArray×Int×Int×Int)->Option (Int×Bool)}
  (hF:∀rec x,F rec x=cnd (decide (x.2.2.2 < x.2.2.1)) (Y8 x.1 x.2.2.2 fun c4=>cnd (decide (c4 < 48)) (some (0,false)) (Y8 x.1 x.2.2.2 fun c5=>cnd (decide (c5 > 57)) (some (0,false)) (Y8 x.1 x.2.2.2 fun c6=>rec (x.1,W (W (10 * x.2.1) + W (IntKind.u8.wrap (c6 - 48))),x.2.2.1,W (x.2.2.2 + 1))))) (cnd (decide (x.2.1 > 1000000000000)) (some (0,false)) (some (x.2.1,true)))):
  Zf F NN (s,0,((s.size:Nat):Int),0)=some (Zcy (pd s.data.toList 0)):=by
 have hl:=ZpA s;refine (Yc s.data.toList (by omega) (fun k n=>(s,n,((s.size:Nat):Int),(k:Int))) 0 (fun r _ n=>some (Zcy (pd r n))) rfl ?_ ?_).trans rfl
 ·intro rec n;rw [hF];simp only [hl];simp [pd,Zcy,ZB];split <;> rfl
 ·intro rec k c n hc hk hr;simp only [Uo] at hr;rw [hF];simp only [Zcx hc,show ((k:Nat):Int) < ((s.size:Nat):Int) by omega,Mr,Zs,Zw (show k<=9223372036854775806 by omega),hr,pd];by_cases c1:(c.toNat:Int) < 48
  ·simp [c1,Zcy]
  ·by_cases c2:(57:Int) < (c.toNat:Int)
   ·simp only [c1,U3,Zh,gt_iff_lt,c2,Mr,Zs,or_true,U1];rfl
   ·simp only [c1,c2,U3,Zh,gt_iff_lt,or_self,Mw]
theorem ZvN (s:ByteArray) (hs:s.size<=1099511627776):Zfj s=some (Y5 s.data.toList):=by
 have hl:=ZpA s;unfold Zfj Y5;simp only [hl.symm];by_cases h0:s.size=0
 ·simp [h0]
 have e0:(((s.size:Nat):Int)==0)=false:=by rw [Mn];omega
 by_cases h1:13 < s.size
 ·have e1:decide (((s.size:Nat):Int) > 13)=true:=by simp;omega
  simp only [e0,e1,Zh,Zs,h1,true_or,or_true,U1]
 have e1:decide (((s.size:Nat):Int) > 13)=false:=by simp;omega
 simp only [e0,e1,Zh,h0,h1,false_or];by_cases h2:1 < s.size
 ·have e2:decide (((s.size:Nat):Int) > 1)=true:=by simp;omega
  have hz:s.data.toList[0]? =some s.data.toList[0]:=Ua (by omega);have hg:∀K:Int->Option (Int×Bool),Y8 s 0 K=K ((s.data.toList[0]).toNat:Int):=fun K=>Zcx hz K
  simp only [e2,Zs,hg,h2,FQ,hz];by_cases c:s.data.toList[0]=48
  ·rw [c];rfl
  ·have:(((s.data.toList[0]).toNat:Int)==48)=false:=by
    simp only [Mn,ne_eq];intro h;apply c;have h':(s.data.toList[0]).toNat=48:=by omega
    exact UInt8.toNat_inj.1 h'
   simp only [this,Zh,MN,c,Mw];exact ZvM s hs fun rec x=>rfl
 ·have e2:decide (((s.size:Nat):Int) > 1)=false:=by simp;omega
  simp only [e2,Zh,h2,false_and,Mw];exact ZvM s hs fun rec x=>rfl
theorem ZvO (n:Int):Rg (W n):=by
 have e:W n=if n % 18446744073709551616>=9223372036854775808 then n % 18446744073709551616 - 18446744073709551616 else n % 18446744073709551616:=by
  show IntKind.i64.wrap n=_;unfold IntKind.wrap;rw [show IntKind.i64.signed=true from rfl,show IntKind.i64.bits=64 from rfl];simp only [UW,UI];rfl
 rw [e];unfold Rg;split <;> omega
theorem ZpB:∀(u:List UInt8) (n m:Int),Rg n->pd u n=some m->Rg m
 | [],n,m,h,e=>by cases e;exact h
 |c::u,n,m,h,e=>by
  rw [pd] at e;split at e
  ·cases e
  ·exact ZpB u _ m (ZvO _) e
theorem ZvP (u:List UInt8):Rg (Y5 u).1:=by
 have h0:Rg 0:=by unfold Rg;omega
 unfold Y5 Zcy;split
 ·exact h0
 ·split
  ·exact h0
  ·rename_i n hn;split
   ·exact h0
   ·exact ZpB u 0 n h0 hn
def dec:Nat->List UInt8
 |n=>if n < 10 then [UInt8.ofNat (48 + n)] else [UInt8.ofNat (48 + n / 10),UInt8.ofNat (48 + n % 10)]
theorem Zcz (a b:List UInt8):bs a ++ bs b=bs (a ++ b):=by
 apply M3;apply Array.toList_inj.1;show (bs a ++ bs b).data.toList=a ++ b;rw [ByteArray.data_append,M5];rfl
theorem ZpC {n:Nat} (h:n < 100):Yf (n:Int)=bs (dec n):=by
 by_cases h0:n=0
 ·subst h0;have e:Lib.decDigits 0= [48]:=by rw [Lib.decDigits];rfl
  show (⟨(Lib.itoa 0).toArray⟩:ByteArray)=_;rw [show Lib.itoa 0=Lib.decDigits 0 from rfl,e];rfl
 rw [Zvt (by omega),Uf (by omega),Int.natAbs_natCast,Zk7 h0];by_cases h1:n < 10
 ·rw [show n / 10=0 by omega,Zk6,Zcz,dec,Ul h1,show n % 10=n by omega];rfl
 ·rw [Zk7 (by omega),show n / 10 / 10=0 by omega,Zk6,dec,Uf h1,Zcz,Zcz,show n / 10 % 10=n / 10 by omega];rfl
theorem ZHz:∀n:Fin 21,Y5 (dec n.val)=((n.val:Int),true):=by decide
def kc (k:Int):UInt8:=if k=1 then 99 else if k=2 then 119 else 98
def Zgm (i:Nat) (k:Int) (a b:Nat):List UInt8:=dec i ++ [kc k,UInt8.ofNat (48 + a),UInt8.ofNat (48 + b)]
theorem ZHA (k:Int):Zcv k=bs [kc k]:=by
 unfold Zcv kc;split <;> (try split) <;> rfl
theorem ZpD {p:Path} (h:Z8 p=true):∃i a b:Nat,p=⟨(i:Int),p.kind,(a:Int),(b:Int)⟩/\1<=i/\i<=20/\a<=3/\b<=3:=by
 simp [Z8,inR] at h;refine ⟨p.id.toNat,p.src.toNat,p.dst.toNat,?_,by omega,by omega,by omega,by omega⟩;cases p;simp at h ⊢;omega
theorem ZvQ {a:Nat} (h:a < 10):dec a= [UInt8.ofNat (48 + a)]:=by rw [dec,Ul h]
theorem ZvR {i a b:Nat} {k:Int} (h:Z8 ⟨(i:Int),k,(a:Int),(b:Int)⟩=true):Xx ⟨(i:Int),k,(a:Int),(b:Int)⟩=bs (Zgm i k a b):=by
 have h':=h;simp [Z8,inR] at h';unfold Xx;rw [Ul h,ZpC (by omega),ZpC (by omega),ZpC (by omega),ZvQ (show a < 10 by omega),ZvQ (show b < 10 by omega),ZHA,Zcz,Zcz,Zcz];unfold Zgm;simp
theorem ZpE (l:List UInt8):(bs l).data.toList=l:=rfl
theorem ZvS {a b:List UInt8} (h:bs a=bs b):a=b:=by
 rw [←ZpE a,h,ZpE]
theorem ZvT (s:ByteArray):s=bs s.data.toList:=by
 apply M3;apply Array.toList_inj.1;rfl
theorem ZHB (i:Nat):1<=(dec i).length/\(dec i).length<=2:=by
 rw [dec];split <;> simp
theorem ZHC (i:Nat) (k:Int) (a b:Nat):(Zgm i k a b).length=(dec i).length + 3:=by simp [Zgm]
theorem ZpF {V β:Type} (a n:Nat) (hn:n<=1000) (st:Nat->V) (f:Nat->Option β) (K:Option β) {F:(V->Option β)->V->Option β} {v:V} (hv:v=st 0)
  (h0:∀rec,F rec (st n)=K) (h1:∀rec k,k < n->F rec (st k)=match f (a + k) with |some r=>some r |none=>rec (st (k + 1))):
  Zf F NN v=match (List.range' a n).findSome? f with |some r=>some r |none=>K:=by
 have hl:(List.range' a n).length=n:=List.length_range';refine (Yc (List.range' a n) (by omega) (fun k (_:Unit)=>st k) () (fun s _ _=>match s.findSome? f with |some r=>some r |none=>K) hv ?_ ?_).trans rfl
 ·intro rec _;rw [hl,h0];rfl
 ·intro rec k x _ hx hk hr;have hxe:x=a + k:=by
   rw [List.getElem?_range' (by omega)] at hx;have:=Un hx;omega
  rw [h1 rec k (by omega),List.findSome?_cons,hxe];cases f (a + k) with
  |some r=>rfl
  |none=>exact hr ()
def ZcA (s:ByteArray) (i k x:Nat):Option (Path×Bool):=
 let p:Path:=⟨(i:Int),(k:Int),((x / 4:Nat):Int),((x % 4:Nat):Int)⟩
 if Z8 p=true/\Xx p=s then some (p,true) else none
def QH (s:ByteArray):Option (Path×Bool):=
 (List.range' 1 20).findSome? fun i=>(List.range' 1 3).findSome? fun k=>(List.range' 0 16).findSome? fun x=>ZcA s i k x
def Zd1:Path×Bool:=(⟨0,0,0,0⟩,false)
theorem Zd2 (a b:ByteArray):(a.toList==b.toList)=decide (a=b):=by
 rw [ByteArray.toList_eq,ByteArray.toList_eq];by_cases h:a=b
 ·subst h;simp
 ·simp [h];exact fun e=>h (M3 e)
theorem ZHD (s:ByteArray):Zh6 s=some ((QH s).getD Zd1):=by
 unfold Zh6 QH;refine (ZpF (β:=Path×Bool) 1 20 (by omega) (fun k=>((s,((k + 1:Nat):Int)),(⟨0,0,0,0⟩:Path))) (fun i=>(List.range' 1 3).findSome? fun k=>(List.range' 0 16).findSome? fun x=>ZcA s i k x) (some Zd1) rfl (fun rec=> ?_) (fun rec i hi=> ?_)).trans ?_
 ·rfl
 ·have e1:decide (((i + 1:Nat):Int)<=20)=true:=by simp;omega
  simp only [e1,Zs];refine (ZpF (β:=Path×Bool) 1 3 (by omega) (fun k=>((s,((i + 1:Nat):Int),((k + 1:Nat):Int)),(⟨0,0,0,0⟩:Path))) (fun k=>(List.range' 0 16).findSome? fun x=>ZcA s (1 + i) k x) (rec ((s,((i + 1 + 1:Nat):Int)),(⟨0,0,0,0⟩:Path))) rfl (fun rec2=> ?_) (fun rec2 k hk=> ?_)).trans ?_
  ·have e2:W (((i + 1:Nat):Int) + 1)=((i + 1 + 1:Nat):Int):=by rw [Zz (by omega) (by omega)];omega
   simp only [e2];rfl
  ·have e2:decide (((k + 1:Nat):Int)<=3)=true:=by simp;omega
   simp only [e2,Zs];refine (ZpF (β:=Path×Bool) 0 16 (by omega) (fun x=>((s,((i + 1:Nat):Int),((k + 1:Nat):Int),(x:Int)),(⟨0,0,0,0⟩:Path))) (fun x=>ZcA s (1 + i) (1 + k) x) (rec2 ((s,((i + 1:Nat):Int),((k + 1 + 1:Nat):Int)),(⟨0,0,0,0⟩:Path))) rfl (fun rec3=> ?_) (fun rec3 x hx=> ?_)).trans ?_
   ·have e3:W (((k + 1:Nat):Int) + 1)=((k + 1 + 1:Nat):Int):=by rw [Zz (by omega) (by omega)];omega
    simp only [e3];rfl
   ·have e3:decide ((x:Int) < 16)=true:=by simp;omega
    have e4:W (Int.tdiv (x:Int) 4)=((x / 4:Nat):Int):=by
     rw [show Int.tdiv (x:Int) 4=((x / 4:Nat):Int) from rfl];exact Zz (by omega) (by omega)
    have e5:Int.tmod (x:Int) 4=((x % 4:Nat):Int):=rfl;have e6:W ((x:Int) + 1)=((x + 1:Nat):Int):=by rw [Zz (by omega) (by omega)];omega
    have e7:((i + 1:Nat):Int)=((1 + i:Nat):Int):=by omega
    have e8:((k + 1:Nat):Int)=((1 + k:Nat):Int):=by omega
    simp only [e3,Zs,e4,e5,e6,e7,e8,ZfR,Zd,U0,ZcA,Zd2];cases hp:Z8 (⟨((1 + i:Nat):Int),((1 + k:Nat):Int),((x / 4:Nat):Int),((x % 4:Nat):Int)⟩:Path) with
    |false=>simp
    |true=>
     have ok:QU (⟨((1 + i:Nat):Int),((1 + k:Nat):Int),((x / 4:Nat):Int),((x % 4:Nat):Int)⟩:Path):=by
      unfold QU Rg;simp only;omega
     rw [Zvv _ ok,Zd];generalize (⟨((1 + i:Nat):Int),((1 + k:Nat):Int),((x / 4:Nat):Int),((x % 4:Nat):Int)⟩:Path)=q at hp ok ⊢;by_cases c:Xx q=s
     ·simp only [c,hp,Mr,Zs,and_self,U1]
     ·simp only [c,hp,U3,Zh,Zs,and_false,Mw]
   ·rfl
  ·rfl
 ·cases (List.range' 1 20).findSome? _ <;> rfl
theorem ZpG {s:ByteArray} {r:Path×Bool} (h:QH s=some r):∃p,r=(p,true)/\Z8 p=true/\Xx p=s:=by
 unfold QH at h;obtain ⟨i,_,h⟩:=M2 h;obtain ⟨k,_,h⟩:=M2 h;obtain ⟨x,_,h⟩:=M2 h;unfold ZcA at h;simp only at h;split at h
 ·rename_i hc;cases h;exact ⟨_,rfl,hc.1,hc.2⟩
 ·cases h
theorem ZHE {s:ByteArray} (h:QH s=none) {p:Path} (hp:Z8 p=true):Xx p≠s:=by
 intro hs;obtain ⟨i,a,b,e,i1,i2,a1,b1⟩:=ZpD hp;have kp:=ZaI hp;unfold QH at h;have h1:=List.findSome?_eq_none_iff.1 h i (by simp [List.mem_range'];exact ⟨i - 1,by omega,by omega⟩);have h2:=List.findSome?_eq_none_iff.1 h1 p.kind.toNat (by simp [List.mem_range'];exact ⟨p.kind.toNat - 1,by omega,by omega⟩);have h3:=List.findSome?_eq_none_iff.1 h2 (4 * a + b) (by simp [List.mem_range'];omega);unfold ZcA at h3;have ek:((p.kind.toNat:Nat):Int)=p.kind:=by omega
 have ea:(4 * a + b) / 4=a:=by omega
 have eb:(4 * a + b) % 4=b:=by omega
 simp only [ek,ea,eb,←e,hp,hs,and_self,U1] at h3;cases h3
theorem ZHF {k:Int} (hk:k=1\/k=2\/k=3):Lib.indexByte [99,119,98] (kc k)=k - 1:=by
 rcases hk with rfl |rfl |rfl <;> decide
set_option maxRecDepth 20000 in
theorem ZvU (c:UInt8): -1<=Lib.indexByte [99,119,98] c/\Lib.indexByte [99,119,98] c<=2:=by
 have:∀n:Fin 256,-1<=Lib.indexByte [99,119,98] (UInt8.ofNat n.val)/\Lib.indexByte [99,119,98] (UInt8.ofNat n.val)<=2:=by decide
 have h:=this ⟨c.toNat,c.toNat_lt⟩;simpa using h
def ZcB (u:List UInt8) (c1 c2 c3:UInt8):Path:=⟨(Y5 u).1,Lib.indexByte [99,119,98] c1 + 1,(c2.toNat:Int) - 48,(c3.toNat:Int) - 48⟩
theorem ZHG (u:List UInt8) (c1 c2 c3:UInt8):QU (ZcB u c1 c2 c3):=by
 have h1:=ZvP u;have h2:=ZvU c1;have h3:=c2.toNat_lt;have h4:=c3.toNat_lt;unfold QU ZcB;refine ⟨h1,?_,?_,?_⟩ <;> unfold Rg <;> simp only <;> omega
theorem ZHH {i a b:Nat} {k:Int} (hi:i<=20) (ha:a<=3) (hb:b<=3) (hk:k=1\/k=2\/k=3):
  ZcB (dec i) (kc k) (UInt8.ofNat (48 + a)) (UInt8.ofNat (48 + b))=⟨(i:Int),k,(a:Int),(b:Int)⟩/\(Y5 (dec i)).2=true:=by
 have p1:=ZHz ⟨i,by omega⟩;simp only at p1;unfold ZcB;rw [p1,ZHF hk];refine ⟨?_,rfl⟩;simp only [UInt8.toNat_ofNat',Path.mk.injEq,FQ];omega
theorem ZHI {u:List UInt8} (h:4<=u.length):∃d c1 c2 c3,u=d ++ [c1,c2,c3]/\d.length=u.length - 3:=by
 refine ⟨u.take (u.length - 3),u[u.length - 3],u[u.length - 2],u[u.length - 1],?_,by rw [Uc];omega⟩;have h1:u.drop (u.length - 3)= [u[u.length - 3],u[u.length - 2],u[u.length - 1]]:=by
  rw [UF (by omega),UF (by omega),UF (by omega),Me (by omega)];congr 2
  ·congr 1;omega
  ·congr 2;omega
 rw [←h1,Up]
theorem ZHJ (s:ByteArray) (hs:s.size<=1099511627776):ZiW s=some ((QH s).getD Zd1):=by
 have hl:=ZpA s;unfold ZiW;by_cases h4:s.size < 4
 ·have e:decide (((s.size:Nat):Int) < 4)=true:=by simp;omega
  rw [e,Zs];cases hq:QH s with
  |none=>rfl
  |some r=>
   obtain ⟨p,rfl,h1,h2⟩:=ZpG hq;obtain ⟨i,a,b,e,i1,i2,a1,b1⟩:=ZpD h1;rw [e] at h1 h2;rw [ZvR h1] at h2;have h5:=YN (Zgm i p.kind a b);rw [h2,ZHC] at h5;have:=ZHB i;omega
 have e:decide (((s.size:Nat):Int) < 4)=false:=by simp;omega
 obtain ⟨d,c1,c2,c3,hu,hd⟩:=ZHI (u:=s.data.toList) (by omega);have hw:W (((s.size:Nat):Int) - 3)=((d.length:Nat):Int):=by rw [Zz (by omega) (by omega)];omega
 have w1:W (((d.length:Nat):Int) + 1)=((d.length + 1:Nat):Int):=by rw [Zz (by omega) (by omega)];omega
 have w2:W (((d.length:Nat):Int) + 2)=((d.length + 2:Nat):Int):=by rw [Zz (by omega) (by omega)];omega
 have g0:s.data.toList[d.length]? =some c1:=by rw [hu];simp
 have g1:s.data.toList[d.length + 1]? =some c2:=by rw [hu];simp
 have g2:s.data.toList[d.length + 2]? =some c3:=by rw [hu];simp
 have hx:ByteArray.extract s (Int.toNat 0) (Int.toNat ((d.length:Nat):Int))=bs d:=by
  apply M3;apply Array.toList_inj.1;rw [ByteArray.data_extract,Array.toList_extract,hu];simp;rfl
 have hxs:(bs d).size<=1099511627776:=by rw [YN];omega
 have hok:=ZHG d c1 c2 c3;have i1:=ZvU c1;have q1:W (Lib.indexByte [99,119,98] c1 + 1)=Lib.indexByte [99,119,98] c1 + 1:=Zz (by omega) (by omega);have q2:=c2.toNat_lt;have q3:=c3.toNat_lt;have hix:ZeT (bs [99,119,98]) (c1.toNat:Int)=some (Lib.indexByte [99,119,98] c1):=by
  unfold ZeT;congr 2;rw [Ux];exact UInt8.ofNat_toNat
 rw [e,Zh,hw,Zt ⟨by omega,by omega,by omega⟩,hx,ZvN _ hxs,ZpE,w1,w2];simp only [Zd,Zcx g0,Zcx g1,Zcx g2,hix,q1,Zz (show -9223372036854775808<=(c2.toNat:Int) by omega) (by omega),Zz (show -9223372036854775808<=(c3.toNat:Int) by omega) (by omega),Zz (show -9223372036854775808<=(c2.toNat:Int) - 48 by omega) (by omega),Zz (show -9223372036854775808<=(c3.toNat:Int) - 48 by omega) (by omega)];have hg:(⟨(Y5 d).1,Lib.indexByte [99,119,98] c1 + 1,(c2.toNat:Int) - 48,(c3.toNat:Int) - 48⟩:Path)=ZcB d c1 c2 c3:=rfl;rw [hg,Zvw _ hok];simp only [Zd,Zd2];cases hq:QH s with
 |some r=>
  obtain ⟨p,rfl,h1,h2⟩:=ZpG hq;obtain ⟨i,a,b,e,i1,i2,a1,b1⟩:=ZpD h1;have kp:=ZaI h1;have h1':=h1;have h2':=h2;rw [e] at h1' h2';rw [ZvR h1'] at h2';have h6:d ++ [c1,c2,c3]=dec i ++ [kc p.kind,UInt8.ofNat (48 + a),UInt8.ofNat (48 + b)]:=by
   rw [←hu,←h2'];rfl
  obtain ⟨h7,h8⟩:=List.append_inj' h6 rfl;simp only [FN,and_true] at h8;obtain ⟨k1,k2⟩:=ZHH (i:=i) (a:=a) (b:=b) (k:=p.kind) (by omega) a1 b1 kp;rw [h7,h8.1,h8.2.1,h8.2.2,k2,k1,←e,h2];simp
 |none=>
  cases (Y5 d).2 with
  |false=>rfl
  |true=>
   have hne:Xx (ZcB d c1 c2 c3)≠s:=by
    intro hh;cases hp:Z8 (ZcB d c1 c2 c3) with
    |true=>exact ZHE hq hp hh
    |false=>
     unfold Xx at hh;rw [hp] at hh;have:s.size=0:=by rw [←hh];rfl
     omega
   simp [hne];rfl
def cb (c:UInt8) (s:ByteArray):Nat:=s.data.toList.count c
theorem ZHK (l:List Part):Yh (l.map (ZI Own.shr).enc)=l.map (ZI Own.shr).enc:=Zar (fun x=>by
 show Ql [.slc Own.shr 1 (x.stage.map iR.enc),I x.green]= [.slc Own.shr 1 (x.stage.map iR.enc),I x.green]
 simp [Ql,AV.bor,ZDl]) l
def Pl (p:List Part):Prop:=p.length<=6/\∀x∈p,x.stage.length<=20/\(∀y∈x.stage,Rg y)/\Rg x.green
theorem ZHL (l:List Path):Pl (QG l)/\∀x∈QG l,1<=x.stage.length:=by
 unfold QG;split
 ·rename_i h;have h1:=ZaS h;have key:∀x∈KS l,Je l x=true:=fun x hx=>by
   unfold Ym at h;simp only [Ub] at h;exact MS.1 h.2.1 x hx
  refine ⟨⟨h1.2.1,fun x hx=> ?_⟩,fun x hx=> ?_⟩
  ·have:=key x hx;unfold Je at this;simp only [Ub] at this;have ht:=this.2.1;refine ⟨ZkV ht,fun y hy=> ?_,?_⟩
   ·have:=ZdQ h1.2.2.2 (ZdE ht y hy);exact ⟨by omega,by omega⟩
   ·have:=h1.2.2.1 x hx;exact ⟨by omega,by omega⟩
  ·have:=key x hx;unfold Je at this;simp only [Ub] at this;have h0:=this.1;cases hs:x.stage with
   |nil=>rw [hs] at h0;cases h0
   |cons a b=>simp
 ·exact ⟨⟨by simp,fun x hx=>by cases hx⟩,fun x hx=>by cases hx⟩
end Go.Sh
