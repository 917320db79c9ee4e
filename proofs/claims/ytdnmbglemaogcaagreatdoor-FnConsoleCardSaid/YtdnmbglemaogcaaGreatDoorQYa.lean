/- Plain facts: what the functions compute. -/
import Derived.Test.YtdnmbglemaogcaaGreatDoorHpY
import Derived.Lib.ItoaLen
import Derived.Lib.SplitLaws
set_option linter.all false
namespace Go.Sh
open Go.Fx
theorem ZiA (x a b:Int):YD x a b=some (decide (a<=x) && decide (x<=b)):=by
 unfold YD;by_cases h:a<=x <;> simp [h,ZJ]
theorem Ks (x a b:Int):Yr x a b=some (decide (a<=x) && decide (x<=b)):=by
 unfold Yr;by_cases h:a<=x <;> simp [h,ZJ]
theorem ZA {n:Nat} (h:n<=9223372036854775806):W ((n:Int) + 1)=(n:Int) + 1:=ZB (by omega) (by omega)
def inR (n a b:Int):Bool:=decide (a<=n) && decide (n<=b)
def ZY (p:Path):Bool:=inR p.id 1 20 && inR p.kind 1 3 && inR p.src 0 3 && inR p.dst 0 3 && ((p.src==p.dst)==(p.kind==2))
theorem ZeY (p:Path):Zap p=some (ZY p):=by
 unfold Zap ZY inR;simp only [ZiA,Ze];cases (decide (1<=p.id) && decide (p.id<=20)) <;> cases (decide (1<=p.kind) && decide (p.kind<=3)) <;> cases (decide (0<=p.src) && decide (p.src<=3)) <;> cases (decide (0<=p.dst) && decide (p.dst<=3)) <;> simp
theorem Zc4 (p:Path):Jq p=some (ZY p):=by
 unfold Jq ZY inR;simp only [Ks,Ze];cases (decide (1<=p.id) && decide (p.id<=20)) <;> cases (decide (1<=p.kind) && decide (p.kind<=3)) <;> cases (decide (0<=p.src) && decide (p.src<=3)) <;> cases (decide (0<=p.dst) && decide (p.dst<=3)) <;> simp
def goP:Option Int->List Path->Bool
 | _,[]=>true
 |none,p::r=>ZY p && goP (some p.id) r
 |some i,p::r=>ZY p && decide (i < p.id) && goP (some p.id) r
def ZN (l:List Path):Bool:=decide (l.length<=12) && goP none l
def XZ (l:List Path) (k:Nat):Option Int:=if k=0 then none else (l[k - 1]?).map (·.id)
theorem Zre {l:List Path} {k:Nat} {x:Path} (h:l[k]? =some x):XZ l (k + 1)=some x.id:=by
 unfold XZ;simp [h]
theorem ZbL (l:List Path) (h:Sm l):Jr l=some (ZN l):=by
 unfold Sm at h;unfold Jr;simp;refine (Yq l (by omega) (fun k (_:Unit)=>(l,(k:Int))) () (fun s k _=>some (goP (XZ l k) s && decide (l.length<=12))) rfl ?_ ?_).trans ?_
 ·intro rec _;simp [goP];omega
 ·intro rec k x _ hx hk hr;have hr':=hr ();simp [hk,Zj hx,ZeY,ZA (show k<=9223372036854775806 by omega)] at hr' ⊢;cases hp:ZY x with
  |false=>cases hq:XZ l k <;> simp [goP,hp]
  |true=>
   simp;by_cases h0:k=0
   ·subst h0;simp [XZ,hx] at hr';simp [hr',XZ,goP,hp,hx]
   ·have hz:l[k - 1]? =some l[k - 1]:=Ub (by omega);have hk1:W ((k:Int) - 1)=((k - 1:Nat):Int):=by rw [ZB (by omega) (by omega)];omega
    simp [show 0 < k by omega,hk1,Zj hz,hr',Zre hx];rw [show XZ l k=some (l[k - 1]).id by unfold XZ;simp [h0,hz]];simp [goP,hp,ZJ];by_cases h1:x.id<=(l[k - 1]).id
    ·simp [h1,show ¬((l[k - 1]).id < x.id) by omega]
    ·simp [h1,show (l[k - 1]).id < x.id by omega]
 ·simp [XZ,ZN,Bool.and_comm]
theorem JB (l:List Path) (h:Sm l):Q2 l=some (ZN l):=by
 unfold Sm at h;unfold Q2;simp;by_cases h12:(12:Int) < (l.length:Int)
 ·simp [h12,ZN,show ¬(l.length<=12) by omega]
 simp [h12];refine (Yq l (by omega) (fun k (_:Unit)=>(l,l,(l.length:Int),(k:Int))) () (fun s k _=>some (goP (XZ l k) s)) rfl ?_ ?_).trans ?_
 ·intro rec _;simp [goP]
 ·intro rec k x _ hx hk hr;have hr':=hr ();simp [hk,Zj hx,Zc4,ZA (show k<=9223372036854775806 by omega)] at hr' ⊢;cases hp:ZY x with
  |false=>cases hq:XZ l k <;> simp [goP,hp]
  |true=>
   simp;by_cases h0:k=0
   ·subst h0;simp [XZ,hx] at hr';simp [hr',XZ,goP,hp,hx]
   ·have hz:l[k - 1]? =some l[k - 1]:=Ub (by omega);have hk1:W ((k:Int) - 1)=((k - 1:Nat):Int):=by rw [ZB (by omega) (by omega)];omega
    simp [show 0 < k by omega,hk1,Zj hz,hr',Zre hx];rw [show XZ l k=some (l[k - 1]).id by unfold XZ;simp [h0,hz]];simp [goP,hp,ZJ];by_cases h1:x.id<=(l[k - 1]).id
    ·simp [h1,show ¬((l[k - 1]).id < x.id) by omega]
    ·simp [h1,show (l[k - 1]).id < x.id by omega]
 ·simp [XZ,ZN,show l.length<=12 by omega]
def Xs (p:Path):Int:=if ZY p then (if p.kind=1 then 2 else if p.kind=2 then 5 else 3) else 0
theorem ZaB {p:Path} (h:ZY p=true):p.kind=1\/p.kind=2\/p.kind=3:=by
 simp [ZY,inR] at h;omega
theorem ZAt (p:Path):Zg5 p=some (Xs p):=by
 unfold Zg5 Xs;rw [ZeY,Ze];cases h:ZY p with
 |false=>rfl
 |true=>rcases ZaB h with e |e |e <;> rw [e] <;> rfl
theorem Zmd (p:Path):ZcS p=some (Xs p):=by
 unfold ZcS Xs;rw [Zc4,Ze];cases h:ZY p with
 |false=>rfl
 |true=>rcases ZaB h with e |e |e <;> rw [e] <;> rfl
def Zme (l:List Path):Int:=if ZN l then l.foldl (fun n p=>if n < Xs p then Xs p else n) 0 else 0
theorem ZAu (a b:Int):Zg6 a b=some (if a < b then b else a):=by
 unfold Zg6;rw [ZJ];split <;> simp_all <;> omega
theorem ZAv (l:List Path) (h:Sm l):Zio l=some (Zme l):=by
 have h':=h;unfold Sm at h;unfold Zio Zme;simp [JB l h'];cases ZN l with
 |false=>rfl
 |true=>
  simp;refine (Yq l (by omega) (fun k n=>(n,l,(l.length:Int),(k:Int))) 0 (fun s _ n=>some (s.foldl (fun n p=>if n < Xs p then Xs p else n) n)) rfl ?_ ?_).trans rfl
  ·intro rec n;simp
  ·intro rec k x n hx hk hr;simp only [UA] at hr;simp [hk,Zj hx,Zmd,ZA (show k<=9223372036854775806 by omega),hr]
def ZbM (l:List Path):Int:=W (W ((l.length:Int) + 1) * W (W (W (60 + Zme l) + 20) + 1))
theorem ZAw (l:List Path) (h:Sm l):Zip l=some (ZbM l):=by
 unfold Zip ZbM;simp [ZAv l h]
theorem Zrf {a m:Int} (h:0<=a):Int.tmod a m=a % m:=Int.tmod_eq_emod_of_nonneg h
theorem ZAx {x a b:Int} (h:a<=x) (h':x<=b):YD x a b=some true:=by rw [ZiA];simp [h,h']
theorem ZAy {x a b:Int} (h:a<=x) (h':x<=b):Yr x a b=some true:=by rw [Ks];simp [h,h']
theorem Zrg (n:Int) {m:Int} (h:0 < m):(0<=Int.tmod n m/\Int.tmod n m < m/\Int.tmod n m=n % m)\/(Int.tmod n m < 0/\ -m < Int.tmod n m/\Int.tmod n m + m=n % m):=by
 have h1:=Int.tmod_lt_of_pos n h;have h2:=Int.lt_tmod_of_pos n h;have h3:n=m * Int.tdiv n m + Int.tmod n m:=by have:=Int.mul_tdiv_add_tmod n m;omega
 have h4:n % m=Int.tmod n m % m:=by
  conv=>lhs;rw [h3]
  rw [Int.add_comm,Int.add_mul_emod_self_left]
 rcases (by omega:Int.tmod n m < 0\/0<=Int.tmod n m) with hn |hp
 ·right;refine ⟨hn,h2,?_⟩;rw [h4,←Int.add_emod_right,Int.emod_eq_of_lt (by omega) (by omega)]
 ·left;exact ⟨hp,h1,by rw [h4,Int.emod_eq_of_lt hp h1]⟩
theorem ZAz (n m:Int) (h:1<=m) (h':m<=1000000000000):Zg8 n m=some (n % m):=by
 unfold Zg8;rw [ZAx h h',Ze];rw [show (!true)=false from rfl,Zh,Zs (by omega),Zs (by omega)];rcases Zrg n (show 0 < m by omega) with ⟨a,b,c⟩ | ⟨a,b,c⟩
 ·rw [ZB (by omega) (by omega),Zrf (by omega),c,Int.add_emod_right,Int.emod_emod_of_dvd _ (Int.dvd_refl m)]
 ·rw [ZB (by omega) (by omega),Zrf (by omega),c,Int.emod_emod_of_dvd _ (Int.dvd_refl m)]
theorem ZAA (n m:Int) (h:1<=m) (h':m<=1000000000000):ZhF n m=some (n % m):=by
 unfold ZhF;rw [ZAy h h',Ze];rw [show (!true)=false from rfl,Zh,Zs (by omega),ZJ];rcases Zrg n (show 0 < m by omega) with ⟨a,b,c⟩ | ⟨a,b,c⟩
 ·rw [Ui (by simp;omega),c]
 ·rw [Uj (by simp;omega),ZB (by omega) (by omega),c]
def mix (a v:Int):Int:=Int.tmod (W (W (W (a * 1000003) + v % 2147483647) + 13)) 2147483647
def ZeZ (l:List Int):Int:=l.foldl mix 11
theorem ZAB (a v:Int):ZhG a v=some (mix a v):=by
 unfold ZhG mix;rw [ZAA _ _ (by decide) (by decide)];rfl
theorem ZAC (l:List Int) (h:l.length<=2097152):Zg9 l=some (ZeZ l):=by
 unfold Zg9 ZeZ;simp;refine (Yq l (by omega) (fun k n=>(l,n,(k:Int))) 11 (fun s _ n=>some (s.foldl mix n)) rfl ?_ ?_).trans rfl
 ·intro rec n;simp
 ·intro rec k x n hx hk hr;simp only [UA] at hr;simp [hk,Zj hx,ZAz _ 2147483647,ZA (show k<=9223372036854775806 by omega)];exact hr _
theorem ZAD (l:List Int) (h:l.length<=2097152):ZhH l=some (ZeZ l):=by
 unfold ZhH ZeZ;simp;refine (Yq l (by omega) (fun k n=>(n,l,(l.length:Int),(k:Int))) 11 (fun s _ n=>some (s.foldl mix n)) rfl ?_ ?_).trans rfl
 ·intro rec n;simp
 ·intro rec k x n hx hk hr;simp only [UA] at hr;simp [hk,Zj hx,ZAB,ZA (show k<=9223372036854775806 by omega)];exact hr _
def Xt (b s:Int) (l:List Int):Int:=ZeZ (b::s::l)
theorem Zrh (b s:Int) (l:List Int) (h:Sm l):Zez b s l=some (Xt b s l):=by
 unfold Sm at h;unfold Zez Xt;simp;rw [Zs (by omega),ZAC _ (by simp;omega)];rfl
theorem Zri (b s:Int) (l:List Int) (h:Sm l):ZcT b s l=some (Xt b s l):=by
 unfold Sm at h;unfold ZcT Xt;simp;rw [Zs (by omega),ZAD _ (by simp;omega)];rfl
theorem Kt (x a b:Int):YD x a b=some (inR x a b):=ZiA x a b
theorem ZaC (x a b:Int):Yr x a b=some (inR x a b):=Ks x a b
theorem QF {α V β:Type} (l:List α) (p:α->Bool) (hl:l.length<=1099511627776) (st:Nat->V) (K no:Option β) {F:(V->Option β)->V->Option β} {v:V} (hv:v=st 0)
  (h0:∀rec,F rec (st l.length)=K)
  (h1:∀rec k x,l[k]? =some x->k < l.length->F rec (st k)=if p x=true then rec (st (k + 1)) else no):Zf F NN v=if l.all p=true then K else no:=by
 refine (Yq l (by omega) (fun k (_:Unit)=>st k) () (fun s _ _=>if s.all p=true then K else no) hv ?_ ?_).trans rfl
 ·intro rec _;rw [h0];simp
 ·intro rec k x _ hx hk hr;rw [h1 rec k x hx hk,MD];cases p x with
  |true=>simpa using hr ()
  |false=>simp
theorem ZiB {α β:Type} {l:List α} {x:α} (h:l[0]? =some x) (K:α->Option β):ZU l 0 K=K x:=Zj h K
def ZiC (b:Int) (n:Nat) (x:Note):Bool:=inR x.second 0 1000000 && decide (x.lights.length<=12) && decide (x.lights.length=n) && decide (x.sig=Xt b x.second x.lights) && x.lights.all (fun v=>inR v 0 2)
def later (pv:Option Int) (s:Int):Bool:=match pv with |none=>true |some p=>decide (p < s)
def goR (n:Nat):Int->Option Int->List Note->Bool
 | _,_,[]=>true
 |b,pv,x::r=>ZiC b n x && later pv x.second && goR n x.sig (some x.second) r
def Ku (l:List Note):Nat:=match l with | []=>0 |x::_=>x.lights.length
def YJ (l:List Note):Bool:=decide (l.length<=60) && goR (Ku l) 0 none l
def JC (l:List Note) (k:Nat):Option Int:=if k=0 then none else (l[k - 1]?).map (·.second)
theorem Zrj {l:List Note} {k:Nat} {x:Note} (h:l[k]? =some x):JC l (k + 1)=some x.second:=by
 unfold JC;simp [h]
theorem Ze0 {l:List Note} {x:Note} (h:l[0]? =some x):Ku l=x.lights.length:=by
 cases l with
 |nil=>simp at h
 |cons y t=>simp at h;rw [Ku,h]
theorem Yu {α:Type} {l:List α} {k:Nat} {x:α} (h:l[k]? =some x):x∈l:=Uu h
theorem ZiD (l:List Note) (h:Sm l/\∀y∈l,QE y):Zbx l=some (YJ l):=by
 obtain ⟨h,hs⟩:=h;unfold Sm at h;unfold Zbx;simp;refine (Yq l (by omega) (fun k b=>(l,b,(k:Int))) 0 (fun s k b=>some (decide (l.length<=60) && goR (Ku l) b (JC l k) s)) rfl ?_ ?_).trans rfl
 ·intro rec b;simp [goR];omega
 ·intro rec k x b hx hk hr;simp only [UA,Zrj hx] at hr;have hsx:Sm x.lights:=hs x (Yu hx);have hz:l[0]? =some l[0]:=Ub (by omega);by_cases h60:(l.length:Int)<=60
  ·have h60':l.length<=60:=by omega
   simp [hk,h60,h60',Zj hx,Zrh b x.second x.lights hsx,Kt,ZiB hz,goR,ZiC,later,Ze0 hz];cases inR x.second 0 1000000 with
   |false=>simp
   |true=>
   simp;generalize hI:Zf (_:(List Note×Int×Int×Int->Option Bool)->_->Option Bool) NN (l,Xt b x.second x.lights,(k:Int),(0:Int))=I;have hI':I=if x.lights.all (fun v=>inR v 0 2)=true then some (goR l[0].lights.length (Xt b x.second x.lights) (some x.second) (l.drop (k + 1))) else some false:=by
    rw [←hI];refine QF x.lights (fun v=>inR v 0 2) (by unfold Sm at hsx;omega) (fun j=>(l,Xt b x.second x.lights,(k:Int),(j:Int))) _ _ rfl ?_ ?_
    ·intro rec';simp [Zj hx,ZA (show k<=9223372036854775806 by omega),hr,h60',Ze0 hz]
    ·intro rec' j v hv hj;have hj2:j<=9223372036854775806:=by unfold Sm at hsx;omega
     simp [Zj hx,Zj hv,hj,Kt,ZA hj2];cases inR v 0 2 <;> simp
   rw [hI'];clear hI' hI;generalize x.lights.all (fun v=>inR v 0 2)=A;by_cases c1:(12:Int) < (x.lights.length:Int)
   ·simp [c1,show ¬x.lights.length<=12 by omega]
   simp only [c1,Mh,Zh,show x.lights.length<=12 by omega,Mt,UW];by_cases c2:x.lights.length=l[0].lights.length
   ·simp only [c2,Mu,Zh,Mt,UW];by_cases c3:x.sig=Xt b x.second x.lights
    ·simp only [←c3,Mu,Zh,Mt,UW];by_cases h0:k=0
     ·subst h0;simp [JC];cases A <;> simp
     ·have hz1:l[k - 1]? =some l[k - 1]:=Ub (by omega);have hk1:W ((k:Int) - 1)=((k - 1:Nat):Int):=by rw [ZB (by omega) (by omega)];omega
      simp [show 0 < k by omega,hk1,Zj hz1];rw [show JC l k=some (l[k - 1]).second by unfold JC;simp [h0,hz1]];by_cases c4:x.second<=l[k - 1].second
      ·simp [c4,show ¬l[k - 1].second < x.second by omega]
      ·simp [c4,show l[k - 1].second < x.second by omega];cases A <;> simp
    ·rw [show (x.sig != Xt b x.second x.lights)=true by simpa using c3,Zp];simp [c3]
   ·rw [show ((x.lights.length:Int) != (l[0].lights.length:Int))=true by simp;omega,Zp];simp [c2]
  ·have h60':¬l.length<=60:=by omega
   simp [hk,h60,h60']
theorem Ze1 (l:List Note) (h:Sm l/\∀y∈l,QE y):Zay l=some (YJ l):=by
 obtain ⟨h,hs⟩:=h;unfold Sm at h;unfold Zay YJ;by_cases h60:(60:Int) < (l.length:Int)
 ·have h60':¬l.length<=60:=by omega
  simp [h60,h60']
 have h60':l.length<=60:=by omega
 simp [h60,h60'];refine (Yq l (by omega) (fun k b=>(l,b,l,(l.length:Int),(k:Int))) 0 (fun s k b=>some (goR (Ku l) b (JC l k) s)) rfl ?_ ?_).trans rfl
 ·intro rec b;simp [goR]
 ·intro rec k x b hx hk hr;simp only [UA,Zrj hx] at hr;have hsx:Sm x.lights:=hs x (Yu hx);have hz:l[0]? =some l[0]:=Ub (by omega);simp [hk,Zj hx,Zri b x.second x.lights hsx,ZaC,ZiB hz,goR,ZiC,later,Ze0 hz];cases inR x.second 0 1000000 with
  |false=>simp
  |true=>
  simp;generalize hI:Zf (_:((List Note×List Note×Int×Int×List Int×Int×Int)×Note->Option Bool)->_->Option Bool) NN ((l,l,(l.length:Int),(k:Int),x.lights,(x.lights.length:Int),(0:Int)),x)=I;have hI':I=if x.lights.all (fun v=>inR v 0 2)=true then some (goR l[0].lights.length x.sig (some x.second) (l.drop (k + 1))) else some false:=by
   rw [←hI];refine QF x.lights (fun v=>inR v 0 2) (by unfold Sm at hsx;omega) (fun j=>((l,l,(l.length:Int),(k:Int),x.lights,(x.lights.length:Int),(j:Int)),x)) _ _ rfl ?_ ?_
   ·intro rec';simp [ZA (show k<=9223372036854775806 by omega),hr,Ze0 hz]
   ·intro rec' j v hv hj;have hj2:j<=9223372036854775806:=by unfold Sm at hsx;omega
    simp [Zj hv,hj,ZaC,ZA hj2];cases inR v 0 2 <;> simp
  rw [hI'];clear hI' hI;generalize x.lights.all (fun v=>inR v 0 2)=A;generalize hB:cnd (decide ((12:Int) < (x.lights.length:Int))) (some false) _=B;have hB':B=some ((decide (x.lights.length<=12) && decide (x.lights.length=l[0].lights.length) && decide (x.sig=Xt b x.second x.lights) && A) && goR l[0].lights.length x.sig (some x.second) (l.drop (k + 1))):=by
   rw [←hB];by_cases c1:(12:Int) < (x.lights.length:Int)
   ·simp [c1,show ¬x.lights.length<=12 by omega]
   simp only [c1,Mh,Zh,show x.lights.length<=12 by omega,Mt,UW];by_cases c2:x.lights.length=l[0].lights.length
   ·simp only [c2,Mu,Zh,Mt,UW];by_cases c3:x.sig=Xt b x.second x.lights
    ·simp only [←c3,Mu,Zh,Mt,UW];cases A <;> simp
    ·rw [show (x.sig != Xt b x.second x.lights)=true by simpa using c3,Zp];simp [c3]
   ·rw [show ((x.lights.length:Int) != (l[0].lights.length:Int))=true by simp;omega,Zp];simp [c2]
  rw [hB'];by_cases h0:k=0
  ·subst h0;simp [JC]
  ·have hz1:l[k - 1]? =some l[k - 1]:=Ub (by omega);have hk1:W ((k:Int) - 1)=((k - 1:Nat):Int):=by rw [ZB (by omega) (by omega)];omega
   simp [show 0 < k by omega,hk1,Zj hz1];rw [show JC l k=some (l[k - 1]).second by unfold JC;simp [h0,hz1]];by_cases c4:x.second<=l[k - 1].second
   ·simp [c4,show ¬l[k - 1].second < x.second by omega]
   ·simp [c4,show l[k - 1].second < x.second by omega]
theorem Zrk {n:Nat}:∀{l:List Note} {b:Int} {pv:Option Int},goR n b pv l=true->∀x∈l,x.lights.length=n/\0<=x.second/\x.second<=1000000/\∀v∈x.lights,0<=v
 | [],_,_,_=>fun x hx=>by cases hx
 |y::l,b,pv,h=>fun x hx=>by
  simp [goR,ZiC,inR] at h;rcases FH.1 hx with rfl |hx
  ·exact ⟨h.1.1.1.1.2,by omega,by omega,fun v hv=>(h.1.1.2 v hv).1⟩
  ·exact Zrk h.2 x hx
theorem ZiE {l:List Note} (h:YJ l=true):∀x∈l,x.lights.length=Ku l/\0<=x.second/\x.second<=1000000/\∀v∈x.lights,0<=v:=by
 simp [YJ] at h;exact Zrk h.2
def pos (n:Int):Int:=if 0 < n then n else 0
theorem Ze2 (a b:Int):VR a b=some (if b < a then b else a):=by
 unfold VR;rw [ZJ];simp only [UH];split <;> rfl
def Q4 (e:Note) (i:Int):Int:=if 0<=i then (match e.lights[i.toNat]? with |some v=>v |none=> -1) else -1
theorem Zrl (e:Note) (i:Int):Zc2 e i=some (Q4 e i):=by
 unfold Zc2 Q4;simp;by_cases h:i < 0
 ·simp [h,show ¬0<=i by omega]
 obtain ⟨m,rfl⟩:∃m:Nat,i=(m:Int):=⟨i.toNat,by omega⟩
 by_cases h2:m < e.lights.length
 ·have hv:e.lights[m]? =some e.lights[m]:=Ub h2;simp [h2,Zj hv,hv,h,ZJ];omega
 ·simp [show e.lights.length<=m by omega,ZJ]
@[simp] theorem ZLH {α:Type} (x:Option α):bnd x (fun r=>some r)=x:=by cases x <;> rfl
theorem Zmf {α γ β V:Type} (l:List α) (f:α->γ) (hl:l.length<=1099511627776) (st:Nat->List γ->V) (K:List γ->Option β) {F:(V->Option β)->V->Option β} {v:V} (hv:v=st 0 [])
  (h0:∀rec acc,acc.length=l.length->F rec (st l.length acc)=K acc)
  (h1:∀rec k x acc,l[k]? =some x->k < l.length->acc.length=k->F rec (st k acc)=rec (st (k + 1) (acc ++ [f x]))):Zf F NN v=K (l.map f):=by
 refine (YC l (by omega) st [] (fun k acc=>acc.length=k) rfl (fun s _ acc=>K (acc ++ s.map f)) hv ?_ ?_).trans (by simp)
 ·intro rec acc h;rw [h0 rec acc h];simp
 ·intro rec k x acc h hx hk hr;rw [h1 rec k x acc hx hk h,hr _ (by simp [h])];simp
theorem ZiF {α γ β V:Type} (l:List α) (f:α->Option γ) (hl:l.length<=1099511627776) (st:Nat->List γ->V) (K:List γ->Option β) {F:(V->Option β)->V->Option β} {v:V} (hv:v=st 0 [])
  (h0:∀rec acc,acc.length<=l.length->F rec (st l.length acc)=K acc)
  (h1:∀rec k x acc,l[k]? =some x->k < l.length->acc.length<=k->F rec (st k acc)=rec (st (k + 1) (match f x with |some y=>acc ++ [y] |none=>acc))):Zf F NN v=K (l.filterMap f):=by
 refine (YC l (by omega) st [] (fun k acc=>acc.length<=k) (Uq _) (fun s _ acc=>K (acc ++ s.filterMap f)) hv ?_ ?_).trans (by simp)
 ·intro rec acc h;rw [h0 rec acc h];simp
 ·intro rec k x acc h hx hk hr;rw [h1 rec k x acc hx hk h];cases hf:f x with
  |none=>rw [hr _ (by simp;omega)];simp [hf]
  |some y=>rw [hr _ (by simp;omega)];simp [hf]
theorem ZAE {β:Type} (x:Option β):ifA (true=true) x=x:=rfl
def Zmg (t:Town):Bool:=t.wants.all fun x=>decide (x.wait<=ZbM t.paths)
theorem ZAF (t:Town) (h:ZE t):Ziq t=some (Zmg t):=by
 obtain ⟨h0,h1,h2,h3,h4⟩:=h;unfold Sm at h2;unfold Ziq Zmg;simp;refine (QF t.wants (fun x=>decide (x.wait<=ZbM t.paths)) (by omega) (fun k=>((t.wants,(t.wants.length:Int),(k:Int)),t)) (some true) (some false) rfl ?_ ?_).trans (by cases t.wants.all _ <;> rfl)
 ·intro rec;simp
 ·intro rec k x hx hk;simp [hk,Zj hx,ZAw t.paths h0,ZA (show k<=9223372036854775806 by omega),ZJ];by_cases c:ZbM t.paths < x.wait
  ·simp [c,show ¬x.wait<=ZbM t.paths by omega]
  ·simp [c,show x.wait<=ZbM t.paths by omega]
theorem Zc5 {α V β:Type} [DecidableEq α] (a b:List α) (hl:a.length=b.length) (h:a.length<=1099511627776) (st:Nat->V) (K no:Option β) {F:(V->Option β)->V->Option β} {v:V} (hv:v=st 0)
  (h0:∀rec,F rec (st a.length)=K) (h1:∀rec k x y,a[k]? =some x->b[k]? =some y->k < a.length->F rec (st k)=if x=y then rec (st (k + 1)) else no):
  Zf F NN v=if a=b then K else no:=by
 refine (Yq a (by omega) (fun k (_:Unit)=>st k) () (fun l k _=>if l=b.drop k then K else no) hv ?_ ?_).trans (by simp)
 ·intro rec _;rw [h0,hl,List.drop_length];simp
 ·intro rec k x _ hx hk hr;have hkb:k < b.length:=by omega
  have hy:b[k]? =some b[k]:=Ub hkb;rw [h1 rec k x _ hx hy hk,hr (),UN hkb];by_cases e:x=b[k]
  ·rw [Uj e];simp only [List.cons.injEq,e,true_and]
  ·rw [Ui e,Ui fun h=>e (List.cons.inj h).1]
theorem ZAG (p q:Path):eqB [I p.id,I p.kind,I p.src,I p.dst] [I q.id,I q.kind,I q.src,I q.dst]=decide (p=q):=by
 cases p;cases q;simp [eqB,eqV];grind
theorem ZAH (p q:Want):eqB [I p.path,I p.wait] [I q.path,I q.wait]=decide (p=q):=by
 cases p;cases q;simp [eqB,eqV];grind
theorem ZAI (p q:Lamp):eqB [I p.path,I p.colour,Bl p.broken] [I q.path,I q.colour,Bl q.broken]=decide (p=q):=by
 cases p;cases q;simp [eqB,eqV];grind
theorem ZAJ (p q:Prio):eqB [I p.path,I p.left] [I q.path,I q.left]=decide (p=q):=by
 cases p;cases q;simp [eqB,eqV];grind
theorem Zc6 {α:Type} {a b:List α} (h:a.length=b.length):(((a.length:Nat):Int) != ((b.length:Nat):Int))=false:=by simp [h]
theorem Zc7 {α:Type} {a b:List α} (h:¬a.length=b.length):(((a.length:Nat):Int) != ((b.length:Nat):Int))=true:=by simp;omega
theorem Zc8 {α:Type} {a b:List α} (h:¬a.length=b.length):¬a=b:=fun e=>h (by rw [e])
theorem Zrm (a b:List Int) (h:Sm a):ZeD a b=some (decide (a=b)):=by
 unfold Sm at h;unfold ZeD;simp only [Zt,Zl,Zn,Zu,Zv,Yg,Zr,YX];by_cases hl:a.length=b.length
 ·rw [Zc6 hl,Zh];refine (Zc5 a b hl (by omega) (fun k=>(a,b,(k:Int))) (some true) (some false) rfl ?_ ?_).trans (by split <;> simp_all)
  ·intro rec;simp
  ·intro rec k x y hx hy hk;simp [hk,Zj hx,Zj hy,ZA (show k<=9223372036854775806 by omega),ZJ]
 ·rw [Zc7 hl,Zp];simp [Zc8 hl]
theorem Zc9 (a b:List Int) (h:Sm a):Kp a b=some (decide (a=b)):=by
 unfold Sm at h;unfold Kp;simp only [Zt,Zl,Zn,Zu,Zv,Yg,Zr,YX];by_cases hl:a.length=b.length
 ·rw [Zc6 hl,Zh];refine (Zc5 a b hl (by omega) (fun k=>(a,b,(a.length:Int),(k:Int))) (some true) (some false) rfl ?_ ?_).trans (by split <;> simp_all)
  ·intro rec;simp
  ·intro rec k x y hx hy hk;simp [hk,Zj hx,Zj hy,ZA (show k<=9223372036854775806 by omega),ZJ]
 ·rw [Zc7 hl,Zp];simp [Zc8 hl]
theorem ZAK (a b:List Path) (h:Sm a):Zis a b=some (decide (a=b)):=by
 unfold Sm at h;unfold Zis;simp only [Zt,Zl,Zn,Zu,Zv,YP,Zw,XJ,ZAG];by_cases hl:a.length=b.length
 ·rw [Zc6 hl,Zh];refine (Zc5 a b hl (by omega) (fun k=>(a,b,(a.length:Int),(k:Int))) (some true) (some false) rfl ?_ ?_).trans (by split <;> simp_all)
  ·intro rec;simp
  ·intro rec k x y hx hy hk;simp [hk,Zj hx,Zj hy,ZA (show k<=9223372036854775806 by omega),ZJ]
 ·rw [Zc7 hl,Zp];simp [Zc8 hl]
theorem ZAL (a b:List Want) (h:Sm a):Ziu a b=some (decide (a=b)):=by
 unfold Sm at h;unfold Ziu;simp only [XK,ZT,Kj,ZAH];by_cases hl:a.length=b.length
 ·rw [Zc6 hl,Zh];refine (Zc5 a b hl (by omega) (fun k=>(a,b,(a.length:Int),(k:Int))) (some true) (some false) rfl ?_ ?_).trans (by split <;> simp_all)
  ·intro rec;simp
  ·intro rec k x y hx hy hk;simp [hk,Zj hx,Zj hy,ZA (show k<=9223372036854775806 by omega),ZJ]
 ·rw [Zc7 hl,Zp];simp [Zc8 hl]
theorem ZAM (a b:List Lamp) (h:Sm a):Ziv a b=some (decide (a=b)):=by
 unfold Sm at h;unfold Ziv;simp only [ZcC,Z5,ZzY,ZAI];by_cases hl:a.length=b.length
 ·rw [Zc6 hl,Zh];refine (Zc5 a b hl (by omega) (fun k=>(a,b,(a.length:Int),(k:Int))) (some true) (some false) rfl ?_ ?_).trans (by split <;> simp_all)
  ·intro rec;simp
  ·intro rec k x y hx hy hk;simp [hk,Zj hx,Zj hy,ZA (show k<=9223372036854775806 by omega),ZJ]
 ·rw [Zc7 hl,Zp];simp [Zc8 hl]
theorem ZAN (x y:Note) (h:QE x):Ziw x y=some (decide (x=y)):=by
 unfold Ziw;simp [Zc9 x.lights y.lights h];cases x;cases y;simp [ZJ];grind
theorem ZAO (a b:List Note) (h:Sm a/\∀y∈a,QE y):Zix a b=some (decide (a=b)):=by
 obtain ⟨h,hs⟩:=h;unfold Sm at h;unfold Zix;simp only [Zt,Zl,Zn,Zu,Zv,QB,Z6,Kl,ZlO];by_cases hl:a.length=b.length
 ·rw [Zc6 hl,Zh];refine (Zc5 a b hl (by omega) (fun k=>(b,(),a,(a.length:Int),(k:Int))) (some true) (some false) rfl ?_ ?_).trans (by split <;> simp_all)
  ·intro rec;simp
  ·intro rec k x y hx hy hk;simp [hk,Zj hx,Zj hy,ZA (show k<=9223372036854775806 by omega),ZAN x y (hs x (Yu hx)),ZJ]
 ·rw [Zc7 hl,Zp];simp [Zc8 hl]
theorem ZAP (a b:Control) (h:ZZ a):Zit a b=some (decide (a=b)):=by
 obtain ⟨h0,h1⟩:=h;unfold Zit;simp [Zc9 _ _ h0,Zc9 _ _ h1];cases a;cases b;simp [ZJ];grind
theorem Zmh (a b:Town) (h:ZE a):XY a b=some (decide (a=b)):=by
 obtain ⟨h0,h1,h2,h3,h4⟩:=h;unfold XY;simp [ZAK _ _ h0,ZAP _ _ h1,ZAL _ _ h2,ZAM _ _ h3,ZAO _ _ h4,ZAJ];cases a;cases b;simp [ZJ];grind
theorem ZiG:∃n,NN=n + 64:=⟨NN - 64,by rw [Zkx]⟩
def ZaD (a b c d:Int):Bool:=if a=b\/a=c\/a=d\/b=c\/b=d\/c=d then false else (decide (Int.tmod (c - a + 8) 8 < Int.tmod (b - a + 8) 8) != decide (Int.tmod (d - a + 8) 8 < Int.tmod (b - a + 8) 8))
theorem ZAQ {a b c d:Int} (ha:0<=a/\a<=7) (hb:0<=b/\b<=7) (hc:0<=c/\c<=7) (hd:0<=d/\d<=7):ZbC a b c d=some (ZaD a b c d):=by
 unfold ZbC ZaD;obtain ⟨n,hn⟩:=ZiG;rw [hn];have e:∀K:List Int->Option Bool,rws iR [[I a],[I b],[I c],[I d]] K=K [a,b,c,d]:=fun _=>rfl
 have w1:W (c - a)=c - a:=ZB (by omega) (by omega);have w2:W (b - a)=b - a:=ZB (by omega) (by omega);have w3:W (d - a)=d - a:=ZB (by omega) (by omega);have w4:W (c - a + 8)=c - a + 8:=ZB (by omega) (by omega);have w5:W (b - a + 8)=b - a + 8:=ZB (by omega) (by omega);have w6:W (d - a + 8)=d - a + 8:=ZB (by omega) (by omega);simp only [Zt,Zl,Zn,Zu,Zv,e,YX,Yg,Zr];simp [Zf,Ks,ZU,ZB,ha,hb,hc,hd,w1,w2,w3,w4,w5,w6,ZJ]
 grind
def arm (n:Int):Prop:=n=0\/n=1\/n=2\/n=3
set_option maxRecDepth 100000 in
theorem ZAR {a b c d:Int} (ha:arm a) (hb:arm b) (hc:arm c) (hd:arm d):Zew (2 * a) (2 * b + 1) (2 * c) (2 * d + 1)=some (ZaD (2 * a) (2 * b + 1) (2 * c) (2 * d + 1)):=by
 unfold Zew;obtain ⟨n,hn⟩:=ZiG;rw [hn];rcases ha with rfl |rfl |rfl |rfl <;> rcases hb with rfl |rfl |rfl |rfl <;> rcases hc with rfl |rfl |rfl |rfl <;> rcases hd with rfl |rfl |rfl |rfl <;> rfl
def Z2 (a b:Path):Bool:=
 if ZY a=false\/ZY b=false then false
 else if a.kind=2/\b.kind=2 then false
 else if a.kind=2 then b.src==a.src || b.dst==a.src
 else if b.kind=2 then a.src==b.src || a.dst==b.src
 else if a.src=b.src then false
 else if a.dst=b.dst then true
 else ZaD (2 * a.src) (2 * a.dst + 1) (2 * b.src) (2 * b.dst + 1)
theorem ZaE {p:Path} (h:ZY p=true):arm p.src:=by
 simp [ZY,inR] at h;unfold arm;omega
theorem ZaF {p:Path} (h:ZY p=true):arm p.dst:=by
 simp [ZY,inR] at h;unfold arm;omega
theorem ZiH {n:Int} (h:arm n):0<=n/\n<=3:=by unfold arm at h;omega
theorem Zrn {n:Int} (h:arm n):ZcL n=some (2 * n):=by rcases h with rfl |rfl |rfl |rfl <;> rfl
theorem Zro {n:Int} (h:arm n):ZcM n=some (2 * n + 1):=by rcases h with rfl |rfl |rfl |rfl <;> rfl
theorem Zrp {n:Int} (h:arm n):Jy n=some (2 * n):=by rcases h with rfl |rfl |rfl |rfl <;> rfl
theorem Zrq {n:Int} (h:arm n):Jz n=some (2 * n + 1):=by rcases h with rfl |rfl |rfl |rfl <;> rfl
theorem Zmi (a b:Path):Zbw a b=some (Z2 a b):=by
 unfold Zbw Z2;simp only [ZeY,Ze];cases ha:ZY a with
 |false=>simp
 |true=>
 cases hb:ZY b with
 |false=>simp
 |true=>
 simp [Zrn (ZaE ha),Zro (ZaF ha),Zrn (ZaE hb),Zro (ZaF hb),ZAR (ZaE ha) (ZaF ha) (ZaE hb) (ZaF hb),ZJ]
 grind
theorem Zda (a b:Path):JA a b=some (Z2 a b):=by
 unfold JA Z2;simp only [Zc4,Ze];cases ha:ZY a with
 |false=>simp
 |true=>
 cases hb:ZY b with
 |false=>simp
 |true=>
 have r1:=ZiH (ZaE ha);have r2:=ZiH (ZaF ha);have r3:=ZiH (ZaE hb);have r4:=ZiH (ZaF hb);have hi:=ZAQ (a:=2 * a.src) (b:=2 * a.dst + 1) (c:=2 * b.src) (d:=2 * b.dst + 1) (by omega) (by omega) (by omega) (by omega);have hz:a.src=b.src->ZaD (2 * a.src) (2 * a.dst + 1) (2 * b.src) (2 * b.dst + 1)=false:=fun h=>by simp [ZaD,h]
 simp [Zrp (ZaE ha),Zrq (ZaF ha),Zrp (ZaE hb),Zrq (ZaF hb),hi,ZJ]
 grind
def has (l:List Int) (n:Int):Bool:=l.any fun x=>x==n
theorem ZaG (l:List Int) (n:Int) (h:Sm l):QZ l n=some (has l n):=by
 unfold Sm at h;unfold QZ has;simp;refine (Yq l (by omega) (fun k (_:Unit)=>(l,n,(k:Int))) () (fun s _ _=>some (s.any fun x=>x==n)) rfl ?_ ?_).trans (by simp)
 ·intro rec _;simp
 ·intro rec k x _ hx hk hr;have hr':=hr ();simp only [UA] at hr';simp [hk,Zj hx,ZA (show k<=9223372036854775806 by omega),ZJ];by_cases e:x=n
  ·simp [e]
  ·simp [e,hr']
theorem ZbN {α:Type} (p:α->Bool):∀l:List α,(l.findIdx? p).isSome=l.any p
 | []=>rfl
 |x::l=>by
  rw [List.findIdx?_cons,Fo];cases p x with
  |true=>rfl
  |false=>simp [ZbN p l]
theorem VV (l:List Int) (n:Int) (h:Sm l):QC l n=some (has l n):=by
 unfold Sm at h;unfold QC ZlW has;simp;generalize hI:Zf (_:(List Int×Int×Int×Int->Option Int)->_->Option Int) NN _=I;have hI':I=match l.findIdx? (fun x=>x==n) with |some i=>some (i:Int) |none=>some (-1):=by
  rw [←hI];refine (Yq l (by omega) (fun k (_:Unit)=>(l,n,(l.length:Int),(k:Int))) () (fun s k _=>match s.findIdx? (fun x=>x==n) with |some i=>some ((k + i:Nat):Int) |none=>some (-1)) rfl ?_ ?_).trans (by cases l.findIdx? _ <;> simp)
  ·intro rec _;simp
  ·intro rec k x _ hx hk hr;have hr':=hr ();simp only [UA] at hr';rw [List.findIdx?_cons];simp [hk,Zj hx,ZA (show k<=9223372036854775806 by omega),ZJ];by_cases e:x=n
   ·simp [e]
   ·rw [Ui (fun h=>e h.symm),hr'];simp [e];cases (l.drop (k + 1)).findIdx? (fun x=>x==n) with
    |none=>simp
    |some i=>simp;omega
 rw [hI',←ZbN];cases l.findIdx? (fun x=>x==n) <;> simp
theorem ZbO {α V β:Type} (l:List α) (p:α->Bool) (hl:l.length<=1099511627776) (st:Nat->V) (K:Nat->Option β) (no:Option β) {F:(V->Option β)->V->Option β} {v:V} (hv:v=st 0)
  (h0:∀rec,F rec (st l.length)=no)
  (h1:∀rec k x,l[k]? =some x->k < l.length->F rec (st k)=if p x=true then K k else rec (st (k + 1))):Zf F NN v=match l.findIdx? p with |some i=>K i |none=>no:=by
 refine (Yq l (by omega) (fun k (_:Unit)=>st k) () (fun s k _=>match s.findIdx? p with |some i=>K (k + i) |none=>no) hv ?_ ?_).trans ?_
 ·intro rec _;rw [h0];simp
 ·intro rec k x _ hx hk hr;rw [h1 rec k x hx hk,List.findIdx?_cons];cases p x with
  |true=>simp
  |false=>
   rw [Ui (by simp),hr ()];cases (l.drop (k + 1)).findIdx? p with
   |none=>simp
   |some i=>simp;congr 1;omega
 ·cases l.findIdx? p <;> simp
def ZI (l:List Path) (id:Int):Int:=match l.findIdx? (fun p=>p.id==id) with |some i=>(i:Int) |none=> -1
theorem VB (l:List Path) (id:Int) (h:Sm l):XM l id=some (ZI l id):=by
 unfold Sm at h;unfold XM ZI;simp;refine (ZbO l (fun p=>p.id==id) (by omega) (fun k=>(l,id,(k:Int))) (fun k=>some (k:Int)) (some (-1)) rfl ?_ ?_).trans ?_
 ·intro rec;simp
 ·intro rec k x hx hk;simp [hk,Zj hx,ZA (show k<=9223372036854775806 by omega),ZJ]
 ·cases l.findIdx? _ <;> rfl
theorem X0 (l:List Path) (id:Int) (h:Sm l):Xf l id=some (ZI l id):=by
 unfold Sm at h;unfold Xf Zl1 Zl0 ZI;simp;refine (ZbO l (fun p=>p.id==id) (by omega) (fun k=>(l,id,(l.length:Int),(k:Int))) (fun k=>some (k:Int)) (some (-1)) rfl ?_ ?_).trans ?_
 ·intro rec;simp
 ·intro rec k x hx hk;simp [hk,Zj hx,ZA (show k<=9223372036854775806 by omega),ZJ]
 ·cases l.findIdx? _ <;> rfl
theorem Kv {l:List Path} {id:Int} (h:¬ZI l id < 0):∃(i:Nat) (x:Path),l[i]? =some x/\ZI l id=(i:Int)/\x.id=id:=by
 unfold ZI at h ⊢;cases hf:l.findIdx? (fun p=>p.id==id) with
 |none=>rw [hf] at h;simp at h
 |some i=>
  have:=List.findIdx?_eq_some_iff_getElem.1 hf;obtain ⟨h1,h2,_⟩:=this;exact ⟨i,l[i],Ub h1,rfl,by simpa using h2⟩
def ZX (l:List Path) (id:Int):Path:=(l[(ZI l id).toNat]?).getD default
theorem Xu {β:Type} {l:List Path} {id:Int} (h:¬ZI l id < 0) (K:Path->Option β):ZU l (ZI l id) K=K (ZX l id):=by
 obtain ⟨i,x,h1,h2,_⟩:=Kv h;unfold ZX;rw [h2,Zj h1,UC,h1];rfl
def Q5 (ids:List Int) (k:Nat) (x:Int):Bool:=if k=0 then true else match ids[k - 1]? with |some y=>decide (y < x) |none=>true
def Q6 (l:List Path) (x y:Int):Bool:= !Z2 (ZX l x) (ZX l y)
def goT (l:List Path) (ids:List Int):Nat->List Int->Bool
 | _,[]=>true
 |k,x::r=> !decide (ZI l x < 0) && Q5 ids k x && (ids.take k).all (Q6 l x) && goT l ids (k + 1) r
def ZM (l:List Path) (ids:List Int):Bool:=goT l ids 0 ids && ZN l
theorem Zmj {α:Type} {l:List α} {k j:Nat} {x:α} (h:(l.take k)[j]? =some x):l[j]? =some x:=by
 rw [Uz] at h;split at h
 ·exact h
 ·cases h
theorem Zrr {α:Type} {l:List α} {k:Nat} {x y:α} (hx:l[k]? =some x) (h:y∈l.take (k + 1)):y∈l.take k\/y=x:=by
 rw [MR,hx] at h;simpa using h
theorem ZbP (l:List Path) (ids:List Int) (h:Sm l) (hi:Sm ids):Js l ids=some (ZM l ids):=by
 unfold Js ZM;simp;have hi':=hi;unfold Sm at hi';refine (YC ids (by omega) (fun k (_:Unit)=>(l,ids,(k:Int))) () (fun k _=>∀y∈ids.take k,¬ZI l y < 0) (by simp) (fun s k _=>some (goT l ids k s && ZN l)) rfl ?_ ?_).trans rfl
 ·intro rec _ _;simp [ZbL l h,goT]
 ·intro rec k x _ hJ hx hk hr;simp only [UA] at hr;have hk2:k<=9223372036854775806:=by omega
  simp [hk,Zj hx,VB l _ h,goT];by_cases c1:ZI l x < 0
  ·simp [c1]
  have hr':=hr () fun y hy=>by
   rcases Zrr hx hy with h1 |rfl
   ·exact hJ y h1
   ·exact c1
  simp only [c1,Mh,Zh,UT,UW];have hlen:(ids.take k).length=k:=by rw [Uc];omega
  generalize hI:Zf (_:(List Path×List Int×Int×Int×Int->Option Bool)->_->Option Bool) NN _=I;have hI':I=if (ids.take k).all (Q6 l x)=true then some (goT l ids (k + 1) (ids.drop (k + 1)) && ZN l) else some false:=by
   rw [←hI];refine QF (ids.take k) (Q6 l x) (by omega) (fun j=>(l,ids,(k:Int),ZI l x,(j:Int))) _ _ rfl ?_ ?_
   ·intro rec';simp [hlen,ZA hk2,hr']
   ·intro rec' j y hy hj;have hy':=Zmj hy;have hj':j < k:=by omega
    simp [hj',Xu c1,Zj hy',VB l _ h,Xu (hJ y (Yu hy)),Zmi,ZA (show j<=9223372036854775806 by omega),ZJ,Q6];cases Z2 (ZX l x) (ZX l y) <;> simp
  rw [hI'];generalize (ids.take k).all (Q6 l x)=A;by_cases h0:k=0
  ·subst h0;simp [Q5];cases A <;> simp
  ·have hz:ids[k - 1]? =some ids[k - 1]:=Ub (by omega);have hk1:W ((k:Int) - 1)=((k - 1:Nat):Int):=by rw [ZB (by omega) (by omega)];omega
   simp [show 0 < k by omega,hk1,Zj hz];rw [show Q5 ids k x=decide (ids[k - 1] < x) by unfold Q5;simp [h0,hz]];by_cases c4:x<=ids[k - 1]
   ·simp [c4,show ¬ids[k - 1] < x by omega]
   ·simp [c4,show ids[k - 1] < x by omega];cases A <;> simp
theorem Kw (l:List Path) (ids:List Int) (h:Sm l) (hi:Sm ids):Vv l ids=some (ZM l ids):=by
 unfold Vv ZM;simp [JB l h];have hi':=hi;unfold Sm at hi';cases hp:ZN l with
 |false=>simp
 |true=>
 simp;refine (YC ids (by omega) (fun k (_:Unit)=>(l,ids,ids,(ids.length:Int),(k:Int))) () (fun k _=>∀y∈ids.take k,¬ZI l y < 0) (by simp) (fun s k _=>some (goT l ids k s)) rfl ?_ ?_).trans rfl
 ·intro rec _ _;simp [goT]
 ·intro rec k x _ hJ hx hk hr;simp only [UA] at hr;have hk2:k<=9223372036854775806:=by omega
  simp [hk,Zj hx,X0 l _ h,goT];by_cases c1:ZI l x < 0
  ·simp [c1]
  have hr':=hr () fun y hy=>by
   rcases Zrr hx hy with h1 |rfl
   ·exact hJ y h1
   ·exact c1
  simp only [c1,Mh,Zh,UT,UW];have hlen:(ids.take k).length=k:=by rw [Uc];omega
  generalize hI:Zf (_:(List Path×List Int×Int×List Int×Int×Int×List Int×Int×Int->Option Bool)->_->Option Bool) NN _=I;have hI':I=if (ids.take k).all (Q6 l x)=true then some (goT l ids (k + 1) (ids.drop (k + 1))) else some false:=by
   rw [←hI];refine QF (ids.take k) (Q6 l x) (by omega) (fun j=>(l,ids,ZI l x,ids,(ids.length:Int),(k:Int),ids.take k,((ids.take k).length:Int),(j:Int))) _ _ (by simp) ?_ ?_
   ·intro rec';simp [hlen,ZA hk2,hr']
   ·intro rec' j y hy hj;have hj':j < k:=by omega
    simp [hlen,hj',Xu c1,Zj hy,X0 l _ h,Xu (hJ y (Yu hy)),Zda,ZA (show j<=9223372036854775806 by omega),ZJ,Q6];cases Z2 (ZX l x) (ZX l y) <;> simp
  rw [hI'];generalize (ids.take k).all (Q6 l x)=A;have hkl:k<=ids.length:=by omega
  by_cases h0:k=0
  ·subst h0;simp [Q5];cases A <;> simp
  ·have hz:ids[k - 1]? =some ids[k - 1]:=Ub (by omega);have hk1:W ((k:Int) - 1)=((k - 1:Nat):Int):=by rw [ZB (by omega) (by omega)];omega
   simp [show 0 < k by omega,hk1,Zj hz,hkl];rw [show Q5 ids k x=decide (ids[k - 1] < x) by unfold Q5;simp [h0,hz]];by_cases c4:x<=ids[k - 1]
   ·simp [c4,show ¬ids[k - 1] < x by omega]
   ·simp [c4,show ids[k - 1] < x by omega];cases A <;> simp
@[simp] theorem ZiI {β:Type} (l:List Int) (s:Int) (K:List Int->Option β):rws iR (l.map iR.enc ++ [[I s]]) K=K (l ++ [s]):=
 (Ux (fun z=>rws iR z K) (UX (f:=iR.enc) (l₁:=l) (l₂:= [s])).symm).trans (Qi iR (l ++ [s]) K)
@[simp] theorem Ze3 {α:Type} (x:Option α):bnd x (fun r=>some r)=x:=by cases x <;> rfl
theorem Zrs {α β V:Type} (l:List α) (p:α->Bool) (hl:l.length<=1099511627776) (st:Nat->List α->V) (K:List α->Option β) {F:(V->Option β)->V->Option β} {v:V} (hv:v=st 0 [])
  (h0:∀rec acc,acc.length<=l.length->F rec (st l.length acc)=K acc)
  (h1:∀rec k x acc,l[k]? =some x->k < l.length->acc.length<=k->F rec (st k acc)=rec (st (k + 1) (if p x=true then acc ++ [x] else acc))):Zf F NN v=K (l.filter p):=by
 refine (YC l (by omega) st [] (fun k acc=>acc.length<=k) (Uq _) (fun s _ acc=>K (acc ++ s.filter p)) hv ?_ ?_).trans (by simp)
 ·intro rec acc h;rw [h0 rec acc h];simp
 ·intro rec k x acc h hx hk hr;rw [h1 rec k x acc hx hk h];cases hp:p x with
  |true=>rw [Uj rfl,hr _ (by simp;omega),M6 hp];simp
  |false=>rw [Ui (by simp),hr _ (by omega),Fw (by simp [hp])]
def Yw (a b:List Int):List Int:=a.filter fun x=> !has b x
theorem Zrt (a b:List Int) (h:Sm a) (hb:Sm b):Zey a b=some (Yw a b):=by
 have h':=h;unfold Sm at h';unfold Zey Yw;simp;refine (Zrs a (fun x=> !has b x) (by omega) (fun k acc=>(a,b,acc,(k:Int))) some rfl ?_ ?_)
 ·intro rec acc ha;simp
 ·intro rec k x acc hx hk ha;simp [hk,Zj hx,ZaG b _ hb,ZA (show k<=9223372036854775806 by omega),show (acc.length + 1) * 8<=140737488355328 by omega,show acc.length<=1152921504606846975 by omega];cases has b x <;> simp
theorem Zmk (a b:List Int) (h:Sm a) (hb:Sm b):ZeI a b=some (Yw a b):=by
 have h':=h;unfold Sm at h';unfold ZeI Zl2 Yw;simp;refine (Zrs a (fun x=> !has b x) (by omega) (fun k acc=>(b,false,acc,a,(a.length:Int),(k:Int))) some rfl ?_ ?_)
 ·intro rec acc ha;simp
 ·intro rec k x acc hx hk ha;simp [hk,Zj hx,VV b _ hb,ZA (show k<=9223372036854775806 by omega),show (acc.length + 1) * 8<=140737488355328 by omega,show acc.length<=1152921504606846975 by omega];cases has b x <;> simp
theorem Zru {l:List Path} {ids:List Int}:∀{s:List Int} {k:Nat},goT l ids k s=true->∀x∈s,¬ZI l x < 0
 | [],_,_=>fun x hx=>by cases hx
 |y::s,k,h=>fun x hx=>by
  simp only [goT,Ua,UG,U5] at h;rcases FH.1 hx with rfl |hx
  ·exact h.1.1.1
  ·exact Zru h.2 x hx
theorem ZaH {l:List Path} {ids:List Int} (h:ZM l ids=true):∀x∈ids,¬ZI l x < 0:=by
 simp only [ZM,Ua] at h;exact Zru h.1
theorem ZiJ {a b:List Int} {x:Int} (h:x∈Yw a b):x∈a:=(List.mem_filter.1 h).1
theorem ZiK {a b:List Int} (h:Sm a):Sm (Yw a b):=Mo (Ff _ _) h
def Kx (n c:Int):Int:=if n < c then c else n
def Q7 (l:List Path) (x:Int) (n y:Int):Int:=if Z2 (ZX l x) (ZX l y) then Kx n (Xs (ZX l x)) else n
def Yx (l:List Path) (a b:List Int):Int:=
 if ZM l a=true/\ZM l b=true then (Yw a b).foldl (fun n x=>(Yw b a).foldl (Q7 l x) n) 0 else 0
theorem ZiL (l:List Path) (a b:List Int) (h:Sm l) (ha:Sm a) (hb:Sm b):ZbD l a b=some (Yx l a b):=by
 unfold ZbD Yx;simp [Kw l _ h ha,Kw l _ h hb,Zmk _ _ ha hb,Zmk _ _ hb ha];cases t1:ZM l a with
 |false=>simp
 |true=>
 cases t2:ZM l b with
 |false=>simp
 |true=>
 simp;have hA:=ZiK (b:=b) ha;have hB:=ZiK (b:=a) hb;unfold Sm at hA hB;refine (Yq (Yw a b) (by omega) (fun k n=>(l,a,b,n,Yw a b,((Yw a b).length:Int),(k:Int))) 0 (fun s _ n=>some (s.foldl (fun n x=>(Yw b a).foldl (Q7 l x) n) n)) rfl ?_ ?_).trans rfl
 ·intro rec n;simp
 ·intro rec k x n hx hk hr;simp only [UA] at hr;have hfx:=ZaH t1 x (ZiJ (Yu hx));simp [hk,Zj hx,Zmk _ _ hb ha];refine (Yq (Yw b a) (by omega) (fun j n=>(l,a,b,n,x,Yw a b,((Yw a b).length:Int),(k:Int),Yw b a,((Yw b a).length:Int),(j:Int))) n (fun s _ n=>rec (l,a,b,s.foldl (Q7 l x) n,Yw a b,((Yw a b).length:Int),(k:Int) + 1)) rfl ?_ ?_).trans ?_
  ·intro rec' n;simp [ZA (show k<=9223372036854775806 by omega)]
  ·intro rec' j y n hy hj hr';simp only [UA] at hr';have hfy:=ZaH t2 y (ZiJ (Yu hy));simp [hj,Zj hy,X0 l _ h,Xu hfx,Xu hfy,Zda,Zmd,ZA (show j<=9223372036854775806 by omega),ZJ];cases hc:Z2 (ZX l x) (ZX l y) <;> simp [Q7,Kx,hc,hr']
  ·simp [hr]
theorem Zml (l:List Path) (a b:List Int) (h:Sm l) (ha:Sm a) (hb:Sm b):ZcO l a b=some (Yx l a b):=by
 unfold ZcO Yx;simp [Zrt _ _ ha hb,Zrt _ _ hb ha];have hA:=ZiK (b:=b) ha;have hB:=ZiK (b:=a) hb;unfold Sm at hA hB;refine (Yq (Yw a b) (by omega) (fun k n=>(l,a,b,n,Yw a b,Yw b a,(k:Int))) 0 (fun s _ n=>some (if ZM l a=true/\ZM l b=true then s.foldl (fun n x=>(Yw b a).foldl (Q7 l x) n) n else n)) rfl ?_ ?_).trans rfl
 ·intro rec n;simp
 ·intro rec k x n hx hk hr;simp only [UA] at hr;simp [hk,Zj hx,ZbP l _ h ha,ZbP l _ h hb];cases t1:ZM l a with
  |false=>simp
  |true=>
  cases t2:ZM l b with
  |false=>simp
  |true=>
  simp only [t1,t2,and_self,U3] at hr;simp;have hfx:=ZaH t1 x (ZiJ (Yu hx));refine (Yq (Yw b a) (by omega) (fun j n=>(l,a,b,n,Yw a b,Yw b a,(k:Int),(j:Int))) n (fun s _ n=>rec (l,a,b,s.foldl (Q7 l x) n,Yw a b,Yw b a,(k:Int) + 1)) rfl ?_ ?_).trans ?_
  ·intro rec' n;simp [ZA (show k<=9223372036854775806 by omega)]
  ·intro rec' j y n hy hj hr';simp only [UA] at hr';have hfy:=ZaH t2 y (ZiJ (Yu hy));simp [hj,Zj hx,Zj hy,VB l _ h,Xu hfx,Xu hfy,Zmi,ZAt,ZAu,ZA (show j<=9223372036854775806 by omega),ZJ];cases hc:Z2 (ZX l x) (ZX l y) <;> simp [Q7,Kx,hc,hr']
  ·simp [hr]
def ZP (l:List Path) (x:Control):Bool:=
 !x.stage.isEmpty && ZM l x.stage && ZM l x.next && inR x.since 0 1000000 && (if x.next= [] then x.left==0 else inR x.left 1 (Yx l x.stage x.next))
theorem Qm {α:Type} (l:List α):(((l.length:Nat):Int)==0)=l.isEmpty:=by
 cases l with
 |nil=>rfl
 |cons x l=>simp;omega
theorem JD (l:List Path) (x:Control) (h:Sm l) (hx:ZZ x):Q0 l x=some (ZP l x):=by
 obtain ⟨h1,h2⟩:=hx;unfold Q0 ZP;simp only [Zt,Zl,Zn,Zu,Zv,Zw,Zr,Yg,Qm,ZbP l _ h h1,ZbP l _ h h2,Zml l _ _ h h1 h2,Kt,Ze];cases x.stage.isEmpty <;> cases ZM l x.stage <;> cases ZM l x.next <;> cases inR x.since 0 1000000 <;> cases hn:x.next <;> simp
theorem Ky (l:List Path) (x:Control) (h:Sm l) (hx:ZZ x):Vw l x=some (ZP l x):=by
 obtain ⟨h1,h2⟩:=hx;unfold Vw ZP;simp only [Zt,Zl,Zn,Zu,Zv,Zw,Zr,Yg,Qm,Kw l _ h h1,Kw l _ h h2,ZiL l _ _ h h1 h2,ZaC,Ze];cases x.stage.isEmpty <;> cases ZM l x.stage <;> cases ZM l x.next <;> cases inR x.since 0 1000000 <;> cases hn:x.next <;> simp
theorem Ze4 {α β V:Type} (l:List α) (f:α->Int) (hl:l.length<=1099511627776) (st:Nat->List Int->V) (K:List Int->Option β) {F:(V->Option β)->V->Option β} {v:V} (hv:v=st 0 [])
  (h0:∀rec acc,acc.length=l.length->F rec (st l.length acc)=K acc)
  (h1:∀rec k x acc,l[k]? =some x->k < l.length->acc.length=k->F rec (st k acc)=rec (st (k + 1) (acc ++ [f x]))):Zf F NN v=K (l.map f):=by
 refine (YC l (by omega) st [] (fun k acc=>acc.length=k) rfl (fun s _ acc=>K (acc ++ s.map f)) hv ?_ ?_).trans (by simp)
 ·intro rec acc h;rw [h0 rec acc h];simp
 ·intro rec k x acc h hx hk hr;rw [h1 rec k x acc hx hk h,hr _ (by simp [h])];simp
def Xv (x:Control) (id:Int):Int:=if has x.stage id then (if x.next.isEmpty=false/\has x.next id=false then 2 else 1) else 0
def Xw (l:List Path) (x:Control):List Int:=if ZP l x then l.map (fun p=>Xv x p.id) else []
theorem Zmm {α:Type} (l:List α):decide (((l.length:Nat):Int) > 0)= !l.isEmpty:=by
 cases l with
 |nil=>rfl
 |cons x l=>simp
theorem ZiM (l:List Path) (x:Control) (h:Sm l) (hx:ZZ x):ZbE l x=some (Xw l x):=by
 have hx':=hx;obtain ⟨h1,h2⟩:=hx;have hl:=h;unfold Sm at hl;unfold ZbE Xw;simp only [Zt,Zl,Zn,Zu,Zv,Zw,Zr,YP,ZD,Ky l x h hx',Ze];cases ZP l x with
 |false=>simp
 |true=>
 simp only [Uk,Zh,U3];refine Ze4 l (fun p=>Xv x p.id) (by omega) (fun k acc=>((acc,l,(l.length:Int),(k:Int)),x)) some rfl ?_ ?_
 ·intro rec acc ha;simp
 ·intro rec k p acc hp hk ha;simp [hk,Zj hp,VV _ _ h1,VV _ _ h2,ZA (show k<=9223372036854775806 by omega),ha,show (k + 1) * 8<=140737488355328 by omega,show k<=1152921504606846975 by omega,Zmm];unfold Xv;cases has x.stage p.id with
  |false=>simp
  |true=>
   cases hn:x.next with
   |nil=>simp
   |cons y r=>
    simp [ZJ];cases has (y::r) p.id <;> simp
theorem Ze5 (l:List Path) (x:Control) (h:Sm l) (hx:ZZ x):Zas l x=some (Xw l x):=by
 have hx':=hx;obtain ⟨h1,h2⟩:=hx;have hl:=h;unfold Sm at hl;unfold Zas Xw;simp only [Zt,Zl,Zn,Zu,Zv,Zw,Zr,YP,ZD];cases hc:ZP l x with
 |false=>
  refine (Yq l (by omega) (fun k (_:Unit)=>((l,([]:List Int),(k:Int)),x)) () (fun _ _ _=>some []) rfl ?_ ?_).trans rfl
  ·intro rec _;simp
  ·intro rec k p _ hp hk _;simp [hk,JD l x h hx',hc]
 |true=>
 simp only [U3];refine Ze4 l (fun p=>Xv x p.id) (by omega) (fun k acc=>((l,acc,(k:Int)),x)) some rfl ?_ ?_
 ·intro rec acc ha;simp
 ·intro rec k p acc hp hk ha;simp [hk,Zj hp,JD l x h hx',hc,ZaG _ _ h1,ZaG _ _ h2,ZA (show k<=9223372036854775806 by omega),ha,show (k + 1) * 8<=140737488355328 by omega,show k<=1152921504606846975 by omega,Zmm];unfold Xv;cases has x.stage p.id with
  |false=>simp
  |true=>
   cases hn:x.next with
   |nil=>simp
   |cons y r=>
    simp [ZJ];cases has (y::r) p.id <;> simp
theorem Zrv (l:List Path) (n:Int) (h:Sm l):ZeM l n=some (l.map fun _=>n):=by
 unfold Sm at h;unfold ZeM;simp only [Zt,Zl,Zn,Zu,Zv,Zw,Zr,YP];refine Ze4 l (fun _=>n) (by omega) (fun k acc=>(n,acc,(l.length:Int),(k:Int))) some rfl ?_ ?_
 ·intro rec acc ha;simp
 ·intro rec k p acc hp hk ha;simp [hk,ZA (show k<=9223372036854775806 by omega),ha,show (k + 1) * 8<=140737488355328 by omega,show k<=1152921504606846975 by omega]
theorem ZAS (t:Town) (n:Int) (h:Sm t.paths):Zhm t n=some (t.paths.map fun _=>n):=by
 unfold Sm at h;unfold Zhm;simp;refine Ze4 t.paths (fun _=>n) (by omega) (fun k acc=>((n,acc,(k:Int)),t)) some rfl ?_ ?_
 ·intro rec acc ha;simp
 ·intro rec k p acc hp hk ha;simp [hk,ZA (show k<=9223372036854775806 by omega),ha,show (k + 1) * 8<=140737488355328 by omega,show k<=1152921504606846975 by omega]
theorem ZAT {α:Type} (p:α->Bool) (l:List α):(l.findIdx? p).isSome=l.any p:=ZbN p l
def Zdb (l:List Path) (p:Lamp):Bool:= !decide (ZI l p.path < 0) && inR p.colour 0 1
def JE (p q:Lamp):Bool:= !(q.path==p.path && q.colour==p.colour)
def goL (l:List Path) (x:List Lamp):Nat->List Lamp->Bool
 | _,[]=>true
 |k,p::r=>Zdb l p && (x.take k).all (JE p) && goL l x (k + 1) r
def QG (l:List Path) (x:List Lamp):Bool:=goL l x 0 x && ZN l
theorem ZAU {α:Type} {l:List α} {k j:Nat} {x:α} (h:(l.take k)[j]? =some x):l[j]? =some x:=by
 rw [Uz] at h;split at h
 ·exact h
 ·cases h
theorem Zrw (l:List Path) (x:List Lamp) (h:Sm l) (hx:Sm x):ZeA l x=some (QG l x):=by
 unfold ZeA QG;simp;have hx':=hx;unfold Sm at hx';refine (Yq x (by omega) (fun k (_:Unit)=>(l,x,(k:Int))) () (fun s k _=>some (goL l x k s && ZN l)) rfl ?_ ?_).trans rfl
 ·intro rec _;simp [ZbL l h,goL]
 ·intro rec k p _ hp hk hr;simp only [UA] at hr;have hk2:k<=9223372036854775806:=by omega
  simp [hk,Zj hp,VB l _ h,Kt,goL,Zdb];by_cases c1:ZI l p.path < 0
  ·simp [c1]
  simp only [c1,Mh,Zh,UT,UW];cases c2:inR p.colour 0 1 with
  |false=>simp
  |true=>
  simp only [Uk,Zh,UW];have hlen:(x.take k).length=k:=by rw [Uc];omega
  refine (QF (x.take k) (JE p) (by omega) (fun j=>(l,x,(k:Int),(j:Int))) (some (goL l x (k + 1) (x.drop (k + 1)) && ZN l)) (some false) rfl ?_ ?_).trans ?_
  ·intro rec';simp [hlen,ZA hk2];exact hr ()
  ·intro rec' j q hq hj;have hq':=ZAU hq;have hj':j < k:=by omega
   simp [hj',Zj hq',Zj hp,ZA (show j<=9223372036854775806 by omega),ZJ];by_cases e1:q.path=p.path <;> by_cases e2:q.colour=p.colour <;> simp [e1,e2,JE]
  ·generalize (x.take k).all (JE p)=A;cases A <;> simp
theorem Zrx (l:List Path) (x:List Lamp) (h:Sm l) (hx:Sm x):ZeJ l x=some (QG l x):=by
 unfold ZeJ QG;simp [JB l h];have hx':=hx;unfold Sm at hx';cases hp:ZN l with
 |false=>simp
 |true=>
 simp;refine (Yq x (by omega) (fun k (_:Unit)=>(l,x,x,(x.length:Int),(k:Int))) () (fun s k _=>some (goL l x k s)) rfl ?_ ?_).trans rfl
 ·intro rec _;simp [goL]
 ·intro rec k p _ hp hk hr;simp only [UA] at hr;have hk2:k<=9223372036854775806:=by omega
  simp [hk,Zj hp,X0 l _ h,goL,Zdb];by_cases c1:ZI l p.path < 0
  ·simp [c1]
  simp only [c1,Mh,Zh,UT,UW];have hlen:(x.take k).length=k:=by rw [Uc];omega
  generalize hI:Zf (_:((List Path×List Lamp×List Lamp×Int×Int×List Lamp×Int×Int)×Lamp->Option Bool)->_->Option Bool) NN _=I;have hI':I=if (x.take k).all (JE p)=true then some (goL l x (k + 1) (x.drop (k + 1))) else some false:=by
   rw [←hI];refine QF (x.take k) (JE p) (by omega) (fun j=>((l,x,x,(x.length:Int),(k:Int),x.take k,((x.take k).length:Int),(j:Int)),p)) _ _ (by simp) ?_ ?_
   ·intro rec';simp [hlen,ZA hk2];exact hr ()
   ·intro rec' j q hq hj;have hj':j < k:=by omega
    simp [hlen,hj',Zj hq,ZA (show j<=9223372036854775806 by omega),ZJ];by_cases e1:p.path=q.path <;> by_cases e2:p.colour=q.colour <;> simp [e1,e2,JE,show k<=x.length by omega]
    all_goals first |done | (intro h1;exact absurd h1.symm e1) |grind
  rw [hI'];generalize (x.take k).all (JE p)=A;by_cases e0:p.colour=0
  ·simp [e0,inR,show k<=x.length by omega];cases A <;> simp
  ·by_cases e1:p.colour=1
   ·simp [e1,inR,show k<=x.length by omega];cases A <;> simp
   ·rw [show inR p.colour 0 1=false by simp [inR];omega];simp [e0,e1,ZJ]
def JF (q:Lamp):Bool:=q.colour==0 && q.broken
def Zdc (x:List Lamp):Bool:=x.any JF
def Yv (l:List Path) (x:List Lamp) (p:Bool):Int:=if p=false then 2 else if Zdc x then 1 else if QG l x then 0 else 1
theorem Zry (l:List Path) (x:List Lamp) (p:Bool) (h:Sm l) (hx:Sm x):Zhi l x p=some (Yv l x p):=by
 unfold Zhi Yv;have hx':=hx;unfold Sm at hx';cases p with
 |false=>rfl
 |true=>
 simp;refine (QF x (fun q=> !JF q) (by omega) (fun k=>(l,x,(k:Int))) (some (if QG l x then 0 else 1)) (some 1) rfl ?_ ?_).trans ?_
 ·intro rec;simp [Zrw l x h hx];cases QG l x <;> rfl
 ·intro rec k q hq hk;simp [hk,Zj hq,ZA (show k<=9223372036854775806 by omega),ZJ];by_cases e1:q.colour=0 <;> cases e2:q.broken <;> simp [e1,e2,JF]
 ·have hB:Zdc x= !x.all (fun q=> !JF q):=by rw [List.not_all_eq_any_not];simp [Zdc]
  generalize x.all (fun q=> !JF q)=A at hB ⊢;rw [hB];cases A <;> simp
theorem Zmn (l:List Path) (x:List Lamp) (p:Bool) (h:Sm l) (hx:Sm x):ZhS l x p=some (Yv l x p):=by
 unfold ZhS Yv;have hx':=hx;unfold Sm at hx';cases p with
 |false=>rfl
 |true=>
 have key:ZhR x=some (Zdc x):=by
  unfold ZhR Zl6 Zl5;simp;generalize hI:Zf (_:(List Lamp×Unit×Int×Int->Option Int)->_->Option Int) NN _=I;have hI':I=match x.findIdx? JF with |some i=>some (i:Int) |none=>some (-1):=by
   rw [←hI];refine ZbO x JF (by omega) (fun k=>(x,(),(x.length:Int),(k:Int))) (fun k=>some (k:Int)) (some (-1)) rfl ?_ ?_
   ·intro rec;simp
   ·intro rec k q hq hk;simp [hk,Zj hq,ZA (show k<=9223372036854775806 by omega),ZJ];by_cases e1:q.colour=0 <;> cases e2:q.broken <;> simp [e1,e2,JF]
  rw [hI'];have hB:Zdc x=(x.findIdx? JF).isSome:=by rw [ZAT];rfl
  rw [hB];cases x.findIdx? JF <;> simp
 simp [Zrx l x h hx,key];cases QG l x <;> cases Zdc x <;> rfl
def YE (t:Town):List Int:=if Yv t.paths t.lamps t.power=0 then Xw t.paths t.control else t.paths.map fun _=>0
theorem ZAV (t:Town) (h:ZE t):Zhn t=some (YE t):=by
 obtain ⟨h0,h1,h2,h3,h4⟩:=h;have e1:Zaw t=some (Yv t.paths t.lamps t.power):=by unfold Zaw;simp [Zry _ _ _ h0 h3]
 unfold Zhn YE;simp only [Zt,Zl,Zn,Zu,Zv,Zw,ZT,Z5,Zr,Z6,Yc,Z3,ZD,Z4,e1,Ze,Ze3,Ze5 _ _ h0 h1,ZAS t 0 h0,ZJ,FF];split <;> rfl
theorem Ze6 (t:Town) (h:ZE t):ZaA t=some (YE t):=by
 obtain ⟨h0,h1,h2,h3,h4⟩:=h;have e1:Vy t=some (Yv t.paths t.lamps t.power):=by unfold Vy;simp [Zmn _ _ _ h0 h3]
 unfold ZaA YE;simp only [Zt,Zl,Zn,Zu,Zv,Zw,ZT,Z5,Zr,Z6,Yc,Z3,ZD,Z4,e1,Ze,Ze3,ZiM _ _ h0 h1,Zrv _ 0 h0,ZJ,bne_iff_ne];by_cases c:Yv t.paths t.lamps t.power=0 <;> simp [c]
def ZaI (x q:Path×Int):Bool:= !(x.2 != 0 && q.2 != 0 && Z2 x.1 q.1)
def goS (z:List (Path×Int)):Nat->List (Path×Int)->Bool
 | _,[]=>true
 |k,x::r=>inR x.2 0 2 && (z.take k).all (ZaI x) && goS z (k + 1) r
def VC (l:List Path) (v:List Int):Bool:=ZN l && decide (v.length=l.length) && goS (l.zip v) 0 (l.zip v)
theorem Zdd {l:List Path} {v:List Int} {k:Nat} {x:Path×Int} (h:(l.zip v)[k]? =some x):l[k]? =some x.1/\v[k]? =some x.2:=by
 rw [List.getElem?_zip_eq_some] at h;exact h
theorem ZAW (l:List Path) (v:List Int) (h:Sm l):Zha l v=some (VC l v):=by
 have hl:=h;unfold Sm at hl;unfold Zha VC;simp only [Zt,Zl,Zn,Zu,Zv,Zw,Zr,YP,Yg,ZbL l h,Ze];cases hp:ZN l with
 |false=>simp
 |true=>
 by_cases hn:v.length=l.length
 ·have hz:(l.zip v).length=l.length:=by rw [FK];omega
  rw [show (((v.length:Nat):Int) != ((l.length:Nat):Int))=false by simp [hn]];simp [hn];refine (Yq (l.zip v) (by omega) (fun k (_:Unit)=>(l,v,(k:Int))) () (fun s k _=>some (goS (l.zip v) k s)) rfl ?_ ?_).trans rfl
  ·intro rec _;simp [goS,hz]
  ·intro rec k x _ hx hk hr;obtain ⟨x1,x2⟩:=Zdd hx;have hr':=hr ();simp only [UA] at hr';have hk':k < l.length:=by omega
   have hlen:((l.zip v).take k).length=k:=by rw [Uc];omega
   simp [hk',Zj x2,Kt,goS];cases inR x.2 0 2 with
   |false=>simp
   |true=>
   simp;refine (QF ((l.zip v).take k) (ZaI x) (by omega) (fun j=>(l,v,(k:Int),(j:Int))) (some (goS (l.zip v) (k + 1) ((l.zip v).drop (k + 1)))) (some false) rfl ?_ ?_).trans ?_
   ·intro rec';simp [hlen,ZA (show k<=9223372036854775806 by omega),hr']
   ·intro rec' j y hy hj;obtain ⟨y1,y2⟩:=Zdd (Zmj hy);have hj':j < k:=by omega
    simp [hj',Zj x2,Zj y2,Zj x1,Zj y1,Zmi,ZA (show j<=9223372036854775806 by omega),ZaI,ZJ];by_cases c1:x.2=0 <;> by_cases c2:y.2=0 <;> cases c3:Z2 x.1 y.1 <;> simp [c1,c2,c3]
   ·generalize ((l.zip v).take k).all (ZaI x)=A;cases A <;> simp
 ·rw [show (((v.length:Nat):Int) != ((l.length:Nat):Int))=true by simp;omega];simp [hn]
theorem Zrz (l:List Path) (v:List Int) (h:Sm l):ZeK l v=some (VC l v):=by
 have hl:=h;unfold Sm at hl;unfold ZeK VC;simp only [Zt,Zl,Zn,Zu,Zv,Zw,Zr,YP,Yg,JB l h,Ze];cases hp:ZN l with
 |false=>simp
 |true=>
 by_cases hn:v.length=l.length
 ·have hz:(l.zip v).length=l.length:=by rw [FK];omega
  rw [show (((v.length:Nat):Int) != ((l.length:Nat):Int))=false by simp [hn]];simp [hn];refine (Yq (l.zip v) (by omega) (fun k (_:Unit)=>(l,v,l,(l.length:Int),(k:Int))) () (fun s k _=>some (goS (l.zip v) k s)) rfl ?_ ?_).trans rfl
  ·intro rec _;simp [goS,hz]
  ·intro rec k x _ hx hk hr;obtain ⟨x1,x2⟩:=Zdd hx;have hr':=hr ();simp only [UA] at hr';have hk':k < l.length:=by omega
   have hkl:k<=l.length:=by omega
   have hlen:((l.zip v).take k).length=k:=by rw [Uc];omega
   have hlen2:(l.take k).length=k:=by rw [Uc];omega
   simp [hk',hkl,Zj x1,Zj x2,ZaC,goS];cases inR x.2 0 2 with
   |false=>simp
   |true=>
   simp;refine (QF ((l.zip v).take k) (ZaI x) (by omega) (fun j=>((l,v,(k:Int),l,(l.length:Int),(k:Int),l.take k,((l.take k).length:Int),(j:Int)),x.1)) (some (goS (l.zip v) (k + 1) ((l.zip v).drop (k + 1)))) (some false) (by simp;omega) ?_ ?_).trans ?_
   ·intro rec';simp [hlen,hlen2,ZA (show k<=9223372036854775806 by omega),hr']
   ·intro rec' j y hy hj;obtain ⟨y1,y2⟩:=Zdd (Zmj hy);have hj':j < k:=by omega
    have y3:(l.take k)[j]? =some y.1:=by rw [Uz,Uj hj'];exact y1
    simp [hlen2,hj',Zj x2,Zj y2,Zj y3,Zda,ZA (show j<=9223372036854775806 by omega),ZaI,ZJ,hkl];by_cases c1:x.2=0 <;> by_cases c2:y.2=0 <;> cases c3:Z2 x.1 y.1 <;> simp [c1,c2,c3]
   ·generalize ((l.zip v).take k).all (ZaI x)=A;cases A <;> simp
 ·rw [show (((v.length:Nat):Int) != ((l.length:Nat):Int))=true by simp;omega];simp [hn]
def ZbQ (l:List Path) (x:Want):Bool:= !decide (ZI l x.path < 0) && inR x.wait 0 100000
def goW (l:List Path):Option Int->List Want->Bool
 | _,[]=>true
 |pv,x::r=>ZbQ l x && later pv x.path && goW l (some x.path) r
def Yk (l:List Path) (w:List Want):Bool:=ZN l && goW l none w
def VD (l:List Want) (k:Nat):Option Int:=if k=0 then none else (l[k - 1]?).map (·.path)
theorem ZiN {l:List Want} {k:Nat} {x:Want} (h:l[k]? =some x):VD l (k + 1)=some x.path:=by
 unfold VD;simp [h]
theorem Zmo (l:List Path) (w:List Want) (hl:Sm l) (h:w.length<=2097152):Ju l w=some (Yk l w):=by
 unfold Ju Yk;simp;refine (Yq w (by omega) (fun k (_:Unit)=>(l,w,(k:Int))) () (fun s k _=>some (ZN l && goW l (VD w k) s)) rfl ?_ ?_).trans ?_
 ·intro rec _;simp [goW,ZbL l hl]
 ·intro rec k x _ hx hk hr;have hr':=hr ();simp only [UA] at hr';simp [hk,Zj hx,VB _ _ hl,Kt,ZA (show k<=9223372036854775806 by omega),goW,ZbQ];by_cases hf:ZI l x.path < 0
  ·simp [hf]
  cases inR x.wait 0 100000 with
  |false=>simp [hf]
  |true=>
   simp [hf];by_cases h0:k=0
   ·subst h0;have hr'':rec (l,w,1)=some (ZN l && goW l (some x.path) (List.drop 1 w)):=by simpa [ZiN hx] using hr'
    simp [hr'',VD,later]
   ·have hz:w[k - 1]? =some w[k - 1]:=Ub (by omega);have hk1:W ((k:Int) - 1)=((k - 1:Nat):Int):=by rw [ZB (by omega) (by omega)];omega
    rw [show VD w k=some (w[k - 1]).path by unfold VD;simp [h0,hz]];simp [show 0 < k by omega,hk1,Zj hz,hr',ZiN hx,later,ZJ];by_cases h1:x.path<=(w[k - 1]).path
    ·simp [h1,show ¬((w[k - 1]).path < x.path) by omega]
    ·simp [h1,show (w[k - 1]).path < x.path by omega]
 ·simp [VD]
theorem ZiO (l:List Path) (w:List Want) (hl:Sm l) (h:Sm w):Ju l w=some (Yk l w):=Zmo l w hl (by unfold Sm at h;omega)
theorem Zmp (l:List Path) (w:List Want) (hl:Sm l) (h:w.length<=2097152):Ko l w=some (Yk l w):=by
 unfold Ko Yk;simp [JB l hl];cases ZN l with
 |false=>rfl
 |true=>
 simp;refine (Yq w (by omega) (fun k (_:Unit)=>(l,w,w,(w.length:Int),(k:Int))) () (fun s k _=>some (goW l (VD w k) s)) rfl ?_ ?_).trans ?_
 ·intro rec _;simp [goW]
 ·intro rec k x _ hx hk hr;have hr':=hr ();simp only [UA] at hr';simp [hk,Zj hx,X0 _ _ hl,ZaC,ZA (show k<=9223372036854775806 by omega),goW,ZbQ];by_cases hf:ZI l x.path < 0
  ·simp [hf]
  cases inR x.wait 0 100000 with
  |false=>simp [hf]
  |true=>
   simp [hf];by_cases h0:k=0
   ·subst h0;have hr'':rec (l,w,w,(w.length:Int),1)=some (goW l (some x.path) (List.drop 1 w)):=by simpa [ZiN hx] using hr'
    simp [hr'',VD,later]
   ·have hz:w[k - 1]? =some w[k - 1]:=Ub (by omega);have hk1:W ((k:Int) - 1)=((k - 1:Nat):Int):=by rw [ZB (by omega) (by omega)];omega
    rw [show VD w k=some (w[k - 1]).path by unfold VD;simp [h0,hz]];simp [show 0 < k by omega,hk1,Zj hz,hr',ZiN hx,later,ZJ];by_cases h1:x.path<=(w[k - 1]).path
    ·simp [h1,show ¬((w[k - 1]).path < x.path) by omega]
    ·simp [h1,show (w[k - 1]).path < x.path by omega]
 ·simp [VD]
theorem Zmq (l:List Path) (w:List Want) (hl:Sm l) (h:Sm w):Ko l w=some (Yk l w):=Zmp l w hl (by unfold Sm at h;omega)
def Kz (l:List Path) (id:Int):Bool:= !decide (ZI l id < 0) && (ZX l id).kind==3
def YY (l:List Path) (x:Prio):Bool:=ZN l && (decide (x=⟨0,0⟩) || (Kz l x.path && inR x.left 1 20))
theorem ZrA (p:Prio):eqB [I p.path,I p.left] [I 0,I 0]=decide (p=⟨0,0⟩):=by
 cases p;simp [eqB,eqV];grind
theorem ZiP (l:List Path) (x:Prio) (hl:Sm l):Zat l x=some (YY l x):=by
 unfold Zat YY Kz;simp only [Zt,Zl,Zn,Zu,Zv,Zw,ZrA,ZbL l hl,VB _ _ hl,Ze,XJ,Kt,ZJ];by_cases h0:x=⟨0,0⟩
 ·simp [h0]
 ·simp only [h0,Mh,FI,MK,My];by_cases hf:ZI l x.path < 0
  ·simp [hf,show ¬(ZI l x.path>=0) by omega]
  ·simp [hf,show (0:Int)<=ZI l x.path by omega,Xu hf];cases ZN l <;> simp
   by_cases hk:(ZX l x.path).kind=3 <;> simp [hk]
theorem ZiQ (l:List Path) (x:Prio) (hl:Sm l):ZbF l x=some (YY l x):=by
 unfold ZbF YY Kz ZcV;simp only [Zt,Zl,Zn,Zu,Zv,Zw,ZrA,JB l hl,X0 _ _ hl,Ze,XJ,ZaC,ZJ];by_cases h0:x=⟨0,0⟩
 ·simp [h0];cases ZN l <;> simp
 ·simp only [h0,Mh,FI,MK,My];by_cases hf:ZI l x.path < 0
  ·simp [hf,show ¬(ZI l x.path>=0) by omega]
  ·simp [hf,show (0:Int)<=ZI l x.path by omega,Xu hf];cases ZN l <;> simp
   by_cases hk:(ZX l x.path).kind=3 <;> simp [hk]
def goU (p:List Path):List Note->Int
 | []=> -1
 |x::r=>if VC p x.lights=true then goU p r else x.second
def ZaJ (p:List Path) (l:List Note):Int:=if YJ l=true then goU p l else -1
theorem ZAX (p:List Path) (l:List Note) (hp:Sm p) (h:Sm l/\∀y∈l,QE y):Zhb p l=some (ZaJ p l):=by
 have h1:=h.1;unfold Sm at h1;unfold Zhb ZaJ;simp;refine (Yq l (by omega) (fun k (_:Unit)=>(p,l,(k:Int))) () (fun s _ _=>some (if YJ l=true then goU p s else -1)) rfl ?_ ?_).trans rfl
 ·intro rec _;simp [goU]
 ·intro rec k x _ hx hk hr;have hr':=hr ();simp only [UA] at hr';simp [hk,Zj hx,ZiD l h,ZAW _ _ hp,ZA (show k<=9223372036854775806 by omega),hr',goU,ZJ];cases YJ l <;> simp
  cases VC p x.lights <;> simp
theorem ZAY (p:List Path) (l:List Note) (hp:Sm p) (h:Sm l/\∀y∈l,QE y):ZhI p l=some (ZaJ p l):=by
 have h1:=h.1;unfold Sm at h1;unfold ZhI ZaJ;simp [Ze1 l h];cases YJ l with
 |false=>rfl
 |true=>
 simp;refine (Yq l (by omega) (fun k (_:Unit)=>(p,l,(l.length:Int),(k:Int))) () (fun s _ _=>some (goU p s)) rfl ?_ ?_).trans rfl
 ·intro rec _;simp [goU]
 ·intro rec k x _ hx hk hr;have hr':=hr ();simp only [UA] at hr';simp [hk,Zj hx,Zrz _ _ hp,ZA (show k<=9223372036854775806 by omega),hr',goU,ZJ];cases VC p x.lights <;> simp
def Zmr (l:List Note):Int:=match l.getLast? with |some e=>e.second |none=>0
def ZR (t:Town):Bool:=
 ZP t.paths t.control && Yk t.paths t.wants && YY t.paths t.prio && QG t.paths t.lamps && YJ t.record && !t.record.isEmpty &&
 decide (ZaJ t.paths t.record= -1) && decide (Ku t.record=t.paths.length) && decide (Zmr t.record<=t.now) && inR t.books 0 1000 && inR t.now 0 1000000
theorem ZrB {l:List Note} (h:l≠ []):∃e,l[l.length - 1]? =some e/\Zmr l=e.second/\e∈l:=by
 refine ⟨l.getLast h,?_,?_,List.getLast_mem h⟩
 ·rw [List.getLast_eq_getElem h];exact Ub _
 ·unfold Zmr;rw [M9 h]
theorem Ze7 (t:Town) (h:ZE t):Zau t=some (ZR t):=by
 obtain ⟨h0,h1,h2,h3,h4⟩:=h;have h5:=h4.1;unfold Sm at h5;unfold Zau ZR;simp only [Zt,Zl,Zn,Zu,Zv,Zw,Zr,ZT,Z5,Z6,ZD,QB,Yg,YP,Qm,JD _ _ h0 h1,ZiO _ _ h0 h2,ZiP _ _ h0,Zrw _ _ h0 h3,ZiD _ h4,ZAX _ _ h0 h4,Kt,Ze];cases ZP t.paths t.control <;> simp
 cases Yk t.paths t.wants <;> simp
 cases YY t.paths t.prio <;> simp
 cases QG t.paths t.lamps <;> simp
 cases hR:YJ t.record <;> simp
 cases he:t.record.isEmpty <;> simp
 have hne:t.record≠ []:=by intro e;rw [e] at he;cases he
 obtain ⟨e,e1,e2,e3⟩:=ZrB hne;have hpos:=List.length_pos_iff.2 hne;have hk1:W ((t.record.length:Int) - 1)=((t.record.length - 1:Nat):Int):=by rw [ZB (by omega) (by omega)];omega
 rw [hk1,Zj e1,e2,(ZiE hR e e3).1];by_cases c1:ZaJ t.paths t.record= -1 <;> simp [c1,ZJ]
 by_cases c2:Ku t.record=t.paths.length
 case neg=>
  simp [c2];intro hc;omega
 simp only [c2];by_cases c3:e.second<=t.now <;> simp [c3]
 cases inR t.books 0 1000 <;> simp
theorem KA (t:Town) (h:ZE t):Vx t=some (ZR t):=by
 obtain ⟨h0,h1,h2,h3,h4⟩:=h;have h5:=h4.1;unfold Sm at h5;unfold Vx ZR;simp only [Zt,Zl,Zn,Zu,Zv,Zw,Zr,ZT,Z5,Z6,ZD,QB,Yg,YP,Ky _ _ h0 h1,Zmq _ _ h0 h2,ZiQ _ _ h0,Zrx _ _ h0 h3,Ze1 _ h4,ZAY _ _ h0 h4,ZaC,Ze];cases ZP t.paths t.control <;> simp
 cases Yk t.paths t.wants <;> simp
 cases YY t.paths t.prio <;> simp
 cases QG t.paths t.lamps <;> simp
 cases hR:YJ t.record <;> simp
 by_cases c1:ZaJ t.paths t.record= -1 <;> simp [c1,ZJ]
 cases he:t.record.isEmpty with
 |true=>
  have:t.record= []:=List.isEmpty_iff.1 he;simp [this]
 |false=>
 have hne:t.record≠ []:=by intro e;rw [e] at he;cases he
 obtain ⟨e,e1,e2,e3⟩:=ZrB hne;have hpos:=List.length_pos_iff.2 hne;have hk1:W ((t.record.length:Int) - 1)=((t.record.length - 1:Nat):Int):=by rw [ZB (by omega) (by omega)];omega
 have hz:t.record[0]? =some t.record[0]:=Ub hpos;simp only [hpos,Mt,Zp,ZiB hz,hk1,Zj e1,e2,←Ze0 hz];by_cases c2:Ku t.record=t.paths.length
 case neg=>
  simp [c2];intro hc;omega
 simp only [c2];by_cases c3:e.second<=t.now <;> simp [c3]
 cases inR t.books 0 1000 <;> simp
def JG (s:Int):List Note->Nat->Int->Int
 | [],_,a=>a
 |x::r,k,a=>JG s r (k + 1) (if x.second<=s then (k:Int) else a)
def VE (l:List Note) (s:Int):Int:=if YJ l=true then JG s l 0 (-1) else -1
theorem Zms {s:Int}:∀(l:List Note) (k:Nat) (a:Int),JG s l k a=a\/∃i,i < l.length/\JG s l k a=((k + i:Nat):Int)
 | [],k,a=> .inl rfl
 |x::r,k,a=>by
  rw [JG];rcases Zms (s:=s) r (k + 1) (if x.second<=s then (k:Int) else a) with h | ⟨i,h1,h2⟩
  ·rw [h];split
   ·exact .inr ⟨0,by simp,by simp⟩
   ·exact .inl rfl
  ·exact .inr ⟨i + 1,by simp;omega,by rw [h2];congr 1;omega⟩
theorem ZAZ (l:List Note) (s:Int):VE l s= -1\/∃(i:Nat) (x:Note),l[i]? =some x/\VE l s=(i:Int)/\YJ l=true:=by
 unfold VE;cases hR:YJ l with
 |false=>exact .inl (by simp)
 |true=>
  simp only [U3];rcases Zms (s:=s) l 0 (-1) with h | ⟨i,h1,h2⟩
  ·exact .inl h
  ·exact .inr ⟨i,l[i],Ub h1,by rw [h2];simp,trivial⟩
theorem Zmt (l:List Note) (s:Int) (h:Sm l/\∀y∈l,QE y):Zc1 l s=some (VE l s):=by
 have h1:=h.1;unfold Sm at h1;unfold Zc1 VE;simp [Ze1 l h];cases YJ l with
 |false=>rfl
 |true=>
 simp;refine (Yq l (by omega) (fun k a=>(s,a,l,(l.length:Int),(k:Int))) (-1) (fun x k a=>some (JG s x k a)) rfl ?_ ?_).trans rfl
 ·intro rec a;simp [JG]
 ·intro rec k x a hx hk hr;simp only [UA] at hr;simp [hk,Zj hx,ZA (show k<=9223372036854775806 by omega),hr,JG,ZJ];by_cases c:x.second<=s <;> simp [c]
theorem ZiR {β:Type} (xs:List (List AV)) (x y:Option β) (h:xs= []->x=y):KV xs x y=y:=by
 unfold KV;split
 ·unfold ZG;have:=h rfl;rw [Uj this,this]
 ·rfl
theorem KB (l:List Int) (h:Sm l):Q1 l=some l:=by
 unfold Sm at h;unfold Q1;have e:ifA (((((List.length ([]:List (List AV))) + (List.length (l.map iR.enc))) * 8)<=140737488355328)/\(((List.length ([]:List (List AV))) + (List.length (l.map iR.enc)))<=1152921504606846976)) (rws iR (List.map clrs (l.map iR.enc)) (fun (l1:(List Int))=>(some l1)))=some l:=by
  rw [Zs (by simp;omega),Zcx,Zr]
 rw [e];refine ZiR _ _ _ fun h0=> ?_
 have:l= []:=by cases l with |nil=>rfl |cons a l=>cases h0
 rw [this]
def ZbR (l:List Note) (s:Int):Option Note:=if VE l s < 0 then none else l[(VE l s).toNat]?
def ZaK (l:List Note) (s:Int):List Int×Bool:=match ZbR l s with |some e=>(e.lights,true) |none=>([],false)
theorem Zde (l:List Note) (s:Int):(ZbR l s=none/\VE l s= -1)\/∃(i:Nat) (x:Note),l[i]? =some x/\VE l s=(i:Int)/\ZbR l s=some x/\YJ l=true:=by
 unfold ZbR;rcases ZAZ l s with h | ⟨i,x,h1,h2,h3⟩
 ·rw [h];exact .inl ⟨rfl,rfl⟩
 ·rw [h2];exact .inr ⟨i,x,h1,rfl,by rw [Ui (by omega),UC,h1],h3⟩
theorem ZrC (l:List Note) (s:Int) (h:Sm l/\∀y∈l,QE y):ZeW l s=some (ZaK l s):=by
 unfold ZeW ZaK;simp only [Zt,Zl,Zn,Zu,Zv,Z6,Yc,Z3,Zmt l s h,Ze,Kl,Km,Zah,Zr];rcases Zde l s with ⟨h1,h2⟩ | ⟨i,x,h1,h2,h3,_⟩
 ·simp [h1,h2]
 ·have hx:=h.2 x (Yu h1);simp only [h2,h3,show ¬((i:Int) < 0) by omega,Mh,Zh,Zj h1,KB _ hx,Ze]
def Zmu (t:Town):Bool:=(ZaK t.record t.now).2 && decide ((ZaK t.record t.now).1=YE t)
theorem ZrD {l:List Note} (s:Int) (h:Sm l/\∀y∈l,QE y):Sm (ZaK l s).1:=by
 unfold ZaK;rcases Zde l s with ⟨h1,h2⟩ | ⟨i,x,h1,h2,h3,_⟩
 ·rw [h1];unfold Sm;simp
 ·rw [h3];exact h.2 x (Yu h1)
theorem ZA0 (t:Town) (h:ZE t):Zin t=some (Zmu t):=by
 have h4:=h.2.2.2.2;unfold Zin Zmu;simp only [Zt,Zl,Zn,Zu,Zv,Zw,Zr,ZT,Z5,Z6,Yc,Z3,ZD,Z4,ZrC _ _ h4,Ze6 t h,Zc9 _ _ (ZrD t.now h4),Ze];cases (ZaK t.record t.now).2 <;> simp
theorem ZrE {V β:Type} {F:(V->Option β)->V->Option β} (st:Nat->V) (G:Nat->Option β) (B:Nat) (h0:∀rec,F rec (st 0)=G 0)
  (h1:∀rec k,k < B->rec (st k)=G k->F rec (st (k + 1))=G (k + 1)):∀n k,k<=B->k < n->Zf F n (st k)=G k
 | 0,k,_,h=>by omega
 |n + 1,0,_,_=>by rw [QY];exact h0 _
 |n + 1,k + 1,hk,h=>by
  rw [QY];exact h1 _ k (by omega) (ZrE st G B h0 h1 n k (by omega) (by omega))
theorem ZA1 {V β:Type} {F:(V->Option β)->V->Option β} (st:Nat->V) (G:Nat->Option β) (k:Nat) (hk:k<=4611686018427387903) {v:V} (hv:v=st k) (h0:∀rec,F rec (st 0)=G 0)
  (h1:∀rec j,j < k->rec (st j)=G j->F rec (st (j + 1))=G (j + 1)):Zf F NN v=G k:=by
 rw [hv];exact ZrE st G k h0 h1 NN k (Uq _) (Qj hk)
def Zdf (l:List Note) (i s:Int):Int:=match ZbR l s with |some e=>Q4 e i |none=> -1
theorem ZrF {e:Note} {m:Nat} {v:Int} (h:e.lights[m]? =some v):Q4 e (m:Int)=v:=by
 unfold Q4;rw [Uj (by omega),UC,h]
theorem ZrG (l:List Note) (i s:Int) (h:Sm l/\∀y∈l,QE y):ZeX l i s=some (Zdf l i s):=by
 unfold ZeX Zdf;simp only [Zt,Zl,Zn,Zu,Zv,Z6,Yc,Z3,Zmt l s h,Ze,Kl,Km,Zah,Zr,ZlO,Zrl];rcases Zde l s with ⟨h1,h2⟩ | ⟨j,x,h1,h2,h3,_⟩
 ·simp [h1,h2]
 ·simp only [h2,h3,show ¬((j:Int) < 0) by omega,Mh,Zh,Zj h1]
def ZaL (l:List Note) (i:Int):Nat->Nat
 | 0=>0
 |k + 1=>match l[k]? with
  |some e=>if Q4 e i=1 then ZaL l i k else k + 1
  |none=>k + 1
def ZiS (l:List Note) (k:Nat):Int:=match l[k]? with |some e=>e.second |none=>0
def ZaM (l:List Note) (i s:Int):Int:=if Zdf l i s=1 then W (s - ZiS l (ZaL l i (VE l s).toNat)) else -1
theorem ZA2 (l:List Note) (i s:Int) (h:Sm l/\∀y∈l,QE y):Zih l i s=some (ZaM l i s):=by
 have hl:=h.1;unfold Sm at hl;unfold Zih ZaM Zdf;simp only [Zt,Zl,Zn,Zu,Zv,Z6,Yc,Z3,Zmt l s h,Ze,Kl,Km,Zah,Zr,ZlO,Zrl];rcases Zde l s with ⟨h1,h2⟩ | ⟨j,x,h1,h2,h3,_⟩
 ·simp [h1,h2]
 ·have hj:=(List.getElem?_eq_some_iff.1 h1).1;simp only [h2,h3,show ¬((j:Int) < 0) by omega,Mh,Zh,Zj h1,UC];by_cases c:Q4 x i=1
  ·simp only [c,Mu,Zh,U3];refine (ZA1 (fun k=>(l,i,s,(k:Int))) (fun k=>if k<=j then some (W (s - ZiS l (ZaL l i k))) else none) j (by omega) rfl ?_ ?_).trans (by simp)
   ·intro rec;have hz:l[0]? =some l[0]:=Ub (by omega);simp [ZaL,ZiS,ZiB hz,hz]
   ·intro rec k hk hr;have hk1:W (((k + 1:Nat):Int) - 1)=(k:Int):=by rw [ZB (by omega) (by omega)];omega
    have hz:l[k]? =some l[k]:=Ub (by omega);have hz1:l[k + 1]? =some l[k + 1]:=Ub (by omega);simp only [hk1,Zj hz,Zj hz1,show ((k + 1:Nat):Int) > 0 by omega,Mt,Zp,hr,ZaL,hz,Uj (show k + 1<=j by omega),Uj (show k<=j by omega)];by_cases c2:Q4 l[k] i=1
    ·simp [c2]
    ·have c3:(Q4 l[k] i==1)=false:=by simp [c2]
     simp only [c3,Zh,Ui c2];simp [ZiS,hz1]
  ·have:(Q4 x i != 1)=true:=by simp [c]
   simp [this,c]
def goO (a:Path):List (Path×Int)->Int->Int
 | [],o=>o
 |x::r,o=>goO a r (if o=0/\x.2≠0/\Z2 a x.1=true then x.1.id else o)
def ZiT:Report:=⟨0,0,0,0,0⟩
def QH (t:Town) (p s:Int):Report×Bool:=
 if ZR t=false\/ZI t.paths p < 0\/t.now < s then (ZiT,false) else
 match ZbR t.record s with
 |none=>(ZiT,false)
 |some e=>(⟨p,s,Q4 e (ZI t.paths p),ZaM t.record (ZI t.paths p) s,goO (ZX t.paths p) (t.paths.zip e.lights) 0⟩,true)
theorem ZrH {t:Town} (h:ZR t=true) {e:Note} (he:e∈t.record):e.lights.length=t.paths.length/\∀v∈e.lights,0<=v:=by
 simp only [ZR,Ua,UH] at h;obtain ⟨⟨⟨⟨⟨⟨⟨⟨⟨⟨h1,h2⟩,h3⟩,h4⟩,h5⟩,h6⟩,h7⟩,h8⟩,h9⟩,h10⟩,h11⟩:=h;have:=ZiE h5 e he;exact ⟨this.1.trans h8,this.2.2.2⟩
theorem Zmv (t:Town) (p s:Int) (h:ZE t):Zc3 t p s=some (QH t p s):=by
 obtain ⟨h0,h1,h2,h3,h4⟩:=h;have hp:=h0;unfold Sm at hp;unfold Zc3 QH;simp only [Zt,Zl,Zn,Zu,Zv,Zw,Zr,ZT,Z5,Z6,Yc,Z3,ZD,Z4,X0 _ _ h0,KA t ⟨h0,h1,h2,h3,h4⟩,ZrG _ _ _ h4,ZA2 _ _ _ h4,Ze,YP,YX,XJ];cases hT:ZR t with
 |false=>rfl
 |true=>
 by_cases hf:ZI t.paths p < 0
 ·simp [hf];rfl
 by_cases hn:t.now < s
 ·simp [hf,hn];rfl
 simp only [hf,hn,Mh,Zh,Uk,gt_iff_lt,false_or,Bool.true_eq_false,My,Zdf];rcases Zde t.record s with ⟨c1,c2⟩ | ⟨j,x,c1,c2,c3,_⟩
 ·simp only [c1];rfl
 simp only [c3];obtain ⟨k,y,k1,k2,k3⟩:=Kv hf;obtain ⟨q1,q2⟩:=ZrH hT (Yu c1);have hkl:=(List.getElem?_eq_some_iff.1 k1).1;have hv:x.lights[k]? =some x.lights[k]:=Ub (by omega);have hpa:ZX t.paths p=y:=by unfold ZX;rw [k2,UC,k1];rfl
 rw [k2,ZrF hv,hpa];have hge:¬x.lights[k] < 0:=by have:=q2 _ (Yu hv);omega
 simp only [hge,Mh,Zh];have hz:(t.paths.zip x.lights).length=t.paths.length:=by rw [FK];omega
 refine (Yq (t.paths.zip x.lights) (by omega) (fun n o=>((s,(k:Int),t.paths,(t.paths.length:Int),(n:Int)),t,ZiT,(⟨p,s,x.lights[k],ZaM t.record (k:Int) s,o⟩:Report))) 0 (fun r _ o=>some ((⟨p,s,x.lights[k],ZaM t.record (k:Int) s,goO y r o⟩:Report),true)) ?_ ?_ ?_).trans rfl
 ·rfl
 ·intro rec o;simp [goO,hz]
 ·intro rec n z o hz1 hn1 hr;simp only [UA] at hr;obtain ⟨z1,z2⟩:=Zdd hz1;have hn2:n < t.paths.length:=by omega
  simp [hn2,Zj z1,Zj k1,Zda,ZrG _ _ _ h4,Zdf,c3,ZrF z2,ZA (show n<=9223372036854775806 by omega),goO];by_cases o0:o=0
  ·subst o0;by_cases l0:z.2=0
   ·simp [l0];cases Z2 y z.1 <;> simp [hr]
   ·have:(z.2 != 0)=true:=by simp [l0]
    simp [this,l0];cases Z2 y z.1 <;> simp [hr]
  ·have:(o==0)=false:=by simp [o0]
   simp [this,o0,hr]
def brk (a:Lamp) (path colour:Int):Bool:=a.path==path && (a.colour==colour && a.broken)
def broken (x:List Lamp) (path colour:Int):Bool:=x.any fun a=>brk a path colour
theorem ZA3 (x:List Lamp) (path colour:Int) (h:Sm x):ZeR x path colour=some (broken x path colour):=by
 unfold Sm at h;unfold ZeR Zl9 Zl8 broken;simp only [Z5,ZcC,Ze3];generalize hI:Zf (_:((List Lamp×Int×Int)×Lamp->Option Int)->_->Option Int) NN _=J0;have hI':J0=match x.findIdx? (fun a=>brk a path colour) with |some i=>some (i:Int) |none=>some (-1):=by
  rw [←hI];refine ZbO x (fun a=>brk a path colour) (by omega) (fun k=>((x,(x.length:Int),(k:Int)),(⟨path,colour,true⟩:Lamp))) (fun i=>some (i:Int)) (some (-1)) rfl ?_ ?_
  ·intro rec;simp
  ·intro rec k a ha hk;have e:eqB [I path,I colour,Bl true] [I a.path,I a.colour,Bl a.broken]=brk a path colour:=by
    show (path==a.path && (colour==a.colour && (true==a.broken)))=(a.path==path && (a.colour==colour && a.broken))
    rw [Bool.eq_iff_iff];simp only [Ua,FF];exact ⟨fun ⟨h1,h2,h3⟩=>⟨h1.symm,h2.symm,h3.symm⟩,fun ⟨h1,h2,h3⟩=>⟨h1.symm,h2.symm,h3.symm⟩⟩
   simp [hk,Zj ha,e,ZA (show k<=9223372036854775806 by omega),ZJ]
 rw [hI',←ZbN];cases x.findIdx? (fun a=>brk a path colour) <;> simp
def Zmw (x:List Lamp) (z:Path×Int):Int:=if (z.2=0\/z.2=1)/\broken x z.1.id z.2=true then -1 else z.2
def ZiU (l:List Path) (x:List Lamp) (v:List Int):List Int:=if v.length=l.length then (l.zip v).map (Zmw x) else []
theorem ZA4 (l:List Path) (x:List Lamp) (v:List Int) (h:Sm l) (hx:Sm x):Zh5 l x v=some (ZiU l x v):=by
 have hl:=h;unfold Sm at hl;unfold Zh5 ZiU;simp only [Zt,Zl,Zn,Zu,Zv,Zw,Z5,Zr,YP,Yg];by_cases c:v.length=l.length
 ·rw [Uj c,show (((v.length:Nat):Int) != ((l.length:Nat):Int))=false by simp [c],Zh];have hz:(l.zip v).length=l.length:=by rw [FK];omega
  refine Ze4 (l.zip v) (Zmw x) (by omega) (fun k acc=>(x,v,acc,l,(l.length:Int),(k:Int))) some rfl ?_ ?_
  ·intro rec acc ha;simp [hz]
  ·intro rec k z acc hzk hk ha;obtain ⟨z1,z2⟩:=Zdd hzk;simp [show k < l.length by omega,Zj z1,Zj z2,ZA3 x _ _ hx,ZA (show k<=9223372036854775806 by omega),ha,show (k + 1) * 8<=140737488355328 by omega,show k<=1152921504606846975 by omega,Zmw];by_cases a0:z.2=0
   ·simp [a0];cases broken x z.1.id 0 <;> simp
   ·by_cases a1:z.2=1
    ·simp [a1];cases broken x z.1.id 1 <;> simp
    ·simp [a0,a1,show (z.2==0)=false by simp [a0],show (z.2==1)=false by simp [a1]]
 ·rw [Ui c,show (((v.length:Nat):Int) != ((l.length:Nat):Int))=true by simp;omega,Zp]
def ZiV (t:Town):List Int:=if Yv t.paths t.lamps t.power=0 then ZiU t.paths t.lamps (YE t) else t.paths.map fun _=> -1
theorem ZA5 (t:Town) (h:ZE t):Zh6 t=some (ZiV t):=by
 have h':=h;obtain ⟨h0,h1,h2,h3,h4⟩:=h;have e1:Vy t=some (Yv t.paths t.lamps t.power):=by unfold Vy;simp [Zmn _ _ _ h0 h3]
 unfold Zh6 ZiV;simp only [Zt,Zl,Zn,Zu,Zv,Zw,ZT,Z5,Zr,Z6,Yc,Z3,ZD,Z4,e1,Ze,Ze3,Ze6 t h',ZA4 _ _ _ h0 h3,Zrv _ _ h0,ZJ,bne_iff_ne];by_cases c:Yv t.paths t.lamps t.power=0 <;> simp [c]
theorem ZA6 (t:Town) (h:ZE t):Sm (ZiV t):=by
 have h0:=h.1;unfold Sm ZiV ZiU at *
 split
 ·split
  ·simp;omega
  ·simp
 ·simpa using h0
def Q8 (l:List Path) (x:Int):Bool:= !decide (ZI l x < 0) && (ZX l x).kind==2
def Xg (l:List Path) (ids:List Int):Int:=if ids.all (fun x=> !Q8 l x)=true then 5 else 7
theorem ZrI (l:List Path) (ids:List Int) (h:Sm l) (hi:Sm ids):ZeC l ids=some (Xg l ids):=by
 unfold Sm at hi;unfold ZeC Xg;simp only [Zt,Zl,Zn,Zu,Zv,Zw,Zr,Yg];refine (QF ids (fun x=> !Q8 l x) (by omega) (fun k=>(l,ids,(k:Int))) (some 5) (some 7) rfl ?_ ?_).trans (by split <;> rfl)
 ·intro rec;simp
 ·intro rec k x hx hk;simp [hk,Zj hx,ZA (show k<=9223372036854775806 by omega),VB l _ h,Q8];by_cases c:ZI l x < 0
  ·have:¬(0<=ZI l x):=by omega
   simp [c,this,ZJ]
  ·have:0<=ZI l x:=by omega
   simp [c,this,ZJ,Xu c]
theorem ZiW (l:List Path) (ids:List Int) (h:Sm l) (hi:Sm ids):ZbG l ids=some (Xg l ids):=by
 unfold Sm at hi;unfold ZbG Xg;simp only [Zt,Zl,Zn,Zu,Zv,Zw,Zr,Yg];refine (QF ids (fun x=> !Q8 l x) (by omega) (fun k=>(l,ids,(ids.length:Int),(k:Int))) (some 5) (some 7) rfl ?_ ?_).trans (by split <;> rfl)
 ·intro rec;simp
 ·intro rec k x hx hk;simp [hk,Zj hx,ZA (show k<=9223372036854775806 by omega),X0 l _ h,Q8];by_cases c:ZI l x < 0
  ·have:¬(0<=ZI l x):=by omega
   simp [c,this,ZJ]
  ·have:0<=ZI l x:=by omega
   simp [c,this,ZJ,Xu c]
def SmS (st:List (List Int)):Prop:=Sm st/\∀y∈st,Sm y
def cov (st:List (List Int)) (id:Int):Bool:=st.any fun s=>has s id
def Ze8 (l:List Path) (st:List (List Int)):Bool:=ZN l && (st.all (ZM l) && l.all fun p=>cov st p.id)
theorem ZrJ (st:List (List Int)) (id:Int) (h:SmS st):ZeG st id=some (cov st id):=by
 obtain ⟨h1,h2⟩:=h;unfold Sm at h1;unfold ZeG ZlZ ZlY cov;simp only [ZcA,Ki,Ze3];generalize hI:Zf (_:(List (List Int)×Int×Int×Int->Option Int)->_->Option Int) NN _=I;have hI':I=match st.findIdx? (fun s=>has s id) with |some i=>some (i:Int) |none=>some (-1):=by
  rw [←hI];refine ZbO st (fun s=>has s id) (by omega) (fun k=>(st,id,(st.length:Int),(k:Int))) (fun i=>some (i:Int)) (some (-1)) rfl ?_ ?_
  ·intro rec;simp
  ·intro rec k x hx hk;simp [hk,Zj hx,ZA (show k<=9223372036854775806 by omega),ZlX,VV x _ (h2 x (Uu hx)),ZJ]
 rw [hI',←ZbN];cases st.findIdx? (fun s=>has s id) <;> simp
theorem ZA7 (l:List Path) (st:List (List Int)) (h:Sm l) (hs:SmS st):Zh9 l st=some (Ze8 l st):=by
 have hs':=hs;obtain ⟨h1,h2⟩:=hs;unfold Sm at h1;have hl:=h;unfold Sm at hl;unfold Zh9 Ze8;simp only [Zt,Zl,Zn,Zu,Zv,Zw,ZcA,Ki,YP,JB l h,Ze];cases ZN l with
 |false=>simp
 |true=>
 simp only [Uk,Zh];refine (QF st (ZM l) (by omega) (fun k=>(l,st,st,(st.length:Int),(k:Int))) (some (l.all fun p=>cov st p.id)) (some false) rfl ?_ ?_).trans (by cases st.all (ZM l) <;> rfl)
 ·intro rec;simp;refine (QF l (fun p=>cov st p.id) (by omega) (fun k=>(st,l,(l.length:Int),(k:Int))) (some true) (some false) rfl ?_ ?_).trans (by cases l.all (fun p=>cov st p.id) <;> rfl)
  ·intro rec;simp
  ·intro rec k x hx hk;simp [hk,Zj hx,ZA (show k<=9223372036854775806 by omega),ZrJ st _ hs'];cases cov st x.id <;> simp
 ·intro rec k x hx hk;simp [hk,Zj hx,ZA (show k<=9223372036854775806 by omega),Kw l x h (h2 x (Uu hx))];cases ZM l x <;> simp
def SmL (p:List Part):Prop:=Sm p/\∀y∈p,Ziz y
def ZaN (l:List Path) (x:Part):Bool:= !x.stage.isEmpty && (ZM l x.stage && inR x.green (Xg l x.stage) 60)
def Q9 (p:List Part):List (List Int):=p.map (·.stage)
def YQ (l:List Path) (p:List Part):Bool:=inR p.length 1 6 && (p.all (ZaN l) && Ze8 l (Q9 p))
theorem ZA8 {p:List Part} (h:SmL p):SmS (Q9 p):=by
 refine ⟨by have:=h.1;unfold Sm Q9 at *;simpa using this,fun y hy=> ?_⟩;obtain ⟨x,hx,rfl⟩:=List.mem_map.1 hy;exact h.2 x hx
theorem ZA9 (l:List (List Int)) (a:List Int):l.map (Zb (rX .shr 1 iR)).enc ++ [[.slc .shr 1 (a.map iR.enc)]]=(l ++ [a]).map (Zb (rX .shr 1 iR)).enc:=(UX (f:=(Zb (rX .shr 1 iR)).enc) (l₁:=l) (l₂:= [a])).symm
theorem ZBa (x:List Int):((x.length:Int)==0)=x.isEmpty:=by
 cases x with
 |nil=>rfl
 |cons a x=>simp;omega
theorem ZrK (l:List Path) (p:List Part) (h:Sm l) (hp:SmL p):ZeS l p=some (YQ l p):=by
 have h1:=hp.1;unfold Sm at h1;unfold ZeS YQ;simp only [Zt,Zl,Zn,Zu,Zv,Zw,Jo,Zq4,Ks,Ze,inR];cases (decide (1<=(p.length:Int)) && decide ((p.length:Int)<=6)) with
 |false=>simp
 |true=>
 simp only [Uk,Zh];refine (YC p (by omega) (fun k acc=>(l,acc,p,(p.length:Int),(k:Int))) [] (fun k acc=>acc=Q9 (p.take k)) rfl (fun s _ _=>if s.all (ZaN l)=true then some (Ze8 l (Q9 p)) else some false) rfl ?_ ?_).trans (by cases p.all (ZaN l) <;> rfl)
 ·intro rec acc ha;rw [Fk] at ha;subst ha;simp [ZA7 l _ h (ZA8 hp)]
 ·intro rec k x acc ha hx hk hr;have hx':Sm x.stage:=hp.2 x (Uu hx);have hal:acc.length=k:=by rw [ha];simp [Q9];omega
  simp only [UA] at hr;simp [ZA9,hk,Zj hx,ZA (show k<=9223372036854775806 by omega),Kw l _ h hx',ZiW l _ h hx',ZBa,Ks,hal,show (k + 1) * 24<=140737488355328 by omega,show k<=1152921504606846975 by omega,-List.all_cons,-List.all_eq_true];rw [hr _ (by rw [ha];simp [Q9,MR,hx])];rw [MD];unfold ZaN inR;generalize (List.drop (k + 1) p).all _=b;cases x.stage.isEmpty <;> cases ZM l x.stage <;> cases decide (Xg l x.stage<=x.green) <;> cases decide (x.green<=60) <;> cases b <;> simp
theorem ZrL (p:Path):0<=Xs p/\Xs p<=5:=by
 unfold Xs;split
 ·split
  ·omega
  ·split <;> omega
 ·omega
theorem Zmx {α:Type} (f:Int->α->Int) (hf:∀n x,0<=n/\n<=5->0<=f n x/\f n x<=5):∀(l:List α) (n:Int),0<=n/\n<=5->0<=l.foldl f n/\l.foldl f n<=5
 | [],n,h=>h
 |x::l,n,h=>Zmx f hf l _ (hf n x h)
theorem ZBb (l:List Path) (a b:List Int):0<=Yx l a b/\Yx l a b<=5:=by
 unfold Yx;split
 ·refine Zmx _ (fun n x hn=>Zmx _ (fun n y hn=> ?_) _ n hn) _ 0 (by omega);unfold Q7 Kx;have:=ZrL (ZX l x);split
  ·split <;> omega
  ·exact hn
 ·omega
theorem ZBc (l:List Path) (ids:List Int):5<=Xg l ids/\Xg l ids<=7:=by
 unfold Xg;split <;> omega
theorem Zdg {l:List Path} {p:List Part} (h:YQ l p=true):1<=p.length/\p.length<=6/\(∀x∈p,5<=x.green/\x.green<=60)/\ZN l=true:=by
 unfold YQ Ze8 at h;simp only [Ua,MW] at h;obtain ⟨h1,h2,h3,_⟩:=h;unfold inR at h1;simp at h1;refine ⟨by omega,by omega,fun x hx=> ?_,h3⟩;have:=h2 x hx;unfold ZaN inR at this;simp at this;have:=ZBc l x.stage;omega
def JH (p:List Part) (i:Nat):Part:=(p[(i + 1) % p.length]?).getD default
def lg (l:List Path) (p:List Part) (i:Nat):Nat:=match p[i]? with
 |some x=>(x.green + Yx l x.stage (JH p i).stage).toNat
 |none=>0
theorem ZrM {p:List Part} (h:1<=p.length) (i:Nat):p[(i + 1) % p.length]? =some (JH p i):=by
 unfold JH;have:(i + 1) % p.length < p.length:=Nat.mod_lt _ (by omega);rw [Ub this];rfl
theorem Zmy {a b:Nat}:Int.tmod (a:Int) (b:Int)=((a % b:Nat):Int):=by
 rw [Int.tmod_eq_emod_of_nonneg (by omega)];omega
theorem ZBd {p:List Part} (h:1<=p.length) (i:Nat) {β:Type} (K:Part->Option β):ZU p (((i:Int) + 1) % (p.length:Int)) K=K (JH p i):=by
 have:=Zj (ZrM h i) K;rw [Int.natCast_emod] at this;simpa using this
theorem ZrN {p:List Part} (hp:SmL p) (h:1<=p.length) (i:Nat):Sm (JH p i).stage:=hp.2 _ (Uu (ZrM h i))
theorem Ze9 {l:List Path} {p:List Part} (h:YQ l p=true) {i:Nat} {x:Part} (hx:p[i]? =some x):((lg l p i:Nat):Int)=x.green + Yx l x.stage (JH p i).stage/\5<=lg l p i/\lg l p i<=65:=by
 obtain ⟨h1,h2,h3,_⟩:=Zdg h;have:=h3 x (Uu hx);have:=ZBb l x.stage (JH p i).stage;unfold lg;rw [hx];simp only;omega
theorem ZrO (p:List Part) (hp:SmL p) (h1:1<=p.length) (i:Nat) (hi:i < p.length):ZeU p (i:Int)=some (JH p i).stage:=by
 have hs:=hp.1;unfold Sm at hs;unfold ZeU;have e:Int.tmod ((i:Int) + 1) (p.length:Int)=(((i + 1) % p.length:Nat):Int):=Zmy (a:=i + 1);simp [ZA (show i<=9223372036854775806 by omega),e,ZBd h1 i,show ¬p.length=0 by omega]
theorem ZrP (l:List Path) (p:List Part) (h:Sm l) (hp:SmL p) (hpl:YQ l p=true) (i:Nat) (hi:i < p.length):ZcY l p (i:Int)=some (lg l p i:Int):=by
 obtain ⟨h1,_,_,_⟩:=Zdg hpl;have hx:p[i]? =some p[i]:=Ub hi;obtain ⟨e1,e2,e3⟩:=Ze9 hpl hx;unfold ZcY;simp [Zj hx,ZrO p hp h1 i hi,ZiL l _ _ h (hp.2 _ (Uu hx)) (ZrN hp h1 i)];rw [←e1,ZB (by omega) (by omega)]
def Yl (l:List Path) (p:List Part):List Nat:=(List.range p.length).map (lg l p)
def cyc (l:List Path) (p:List Part):Nat:=if YQ l p=true then (Yl l p).sum else 0
theorem ZBe (l:List Nat) (k:Nat) (x:Nat) (hx:l[k]? =some x):(l.take (k + 1)).sum=(l.take k).sum + x:=by
 rw [MR,hx];simp
theorem Zmz {l:List Path} {p:List Part} {k:Nat} (h:k < p.length):(Yl l p)[k]? =some (lg l p k):=by
 unfold Yl;simp [h]
theorem Zdh (l:List Path) (p:List Part):(Yl l p).length=p.length:=by unfold Yl;simp
theorem ZBf (l:List Nat) (c:Nat) (h:∀x∈l,x<=c):l.sum<=l.length * c:=by
 induction l with
 |nil=>simp
 |cons x l ih=>
  have h1:=h x (Ug ..);have h2:=ih fun y hy=>h y (Uf _ hy)
  simp only [List.sum_cons,UI,UU,MO];omega
theorem ZrQ {l:List Path} {p:List Part} (h:YQ l p=true) (k:Nat):((Yl l p).take k).sum<=390:=by
 have h1:=ZBf ((Yl l p).take k) 65 (fun x hx=>by
  have:=MN hx;unfold Yl at this;obtain ⟨i,hi,rfl⟩:=List.mem_map.1 this;have hi':i < p.length:=by simpa using hi
  exact (Ze9 h (Ub hi')).2.2)
 have h2:((Yl l p).take k).length<=6:=by
  have:=(Zdg h).2.1;rw [Uc,Zdh];omega
 have:=UK 65 h2;omega
theorem ZiX {l:List Path} {p:List Part} (h:YQ l p=true):5<=cyc l p/\cyc l p<=390:=by
 have h1:=(Zdg h).1;unfold cyc;rw [Uj h];have e:=ZrQ h p.length;rw [U2 (by rw [Zdh];omega)] at e;refine ⟨?_,e⟩;have h0:(Yl l p)[0]? =some (lg l p 0):=Zmz (by omega);have h2:=(Ze9 h (Ub (show 0 < p.length by omega))).2.1;cases hl:Yl l p with
 |nil=>rw [hl] at h0;cases h0
 |cons x r=>
  rw [hl] at h0;simp at h0;subst h0;simp only [List.sum_cons];omega
theorem ZmA (l:List Path) (p:List Part) (h:Sm l) (hp:SmL p):ZeV l p=some (cyc l p:Int):=by
 have hs:=hp.1;unfold Sm at hs;unfold ZeV;simp only [Zw,Jo,Zq4,ZrK l p h hp,Ze];cases hpl:YQ l p with
 |false=>simp [cyc,hpl]
 |true=>
 simp only [Uk,Zh];refine (YC p (by omega) (fun k acc=>(l,p,acc,(p.length:Int),(k:Int))) (0:Int) (fun k acc=>acc=(((Yl l p).take k).sum:Nat)) (by simp) (fun _ _ _=>some (cyc l p:Int)) rfl ?_ ?_).trans rfl
 ·intro rec acc ha;rw [U2 (by rw [Zdh];omega)] at ha;simp [ha,cyc,hpl]
 ·intro rec k x acc ha hx hk hr;simp only [UA] at hr;have e:=ZrQ hpl k;have e2:=(Ze9 hpl hx).2.2;simp [hk,ZrP l p h hp hpl k hk,ZA (show k<=9223372036854775806 by omega)];rw [ZB (by omega) (by omega)];exact hr _ (by rw [ha,ZBe _ _ _ (Zmz hk)];omega)
def li (l:List Path) (p:List Part) (id:Int) (i s:Nat):Int:=match p[i]? with
 |some x=>if has x.stage id=true then (if (s:Int) < x.green\/has (JH p i).stage id=true then 1 else if (s:Int) < x.green + Xs (ZX l id) then 2 else 0) else 0
 |none=>0
def goA:List Nat->Nat->Nat->Nat×Nat
 | [],s,i=>(i,s)
 |n::r,s,i=>if s < n then (i,s) else goA r (s - n) (i + 1)
theorem ZrR:∀(r:List Nat) (s i:Nat),s < r.sum->(goA r s i).1 < i + r.length/\i<=(goA r s i).1
 | [],s,i,h=>by simp at h
 |n::r,s,i,h=>by
  unfold goA;split
  ·simp
  ·have:=ZrR r (s - n) (i + 1) (by simp at h;omega);simp only [UI];omega
theorem ZrS {V:Type} {F:(V->Option (Int×Int))->V->Option (Int×Int)} (L:List Nat) (st:Int->Int->V) (hl:L.sum<=390)
  (h1:∀rec (i s:Nat) n,L[i]? =some n->s<=390->F rec (st (s:Int) (i:Int))=if s < n then some ((i:Int),(s:Int)) else rec (st ((s - n:Nat):Int) ((i + 1:Nat):Int))):
  ∀(m:Nat) (i s:Nat),L.length - i < m->s < (L.drop i).sum->Zf F m (st (s:Int) (i:Int))=some (((goA (L.drop i) s i).1:Int),((goA (L.drop i) s i).2:Int))
 | 0,i,s,hm,_=>by omega
 |m + 1,i,s,hm,hs=>by
  rw [QY];rcases U1 i L.length with hlt |hge
  ·have hx:L[i]? =some L[i]:=Ub hlt;have hle:(L.drop i).sum<=L.sum:=by
    conv=>rhs;rw [←Ul i L]
    rw [List.sum_append];omega
   rw [h1 _ i s _ hx (by omega)];rw [UN hlt] at hs ⊢;simp only [List.sum_cons] at hs;unfold goA;split
   ·rfl
   ·exact ZrS L st hl h1 m (i + 1) (s - L[i]) (by omega) (by omega)
  ·rw [List.drop_of_length_le hge] at hs;simp at hs
theorem ZBg {V:Type} (L:List Nat) (st:Int->Int->V) (hl:L.sum<=390) (hl2:L.length<=1048576) {F:(V->Option (Int×Int))->V->Option (Int×Int)} {v:V} (t:Nat) (ht:t < L.sum) (hv:v=st (t:Int) 0)
  (h1:∀rec (i s:Nat) n,L[i]? =some n->s<=390->F rec (st (s:Int) (i:Int))=if s < n then some ((i:Int),(s:Int)) else rec (st ((s - n:Nat):Int) ((i + 1:Nat):Int))):
  Zf F NN v=some (((goA L t 0).1:Int),((goA L t 0).2:Int)):=by
 rw [hv];exact ZrS L st hl h1 NN 0 t (Qj (by omega)) (by simpa using ht)
theorem ZBh (l:List Path) (p:List Part) (h:Sm l) (hp:SmL p) (hpl:YQ l p=true) (t:Nat) (ht:t < cyc l p):Zie l p (t:Int)=some (((goA (Yl l p) t 0).1:Int),((goA (Yl l p) t 0).2:Int)):=by
 have hs:=hp.1;unfold Sm at hs;obtain ⟨c1,c2⟩:=ZiX hpl;have hc:cyc l p=(Yl l p).sum:=by unfold cyc;rw [Uj hpl]
 have e:Int.tmod (t:Int) (cyc l p:Int)=(t:Int):=by rw [Zmy,Nat.mod_eq_of_lt ht]
 unfold Zie;simp [ZmA l p h hp,Ks,show ¬(cyc l p:Int)=0 by omega,show ((cyc l p:Int)==0)=false by simp;omega,show (t:Int)<=1000000 by omega,e,show ¬cyc l p=0 by omega,show (cyc l p==0)=false by simp;omega];refine ZBg (Yl l p) (fun s i=>(l,p,s,i)) (by omega) (by rw [Zdh];omega) t (by omega) rfl fun rec i s n hn hs'=> ?_
 have hi:i < p.length:=by
  have:=(List.getElem?_eq_some_iff.1 hn).1
  rwa [Zdh] at this
 rw [Zmz hi] at hn;cases hn;have e2:=(Ze9 hpl (Ub hi)).2.2;simp [ZrP l p h hp hpl i hi,ZA (show i<=9223372036854775806 by omega),ZB (show -9223372036854775808<=(s:Int) - (lg l p i:Int) by omega) (by omega),ZJ];by_cases c:lg l p i<=s
 ·rw [Uj c,Ui (by omega),Int.natCast_sub c]
 ·rw [Ui c,Uj (by omega)]
theorem ZBi (l:List Path) (p:List Part) (hpl:YQ l p=true) (t:Nat) (ht:t < cyc l p):(goA (Yl l p) t 0).1 < p.length:=by
 have hc:cyc l p=(Yl l p).sum:=by unfold cyc;rw [Uj hpl]
 have:=ZrR (Yl l p) t 0 (by omega);rw [Zdh] at this;omega
theorem ZBj (l:List Path) (p:List Part) (h:Sm l) (hp:SmL p) (hpl:YQ l p=true) (id:Int) (hid:¬ZI l id < 0) (t:Nat) (ht:t < cyc l p):Zif l p (t:Int) id=some (li l p id (goA (Yl l p) t 0).1 (goA (Yl l p) t 0).2):=by
 have hs:=hp.1;unfold Sm at hs;have hi:=ZBi l p hpl t ht;obtain ⟨_,x,_,_,hxid⟩:=Kv hid;have hpid:(ZX l id).id=id:=by
  obtain ⟨i,x,h1,h2,h3⟩:=Kv hid;unfold ZX;rw [h2,UC,h1];exact h3
 unfold Zif Zma;generalize hgi:(goA (Yl l p) t 0).1=i at hi;generalize hgs:(goA (Yl l p) t 0).2=s;have hx:p[i]? =some p[i]:=Ub hi;obtain ⟨h1,_,h3,_⟩:=Zdg hpl;have hg:=h3 _ (Uu hx);have hc:=ZrL (ZX l id);unfold li;rw [hx];simp [X0 l _ h,hid,Xu hid,ZBh l p h hp hpl t ht,hgi,hgs,Zj hx,hpid,VV _ _ (hp.2 _ (Uu hx)),ZrO p hp h1 i hi,VV _ _ (ZrN hp h1 i),Zmd,ZB (show -9223372036854775808<=p[i].green + Xs (ZX l id) by omega) (by omega),show ¬(i:Int) < 0 by omega];cases has p[i].stage id with
 |false=>simp
 |true=>
  simp [ZJ];by_cases c1:(s:Int) < p[i].green
  ·simp [c1]
  ·simp [c1];cases has (JH p i).stage id with
   |true=>simp
   |false=>
    simp;by_cases c2:(s:Int) < p[i].green + Xs (ZX l id) <;> simp [c2]
def VW (l:List Path) (p:List Part) (id:Int):List Int:=(List.range p.length).flatMap fun i=>(List.range (lg l p i)).map fun s=>li l p id i s
theorem ZrT {α:Type} (f:Nat->Nat->α):∀(L:List Nat) (i:Nat),(List.range L.sum).map (fun t=>f (goA L t i).1 (goA L t i).2)=(L.zipIdx i).flatMap fun x=>(List.range x.1).map fun s=>f x.2 s
 | [],i=>rfl
 |n::L,i=>by
  rw [List.sum_cons,List.range_add,UX,Mq,List.zipIdx_cons,List.flatMap_cons,←ZrT f L (i + 1)];congr 1
  ·refine List.map_congr_left fun t ht=> ?_
   have:t < n:=by simpa using ht
   unfold goA;rw [Uj this]
  ·refine List.map_congr_left fun t _=> ?_
   have e:goA (n::L) (n + t) i=goA L t (i + 1):=by
    rw [goA,Ui (by omega)];congr 1;omega
   simp only [Function.comp_apply];rw [e]
theorem ZrU (l:List Path) (p:List Part) (id:Int):VW l p id=(List.range (Yl l p).sum).map fun t=>li l p id (goA (Yl l p) t 0).1 (goA (Yl l p) t 0).2:=by
 rw [ZrT (fun i s=>li l p id i s) (Yl l p) 0];unfold VW Yl;rw [List.zipIdx_map,List.flatMap_map];have:(List.range p.length).zipIdx 0=(List.range p.length).map fun i=>(i,i):=by
  apply UV;intro j;rw [List.getElem?_zipIdx,Mk];by_cases hj:j < p.length
  ·simp [hj]
  ·simp [hj]
 rw [this,List.flatMap_map];rfl
theorem ZmB {l:List Path} {p:List Part} (hpl:YQ l p=true) (id:Int):(VW l p id).length=cyc l p:=by
 rw [ZrU];simp [cyc,hpl]
def QI (l:List Path) (p:List Part) (id:Int):List Bool:=(VW l p id).map fun x=>x==1
theorem ZBk (l:List Path) (p:List Part) (h:Sm l) (hp:SmL p) (hpl:YQ l p=true) (id:Int) (hid:¬ZI l id < 0):ZcZ l p id=some (QI l p id):=by
 have hs:=hp.1;unfold Sm at hs;obtain ⟨c1,c2⟩:=ZiX hpl;have hc:cyc l p=(Yl l p).sum:=by unfold cyc;rw [Uj hpl]
 have hgl:(QI l p id).length=cyc l p:=by unfold QI;rw [Uv,ZmB hpl]
 unfold ZcZ;simp [X0 l _ h,hid,ZmA l p h hp];rw [Zs (by constructor <;> omega)];refine (YC (QI l p id) (by omega) (fun k acc=>((l,p,id,(cyc l p:Int),(k:Int)),acc)) (List.replicate (cyc l p) false) (fun k acc=>acc=(QI l p id).take k ++ List.replicate ((QI l p id).length - k) false) (by simp [hgl]) (fun _ _ _=>some (QI l p id)) rfl ?_ ?_).trans rfl
 ·intro rec acc ha;simp [hgl,ha];rw [←hgl];simp
 ·intro rec k x acc ha hx hk hr;have hk':k < cyc l p:=by omega
  have hx':x=(li l p id (goA (Yl l p) k 0).1 (goA (Yl l p) k 0).2==1):=by
   unfold QI at hx;rw [ZrU] at hx;simp [show k < (Yl l p).sum by omega] at hx;exact hx.symm
  have hal:k < acc.length:=by rw [ha];simp;omega
  simp only [UA] at hr;have hz:acc[k]? =some acc[k]:=Ub hal;simp [hk',ZBj l p h hp hpl id hid k hk',hal,Zeh hz,ZA (show k<=9223372036854775806 by omega),←hx'];refine hr _ ?_;rw [ha];exact Zla hx
def gW (r:List Int):List Nat->Int->Int->Int
 | [],b,_=>if (r.length:Int) < b then r.length else b
 |k::ks,b,n=>if ((r[k % r.length]?).getD 0==1)=true then gW r ks (if b < 0 then 0 else b) 0 else gW r ks (if b < n + 1 then n + 1 else b) (n + 1)
def ZiY (l:List Path) (p:List Part) (id:Int):Int:=gW (VW l p id) (List.range (2 * cyc l p)) 0 0
theorem ZBl {k n:Nat}:Int.tmod (k:Int) (n:Int)=((k % n:Nat):Int):=Zmy
theorem ZBm (l:List Path) (p:List Part) (h:Sm l) (hp:SmL p) (hpl:YQ l p=true) (id:Int) (hid:¬ZI l id < 0):Zc0 l p id=some (ZiY l p id):=by
 have hrl:=ZmB hpl id;have hgl:(QI l p id).length=cyc l p:=by unfold QI;rw [Uv,ZmB hpl]
 obtain ⟨c1,c2⟩:=ZiX hpl;unfold Zc0 ZiY;simp only [Zw,Jo,ZBk l p h hp hpl id hid,Ze,ZlL,ZzR,hgl];rw [show W (2 * (cyc l p:Int))=((2 * cyc l p:Nat):Int) by rw [ZB (by omega) (by omega)];omega];refine (YC (List.range (2 * cyc l p)) (by simp;omega) (fun k (z:Int×Int)=>(QI l p id,z.1,z.2,((2 * cyc l p:Nat):Int),(k:Int))) ((0:Int),(0:Int)) (fun k z=>0<=z.2/\z.2<=k) (by simp) (fun ks _ z=>some (gW (VW l p id) ks z.1 z.2)) rfl ?_ ?_).trans rfl
 ·intro rec z hz;simp [gW,hgl,hrl]
 ·intro rec k x z hz hx hk hr;have hk':k < 2 * cyc l p:=by simpa using hk
  have hxk:x=k:=by
   rw [List.getElem?_range hk'] at hx;exact (UB hx).symm
  subst hxk;have hm:x % cyc l p < cyc l p:=Nat.mod_lt _ (by omega);have hg:(QI l p id)[x % cyc l p]? =some (((VW l p id)[x % cyc l p]?).getD 0==1):=by
   unfold QI;rw [Mk,Ub (by omega)];rfl
  have hgz:∀{β:Type} (K:Bool->Option β),ZU (QI l p id) ((x:Int) % (cyc l p:Int)) K=K (((VW l p id)[x % cyc l p]?).getD 0==1):=fun K=>by
   have:=Zj hg K
   rwa [Int.natCast_emod] at this
  simp only [UA] at hr;simp [hgl,show (x:Int) < 2 * (cyc l p:Int) by omega,ZBl,hgz,ZA (show x<=9223372036854775806 by omega),ZB (show -9223372036854775808<=z.2 + 1 by omega) (by omega),show ¬cyc l p=0 by omega,gW,hrl];by_cases c:((VW l p id)[x % cyc l p]?).getD 0=1
  ·have:=hr (if z.1 < 0 then 0 else z.1,0) (by constructor <;> omega);simp [c];simpa using this
  ·have:=hr (if z.1 < z.2 + 1 then z.2 + 1 else z.1,z.2 + 1) (by constructor <;> simp <;> omega);simp [c,show (((VW l p id)[x % cyc l p]?).getD 0==1)=false by simp [c]];simpa using this
theorem ZrV (l:List Path) (h:Sm l):ZW l=some l:=by
 unfold Sm at h;unfold ZW;rw [ZiR]
 ·simp only [Zt,Zl,Zn,Zu,Zv,YP,ZqY,Zw,US];rw [Zs (by omega)]
 ·intro h0;have:l= []:=by cases l with |nil=>rfl |cons a l=>cases h0
  subst this;simp
theorem Zfa (l:List Want) (h:Sm l):Jw l=some l:=by
 unfold Sm at h;unfold Jw;rw [ZiR]
 ·simp only [XK,ZcB,ZT,US];rw [Zs (by omega)]
 ·intro h0;have:l= []:=by cases l with |nil=>rfl |cons a l=>cases h0
  subst this;simp
theorem ZBn (l:List Lamp) (h:Sm l):Zhx l=some l:=by
 unfold Sm at h;unfold Zhx;rw [ZiR]
 ·simp only [ZcC,Zq2,Z5,US];rw [Zs (by omega)]
 ·intro h0;have:l= []:=by cases l with |nil=>rfl |cons a l=>cases h0
  subst this;simp
theorem Zdi (x:Control) (h:ZZ x):Vu x=some x:=by
 obtain ⟨h1,h2⟩:=h;unfold Sm at h1 h2;unfold Vu;simp only [Zt,Zl,Zn,Zu,Zv,Yg,US,Zcx,Zr];rw [Zs (by omega),Zs (by omega)]
theorem Zfb (x:Control) (h:ZZ x):Jx x=some x:=by
 obtain ⟨h1,h2⟩:=h;unfold Jx;simp [KB _ h1,KB _ h2]
theorem ZiZ {o p q:Own} (h0:okO o p=true) (h1:okO o q=true) (l:List Note) (a:Int) (b:List Int) (c:Int) {β:Type} (K:List Note->Option β):
  rws (Zc o) (l.map (Zc p).enc ++ [[I a, .slc q 1 (b.map iR.enc),I c]]) K=K (l ++ [(⟨a,b,c⟩:Note)]):=
 (Zad _ _ _ K).trans ((Zen h0 l _).trans (Kk h1 a b c fun l'=>K (l ++ l')))
@[simp] theorem ZLI (l:List Note) (a:Int) (b:List Int) (c:Int) {β:Type} (K:List Note->Option β):rws (Zc Own.shr) (l.map (Zc Own.shr).enc ++ [[I a, .slc Own.shr 1 (b.map iR.enc),I c]]) K=K (l ++ [(⟨a,b,c⟩:Note)]):=ZiZ (o:= .shr) (p:= .shr) (q:= .shr) rfl rfl l a b c K
@[simp] theorem ZLJ (l:List Note) (a:Int) (b:List Int) (c:Int) {β:Type} (K:List Note->Option β):rws (Zc Own.shr) (l.map (Zc Own.shr).enc ++ [[I a, .slc Own.own 1 (b.map iR.enc),I c]]) K=K (l ++ [(⟨a,b,c⟩:Note)]):=ZiZ (o:= .shr) (p:= .shr) (q:= .own) rfl rfl l a b c K
@[simp] theorem ZLK (l:List Note) (a:Int) (b:List Int) (c:Int) {β:Type} (K:List Note->Option β):rws (Zc Own.own) (l.map (Zc Own.own).enc ++ [[I a, .slc Own.own 1 (b.map iR.enc),I c]]) K=K (l ++ [(⟨a,b,c⟩:Note)]):=ZiZ (o:= .own) (p:= .own) (q:= .own) rfl rfl l a b c K
@[simp] theorem ZLL (l:List Note) (a:Int) (b:List Int) (c:Int) {β:Type} (K:List Note->Option β):rws (Zc Own.shr) (l.map (Zc Own.own).enc ++ [[I a, .slc Own.own 1 (b.map iR.enc),I c]]) K=K (l ++ [(⟨a,b,c⟩:Note)]):=ZiZ (o:= .shr) (p:= .own) (q:= .own) rfl rfl l a b c K
abbrev SmR (l:List Note):Prop:=Sm l/\∀y∈l,QE y
theorem Zi0 (l:List Note) (h:SmR l):Zar l=some l:=by
 obtain ⟨h1,h2⟩:=h;unfold Sm at h1;unfold Zar;simp only [Zt,Zl,Zn,Zu,Zv,Z6,Yc,Z3,QB];refine (Zmf l id (by omega) (fun k acc=>(l,(acc,(k:Int)))) some rfl ?_ ?_).trans (by simp)
 ·intro rec acc ha;simp
 ·intro rec k x acc hx hk ha;have hs:=h2 x (Yu hx);unfold QE Sm at hs;simp [hk,Zj hx,ZA (show k<=9223372036854775806 by omega),ha,show (k + 1) * 40<=140737488355328 by omega,show k<=1152921504606846975 by omega,show x.lights.length * 8<=140737488355328 by omega,show x.lights.length<=1152921504606846976 by omega]
theorem ZmC (l:List Note) (h:SmR l):ZbB l=some l:=by
 obtain ⟨h1,h2⟩:=h;unfold Sm at h1;unfold ZbB;simp only [Zt,Zl,Zn,Zu,Zv,Z6,Yc,Z3,QB];refine (Zmf l id (by omega) (fun k acc=>(acc,l,(l.length:Int),(k:Int))) some rfl ?_ ?_).trans (by simp)
 ·intro rec acc ha;simp
 ·intro rec k x acc hx hk ha;simp [hk,Zj hx,KB _ (h2 x (Yu hx)),ZA (show k<=9223372036854775806 by omega),ha,show (k + 1) * 40<=140737488355328 by omega,show k<=1152921504606846975 by omega]
theorem ZaO (t:Town) (h:ZE t):XN t=some t:=by
 obtain ⟨h0,h1,h2,h3,h4⟩:=h;unfold XN;simp only [Zt,Zl,Zn,Zu,Zv,Zr,ZD,Zdi _ h1,Zi0 _ h4,Ze,Z6,Yc,Z3,YP,XK,ZcC,US,ZqY,ZcB,Zq2,Zw,ZT,Z5,Z4];unfold Sm at h0 h2 h3;rw [Zs (by omega),Zs (by omega),Zs (by omega)]
theorem VX (t:Town) (h:ZE t):Yt t=some t:=by
 obtain ⟨h0,h1,h2,h3,h4⟩:=h;unfold Yt;simp only [Zt,Zl,Zn,Zu,Zv,ZrV _ h0,Zfa _ h2,ZBn _ h3,Zr,ZD,Zfb _ h1,Ze,Z6,Yc,Z3,Zw,ZT,Z5,Zr,ZmC _ h4,Z4]
def KC (l:List Note):Int:=match l.getLast? with |some e=>e.sig |none=>0
theorem Zdj {l:List Note} {e:Note} (h:l.getLast? =some e):l[l.length - 1]? =some e/\0 < l.length:=by
 cases l with
 |nil=>cases h
 |cons a l=>rw [List.getLast?_eq_getElem?] at h;exact ⟨h,by simp⟩
theorem ZBo (l:List Note) (h:SmR l):Zg7 l=some (KC l):=by
 have h1:=h.1;unfold Sm at h1;unfold Zg7 KC;simp only [QB,Kl,Km,Zah];cases hl:l.getLast? with
 |none=>
  have:l= []:=by simpa using hl
  subst this;rfl
 |some e=>
  obtain ⟨e1,e2⟩:=Zdj hl;have hk1:W ((l.length:Int) - 1)=((l.length - 1:Nat):Int):=by rw [ZB (by omega) (by omega)];omega
  rw [hk1,Zj e1,show (((l.length:Nat):Int)==0)=false from MG.2 (by omega),Zh]
theorem ZBp (l:List Note) (h:SmR l):ZhE l=some (KC l):=by
 have h1:=h.1;unfold Sm at h1;unfold ZhE KC;simp only [QB,Kl,Km,Zah];cases hl:l.getLast? with
 |none=>
  have:l= []:=by simpa using hl
  subst this;rfl
 |some e=>
  obtain ⟨e1,e2⟩:=Zdj hl;have hk1:W ((l.length:Int) - 1)=((l.length - 1:Nat):Int):=by rw [ZB (by omega) (by omega)];omega
  rw [hk1,Zj e1,show (((l.length:Nat):Int)==0)=false from MG.2 (by omega),Zh]
def Zi1 (l:List Note) (s:Int) (v:List Int):Note:=⟨s,v,Xt (KC l) s v⟩
def JI (l:List Note) (s:Int) (v:List Int):List Note×Bool:=if YJ (l ++ [Zi1 l s v])=true then (l ++ [Zi1 l s v],true) else (l,false)
theorem ZmD {l:List Note} {e:Note} (h:SmR l) (hl:l.length<=1000) (he:Sm e.lights):SmR (l ++ [e]):=by
 refine ⟨by unfold Sm;simp;omega,fun y hy=> ?_⟩;rcases List.mem_append.1 hy with hy |hy
 ·exact h.2 y hy
 ·rw [Ma] at hy;subst hy;exact he
theorem ZmE (l:List Note) (s:Int) (v:List Int) (h:SmR l) (hl:l.length<=1000) (hv:Sm v):Jt l s v=some (JI l s v):=by
 have hv':=hv;unfold Sm at hv';have ho:SmR (l ++ [(⟨s,v,Xt (KC l) s v⟩:Note)]):=ZmD h hl hv;unfold Jt JI Zi1;simp [Zi0 l h,ZBo l h,Zrh _ s v hv,ZiD _ ho,show v.length * 8<=140737488355328 by omega,show v.length<=1152921504606846976 by omega,show (l.length + 1) * 40<=140737488355328 by omega,show l.length<=1152921504606846975 by omega];cases YJ (l ++ [(⟨s,v,Xt (KC l) s v⟩:Note)]) <;> simp
theorem ZrW (l:List Note) (s:Int) (v:List Int) (h:SmR l) (hl:l.length<=1000) (hv:Sm v):ZcU l s v=some (JI l s v):=by
 have ho:SmR (l ++ [(⟨s,v,Xt (KC l) s v⟩:Note)]):=ZmD h hl hv;unfold ZcU JI Zi1;simp [ZmC l h,KB v hv,ZBp l h,Zri _ s v hv,Ze1 _ ho,show (l.length + 1) * 40<=140737488355328 by omega,show l.length<=1152921504606846975 by omega];cases YJ (l ++ [(⟨s,v,Xt (KC l) s v⟩:Note)]) <;> simp
def Xx (l:List Note) (s:Int) (v:List Int):List Note×Bool:=match l.getLast? with
 |some e=>if e.lights=v then (l,YJ l && (decide (e.second < s) && inR s 0 1000000)) else JI l s v
 |none=>JI l s v
theorem ZBq (l:List Note) (s:Int) (v:List Int) (h:SmR l) (hl:l.length<=1000) (hv:Sm v):Zby l s v=some (Xx l s v):=by
 unfold Zby Xx;simp only [Zt,Zl,Zn,Zu,Zv,Z6,Yc,Z3,Zr,QB,Kl,Km,Zah,ZmE l s v h hl hv,Zi0 l h,ZiD l h,Ze];cases hg:l.getLast? with
 |none=>
  have:l= []:=by simpa using hg
  subst this;rfl
 |some e=>
  obtain ⟨e1,e2⟩:=Zdj hg;have hk1:W ((l.length:Int) - 1)=((l.length - 1:Nat):Int):=by rw [ZB (by omega) (by omega)];omega
  have he:Sm e.lights:=h.2 e (Yu e1);rw [hk1,Zj e1,show (((l.length:Nat):Int)==0)=false from MG.2 (by omega),Zh,Zj e1];simp only [Zrm _ v he,Ze,ZiA];by_cases c:e.lights=v
  ·simp only [c,Mt,Uk,Zh];cases YJ l <;> by_cases c2:e.second < s <;> simp [c2,inR]
  ·simp [c]
theorem ZrX (l:List Note) (s:Int) (v:List Int) (h:SmR l) (hl:l.length<=1000) (hv:Sm v):Ql l s v=some (Xx l s v):=by
 unfold Ql Xx;simp only [Zt,Zl,Zn,Zu,Zv,Z6,Yc,Z3,Zr,QB,Kl,Km,Zah,ZrW l s v h hl hv,ZmC l h,Ze1 l h,Ze];cases hg:l.getLast? with
 |none=>
  have:l= []:=by simpa using hg
  subst this;rfl
 |some e=>
  obtain ⟨e1,e2⟩:=Zdj hg;have hk1:W ((l.length:Int) - 1)=((l.length - 1:Nat):Int):=by rw [ZB (by omega) (by omega)];omega
  have he:Sm e.lights:=h.2 e (Yu e1);rw [hk1,Zj e1,show (((l.length:Nat):Int)==0)=false from MG.2 (by omega),Zh,Zj e1];simp only [Zc9 _ v he,Ze,Ks];by_cases c:e.lights=v
  ·simp only [c,Mt,Uk,Zh];cases YJ l <;> by_cases c2:e.second < s <;> simp [c2,inR]
  ·simp [c]
theorem ZmF {l:List Note} {s:Int} {v:List Int} (h:SmR l) (hl:l.length<=1000) (hv:Sm v):SmR (JI l s v).1:=by
 unfold JI;split
 ·exact ZmD h hl hv
 ·exact h
theorem ZrY {l:List Note} {s:Int} {v:List Int} (h:SmR l) (hl:l.length<=1000) (hv:Sm v):SmR (Xx l s v).1:=by
 unfold Xx;split
 ·split
  ·exact h
  ·exact ZmF h hl hv
 ·exact ZmF h hl hv
def Va (t:Town):List Note:=match t.record.getLast? with
 |some e=>if e.second=t.now then t.record.dropLast else t.record
 |none=>t.record
def Xh (t:Town):Town:=
 if (Xx (Va t) t.now (YE t)).2=false/\(Va t).length=60 then {t with record:=(Xx [] t.now (YE t)).1,books:=t.books + 1}
 else {t with record:=(Xx (Va t) t.now (YE t)).1}
theorem KD:SmR []:=⟨by unfold Sm;simp,fun y hy=>by cases hy⟩
theorem ZmG {t:Town} (h:SmR t.record):SmR (Va t):=by
 have h1:=h.1;unfold Sm at h1;unfold Va;split
 ·split
  ·refine ⟨by unfold Sm;simp;omega,fun y hy=>h.2 y ((List.dropLast_sublist _).subset hy)⟩
  ·exact h
 ·exact h
theorem ZmH (t:Town):(Va t).length<=t.record.length:=by
 unfold Va;split
 ·split
  ·simp
  ·exact Uq _
 ·exact Uq _
theorem Zi2 (x:Town) (h:ZE x):Sm (YE x):=by
 have h0:=h.1;unfold Sm YE Xw at *
 split
 ·split
  ·simpa using h0
  ·simp
 ·simpa using h0
theorem ZBr {t:Town} (h:ZE t) (hl:t.record.length<=1000):ZE (Xh t):=by
 have hv:=Zi2 t h;have hc:=ZmH t;obtain ⟨h0,h1,h2,h3,h4⟩:=h;unfold Xh;split
 ·exact ⟨h0,h1,h2,h3,ZrY KD (by simp) hv⟩
 ·exact ⟨h0,h1,h2,h3,ZrY (ZmG h4) (by omega) hv⟩
theorem ZBs {α:Type} (l:List α):l.take (l.length - 1)=l.dropLast:=List.dropLast_eq_take.symm
theorem ZrZ {t:Town} {e:Note} (hg:t.record.getLast? =some e):Va t=if e.second=t.now then t.record.take (t.record.length - 1) else t.record:=by
 unfold Va;rw [hg,ZBs]
theorem ZBt (s:Int) (v:List Int):Xx [] s v=JI [] s v:=rfl
theorem ZBu (t:Town) (h:ZE t) (hl:t.record.length<=1000) (hb:0<=t.books/\t.books<=1000):Kn t=some (Xh t):=by
 have hv:=Zi2 t h;have h4:=h.2.2.2.2;have hc:=ZmH t;have hcs:=ZmG h4;unfold Kn Xh;simp only [Zt,Zl,Zn,Zu,Zv,Zw,Zr,ZT,Z5,Z6,Yc,Z3,ZD,Z4,ZAV t h,Ze,QB,Kl,Km,Zah];have last:∀l:List Note,l.length<=1000->SmR l->(bnd (Zby l t.now (YE t)) fun r=>cnd (!r.2) (cnd ((l.length:Int)==60) (bnd (Jt [] t.now (YE t)) fun r5=>bnd (VR 1000 t.books) fun r6=>some ({t with record:=r5.1,books:=W (r6 + 1)}:Town)) (some {t with record:=r.1})) (some {t with record:=r.1}))=
   some (if (Xx l t.now (YE t)).2=false/\l.length=60 then {t with record:=(Xx [] t.now (YE t)).1,books:=t.books + 1} else {t with record:=(Xx l t.now (YE t)).1}):=by
  intro l h1 h2;simp only [ZBq l t.now _ h2 h1 hv,ZmE [] t.now _ KD (by simp) hv,Ze2,Ze,ZBt,show (if t.books < 1000 then t.books else 1000)=t.books by split <;> omega];rw [ZB (by omega) (by omega)];cases (Xx l t.now (YE t)).2 <;> by_cases c:l.length=60 <;> simp [c,ZJ] <;> omega
 cases hg:t.record.getLast? with
 |none=>
  have hn:t.record= []:=by simpa using hg
  have hcut:Va t=t.record:=by unfold Va;rw [hg]
  rw [hcut];rw [←last t.record hl h4];simp [hn]
 |some e=>
  obtain ⟨e1,e2⟩:=Zdj hg;have hk1:W ((t.record.length:Int) - 1)=((t.record.length - 1:Nat):Int):=by rw [ZB (by omega) (by omega)];omega
  rw [hk1,show decide (((t.record.length:Nat):Int) > 0)=true from Ut (by omega),Zp,Zj e1];rw [ZrZ hg] at hcs ⊢;by_cases c:e.second=t.now
  ·rw [Uj c] at hcs ⊢;simp only [c,M7,Zp];rw [Zs (by omega),UC,show Int.toNat 0=0 from rfl,M1];simp only [Zt,Zl,Zn,Zu,Zv,Zq3,Z6,Yc,Z3,Zi0 _ hcs,Ze,QB];exact last _ (by simp;omega) hcs
  ·rw [Ui c];simp only [show (e.second==t.now)=false from MG.2 c,Zh];exact last _ hl h4
theorem ZBv (t:Town) (h:ZE t) (hl:t.record.length<=1000) (hb:0<=t.books/\t.books<=1000):Q3 t=some (Xh t):=by
 have hv:=Zi2 t h;have h4:=h.2.2.2.2;have hc:=ZmH t;have hcs:=ZmG h4;unfold Q3 Xh;simp only [Zt,Zl,Zn,Zu,Zv,Zw,Zr,ZT,Z5,Z6,Yc,Z3,Z3,ZD,Z4,Ze6 t h,Ze,QB,Km];have last:∀l:List Note,l.length<=1000->SmR l->(cnd ((l.length:Int)==60) (bnd (Ql l t.now (YE t)) fun r=>cnd r.2 (some ({t with record:=r.1}:Town)) (bnd (Ql [] t.now (YE t)) fun r4=>some {t with record:=r4.1,books:=W (t.books + 1)})) (bnd (Ql l t.now (YE t)) fun r=>some {t with record:=r.1}))=
   some (if (Xx l t.now (YE t)).2=false/\l.length=60 then {t with record:=(Xx [] t.now (YE t)).1,books:=t.books + 1} else {t with record:=(Xx l t.now (YE t)).1}):=by
  intro l h1 h2;simp only [ZrX l t.now _ h2 h1 hv,ZrX [] t.now _ KD (by simp) hv,Ze];rw [ZB (by omega) (by omega)];cases (Xx l t.now (YE t)).2 <;> by_cases c:l.length=60 <;> simp [c,ZJ] <;> omega
 cases hg:t.record.getLast? with
 |none=>
  have hn:t.record= []:=by simpa using hg
  have hcut:Va t=t.record:=by unfold Va;rw [hg]
  rw [hcut];rw [←last t.record hl h4];simp [hn]
 |some e=>
  obtain ⟨e1,e2⟩:=Zdj hg;have hk1:W ((t.record.length:Int) - 1)=((t.record.length - 1:Nat):Int):=by rw [ZB (by omega) (by omega)];omega
  rw [hk1,show decide (((t.record.length:Nat):Int) > 0)=true from Ut (by omega),Zp,Zj e1];rw [ZrZ hg] at hcs ⊢;by_cases c:e.second=t.now
  ·rw [Uj c] at hcs ⊢;simp only [c,M7,Zp];rw [Zs (by omega),UC,show Int.toNat 0=0 from rfl,M1];simp only [Zt,Zl,Zn,Zu,Zv,Zq3,Yc,QB];exact last _ (by simp;omega) hcs
  ·rw [Ui c];simp only [show (e.second==t.now)=false from MG.2 c,Zh];exact last _ hl h4
def Xy (t o:Town) (ok:Bool):Town×Bool:=if ok && (ZR t && ZR o) then (o,true) else (t,false)
theorem ZbS (t o:Town) (ok:Bool) (h:ZE t) (h':ZE o):Jv t o ok=some (Xy t o ok):=by
 unfold Jv Xy;simp only [Zt,Zl,Zn,Zu,Zv,Zw,Zr,ZT,Z5,Z6,Yc,Z3,ZD,Z4,ZaO t h,Ze7 t h,Ze7 o h',Ze];cases ok <;> cases ZR t <;> cases ZR o <;> simp [ZD,Z4]
theorem ZaP (t o:Town) (ok:Bool) (h:ZE t) (h':ZE o):QD t o ok=some (Xy t o ok):=by
 unfold QD Xy;simp only [Zt,Zl,Zn,Zu,Zv,Zw,Zr,ZT,Z5,Z6,Yc,Z3,Z3,ZD,Z4,VX t h,KA t h,KA o h',Ze];cases ok <;> cases ZR t <;> cases ZR o <;> simp [ZD,Z4]
theorem Zdk {t o:Town} {ok:Bool} (h:ZE t) (h':ZE o):ZE (Xy t o ok).1:=by
 unfold Xy;split
 ·exact h'
 ·exact h
theorem ZBw (l:List Path) (id:Int) (hl:Sm l):ZcV l id=some (Kz l id):=by
 unfold ZcV Kz;simp only [Zt,Zl,Zn,Zu,Zv,Zw,X0 _ _ hl,Ze,XJ,ZJ];by_cases hf:ZI l id < 0
 ·simp [hf,show ¬(ZI l id>=0) by omega]
 ·simp [hf,show (0:Int)<=ZI l id by omega,Xu hf]
def JJ (l:List Path) (x:Prio) (p:Int):Prio×Bool:=if YY l x && (x.path==0 && Kz l p) then (⟨p,20⟩,true) else (x,false)
theorem ZBx {l:List Path} {x:Prio} (h:YY l x=true) (p:Int):YY l ⟨p,20⟩=Kz l p:=by
 unfold YY at *
 rw [Ua] at h;have:((⟨p,20⟩:Prio)=⟨0,0⟩)=False:=by simp
 simp [h.1,this,inR]
theorem ZBy (l:List Path) (x:Prio) (p:Int) (hl:Sm l):Zhg l x p=some (JJ l x p):=by
 unfold Zhg JJ;simp only [Zt,Zl,Zn,Zu,Zv,Zw,ZiP _ _ hl,Ze];cases h:YY l x with
 |false=>simp
 |true=>
  rw [ZBx h];by_cases c:x.path=0
  ·cases Kz l p <;> simp [c]
  ·simp [show (x.path != 0)=true by simpa using c,show (x.path==0)=false by simpa using c]
theorem ZBz (l:List Path) (x:Prio) (p:Int) (hl:Sm l):ZhP l x p=some (JJ l x p):=by
 unfold ZhP JJ;simp only [Zt,Zl,Zn,Zu,Zv,Zw,ZiQ _ _ hl,ZBw _ _ hl,Ze];cases h:YY l x with
 |false=>simp
 |true=>
  by_cases c:x.path=0
  ·cases Kz l p <;> simp [c]
  ·simp [show (x.path != 0)=true by simpa using c,show (x.path==0)=false by simpa using c]
def VF (t:Town) (p:Int):Town×Bool:=Xy t {t with prio:=(JJ t.paths t.prio p).1} (JJ t.paths t.prio p).2
theorem ZBA (t:Town) (p:Int) (h:ZE t):Zhh t p=some (VF t p):=by
 have h':ZE {t with prio:=(JJ t.paths t.prio p).1}:=h;unfold Zhh VF;simp only [Zt,Zl,Zn,Zu,Zv,Zw,Zr,ZT,Z5,Z6,Yc,Z3,ZD,Z4,ZaO t h,ZBy _ _ _ h.1,Ze,ZbS t _ _ h h']
theorem ZBB (t:Town) (p:Int) (h:ZE t):ZhQ t p=some (VF t p):=by
 have h':ZE {t with prio:=(JJ t.paths t.prio p).1}:=h;unfold ZhQ VF;simp only [Zt,Zl,Zn,Zu,Zv,Zw,Zr,ZT,Z5,Z6,Yc,Z3,ZD,Z4,VX t h,ZBz _ _ _ h.1,Ze,ZaP t _ _ h h']
theorem Zr0 {t:Town} (h:ZE t) (p:Int):ZE (VF t p).1:=Zdk h h
def Qn (l:List Path) (id:Int):Bool:= !decide (ZI l id < 0) && (ZX l id).kind != 2
theorem ZmI (l:List Path) (id:Int) (hl:Sm l):ZcW l id=some (Qn l id):=by
 unfold ZcW Qn;simp only [Zt,Zl,Zn,Zu,Zv,Zw,X0 _ _ hl,Ze,XJ,ZJ];by_cases hf:ZI l id < 0
 ·simp [hf,show ¬(ZI l id>=0) by omega]
 ·simp [hf,show (0:Int)<=ZI l id by omega,Xu hf]
def Qo (l:List Path) (x:Control):Bool:=ZP l x && (x.next.isEmpty && decide (x.since>=if Xg l x.stage=7 then 7 else 4))
theorem ZBC (l:List Path) (x:Control) (h:Sm l) (hx:ZZ x):Zhj l x=some (Qo l x):=by
 unfold Zhj Qo;simp only [Zt,Zl,Zn,Zu,Zv,Zw,Zr,ZD,ZrI l _ h hx.1,JD l x h hx,Ze,Yg,Qm];by_cases c:Xg l x.stage=7
 ·simp only [c,M7,Zp,U3];cases ZP l x <;> cases x.next.isEmpty <;> simp
 ·simp only [show (Xg l x.stage==7)=false from MG.2 c,Zh,Ui c];cases ZP l x <;> cases x.next.isEmpty <;> simp
theorem ZBD (l:List Path) (x:Control) (h:Sm l) (hx:ZZ x):ZhT l x=some (Qo l x):=by
 unfold ZhT Qo;simp only [Zt,Zl,Zn,Zu,Zv,Zw,Zr,ZD,ZiW l _ h hx.1,Ky l x h hx,Ze,Yg,Zmm];by_cases c:Xg l x.stage=7
 ·simp only [c,M7,Zp,U3];cases ZP l x <;> cases x.next.isEmpty <;> simp
 ·simp only [show (Xg l x.stage==7)=false from MG.2 c,Zh,Ui c];cases ZP l x <;> cases x.next.isEmpty <;> simp
theorem ZBE (p:Path):0<=Xs p/\Xs p<=5:=by
 unfold Xs;split
 ·split
  ·omega
  ·split <;> omega
 ·omega
theorem ZBF {n c:Int} (h:0<=n/\n<=5) (h':0<=c/\c<=5):0<=Kx n c/\Kx n c<=5:=by unfold Kx;split <;> omega
theorem Zr1 (l:List Path) (x:Int):∀(s:List Int) (n:Int),0<=n/\n<=5->0<=s.foldl (Q7 l x) n/\s.foldl (Q7 l x) n<=5
 | [],n,h=>h
 |y::s,n,h=>by
  rw [Me];refine Zr1 l x s _ ?_;unfold Q7;split
  ·exact ZBF h (ZBE _)
  ·exact h
theorem Zr2 (l:List Path) (b:List Int):∀(s:List Int) (n:Int),0<=n/\n<=5->0<=s.foldl (fun n x=>b.foldl (Q7 l x) n) n/\s.foldl (fun n x=>b.foldl (Q7 l x) n) n<=5
 | [],n,h=>h
 |y::s,n,h=>by
  rw [Me];exact Zr2 l b s _ (Zr1 l y b n h)
theorem Zdl (l:List Path) (a b:List Int):0<=Yx l a b/\Yx l a b<=5:=by
 unfold Yx;split
 ·exact Zr2 l _ _ 0 (by omega)
 ·omega
def Qp (l:List Path) (x:Control) (p:Int):Control×Bool:=
 if Qo l x && (Qn l p && !has x.stage p) then
  (if Yx l x.stage [p]=0 then (⟨[p],0,[],0⟩,true) else (⟨x.stage,x.since,[p],Yx l x.stage [p]⟩,true))
 else (x,false)
theorem Xi (p:Int):Sm [p]:=by unfold Sm;simp
theorem ZBG (l:List Path) (x:Control) (p:Int) (h:Sm l) (hx:ZZ x):Zhk l x p=some (Qp l x p):=by
 unfold Zhk Qp Qn;simp only [Zt,Zl,Zn,Zu,Zv,Zw,Zr,ZD,Zdi x hx,VB _ _ h,ZBC l x h hx,Ze,ZaG _ _ hx.1,XJ,ZqT,Zml l _ _ h hx.1 (Xi p)];cases Qo l x with
 |false=>simp
 |true=>
  by_cases hf:ZI l p < 0
  ·simp [hf]
  ·simp only [hf,Mh,Zh,Xu hf,Uk,UT,UW];by_cases hk:(ZX l p).kind=2
   ·simp [hk]
   ·simp only [show ((ZX l p).kind==2)=false from MG.2 hk,show ((ZX l p).kind != 2)=true from bne_iff_ne.2 hk,Zh,UW];cases has x.stage p with
    |true=>simp
    |false=>
     by_cases hc:Yx l x.stage [p]=0
     ·simp [hc]
     ·simp [hc,show (Yx l x.stage [p]==0)=false from MG.2 hc]
theorem ZBH (l:List Path) (x:Control) (p:Int) (h:Sm l) (hx:ZZ x):ZhU l x p=some (Qp l x p):=by
 have hc0:=(Zdl l x.stage [p]).1;unfold ZhU Qp;simp only [Zt,Zl,Zn,Zu,Zv,Zw,Zr,ZD,Zfb x hx,ZmI _ _ h,ZBD l x h hx,Ze,VV _ _ hx.1,ZqT,ZiL l _ _ h hx.1 (Xi p)];cases Qo l x with
 |false=>simp
 |true=>
  cases Qn l p with
  |false=>simp
  |true=>
    cases has x.stage p with
    |true=>simp
    |false=>
     by_cases hc:Yx l x.stage [p]=0
     ·simp [hc]
     ·simp [hc,show Yx l x.stage [p] > 0 by omega]
def Xa (l:List Path) (x:Control):Control:=
 if ZP l x=true then
  (if x.next.isEmpty=true then {x with since:=if x.since < 1000000 then x.since + 1 else 1000000} else if x.left > 1 then {x with left:=x.left - 1} else ⟨x.next,0,[],0⟩)
 else x
theorem ZaQ {l:List Path} {x:Control} (h:ZP l x=true):(0<=x.since/\x.since<=1000000)/\(x.next.isEmpty=false->1<=x.left/\x.left<=5):=by
 unfold ZP inR at h;simp only [Ua,UH] at h;refine ⟨h.1.2,fun hn=> ?_⟩;have h2:=h.2;rw [Ui (by intro e;rw [e] at hn;cases hn)] at h2;simp only [Ua,UH] at h2;have:=(Zdl l x.stage x.next).2;omega
theorem ZmJ (l:List Path) (x:Control) (h:Sm l) (hx:ZZ x):ZcP l x=some (Xa l x):=by
 unfold ZcP Xa;simp only [Zt,Zl,Zn,Zu,Zv,Zw,Zr,ZD,Zdi x hx,JD l x h hx,Ze,Yg,Qm,Ze2];cases hc:ZP l x with
 |false=>simp
 |true=>
  obtain ⟨h1,h2⟩:=ZaQ hc;cases hn:x.next.isEmpty with
  |true=>
   rw [ZB (by omega) (by omega)];simp;by_cases c:x.since < 1000000
   ·rw [Uj c];by_cases c2:x.since + 1 < 1000000
    ·rw [Uj c2]
    ·rw [Ui c2];omega
   ·rw [Ui c,Ui (by omega)]
  |false=>
   obtain ⟨h3,h4⟩:=h2 hn;rw [show W (x.left - 1)=x.left - 1 from ZB (by omega) (by omega)];by_cases c:x.left > 1
   ·simp [c,show (x.left - 1==0)=false from MG.2 (by omega)]
   ·simp [c,show x.left=1 by omega]
theorem ZmK (l:List Path) (x:Control) (h:Sm l) (hx:ZZ x):ZcX l x=some (Xa l x):=by
 unfold ZcX Xa;simp only [Zt,Zl,Zn,Zu,Zv,Zw,Zr,ZD,Zfb x hx,Ky l x h hx,Ze,Yg,Qm,KB _ hx.2];cases hc:ZP l x with
 |false=>simp
 |true=>
  obtain ⟨h1,h2⟩:=ZaQ hc;cases hn:x.next.isEmpty with
  |true=>
   rw [ZB (by omega) (by omega)];simp;by_cases c:x.since < 1000000
   ·rw [Uj c,Ui (by omega)]
   ·rw [Ui c,Uj (by omega)]
  |false=>
   obtain ⟨h3,h4⟩:=h2 hn;rw [show W (x.left - 1)=x.left - 1 from ZB (by omega) (by omega)];by_cases c:x.left > 1 <;> simp [c]
theorem ZBI {l:List Path} {x:Control} {p:Int} (hx:ZZ x):ZZ (Qp l x p).1:=by
 unfold Qp;split
 ·split
  ·exact ⟨Xi p,by unfold Sm;simp⟩
  ·exact ⟨hx.1,Xi p⟩
 ·exact hx
theorem ZmL {l:List Path} {x:Control} (hx:ZZ x):ZZ (Xa l x):=by
 unfold Xa;split
 ·split
  ·exact hx
  ·split
   ·exact hx
   ·exact ⟨hx.2,by unfold Sm;simp⟩
 ·exact hx
def Y4 (l:List Path) (x:Control) (p:Int):Control:=if (Qp l x p).2=true then (Qp l x p).1 else Xa l x
theorem ZBJ (l:List Path) (x:Control) (p:Int) (h:Sm l) (hx:ZZ x):Zhl l x p=some (Y4 l x p):=by
 unfold Zhl Y4;simp only [Zt,Zl,Zn,Zu,Zv,Zw,Zr,ZD,ZBG l x p h hx,ZmJ l x h hx,Ze];cases (Qp l x p).2 <;> simp [ZD]
theorem Zr3 (l:List Path) (x:Control) (p:Int) (h:Sm l) (hx:ZZ x):ZeL l x p=some (Y4 l x p):=by
 unfold ZeL Y4;simp only [Zt,Zl,Zn,Zu,Zv,Zw,Zr,ZD,ZBH l x p h hx,ZmK l x h hx,Ze];cases (Qp l x p).2 <;> simp [ZD]
theorem Zi3 {l:List Path} {x:Control} {p:Int} (hx:ZZ x):ZZ (Y4 l x p):=by
 unfold Y4;split
 ·exact ZBI hx
 ·exact ZmL hx
theorem Zi4 {l:List Path}:ZM l []=ZN l:=by unfold ZM;rfl
theorem ZaR {l:List Path} {a:List Int} (h:ZM l a=true):ZN l=true:=by
 unfold ZM at h;rw [Ua] at h;exact h.2
theorem Zr4 {l:List Path} {p:Int} (h:ZN l=true) (hp:¬ZI l p < 0):ZM l [p]=true:=by
 unfold ZM;simp [goT,hp,Q5,h]
theorem Zdm {l:List Path} {x:Control} (h:ZP l x=true):x.stage≠ []/\ZM l x.stage=true/\ZM l x.next=true:=by
 unfold ZP at h;simp only [Ua] at h;refine ⟨fun e=> ?_,h.1.1.1.2,h.1.1.2⟩;have:=h.1.1.1.1;rw [e] at this;cases this
theorem ZmM {l:List Path} {x:Control} (h:ZP l x=true):ZP l (Xa l x)=true:=by
 obtain ⟨a1,a2,a3⟩:=Zdm h;obtain ⟨h1,h2⟩:=ZaQ h;have ha:=ZaR a2;unfold Xa;rw [Uj h];unfold ZP inR at h ⊢;simp only [Ua,UH] at h;cases hn:x.next with
 |nil=>
  rw [hn] at h;simp at h;simp [a1,a2,Zi4,ha,h];split <;> omega
 |cons b r=>
  rw [hn] at h a3;have h3:=h2 (by rw [hn];rfl);have h4:=h.2;simp at h4;by_cases c:x.left > 1
  ·simp [c,a1,a2,a3,h1];omega
  ·simp [c,a3,Zi4,ha]
theorem ZBK {l:List Path} {x:Control} {p:Int} (h:ZP l x=true):ZP l (Qp l x p).1=true:=by
 unfold Qp;split
 ·rename_i hc;simp only [Ua,Qn] at hc;have hp:¬ZI l p < 0:=by simpa using hc.2.1.1
  obtain ⟨a1,a2,a3⟩:=Zdm h;obtain ⟨h1,h2⟩:=ZaQ h;have ha:=ZaR a2;have h0:=Zdl l x.stage [p];split
  ·simp [ZP,Zr4 ha hp,Zi4,ha,inR]
  ·simp [ZP,Zr4 ha hp,a1,a2,inR,h1];omega
 ·exact h
theorem ZmN {l:List Path} {x:Control} {p:Int} (h:ZP l x=true):ZP l (Y4 l x p)=true:=by
 unfold Y4;split
 ·exact ZBK h
 ·exact ZmM h
theorem Zr5 {l:List Path}:∀{w:List Want} {pv:Option Int},goW l pv w=true->∀x∈w,ZbQ l x=true
 | [],_,_,x,hx=>by cases hx
 |y::w,pv,h,x,hx=>by
  simp only [goW,Ua] at h;rcases FH.1 hx with rfl |hx
  ·exact h.1.1
  ·exact Zr5 h.2 x hx
theorem Zi5 {l:List Path} {w:List Want} (h:Yk l w=true) {x:Want} (hx:x∈w):¬ZI l x.path < 0/\0<=x.wait/\x.wait<=100000:=by
 unfold Yk at h;rw [Ua] at h;have:=Zr5 h.2 x hx;unfold ZbQ inR at this;simpa using this
theorem Zfc {β:Type} {l:List Path} {y:Control} {id:Int} (hc:ZP l y=true) (h:¬ZI l id < 0) (K:Int->Option β):ZU (Xw l y) (ZI l id) K=K (Xv y id):=by
 obtain ⟨i,x,h1,h2,h3⟩:=Kv h;have:(Xw l y)[i]? =some (Xv y x.id):=by
  unfold Xw;rw [Uj hc,Mk,h1];rfl
 rw [h2,Zj this,h3]
theorem Zr6 {l:List Path} {y:Control} (hc:ZP l y=true):(Xw l y).length=l.length:=by
 unfold Xw;rw [Uj hc,Uv]
def KE (n:Int):Int:=if n < 100000 then n + 1 else 100000
def JK (y:Control) (w:List Want):List Want:=w.filterMap fun x=>if Xv y x.path=1 then none else some ⟨x.path,KE x.wait⟩
theorem Zi6 (l:List Want) (a b:Int) {β:Type} (K:List Want->Option β):rws Zd (l.map Zd.enc ++ [[I a,I b]]) K=K (l ++ [(⟨a,b⟩:Want)]):=
 (Zad _ _ _ K).trans ((ZT l _).trans (ZzX _ _ fun l'=>K (l ++ l')))
theorem Zr7 (l:List Path) (y:Control) (w:List Want) (h:Sm l) (hy:ZZ y) (hw:Sm w) (hc:ZP l y=true) (ha:Yk l w=true):ZcQ l y w=some (JK y w):=by
 unfold Sm at hw;unfold ZcQ JK;simp only [Zt,Zl,Zn,Zu,Zv,Zw,Zr,ZD,Ze5 l y h hy,Ze,ZT,XK,Kj,YX];refine ZiF w _ (by omega) (fun k acc=>(l,w,acc,Xw l y,(k:Int))) some rfl ?_ ?_
 ·intro rec acc ha;simp
 ·intro rec k x acc hx hk hl;obtain ⟨h1,h2,h3⟩:=Zi5 ha (Yu hx);simp [hk,Zj hx,VB _ _ h,Zfc hc h1,ZA (show k<=9223372036854775806 by omega),Ze2,show W (x.wait + 1)=x.wait + 1 from ZB (by omega) (by omega)];by_cases c:Xv y x.path=1
  ·simp [c]
  ·have hb:(if x.wait + 1 < 100000 then x.wait + 1 else 100000)=KE x.wait:=by unfold KE;split <;> split <;> omega
   simp [c,show (Xv y x.path != 1)=true from bne_iff_ne.2 c,hb,Zi6,show (acc.length + 1) * 16<=140737488355328 by omega,show acc.length<=1152921504606846975 by omega]
theorem Zr8 (l:List Path) (y:Control) (w:List Want) (h:Sm l) (hy:ZZ y) (hw:Sm w) (hc:ZP l y=true) (ha:Yk l w=true):ZbH l y w=some (JK y w):=by
 unfold Sm at hw;unfold ZbH JK;simp only [Zt,Zl,Zn,Zu,Zv,Zw,Zr,ZD,ZiM l y h hy,Ze,ZT,XK,Kj,YX,Yg,Zr6 hc];refine ZiF w _ (by omega) (fun k acc=>(l,acc,Xw l y,w,(w.length:Int),(k:Int))) some rfl ?_ ?_
 ·intro rec acc ha;simp
 ·intro rec k x acc hx hk hl;obtain ⟨h1,h2,h3⟩:=Zi5 ha (Yu hx);obtain ⟨i,p,i1,i2,_⟩:=Kv h1;have i3:i < l.length:=(List.getElem?_eq_some_iff.1 i1).1;simp [hk,Zj hx,X0 _ _ h,Zfc hc h1,ZA (show k<=9223372036854775806 by omega),Zr6 hc,h1,show ¬((l.length:Int)<=ZI l x.path) by omega,show W (x.wait + 1)=x.wait + 1 from ZB (by omega) (by omega)];by_cases c:Xv y x.path=1
  ·simp [c]
  ·have hb:(if 100000 < x.wait + 1 then 100000 else x.wait + 1)=KE x.wait:=by unfold KE;split <;> split <;> omega
   simp [c,show (Xv y x.path != 1)=true from bne_iff_ne.2 c,hb,Zi6,show (acc.length + 1) * 16<=140737488355328 by omega,show acc.length<=1152921504606846975 by omega]
theorem Zr9 {y:Control} {w:List Want} (h:Sm w):Sm (JK y w):=Mo (List.length_filterMap_le _ _) h
def JL (r:Prio):Prio:=if r.left<=1 then ⟨0,0⟩ else ⟨r.path,r.left - 1⟩
theorem Zi7 {l:List Path} {x:Prio} (h:YY l x=true):0<=x.left/\x.left<=20:=by
 unfold YY inR at h;simp only [Ua,U9,UH] at h;rcases h.2 with h |h
 ·rw [h];exact ⟨by decide,by decide⟩
 ·omega
theorem Zsa (r:Prio) (h:0<=r.left/\r.left<=20):ZbI r=some (JL r):=by
 unfold ZbI JL;by_cases c:r.left<=1
 ·simp [c]
 ·simp [c];exact ZB (by omega) (by omega)
theorem JM {t:Town} (h:ZR t=true):ZP t.paths t.control=true/\Yk t.paths t.wants=true/\YY t.paths t.prio=true/\QG t.paths t.lamps=true/\YJ t.record=true/\t.record≠ []/\(0<=t.books/\t.books<=1000)/\(0<=t.now/\t.now<=1000000)/\t.record.length<=60:=by
 unfold ZR inR at h;simp only [Ua,UH,UG] at h;have hr:=h.1.1.1.1.1.1.2;refine ⟨h.1.1.1.1.1.1.1.1.1.1,h.1.1.1.1.1.1.1.1.1.2,h.1.1.1.1.1.1.1.1.2,h.1.1.1.1.1.1.1.2,hr,fun e=> ?_,h.1.2,h.2,?_⟩
 ·have:=h.1.1.1.1.1.2;rw [e] at this;cases this
 ·unfold YJ at hr;rw [Ua,UH] at hr;exact hr.1
theorem Zsb (t:Town) (h:ZE t):Zaw t=some (Yv t.paths t.lamps t.power):=by
 unfold Zaw;simp [Zry _ _ _ h.1 h.2.2.2.1]
theorem ZmO (t:Town) (h:ZE t):Vy t=some (Yv t.paths t.lamps t.power):=by
 unfold Vy;simp [Zmn _ _ _ h.1 h.2.2.2.1]
def KF (t:Town) (b:Bool):Town×Bool:=if ZR t && !(t.power==b) then Xy t (Xh {t with power:=b}) true else (t,false)
theorem JN {t u:Town} (h:ZR t=true) (hr:u.record=t.record) (hu:ZE u):ZE (Xh u):=ZBr hu (by rw [hr];have:=(JM h).2.2.2.2.2.2.2.2;omega)
theorem Zsc {t u:Town} (h:ZR t=true) (hr:u.record=t.record) (hb:u.books=t.books) (hu:ZE u):Kn u=some (Xh u):=by
 have:=JM h;exact ZBu u hu (by rw [hr];omega) (by rw [hb];omega)
theorem Zi8 {t u:Town} (h:ZR t=true) (hr:u.record=t.record) (hb:u.books=t.books) (hu:ZE u):Q3 u=some (Xh u):=by
 have:=JM h;exact ZBv u hu (by rw [hr];omega) (by rw [hb];omega)
theorem ZBL (t:Town) (b:Bool) (h:ZE t):ZhW t b=some (KF t b):=by
 have h':ZE {t with power:=b}:=h;unfold ZhW KF;simp only [Zt,Zl,Zn,Zu,Zv,Zw,Zr,ZT,Z5,Z6,Yc,Z3,ZD,Z4,VX t h,KA t h,Ze];cases ht:ZR t with
 |false=>simp
 |true=>
  have e:=Zi8 (u:={t with power:=b}) ht rfl rfl h';have hn:=JN (u:={t with power:=b}) ht rfl h';cases hp:t.power==b with
  |true=>simp
  |false=>simp [e,ZD,Z4,ZaP t _ true h hn]
theorem ZBM {t:Town} (h:ZE t) (b:Bool):ZE (KF t b).1:=by
 unfold KF;split
 ·rename_i hc;rw [Ua] at hc;exact Zdk h (JN (t:=t) hc.1 rfl h)
 ·exact h
def KG (t:Town) (p:Int):Town:=
 if Yv t.paths t.lamps t.power=0 then {t with now:=t.now + 1,control:=Y4 t.paths t.control p,wants:=JK (Y4 t.paths t.control p) t.wants,prio:=JL t.prio} else {t with now:=t.now + 1}
def QJ (t:Town) (p:Int):Town×Bool:=if ZR t && Qn t.paths p then Xy t (Xh (KG t p)) true else (t,false)
theorem ZmP {t:Town} (h:ZE t) (p:Int):ZE (KG t p):=by
 obtain ⟨h0,h1,h2,h3,h4⟩:=h;unfold KG;split
 ·exact ⟨h0,Zi3 h1,Zr9 h2,h3,h4⟩
 ·exact ⟨h0,h1,h2,h3,h4⟩
theorem ZmQ (t:Town) (p:Int):(KG t p).record=t.record/\(KG t p).books=t.books:=by
 unfold KG;split <;> exact ⟨rfl,rfl⟩
theorem ZBN (t:Town) (p:Int) (h:ZE t):Zho t p=some (QJ t p):=by
 have hh:=ZmP h p;obtain ⟨hr,hb⟩:=ZmQ t p;unfold Zho QJ Qn;simp only [Zt,Zl,Zn,Zu,Zv,Zw,Zr,ZT,Z5,Z6,Yc,Z3,ZD,Z4,VB _ _ h.1,ZaO t h,Ze7 t h,Zsb t h,ZBJ _ _ p h.1 h.2.1,Ze,XJ];cases ht:ZR t with
 |false=>simp
 |true=>
  by_cases hf:ZI t.paths p < 0
  ·simp [hf]
  ·simp only [hf,Mh,Zh,Xu hf,Uk,UT,UW];by_cases hk:(ZX t.paths p).kind=2
   ·simp [hk]
   ·simp only [show ((ZX t.paths p).kind==2)=false from MG.2 hk,show ((ZX t.paths p).kind != 2)=true from bne_iff_ne.2 hk,Zh,U3];obtain ⟨p1,p2,p3,p4,p5,p6,p7,p8,p9⟩:=JM ht;have hl:=Zi7 p3;have hw:=Zr7 t.paths (Y4 t.paths t.control p) t.wants h.1 (Zi3 h.2.1) h.2.2.1 (ZmN p1) p2;have e:=Zsc ht hr hb hh;have hn:=JN ht hr hh;rw [show W (t.now + 1)=t.now + 1 from ZB (by omega) (by omega)];unfold KG at e hn ⊢;by_cases c:Yv t.paths t.lamps t.power=0
    ·simp only [c,U3] at e hn ⊢;simp only [M7,Zp,hw,Ze];by_cases c2:t.prio.left > 1
     ·have hs:JL t.prio=⟨t.prio.path,t.prio.left - 1⟩:=by unfold JL;rw [Ui (by omega)]
      rw [hs] at e hn ⊢;simp [c2,e,ZD,Z4,ZbS t _ true h hn,show W (t.prio.left - 1)=t.prio.left - 1 from ZB (by omega) (by omega)]
     ·have hs:JL t.prio=⟨0,0⟩:=by unfold JL;rw [Uj (by omega)]
      rw [hs] at e hn ⊢;simp [c2,e,ZD,Z4,ZbS t _ true h hn]
    ·simp only [c,My] at e hn ⊢;simp [show (Yv t.paths t.lamps t.power==0)=false from MG.2 c,e,ZD,Z4,ZbS t _ true h hn]
theorem ZBO (t:Town) (p:Int) (h:ZE t):ZhV t p=some (QJ t p):=by
 have hh:=ZmP h p;obtain ⟨hr,hb⟩:=ZmQ t p;unfold ZhV QJ;simp only [Zt,Zl,Zn,Zu,Zv,Zw,Zr,ZT,Z5,Z6,Yc,Z3,ZD,Z4,VX t h,KA t h,ZmO t h,ZmI _ _ h.1,Zr3 _ _ p h.1 h.2.1,Ze,XJ];cases ht:ZR t with
 |false=>simp
 |true=>
  cases hk:Qn t.paths p with
  |false=>simp
  |true=>
    obtain ⟨p1,p2,p3,p4,p5,p6,p7,p8,p9⟩:=JM ht;have hl:=Zi7 p3;have hw:=Zr8 t.paths (Y4 t.paths t.control p) t.wants h.1 (Zi3 h.2.1) h.2.2.1 (ZmN p1) p2;have e:=Zi8 ht hr hb hh;have hn:=JN ht hr hh;rw [show W (t.now + 1)=t.now + 1 from ZB (by omega) (by omega)];unfold KG at e hn ⊢;by_cases c:Yv t.paths t.lamps t.power=0
    ·simp only [c,U3] at e hn ⊢;simp [hw,Zsa _ hl,e,ZD,Z4,ZaP t _ true h hn]
    ·simp only [c,My] at e hn ⊢;simp [show (Yv t.paths t.lamps t.power==0)=false from MG.2 c,e,ZD,Z4,ZaP t _ true h hn]
theorem Zsd {t:Town} (h:ZE t) (p:Int):ZE (QJ t p).1:=by
 unfold QJ;split
 ·rename_i hc;rw [Ua] at hc;exact Zdk h (JN hc.1 (ZmQ t p).1 (ZmP h p))
 ·exact h
theorem ZmR {α V β:Type} (l:List α) (p:α->Bool) (hl:l.length<=1099511627776) (st:Nat->V) (R:Nat->Option β) {F:(V->Option β)->V->Option β} {v:V} (hv:v=st 0)
  (h0:∀rec,F rec (st l.length)=R l.length)
  (h1:∀rec k x,l[k]? =some x->k < l.length->F rec (st k)=if p x=true then rec (st (k + 1)) else R k):Zf F NN v=R (l.takeWhile p).length:=by
 refine (Yq l (by omega) (fun k (_:Unit)=>st k) () (fun s k _=>R (k + (s.takeWhile p).length)) hv ?_ ?_).trans (by simp)
 ·intro rec _;rw [h0];simp
 ·intro rec k x _ hx hk hr;rw [h1 rec k x hx hk,Fm];cases p x with
  |true=>
   simp only [U3];rw [hr ()];congr 1;simp;omega
  |false=>simp
def YZ (w:List Want) (p:Int) (k:Nat):List Want:=w.take k ++ [(⟨p,0⟩:Want)] ++ w.drop k
def VG (l:List Path) (w:List Want) (p:Int):List Want×Bool:=
 if Yk l (YZ w p (w.takeWhile fun x=>decide (x.path < p)).length)=true then (YZ w p (w.takeWhile fun x=>decide (x.path < p)).length,true) else (w,false)
theorem Zfd (w:List Want) (p:Int) {k:Nat} (hk:k<=w.length):(YZ w p k).length=w.length + 1:=by
 unfold YZ;simp only [Uh,Uc,Up,Ml];omega
theorem Zi9 {α:Type} (p:α->Bool) (l:List α):(l.takeWhile p).length<=l.length:=(List.takeWhile_sublist p).length_le
theorem ZBP (w:List Want) (p:Int) (k:Nat) {β:Type} (K:List Want->Option β):rws Zd (((w.take k).map Zd.enc ++ [[I p,I 0]]) ++ (w.drop k).map Zd.enc) K=K (YZ w p k):=by
 have e:((w.take k).map Zd.enc ++ [[I p,I 0]]) ++ (w.drop k).map Zd.enc=(YZ w p k).map Zd.enc:=by
  have h1:=UX (f:=Zd.enc) (l₁:=w.take k ++ [(⟨p,0⟩:Want)]) (l₂:=w.drop k);have h2:=UX (f:=Zd.enc) (l₁:=w.take k) (l₂:= [(⟨p,0⟩:Want)]);exact (h1.trans (Ux (· ++ _) h2)).symm
 rw [e];exact ZT _ _
theorem Zse (w:List Want) (p:Int) (k:Nat) {β:Type} (K:List Want->Option β):rws Zd (((w.take k).map Zd.enc ++ [[I p,I 0]]) ++ ((w.take w.length).drop k).map Zd.enc) K=K (YZ w p k):=by
 rw [Fk];exact ZBP w p k K
theorem ZBQ (l:List Path) (w:List Want) (p:Int) (hl:Sm l) (hw:Sm w):Zhf l w p=some (VG l w p):=by
 have hw':=hw;unfold Sm at hw';have hk:=Zi9 (fun x:Want=>decide (x.path < p)) w;unfold Zhf;simp only [Zt,Zl,Zn,Zu,Zv,Zw,ZT,XK,Kj];refine (ZmR w (fun x=>decide (x.path < p)) (by omega) (fun k=>(l,w,p,(k:Int))) (fun k=>some (if Yk l (YZ w p k)=true then (YZ w p k,true) else (w,false))) rfl ?_ ?_).trans rfl
 ·intro rec;rw [show decide (((w.length:Nat):Int) < ((w.length:Nat):Int))=false from Um (by omega),Zh];simp only [UC,show Int.toNat 0=0 from rfl,M1,ZqZ,Zq0,ZcB,XK,US,Uh,Uc,Up,Ml,Zse,Zmo l (YZ w p w.length) hl (by rw [Zfd w p (Uq _)];omega),Ze];rw [Zs (by omega),Zs (by omega),Zs (by omega),Zs (by omega),Zs (by omega)];cases Yk l (YZ w p w.length) with
  |true=>simp
  |false=>
   simp only [UT,Zp,ZT];rw [Zs (by omega)];simp
 ·intro rec k x hx hkl;rw [show decide (((k:Nat):Int) < ((w.length:Nat):Int))=true from Ut (by omega),Zp,Zj hx];by_cases c:x.path < p
  ·simp [c,ZA (show k<=9223372036854775806 by omega)]
  rw [Um c,Zh,Ui (by simp)];simp only [UC,show Int.toNat 0=0 from rfl,M1,ZqZ,Zq0,ZcB,XK,US,Uh,Uc,Up,Ml,Zse,Zmo l (YZ w p k) hl (by rw [Zfd w p (by omega)];omega),Ze];rw [Zs (by omega),Zs (by omega),Zs (by omega),Zs (by omega),Zs (by omega)];cases Yk l (YZ w p k) with
  |true=>simp
  |false=>
   simp only [UT,Zp,ZT];rw [Zs (by omega)];simp
theorem ZBR (w:List Want) (p:Int) (h:Sm w):ZhM w p=some (w.any fun x=>x.path==p):=by
 unfold Sm at h;unfold ZhM Zl4;simp only [ZT,XK];generalize hI:Zf (_:_->_->Option Int) NN _=J0;have hI':J0=match w.findIdx? (fun x=>x.path==p) with |some i=>some (i:Int) |none=>some (-1):=by
  rw [←hI];refine ZbO w (fun x=>x.path==p) (by omega) (fun k=>(w,p,(w.length:Int),(k:Int))) (fun i=>some (i:Int)) (some (-1)) rfl ?_ ?_
  ·intro rec;simp
  ·intro rec k a ha hk;unfold Zl3;simp [hk,Zj ha,ZA (show k<=9223372036854775806 by omega),ZJ]
 rw [hI',←ZbN];cases w.findIdx? (fun x=>x.path==p) <;> simp
theorem Zsf {l:List Path} {p:Int}:∀{w:List Want} {pv:Option Int},goW l pv w=true->∀x∈w,(∀q,pv=some q->q < x.path)
 | [],_,_,x,hx=>by cases hx
 |y::w,pv,h,x,hx=>fun q hq=>by
  simp only [goW,Ua] at h;have h1:q < y.path:=by
   have:=h.1.2;rw [hq] at this;simpa [later] using this
  rcases FH.1 hx with rfl |hx
  ·exact h1
  ·have:=Zsf (p:=p) h.2 x hx _ rfl;omega
theorem ZBS {l:List Path} {a:List Want} {y:Want} {b:List Want}:∀{pv:Option Int},goW l pv (a ++ y::b)=true->∀x∈b,y.path < x.path:=by
 induction a with
 |nil=>
  intro pv h x hx;simp only [Md,goW,Ua] at h;exact Zsf (p:=0) h.2 x hx _ rfl
 |cons z a ih=>
  intro pv h x hx;simp only [U0,goW,Ua] at h;exact ih h.2 x hx
theorem Zsg {α:Type} {p:α->Bool}:∀{l:List α} {x:α},x∈l.takeWhile p->p x=true
 | [],_,h=>by cases h
 |y::l,x,h=>by
  rw [Fm] at h;split at h
  ·rename_i hy;rcases FH.1 h with rfl |h
   ·exact hy
   ·exact Zsg h
  ·cases h
theorem ZBT {l:List Path} {w:List Want} {p:Int} (h:(w.any fun x=>x.path==p)=true):VG l w p=(w,false):=by
 unfold VG;rw [Ui];intro ha;unfold Yk at ha;rw [Ua] at ha;obtain ⟨x,hx,hp⟩:=List.any_eq_true.1 h;have hp:x.path=p:=by simpa using hp
 have hsplit:w=w.takeWhile (fun x=>decide (x.path < p)) ++ w.dropWhile (fun x=>decide (x.path < p)):=(List.takeWhile_append_dropWhile).symm;have hd:x∈w.dropWhile (fun x=>decide (x.path < p)):=by
  rw [hsplit] at hx;rcases List.mem_append.1 hx with hx |hx
  ·have:=Zsg hx;simp at this;omega
  ·exact hx
 have hdr:w.drop (w.takeWhile (fun x=>decide (x.path < p))).length=w.dropWhile (fun x=>decide (x.path < p)):=by
  have:=List.drop_left (l₁:=w.takeWhile (fun x=>decide (x.path < p))) (l₂:=w.dropWhile (fun x=>decide (x.path < p)));rw [List.takeWhile_append_dropWhile] at this;exact this
 have:=ha.2;unfold YZ at this;rw [hdr,Us] at this;have:=ZBS this x hd;simp only at this;omega
theorem ZBU (l:List Path) (w:List Want) (p:Int) (hl:Sm l) (hw:Sm w):ZhN l w p=some (VG l w p):=by
 have hw':=hw;unfold Sm at hw';have hk:=Zi9 (fun x:Want=>decide (x.path < p)) w;unfold ZhN;simp only [Zt,Zl,Zn,Zu,Zv,Zw,ZT,XK,Kj,Zfa _ hw,Ze,Zq1,ZBR _ p hw];rw [Zs (by simp [AV.okU])];cases hd:w.any fun x=>x.path==p with
 |true=>rw [Zp,ZBT hd]
 |false=>
 rw [Zh];have ins:∀k:Nat,k<=w.length->Zer w (k:Int) [(⟨p,0⟩:Want)]=some (YZ w p k):=by
  intro k hk;unfold Zer Zan YZ;rw [Zs (by simp;omega),UC]
 refine (ZmR w (fun x=>decide (x.path < p)) (by omega) (fun k=>((l,w,w,(k:Int)),p)) (fun k=>some (if Yk l (YZ w p k)=true then (YZ w p k,true) else (w,false))) rfl ?_ ?_).trans rfl
 ·intro rec;rw [show decide (((w.length:Nat):Int) < ((w.length:Nat):Int))=false from Um (by omega),Zh];simp only [ins _ (Uq _),Ze,ZT,Zmp l (YZ w p w.length) hl (by rw [Zfd w p (Uq _)];omega)];cases Yk l (YZ w p w.length) <;> simp [Zfa _ hw]
 ·intro rec k x hx hkl;rw [show decide (((k:Nat):Int) < ((w.length:Nat):Int))=true from Ut (by omega),Zp,Zj hx];by_cases c:x.path < p
  ·simp [c,ZA (show k<=9223372036854775806 by omega)]
  rw [Um c,Zh,Ui (by simp)];simp only [ins k (by omega),Ze,ZT,Zmp l (YZ w p k) hl (by rw [Zfd w p (by omega)];omega)];cases Yk l (YZ w p k) <;> simp [Zfa _ hw]
theorem Zfe:∀{l:List Path} {pv:Option Int},goP pv l=true->∀x∈l,ZY x=true
 | [],_,_,x,hx=>by cases hx
 |y::l,none,h,x,hx=>by
  simp only [goP,Ua] at h;rcases FH.1 hx with rfl |hx
  ·exact h.1
  ·exact Zfe h.2 x hx
 |y::l,some i,h,x,hx=>by
  simp only [goP,Ua] at h;rcases FH.1 hx with rfl |hx
  ·exact h.1.1
  ·exact Zfe h.2 x hx
theorem ZaS {l:List Path} (h:ZN l=true) {p:Int} (hp:¬ZI l p < 0):1<=p/\p<=20:=by
 obtain ⟨i,x,h1,h2,h3⟩:=Kv hp;unfold ZN at h;rw [Ua] at h;have:=Zfe h.2 x (Yu h1);unfold ZY inR at this;simp only [Ua,UH] at this;rw [←h3];exact this.1.1.1.1
theorem Zsh {l:List Path} (h:ZN l=true):∀{w:List Want} {q:Int},0<=q->goW l (some q) w=true->q + w.length<=20\/w= []
 | [],_,_,_=> .inr rfl
 |y::w,q,hq,hg=>by
  simp only [goW,Ua] at hg;have h1:q < y.path:=by simpa [later] using hg.1.2
  have h2:¬ZI l y.path < 0:=by
   have:=hg.1.1;unfold ZbQ at this;simp only [Ua,UG,U5] at this;exact this.1
  have h3:=ZaS h h2;refine .inl ?_;rw [UI];rcases Zsh h (by omega) hg.2 with h4 |h4
  ·omega
  ·rw [h4];simp;omega
theorem ZBV {l:List Path} {w:List Want} (h:Yk l w=true):w.length<=20:=by
 unfold Yk at h;rw [Ua] at h;cases w with
 |nil=>simp
 |cons y w=>
  have hg:goW l (some 0) (y::w)=true:=by
   have h2:=h.2;simp only [goW,Ua] at h2 ⊢;refine ⟨⟨h2.1.1,?_⟩,h2.2⟩;have:¬ZI l y.path < 0:=by
    have:=h2.1.1;unfold ZbQ at this;simp only [Ua,UG,U5] at this;exact this.1
   have:=ZaS h.1 this;simp [later];omega
  rcases Zsh h.1 (by omega) hg with h4 |h4
  ·omega
  ·cases h4
theorem ZmS {l:List Path} {w:List Want} {p:Int} (h:Sm w):Sm (VG l w p).1:=by
 unfold VG;split
 ·rename_i hc;have:=ZBV hc;unfold Sm;simp only;omega
 ·exact h
def VH (t:Town) (p:Int):Town×Bool:=Xy t {t with wants:=(VG t.paths t.wants p).1} (VG t.paths t.wants p).2
theorem ZBW (t:Town) (p:Int) (h:ZE t):ZeB t p=some (VH t p):=by
 have h':ZE {t with wants:=(VG t.paths t.wants p).1}:=⟨h.1,h.2.1,ZmS h.2.2.1,h.2.2.2⟩
 unfold ZeB VH;simp only [Zt,Zl,Zn,Zu,Zv,Zw,Zr,ZT,Z5,Z6,Yc,Z3,ZD,Z4,ZaO t h,ZBQ _ _ p h.1 h.2.2.1,Ze,ZbS t _ _ h h']
theorem ZBX (t:Town) (p:Int) (h:ZE t):ZhO t p=some (VH t p):=by
 have h':ZE {t with wants:=(VG t.paths t.wants p).1}:=⟨h.1,h.2.1,ZmS h.2.2.1,h.2.2.2⟩
 unfold ZhO VH;simp only [Zt,Zl,Zn,Zu,Zv,Zw,Zr,ZT,Z5,Z6,Yc,Z3,ZD,Z4,VX t h,ZBU _ _ p h.1 h.2.2.1,Ze,ZaP t _ _ h h']
theorem ZmT {t:Town} (h:ZE t) (p:Int):ZE (VH t p).1:=Zdk h ⟨h.1,h.2.1,ZmS h.2.2.1,h.2.2.2⟩
def VY (s:List Int) (b:Option Want) (y:Want):Option Want:=if has s y.path=true then b else match b with |none=>some y |some x=>if x.wait < y.wait then some y else some x
def ZaT (w:List Want) (s:List Int):Int:=match w.foldl (VY s) none with |none=>0 |some x=>x.path
def ZaU (w:List Want) (b:Int):Option Want:=if b < 0 then none else w[b.toNat]?
theorem ZBY (w:List Want) (s:List Int) (hw:Sm w) (hs:Sm s):Zhp w s=some (ZaT w s):=by
 have hw':=hw;unfold Sm at hw';unfold Zhp;simp only [Zt,Zl,Zn,Zu,Zv,ZT,Zr,XK,Kj];refine (YC w (by omega) (fun k (b:Int)=>(w,s,b,(k:Int))) (-1) (fun _ b=>b= -1\/∃(n:Nat) (x:Want),b=n/\w[n]? =some x) (.inl rfl) (fun r _ b=>some (match r.foldl (VY s) (ZaU w b) with |none=>0 |some x=>x.path)) rfl ?_ ?_).trans ?_
 ·intro rec b hJ;rcases hJ with rfl | ⟨n,x,rfl,hx⟩
  ·simp [ZaU]
  ·simp [ZaU,Zj hx,hx,show ¬((n:Int) < 0) by omega]
 ·intro rec k x b hJ hx hk hr;simp only [UA] at hr;have hk2:k<=9223372036854775806:=by omega
  simp only [show decide (((k:Nat):Int) < ((w.length:Nat):Int))=true from Ut (by omega),Zp,Zj hx,ZaG s _ hs,Ze,ZA hk2,Me];have hk':ZaU w (k:Int)=some x:=by simp [ZaU,hx,show ¬((k:Int) < 0) by omega]
  cases hh:has s x.path with
  |true=>simp [VY,hh,hr b hJ]
  |false=>
   have h2:=hr (k:Int) (.inr ⟨k,x,rfl,hx⟩);rcases hJ with rfl | ⟨n,y,rfl,hy⟩
   ·simp [VY,hh,h2,hk',show ZaU w (-1)=none from rfl]
   ·have hn':ZaU w (n:Int)=some y:=by simp [ZaU,hy,show ¬((n:Int) < 0) by omega]
    have h3:=hr (n:Int) (.inr ⟨n,y,rfl,hy⟩);simp only [hn',UT,Zp,show decide ((n:Int) < 0)=false from Um (by omega),Zh,Zj hy];by_cases c:x.wait > y.wait
    ·simp [VY,hh,c,h2,hk']
    ·simp [VY,hh,c,h3,hn',show ¬y.wait < x.wait by omega]
 ·rfl
theorem ZBZ (w:List Want) (s:List Int) (hw:Sm w) (hs:Sm s):ZhY w s=some (ZaT w s):=by
 have hw':=hw;unfold Sm at hw';unfold ZhY;simp only [Zt,Zl,Zn,Zu,Zv,ZT,Zr,XK,Kj];refine (YC w (by omega) (fun k (b:Bool×Want)=>((s,b.1,w,(w.length:Int),(k:Int)),b.2)) (false,⟨0,0⟩) (fun _ b=>b.1=false->b.2=⟨0,0⟩) (fun _=>rfl) (fun r _ b=>some (match r.foldl (VY s) (if b.1=true then some b.2 else none) with |none=>0 |some x=>x.path)) rfl ?_ ?_).trans ?_
 ·rintro rec ⟨f,z⟩ hJ;cases f with
  |true=>simp
  |false=>
   obtain rfl:z=⟨0,0⟩:=hJ rfl;simp
 ·rintro rec k x ⟨f,z⟩ hJ hx hk hr;simp only [UA] at hr;have hk2:k<=9223372036854775806:=by omega
  simp only [show decide (((k:Nat):Int) < ((w.length:Nat):Int))=true from Ut (by omega),Zp,Zj hx,VV s _ hs,Ze,ZA hk2,Me];have e1:=hr (true,x) (by simp);have e2:=hr (f,z) hJ;cases hh:has s x.path with
  |true=>simpa [VY,hh] using e2
  |false=>
   cases f with
   |false=>simpa [VY,hh] using e1
   |true=>
    by_cases c:x.wait > z.wait
    ·simpa [VY,hh,c] using e1
    ·simpa [VY,hh,c,show ¬z.wait < x.wait by omega] using e2
 ·rfl
def QK (l:List Path) (x:Control):Bool:=ZP l x && (x.next.isEmpty && decide (x.since>=Xg l x.stage))
theorem ZmU (l:List Path) (x:Control) (h:Sm l) (hx:ZZ x):Zbz l x=some (QK l x):=by
 unfold Zbz QK;simp only [Zt,Zl,Zn,Zu,Zv,Zw,Zr,ZD,JD l x h hx,Ze,Yg,Qm,ZrI l _ h hx.1];cases ZP l x <;> cases x.next.isEmpty <;> simp
theorem ZmV (l:List Path) (x:Control) (h:Sm l) (hx:ZZ x):ZbJ l x=some (QK l x):=by
 unfold ZbJ QK;simp only [Zt,Zl,Zn,Zu,Zv,Zw,Zr,ZD,Ky l x h hx,Ze,Yg,Qm,ZiW l _ h hx.1];cases ZP l x <;> cases x.next.isEmpty <;> simp
def Zja:ByteArray:=bs []
def ZaV:ByteArray:=bs [104,111,108,100]
def ZaW:ByteArray:=bs [99,97,108,108]
def JO (l:List Path) (x:Control) (r:Prio):ByteArray:=
 if ZP l x && (YY l r && !(r.path==0)) then (if has x.stage r.path && x.next.isEmpty then ZaV else if !has x.stage r.path && QK l x then ZaW else Zja) else Zja
theorem ZB0 (l:List Path) (x:Control) (r:Prio) (h:Sm l) (hx:ZZ x):Zhs l x r=some (JO l x r):=by
 unfold Zhs JO Zja ZaV ZaW;simp only [Zt,Zl,Zn,Zu,Zv,Zw,Zr,ZD,JD l x h hx,Ze,Yg,Qm,ZiP l _ h,ZaG _ _ hx.1,ZmU l x h hx];cases ZP l x <;> cases YY l r <;> cases (r.path==0) <;> cases has x.stage r.path <;> cases x.next.isEmpty <;> cases QK l x <;> rfl
theorem ZB1 (l:List Path) (x:Control) (r:Prio) (h:Sm l) (hx:ZZ x):ZhX l x r=some (JO l x r):=by
 unfold ZhX JO Zja ZaV ZaW;simp only [Zt,Zl,Zn,Zu,Zv,Zw,Zr,ZD,Ky l x h hx,Ze,Yg,Qm,ZiQ l _ h,VV _ _ hx.1,ZmV l x h hx];cases ZP l x <;> cases YY l r <;> cases (r.path==0) <;> cases has x.stage r.path <;> cases x.next.isEmpty <;> cases QK l x <;> rfl
theorem ZB2 {i j:Nat} (h:i + j<=1099511627776):W (Int.fdiv (Go.IntKind.wrap Go.IntKind.u64 (W ((i:Int) + (j:Int)))) ((2:Int) ^ (Min.min (Int.toNat (1:Int)) (Go.IntKind.bits Go.IntKind.u64))))=(((i + j) / 2:Nat):Int):=by
 rw [show W ((i:Int) + (j:Int))=(i:Int) + j from ZB (by omega) (by omega),show ((2:Int) ^ (Min.min (Int.toNat (1:Int)) (Go.IntKind.bits Go.IntKind.u64)))=2 from rfl];have e:Go.IntKind.wrap Go.IntKind.u64 ((i:Int) + j)=(i:Int) + j:=by
  unfold IntKind.wrap;rw [show IntKind.u64.signed=false from rfl,show IntKind.u64.bits=64 from rfl];simp;omega
 rw [e,Int.fdiv_eq_ediv_of_nonneg _ (by omega),ZB (by omega) (by omega)];omega
def low (l:List Int) (n:Int):Nat:=(l.takeWhile fun x=>decide (x < n)).length
theorem Zjb (l:List Int) (n:Int):low l n<=l.length:=Zi9 _ _
theorem Zjc:∀{l:List Int} {n:Int} {i:Nat} {a:Int},i < low l n->l[i]? =some a->a < n
 | [],n,i,a,h,hx=>by cases hx
 |y::l,n,i,a,h,hx=>by
  unfold low at h;rw [Fm] at h;by_cases c:y < n
  ·rw [Uj (by simp [c])] at h;cases i with
   |zero=>cases hx;exact c
   |succ i=>exact Zjc (i:=i) (by unfold low;simpa using h) hx
  ·rw [Ui (by simp [c])] at h;cases h
theorem ZmW:∀{l:List Int} {n:Int} {a:Int},l[low l n]? =some a->¬a < n
 | [],n,a,h=>by cases h
 |y::l,n,a,h=>by
  unfold low at h;rw [Fm] at h;by_cases c:y < n
  ·rw [Uj (by simp [c])] at h;exact ZmW (l:=l) (n:=n) (by unfold low;simpa using h)
  ·rw [Ui (by simp [c])] at h;cases h;exact c
theorem ZmX {l:List Int} (hp:l.Pairwise (· < ·)) {n:Int} {i:Nat} {a:Int} (h:low l n<=i) (hx:l[i]? =some a):¬a < n:=by
 obtain ⟨hi,rfl⟩:=List.getElem?_eq_some_iff.1 hx;have h1:l[low l n]? =some l[low l n]:=Ub (by omega);have h2:=ZmW h1;rcases Nat.lt_or_eq_of_le h with h |h
 ·have:=MI.1 hp (low l n) i (by omega) hi h;omega
 ·simp only [←h];exact h2
theorem ZB3 (x y:Int):ZhA x y=some (decide (x < y)):=by
 unfold ZhA Zhz;simp
theorem ZB4 (l:List Int) (n:Int) (hs:Sm l) (hp:l.Pairwise (· < ·)):ZhC l n=some ((low l n:Int),decide (l[low l n]? =some n)):=by
 unfold Sm at hs;unfold ZhC;simp only [Zt,Zl,Zn,Zu,Zv,Zr,Yg,YX];refine ZgN (R:=fun _=>some ((low l n:Int),decide (l[low l n]? =some n))) (fun v=>(v.2.2.2.2 - v.2.2.2.1).toNat) (fun v=>∃i j:Nat,v=(l,n,(l.length:Int),(i:Int),(j:Int))/\i<=low l n/\low l n<=j/\j<=l.length) ?_ NN _ ⟨0,l.length,rfl,U7 _,Zjb l n,Uq _⟩ (Qj (by simp;omega));rintro rec _ ⟨i,j,rfl,h1,h2,h3⟩ hr;by_cases c:i < j
 ·have hlt:(i + j) / 2 < l.length:=by omega
  have hx:l[(i + j) / 2]? =some l[(i + j) / 2]:=Ub hlt;simp only [show decide ((i:Int) < (j:Int))=true from Ut (by omega),Zp,ZB2 (show i + j<=1099511627776 by omega),Zj hx,ZB3,Ze,ZA (show (i + j) / 2<=9223372036854775806 by omega)];by_cases c2:l[(i + j) / 2] < n
  ·rw [Ut c2,Zp];refine hr _ ⟨(i + j) / 2 + 1,j,by simp,?_,h2,h3⟩ (by simp;omega);rcases U1 ((i + j) / 2) (low l n) with h |h
   ·omega
   ·exact absurd c2 (ZmX hp h hx)
  ·rw [Um c2,Zh];refine hr _ ⟨i,(i + j) / 2,rfl,h1,?_,by omega⟩ (by simp;omega);rcases U1 ((i + j) / 2) (low l n) with h |h
   ·exact absurd (Zjc h hx) c2
   ·exact h
 ·have hi:i=low l n:=by omega
  subst hi;simp only [show decide (((low l n:Nat):Int) < (j:Int))=false from Um (by omega),Zh];by_cases c3:low l n < l.length
  ·have hx:l[low l n]? =some l[low l n]:=Ub c3;simp only [show decide (((low l n:Nat):Int) < ((l.length:Nat):Int))=true from Ut (by omega),Zp,Zj hx];unfold ZhB;by_cases c4:l[low l n]=n
   ·simp [c4,hx]
   ·simp [c4,hx,show (l[low l n]==n)=false from MG.2 c4]
  ·have hx:l[low l n]? =none:=UP (by omega);simp only [show decide (((low l n:Nat):Int) < ((l.length:Nat):Int))=false from Um (by omega),Zh,hx];simp
def ins (l:List Int) (n:Int):List Int:=l.take (low l n) ++ [n] ++ l.drop (low l n)
def YM (l:List Int) (n:Int):List Int:=if l[low l n]? =some n then l else ins l n
theorem Zsi (l:List Int) (n:Int):(ins l n).length=l.length + 1:=by
 have:=Zjb l n;unfold ins;simp only [Uh,Uc,Up,Ml];omega
theorem ZB5 (l:List Int) (n:Int) (k:Nat) {β:Type} (K:List Int->Option β):rws iR (((l.take k).map iR.enc ++ [[I n]]) ++ (l.drop k).map iR.enc) K=K (l.take k ++ [n] ++ l.drop k):=by
 have e:((l.take k).map iR.enc ++ [[I n]]) ++ (l.drop k).map iR.enc=(l.take k ++ [n] ++ l.drop k).map iR.enc:=by
  have h1:=UX (f:=iR.enc) (l₁:=l.take k ++ [n]) (l₂:=l.drop k);have h2:=UX (f:=iR.enc) (l₁:=l.take k) (l₂:= [n]);exact (h1.trans (Ux (· ++ _) h2)).symm
 rw [e];exact Zr _ _
theorem Zsj (l:List Int) (n:Int) (k:Nat) {β:Type} (K:List Int->Option β):rws iR (((l.take k).map iR.enc ++ [[I n]]) ++ ((l.take l.length).drop k).map iR.enc) K=K (l.take k ++ [n] ++ l.drop k):=by
 rw [Fk];exact ZB5 l n k K
theorem Zsk (l:List Int) (n:Int) (h:Sm l):Zex l n=some (YM l n):=by
 have h':=h;unfold Sm at h';unfold Zex;simp only [Zt,Zl,Zn,Zu,Zv,Zr,Yg,YX];have hk:=Zjb l n;refine (ZmR l (fun x=>decide (x < n)) (by omega) (fun k=>(l,n,(k:Int))) (fun k=>some (if l[k]? =some n then l else l.take k ++ [n] ++ l.drop k)) rfl ?_ ?_).trans rfl
 ·intro rec;rw [show decide (((l.length:Nat):Int) < ((l.length:Nat):Int))=false from Um (by omega),Zh,Zh];simp only [UC,show Int.toNat 0=0 from rfl,M1,ZqQ,ZqR,Zcx,Yg,US,Uh,Uc,Up,Ml,Zsj];rw [Zs (by omega),Zs (by omega),Zs (by omega),Zs (by omega),Zs (by omega)];rw [Ui (by simp)]
 ·intro rec k x hx hkl;rw [show decide (((k:Nat):Int) < ((l.length:Nat):Int))=true from Ut (by omega),Zp,Zj hx];by_cases c:x < n
  ·simp [c,ZA (show k<=9223372036854775806 by omega)]
  rw [Um c,Zh,Zp,Zj hx,Ui (by simp),hx];simp only [Zt,Zl,Zn,Zu,Zv,UC,show Int.toNat 0=0 from rfl,M1,ZqQ,ZqR,Zcx,Yg,US,Uh,Uc,Up,Ml,Zsj,Zr];by_cases c2:x=n
  ·subst c2;rw [M7,Zp,Zs (by omega),Uj rfl]
  ·rw [show (x==n)=false from MG.2 c2,Zh,Zs (by omega),Zs (by omega),Zs (by omega),Zs (by omega),Zs (by omega),Ui (by simp [c2])]
theorem ZB6 (l:List Int) (n:Int) (h:Sm l) (hp:l.Pairwise (· < ·)):ZhD l n=some (ins l n):=by
 have h':=h;unfold Sm at h';have hk:=Zjb l n;unfold ZhD;simp only [Zt,Zl,Zn,Zu,Zv,Zr,ZB4 l n h hp,KB l h,Ze,ZqS];rw [Zs (by simp)];unfold ZlU Zan ins;rw [Zs (by simp;omega),UC];rfl
theorem Zsl {l:List Path} {ids:List Int}:∀{r:List Int} {k:Nat},goT l ids k r=true->∀i x,r[i]? =some x->¬ZI l x < 0/\Q5 ids (k + i) x=true
 | [],k,h,i,x,hx=>by cases hx
 |y::r,k,h,i,x,hx=>by
  unfold goT at h;simp only [Ua,UG,U5] at h;cases i with
  |zero=>cases hx;exact ⟨h.1.1.1,h.1.1.2⟩
  |succ i=>
   have:=Zsl h.2 i x hx
   rwa [show k + 1 + i=k + (i + 1) by omega] at this
theorem ZmY {l:List Path} {a:List Int} (h:ZM l a=true):∀(i:Nat) (x:Int),a[i]? =some x->¬ZI l x < 0/\Q5 a i x=true:=fun i x hx=>by
 unfold ZM at h;rw [Ua] at h;simpa using Zsl h.1 i x hx
theorem ZmZ {l:List Path} {a:List Int} (h:ZM l a=true) {i:Nat} {x y:Int} (hx:a[i]? =some x) (hy:a[i + 1]? =some y):x < y:=by
 have:=(ZmY h (i + 1) y hy).2;unfold Q5 at this;rw [Ui (by omega),Nat.add_sub_cancel,hx] at this;simpa using this
theorem Zsm {l:List Path} {a:List Int} (h:ZM l a=true):∀(d i:Nat) (x y:Int),a[i]? =some x->a[i + d + 1]? =some y->x < y
 | 0,i,x,y,hx,hy=>ZmZ h hx hy
 |d + 1,i,x,y,hx,hy=>by
  have hl:i + (d + 1) + 1 < a.length:=(List.getElem?_eq_some_iff.1 hy).1;have hz:a[i + d + 1]? =some a[i + d + 1]:=Ub (by omega);have h1:=Zsm h d i x _ hx hz;have h2:=ZmZ h hz (by rw [show i + d + 1 + 1=i + (d + 1) + 1 by omega];exact hy);omega
theorem Zjd {l:List Path} {a:List Int} (h:ZM l a=true):a.Pairwise (· < ·):=by
 rw [MI];intro i j hi hj hij;exact Zsm h (j - i - 1) i _ _ (Ub hi) (by rw [show i + (j - i - 1) + 1=j by omega];exact Ub hj)
theorem Zje {l:List Path} {a:List Int} (h:ZM l a=true):a.length<=20:=by
 have ha:=ZaR h;have ge:∀(i:Nat) (x:Int),a[i]? =some x->(i:Int) + 1<=x:=fun i=>by
  induction i with
  |zero=>
   intro x hx;have:=ZaS ha (ZmY h 0 x hx).1;omega
  |succ i ih=>
   intro x hx;have hl:=(List.getElem?_eq_some_iff.1 hx).1;have hz:a[i]? =some a[i]:=Ub (by omega);have h1:=ih _ hz;have h2:=ZmZ h hz hx;omega
 rcases ML a.length with h0 |h0
 ·omega
 ·have hz:a[a.length - 1]? =some a[a.length - 1]:=Ub (by omega);have h1:=ge _ _ hz;have h2:=ZaS ha (ZmY h _ _ hz).1;omega
theorem Zff {l:List Path} {a:List Int} (h:ZM l a=true):Sm a:=by
 have:=Zje h;unfold Sm;omega
theorem Zsn {l:List Int} (hp:l.Pairwise (· < ·)) {n:Int}:has l n=true↔l[low l n]? =some n:=by
 unfold has;rw [List.any_eq_true];constructor
 ·rintro ⟨x,hx,hxn⟩;have hxn:x=n:=by simpa using hxn
  subst hxn;obtain ⟨i,hi⟩:=Mi hx;rcases FB i (low l x) with h |h |h
  ·have:=Zjc h hi;omega
  ·rw [←h];exact hi
  ·have hl:=(List.getElem?_eq_some_iff.1 hi).1;have hz:l[low l x]? =some l[low l x]:=Ub (by omega);have h1:=ZmW hz;have h2:=MI.1 hp (low l x) i (by omega) hl h;have h3:=(List.getElem?_eq_some_iff.1 hi).2;omega
 ·intro h;exact ⟨n,Uu h,by simp⟩
def JP (l:List Path) (a:List Int) (p:Path):List Int:=if ZM l (YM a p.id)=true then YM a p.id else a
def XO (l:List Path) (ids:List Int):List Int:=if ZM l ids=true then l.foldl (JP l) ids else ids
theorem Zm0 {l:List Path} {a:List Int} {p:Path} (h:ZM l a=true):ZM l (JP l a p)=true:=by
 unfold JP;split
 ·assumption
 ·exact h
theorem Zso {l:List Path} {a:List Int} (h:ZM l a=true) (n:Int):Sm (YM a n):=by
 have:=Zje h;unfold YM;split
 ·exact Zff h
 ·unfold Sm;rw [Zsi];omega
theorem ZB7 {l:List Path} {a:List Int} (h:ZM l a=true) {n:Int} (hn:has a n=true):YM a n=a:=by
 unfold YM;rw [Uj ((Zsn (Zjd h)).1 hn)]
theorem ZB8 {l:List Path} {a:List Int} (h:ZM l a=true) {n:Int} (hn:has a n=false):YM a n=ins a n:=by
 unfold YM;rw [Ui (fun e=>by rw [(Zsn (Zjd h)).2 e] at hn;cases hn)]
theorem Zm1 {l:List Path}:∀{r:List Path} {a:List Int},ZM l a=true->ZM l (r.foldl (JP l) a)=true
 | [],a,h=>h
 |p::r,a,h=>by
  rw [Me];exact Zm1 (Zm0 h)
theorem ZbT {l:List Path} {ids:List Int} (h:Sm ids):Sm (XO l ids):=by
 unfold XO;split
 ·rename_i hc;exact Zff (Zm1 hc)
 ·exact h
theorem Zjf (l:List Path) (ids:List Int) (hl:Sm l) (hi:Sm ids):ZcN l ids=some (XO l ids):=by
 have hl':=hl;have hi':=hi;unfold Sm at hl' hi';unfold ZcN;simp only [Zt,Zl,Zn,Zu,Zv,Zw,Zr,YP,Yg,XJ,Zcx];rw [Zs (by simp;omega)];refine (YC l (by omega) (fun k (a:List Int)=>(l,ids,a,(k:Int))) ids (fun _ a=>(ZM l ids=true->ZM l a=true)/\(ZM l ids=false->a=ids)) ⟨fun h=>h,fun _=>rfl⟩ (fun r _ a=>some (if ZM l ids=true then r.foldl (JP l) a else ids)) rfl ?_ ?_).trans ?_
 ·intro rec a hJ;rw [show decide (((l.length:Nat):Int) < ((l.length:Nat):Int))=false from Um (by omega),Zh];cases hc:ZM l ids with
  |true=>simp
  |false=>simp [hJ.2 hc]
 ·intro rec k p a hJ hx hk hr;simp only [UA] at hr;simp only [show decide (((k:Nat):Int) < ((l.length:Nat):Int))=true from Ut (by omega),Zp,ZbP l ids hl hi,Ze,Zj hx,ZA (show k<=9223372036854775806 by omega)];cases hc:ZM l ids with
  |false=>simp [hJ.2 hc]
  |true=>
   have ha:=hJ.1 hc;have e:=hr (JP l a p) ⟨fun _=>Zm0 ha,fun h=>by rw [hc] at h;cases h⟩;rw [hc,Uj rfl] at e;simp only [Zp,Zsk a p.id (Zff ha),Ze,ZbP l _ hl (Zso ha p.id),U3,Me];unfold JP at e ⊢;cases hd:ZM l (YM a p.id) <;> simp [hd] at e ⊢ <;> exact e
 ·rfl
theorem Zjg (l:List Path) (ids:List Int) (hl:Sm l) (hi:Sm ids):ZcR l ids=some (XO l ids):=by
 have hl':=hl;unfold Sm at hl';unfold ZcR XO;simp only [Zt,Zl,Zn,Zu,Zv,Zw,Zr,YP,Yg,XJ,KB ids hi,Kw l ids hl hi,Ze];cases hc:ZM l ids with
 |false=>simp
 |true=>
 simp only [Uk,Zh,U3];refine (YC l (by omega) (fun k (a:List Int)=>(l,a,l,(l.length:Int),(k:Int))) ids (fun _ a=>ZM l a=true) hc (fun r _ a=>some (r.foldl (JP l) a)) rfl ?_ ?_).trans rfl
 ·intro rec a hJ;rw [show decide (((l.length:Nat):Int) < ((l.length:Nat):Int))=false from Um (by omega),Zh];rfl
 ·intro rec k p a ha hx hk hr;simp only [UA] at hr;have e:=hr (JP l a p) (Zm0 ha);simp only [show decide (((k:Nat):Int) < ((l.length:Nat):Int))=true from Ut (by omega),Zp,VV a _ (Zff ha),Ze,Zj hx,ZA (show k<=9223372036854775806 by omega),Me];unfold JP at e ⊢;cases hh:has a p.id with
  |true=>
   have hp:=ZB7 ha hh;rw [hp,ha,Uj rfl] at e;rw [Zp,hp,ha,Uj rfl];exact e
  |false=>
   have hp:=ZB8 ha hh;have hs:=Zso ha p.id;rw [hp] at e hs ⊢;simp only [Zh,ZB6 a p.id (Zff ha) (Zjd ha),Ze,Kw l _ hl hs];cases hd:ZM l (ins a p.id) <;> simp [hd] at e ⊢ <;> exact e
def XP (l:List Path) (x:Control) (w:List Want):List Int:=
 if ZaT w x.stage=0 then [] else if ZP l x && Yk l w then XO l [ZaT w x.stage] else []
theorem JQ:Sm ([]:List Int):=by unfold Sm;simp
theorem Zm2 (l:List Path) (x:Control) (w:List Want):Sm (XP l x w):=by
 unfold XP;split
 ·exact JQ
 ·split
  ·exact ZbT (Xi _)
  ·exact JQ
theorem Zsp (l:List Path) (x:Control) (w:List Want) (h:Sm l) (hx:ZZ x) (hw:Sm w):ZeE l x w=some (XP l x w):=by
 unfold ZeE XP;simp only [Zt,Zl,Zn,Zu,Zv,Zw,Zr,ZT,ZD,ZBY w _ hw hx.1,JD l x h hx,ZiO l w h hw,Zjf l _ h (Xi _),Ze];by_cases c:ZaT w x.stage=0
 ·simp [c]
 ·rw [show (ZaT w x.stage==0)=false from MG.2 c,Zh,Ui c];cases ZP l x <;> cases Yk l w <;> simp [Zjf l _ h (Xi _)]
theorem Zsq (l:List Path) (x:Control) (w:List Want) (h:Sm l) (hx:ZZ x) (hw:Sm w):ZeP l x w=some (XP l x w):=by
 unfold ZeP XP;simp only [Zt,Zl,Zn,Zu,Zv,Zw,Zr,ZT,ZD,ZBZ w _ hw hx.1,Ky l x h hx,Zmq l w h hw,Zjg l _ h (Xi _),Ze];by_cases c:ZaT w x.stage=0
 ·simp [c]
 ·rw [show (ZaT w x.stage==0)=false from MG.2 c,Zh,Ui c];cases ZP l x <;> cases Yk l w <;> simp [Zjg l _ h (Xi _)]
def ZbU (l:List Path) (x:Control) (w:List Want):Bool:=
 QK l x && (!(XP l x w).isEmpty && (decide (x.since>=60) || !w.any fun y=>has x.stage y.path))
theorem gt0 {α:Type} (l:List α):decide (((l.length:Nat):Int) > 0)= !l.isEmpty:=by
 cases l with
 |nil=>rfl
 |cons x l=>simp
theorem ZB9 (l:List Path) (x:Control) (w:List Want) (h:Sm l) (hx:ZZ x) (hw:Sm w):Zhq l x w=some (ZbU l x w):=by
 have hw':=hw;unfold Sm at hw';unfold Zhq ZbU;simp only [Zt,Zl,Zn,Zu,Zv,Zw,Zr,ZT,ZD,XK,Kj];refine (Yq w (by omega) (fun k (b:Bool)=>((l,w,b,(k:Int)),x)) false (fun r _ b=>some (QK l x && (!(XP l x w).isEmpty && (decide (x.since>=60) || !(b || r.any fun y=>has x.stage y.path))))) rfl ?_ ?_).trans (by simp)
 ·intro rec b;rw [show decide (((w.length:Nat):Int) < ((w.length:Nat):Int))=false from Um (by omega),Zh];simp only [ZmU l x h hx,Ze,Zsp l x w h hx hw,Yg,gt0];cases QK l x <;> cases (XP l x w).isEmpty <;> cases b <;> simp
 ·intro rec k y b hy hk hr;simp only [UA] at hr;simp only [show decide (((k:Nat):Int) < ((w.length:Nat):Int))=true from Ut (by omega),Zp,ZA (show k<=9223372036854775806 by omega),Zj hy,ZaG _ _ hx.1,Ze,Fo];cases b with
  |true=>simp [hr true]
  |false=>simp [hr (has x.stage y.path)]
theorem ZCa (y:Want) (x:Control) (hx:ZZ x):ZhZ y x=some (has x.stage y.path):=by
 unfold ZhZ;simp [VV _ _ hx.1]
theorem ZCb (w:List Want) (x:Control) (h:Sm w) (hx:ZZ x):Zh0 w x=some (w.any fun y=>has x.stage y.path):=by
 unfold Sm at h;unfold Zh0 Zl7;simp only [Zt,Zl,Zn,Zu,Zv,ZT,Zr,ZD,XK,Kj];generalize hI:Zf (_:_->_->Option Int) NN _=J0;have hI':J0=match w.findIdx? (fun y=>has x.stage y.path) with |some i=>some (i:Int) |none=>some (-1):=by
  rw [←hI];refine ZbO w (fun y=>has x.stage y.path) (by omega) (fun k=>(w,x,(w.length:Int),(k:Int))) (fun i=>some (i:Int)) (some (-1)) rfl ?_ ?_
  ·intro rec;simp
  ·intro rec k a ha hk;simp [hk,Zj ha,ZA (show k<=9223372036854775806 by omega),ZCa a x hx,ZD,ZJ]
 rw [hI',←ZbN];cases w.findIdx? (fun y=>has x.stage y.path) <;> simp
theorem ZCc (l:List Path) (x:Control) (w:List Want) (h:Sm l) (hx:ZZ x) (hw:Sm w):Zh1 l x w=some (ZbU l x w):=by
 unfold Zh1 ZbU;simp only [Zt,Zl,Zn,Zu,Zv,Zw,Zr,ZT,ZD,ZmV l x h hx,Ze,Zsq l x w h hx hw,Yg,Qm,ZCb w x hw hx];cases QK l x <;> cases (XP l x w).isEmpty <;> cases decide (x.since>=60) <;> simp
def X1 (l:List Path) (x:Control) (st:List Int):Control×Bool:=
 if QK l x && (!st.isEmpty && (ZM l st && !decide (st=x.stage))) then
  (if Yx l x.stage st=0 then ⟨st,0,[],0⟩ else ⟨x.stage,x.since,st,Yx l x.stage st⟩,true) else (x,false)
theorem Zsr (l:List Path) (x:Control) (st:List Int) (h:Sm l) (hx:ZZ x) (hs:Sm st):ZeF l x st=some (X1 l x st):=by
 have hs':=hs;unfold Sm at hs';unfold ZeF X1;simp only [Zt,Zl,Zn,Zu,Zv,Zw,Zr,ZD,Zdi x hx,ZmU l x h hx,Ze,Yg,Qm,ZbP l st h hs,Zrm st x.stage hs,Zml l _ _ h hx.1 hs,Zcx];cases QK l x with
 |false=>simp [ZD]
 |true=>
 cases st.isEmpty with
 |true=>simp [ZD]
 |false=>
 cases ZM l st with
 |false=>simp [ZD]
 |true=>
 cases decide (st=x.stage) with
 |true=>simp [ZD]
 |false=>
  simp only [Uk,UT,Zh,Zp];rw [Zs (by simp;omega)];by_cases c:Yx l x.stage st=0
  ·simp [c]
  ·simp [c,show (Yx l x.stage st==0)=false from MG.2 c];rw [Zs (by omega)]
theorem Zss (l:List Path) (x:Control) (st:List Int) (h:Sm l) (hx:ZZ x) (hs:Sm st):ZeO l x st=some (X1 l x st):=by
 have h0:=(Zdl l x.stage st).1;unfold ZeO X1;simp only [Zt,Zl,Zn,Zu,Zv,Zw,Zr,ZD,Zfb x hx,ZmV l x h hx,Ze,Yg,Qm,Kw l st h hs,Zc9 st x.stage hs,ZiL l _ _ h hx.1 hs,KB st hs];cases QK l x with
 |false=>simp [ZD]
 |true=>
 cases st.isEmpty with
 |true=>simp [ZD]
 |false=>
 cases ZM l st with
 |false=>simp [ZD]
 |true=>
 cases decide (st=x.stage) with
 |true=>simp [ZD]
 |false=>
  by_cases c:Yx l x.stage st=0
  ·simp [c]
  ·simp [c,show Yx l x.stage st > 0 by omega]
theorem Zst {l:List Path} {x:Control} {st:List Int} (hx:ZZ x) (hs:Sm st):ZZ (X1 l x st).1:=by
 unfold X1;split
 ·simp only;split
  ·exact ⟨hs,JQ⟩
  ·exact ⟨hx.1,hs⟩
 ·exact hx
theorem Zsu {l:List Path} {x:Control} {st:List Int} (h:ZP l x=true):ZP l (X1 l x st).1=true:=by
 unfold X1;split
 ·rename_i hc;simp only [Ua,UG] at hc;obtain ⟨_,hne,ht,_⟩:=hc;obtain ⟨a1,a2,a3⟩:=Zdm h;obtain ⟨h1,h2⟩:=ZaQ h;have ha:=ZaR a2;have h0:=Zdl l x.stage st;have hne':st≠ []:=fun e=>by rw [e] at hne;cases hne
  simp only;split
  ·simp [ZP,ht,hne,Zi4,ha,inR,hne']
  ·simp [ZP,ht,a1,a2,inR,h1,hne'];omega
 ·exact h
def Vb (l:List Path) (x:Control) (w:List Want):Control:=if ZbU l x w=true then (X1 l x (XP l x w)).1 else Xa l x
theorem Zm3 {l:List Path} {x:Control} {w:List Want} (h:ZP l x=true):ZP l (Vb l x w)=true:=by
 unfold Vb;split
 ·exact Zsu h
 ·exact ZmM h
theorem Zm4 {l:List Path} {x:Control} {w:List Want} (hx:ZZ x):ZZ (Vb l x w):=by
 unfold Vb;split
 ·exact Zst hx (Zm2 l x w)
 ·exact ZmL hx
theorem ZCd (l:List Path) (x:Control) (w:List Want) (h:Sm l) (hx:ZZ x) (hw:Sm w):Zh2 l x w=some (Vb l x w):=by
 unfold Zh2 Vb;simp only [Zt,Zl,Zn,Zu,Zv,Zw,Zr,ZT,ZD,ZCc l x w h hx hw,Ze,Zsq l x w h hx hw,Zss l x _ h hx (Zm2 l x w),ZmK l x h hx];cases ZbU l x w <;> simp
theorem ZCe (l:List Path) (x:Control) (w:List Want) (h:Sm l) (hx:ZZ x) (hw:Sm w):Zhr l x w=some (if ZP l x && Yk l w then (Vb l x w,JK (Vb l x w) w) else (x,w)):=by
 have hw':=hw;unfold Sm at hw';unfold Zhr;simp only [Zt,Zl,Zn,Zu,Zv,Zw,Zr,ZT,ZD,JD l x h hx,ZiO l w h hw,Zdi x hx,ZmJ l x h hx,ZB9 l x w h hx hw,Zsp l x w h hx hw,Zsr l x _ h hx (Zm2 l x w),Ze,ZcB,XK];cases hc:ZP l x with
 |false=>
  simp only [UT,Zp];rw [Zs (by simp;omega)];simp
 |true=>
 cases ha:Yk l w with
 |false=>
  simp only [UT,Uk,Zp,Zh];rw [Zs (by simp;omega)];simp
 |true=>
 simp only [Uk,Zh,MV,U3];cases hm:ZbU l x w with
 |true=>
  have hy:Vb l x w=(X1 l x (XP l x w)).1:=by unfold Vb;rw [Uj hm]
  have hyc:=Zm3 (w:=w) hc;have hys:=Zm4 (l:=l) (w:=w) hx;rw [hy] at hyc hys;simp only [Zp,Ze5 l _ h hys,Ze,hy];unfold JK;refine ZiF w _ (by omega) (fun k acc=>((l,w,acc,Xw l (X1 l x (XP l x w)).1,(k:Int)),((⟨[],0,[],0⟩:Control),(X1 l x (XP l x w)).1))) (fun acc=>some ((X1 l x (XP l x w)).1,acc)) rfl ?_ ?_
  ·intro rec acc hl;simp [ZD]
  ·intro rec k z acc hz hk hl;obtain ⟨h1,h2,h3⟩:=Zi5 ha (Yu hz);simp [hk,Zj hz,VB _ _ h,Zfc hyc h1,ZA (show k<=9223372036854775806 by omega),Ze2,show W (z.wait + 1)=z.wait + 1 from ZB (by omega) (by omega),ZD];by_cases c:Xv (X1 l x (XP l x w)).1 z.path=1
   ·simp [c]
   ·have hb:(if z.wait + 1 < 100000 then z.wait + 1 else 100000)=KE z.wait:=by unfold KE;split <;> split <;> omega
    simp [c,show (Xv (X1 l x (XP l x w)).1 z.path != 1)=true from bne_iff_ne.2 c,hb,Zi6,show (acc.length + 1) * 16<=140737488355328 by omega,show acc.length<=1152921504606846975 by omega]
 |false=>
  have hy:Vb l x w=Xa l x:=by unfold Vb;rw [Ui (by rw [hm];simp)]
  have hyc:=Zm3 (w:=w) hc;have hys:=Zm4 (l:=l) (w:=w) hx;rw [hy] at hyc hys;simp only [Zh,Ze5 l _ h hys,Ze,hy];unfold JK;refine ZiF w _ (by omega) (fun k acc=>((l,w,acc,Xw l (Xa l x),(k:Int)),((⟨[],0,[],0⟩:Control),(Xa l x)))) (fun acc=>some ((Xa l x),acc)) rfl ?_ ?_
  ·intro rec acc hl;simp [ZD]
  ·intro rec k z acc hz hk hl;obtain ⟨h1,h2,h3⟩:=Zi5 ha (Yu hz);simp [hk,Zj hz,VB _ _ h,Zfc hyc h1,ZA (show k<=9223372036854775806 by omega),Ze2,show W (z.wait + 1)=z.wait + 1 from ZB (by omega) (by omega),ZD];by_cases c:Xv (Xa l x) z.path=1
   ·simp [c]
   ·have hb:(if z.wait + 1 < 100000 then z.wait + 1 else 100000)=KE z.wait:=by unfold KE;split <;> split <;> omega
    simp [c,show (Xv (Xa l x) z.path != 1)=true from bne_iff_ne.2 c,hb,Zi6,show (acc.length + 1) * 16<=140737488355328 by omega,show acc.length<=1152921504606846975 by omega]
def JR (l:List Path) (x:Control) (w:List Want) (r:Prio):Control:=
 if (JO l x r).toList==ZaV.toList then Xa l x else if (JO l x r).toList==ZaW.toList then (X1 l x (XO l [r.path])).1 else Vb l x w
def JS (l:List Path) (x:Control) (w:List Want) (r:Prio):Control×(List Want×Prio):=
 if ZP l x && (Yk l w && YY l r) then (JR l x w r,JK (JR l x w r) w,JL r) else (x,w,r)
theorem Zsv {l:List Path} {x:Control} {w:List Want} {r:Prio} (h:ZP l x=true):ZP l (JR l x w r)=true:=by
 unfold JR;split
 ·exact ZmM h
 ·split
  ·exact Zsu h
  ·exact Zm3 h
theorem Zm5 {l:List Path} {x:Control} {w:List Want} {r:Prio} (h:ZZ x):ZZ (JR l x w r):=by
 unfold JR;split
 ·exact ZmL h
 ·split
  ·exact Zst h (ZbT (Xi _))
  ·exact Zm4 h
theorem ZCf (r:Prio):(if r.left > 1 then (⟨r.path,r.left - 1⟩:Prio) else ⟨0,0⟩)=JL r:=by
 unfold JL;by_cases c:r.left > 1
 ·rw [Uj c,Ui (by omega)]
 ·rw [Ui c,Uj (by omega)]
theorem ZCg (l:List Path) (x:Control) (w:List Want) (r:Prio) (h:Sm l) (hx:ZZ x) (hw:Sm w):Zht l x w r=some (JS l x w r):=by
 have hw':=hw;unfold Sm at hw';unfold Zht JS;simp only [Zt,Zl,Zn,Zu,Zv,Zw,Zr,ZT,ZD,JD l x h hx,ZiO l w h hw,ZiP l r h,Zdi x hx,ZmJ l x h hx,ZCe l x w h hx hw,ZB0 l x r h hx,Zjf l _ h (Xi _),Zsr l x _ h hx (ZbT (Xi _)),Ze,ZcB,XK];cases hc:ZP l x with
 |false=>
  simp only [UT,Zp];rw [Zs (by simp;omega)];simp
 |true=>
 cases ha:Yk l w with
 |false=>
  simp only [UT,Uk,Zp,Zh];rw [Zs (by simp;omega)];simp
 |true=>
 cases hp:YY l r with
 |false=>
  simp only [UT,Uk,Zp,Zh];rw [Zs (by simp;omega)];simp
 |true=>
 have hl:=Zi7 hp;have hyc:=Zsv (w:=w) (r:=r) hc;have hys:=Zm5 (l:=l) (w:=w) (r:=r) hx;have hwt:=Zr7 l (JR l x w r) w h hys hw hyc ha;simp only [Uk,Zh,MV,U3,show (bs [104,111,108,100])=ZaV from rfl,show (bs [99,97,108,108])=ZaW from rfl,show W (r.left - 1)=r.left - 1 from ZB (by omega) (by omega)];rw [←ZCf r];unfold JR at hwt ⊢;cases c1:(JO l x r).toList==ZaV.toList with
 |true=>
  rw [c1,Uj rfl] at hwt;simp only [Zp,U3,hwt,Ze];by_cases c:r.left > 1 <;> simp [c]
 |false=>
  rw [c1,Ui (by simp)] at hwt;cases c2:(JO l x r).toList==ZaW.toList with
  |true=>
   rw [c2,Uj rfl] at hwt;simp only [Zp,Zh,U3,hwt,Ze];by_cases c:r.left > 1 <;> simp [c]
  |false=>
   simp only [Zh];by_cases c:r.left > 1 <;> simp [c]
theorem ZCh (l:List Path) (x:Control) (w:List Want) (r:Prio) (h:Sm l) (hx:ZZ x) (hw:Sm w):Zh3 l x w r=some (JS l x w r):=by
 unfold Zh3 JS;simp only [Zt,Zl,Zn,Zu,Zv,Zw,Zr,ZT,ZD,Ky l x h hx,Zmq l w h hw,ZiQ l r h,Zfb x hx,Zfa w hw,ZmK l x h hx,ZCd l x w h hx hw,ZB1 l x r h hx,Zjg l _ h (Xi _),Zss l x _ h hx (ZbT (Xi _)),Ze];cases hc:ZP l x with
 |false=>simp
 |true=>
 cases ha:Yk l w with
 |false=>simp
 |true=>
 cases hp:YY l r with
 |false=>simp
 |true=>
 have hl:=Zi7 hp;have hyc:=Zsv (w:=w) (r:=r) hc;have hys:=Zm5 (l:=l) (w:=w) (r:=r) hx;have hwt:=Zr8 l (JR l x w r) w h hys hw hyc ha;simp only [Uk,Zh,MV,U3,show (bs [104,111,108,100])=ZaV from rfl,show (bs [99,97,108,108])=ZaW from rfl,Zsa r hl];unfold JR at hwt ⊢;cases c1:(JO l x r).toList==ZaV.toList with
 |true=>
  rw [c1,Uj rfl] at hwt;simp [hwt]
 |false=>
  rw [c1,Ui (by simp)] at hwt;cases c2:(JO l x r).toList==ZaW.toList with
  |true=>
   rw [c2,Uj rfl] at hwt;simp [hwt]
  |false=>
   rw [c2,Ui (by simp)] at hwt;simp [hwt]
def KH (t:Town):Town:=
 if Yv t.paths t.lamps t.power=0 then {t with now:=t.now + 1,control:=(JS t.paths t.control t.wants t.prio).1,wants:=(JS t.paths t.control t.wants t.prio).2.1,prio:=(JS t.paths t.control t.wants t.prio).2.2} else {t with now:=t.now + 1}
def Xz (t:Town):Town×Bool:=if ZR t=true then Xy t (Xh (KH t)) true else (t,false)
theorem Zsw {l:List Path} {x:Control} {w:List Want} {r:Prio} (hx:ZZ x) (hw:Sm w):ZZ (JS l x w r).1/\Sm (JS l x w r).2.1:=by
 unfold JS;split
 ·exact ⟨Zm5 hx,Zr9 hw⟩
 ·exact ⟨hx,hw⟩
theorem Zm6 {t:Town} (h:ZE t):ZE (KH t):=by
 obtain ⟨h0,h1,h2,h3,h4⟩:=h;unfold KH;split
 ·exact ⟨h0,(Zsw h1 h2).1,(Zsw h1 h2).2,h3,h4⟩
 ·exact ⟨h0,h1,h2,h3,h4⟩
theorem Zm7 (t:Town):(KH t).record=t.record/\(KH t).books=t.books:=by
 unfold KH;split <;> exact ⟨rfl,rfl⟩
theorem ZCi (t:Town) (h:ZE t):Zhu t=some (Xz t):=by
 have hh:=Zm6 h;obtain ⟨hr,hb⟩:=Zm7 t;unfold Zhu Xz;simp only [Zt,Zl,Zn,Zu,Zv,Zw,Zr,ZT,Z5,Z6,Yc,Z3,ZD,Z4,ZaO t h,Ze7 t h,Zsb t h,ZCg _ _ _ t.prio h.1 h.2.1 h.2.2.1,Ze];cases ht:ZR t with
 |false=>simp
 |true=>
  obtain ⟨p1,p2,p3,p4,p5,p6,p7,p8,p9⟩:=JM ht;have e:=Zsc ht hr hb hh;have hn:=JN ht hr hh;rw [show W (t.now + 1)=t.now + 1 from ZB (by omega) (by omega)];unfold KH at e hn ⊢;by_cases c:Yv t.paths t.lamps t.power=0
  ·simp only [c,U3] at e hn ⊢;simp [e,ZD,Z4,ZbS t _ true h hn]
  ·simp only [c,My] at e hn ⊢;simp [show (Yv t.paths t.lamps t.power==0)=false from MG.2 c,e,ZD,Z4,ZbS t _ true h hn]
theorem Zsx (t:Town) (h:ZE t):ZeQ t=some (Xz t):=by
 have hh:=Zm6 h;obtain ⟨hr,hb⟩:=Zm7 t;unfold ZeQ Xz;simp only [Zt,Zl,Zn,Zu,Zv,Zw,Zr,ZT,Z5,Z6,Yc,Z3,ZD,Z4,VX t h,KA t h,ZmO t h,ZCh _ _ _ t.prio h.1 h.2.1 h.2.2.1,Ze];cases ht:ZR t with
 |false=>simp
 |true=>
  obtain ⟨p1,p2,p3,p4,p5,p6,p7,p8,p9⟩:=JM ht;have e:=Zi8 ht hr hb hh;have hn:=JN ht hr hh;rw [show W (t.now + 1)=t.now + 1 from ZB (by omega) (by omega)];unfold KH at e hn ⊢;by_cases c:Yv t.paths t.lamps t.power=0
  ·simp only [c,U3] at e hn ⊢;simp [e,ZD,Z4,ZaP t _ true h hn]
  ·simp only [c,My] at e hn ⊢;simp [show (Yv t.paths t.lamps t.power==0)=false from MG.2 c,e,ZD,Z4,ZaP t _ true h hn]
theorem Zm8 {t:Town} (h:ZE t):ZE (Xz t).1:=by
 unfold Xz;split
 ·rename_i hc;exact Zdk h (JN hc (Zm7 t).1 (Zm6 h))
 ·exact h
def X2 (t:Town):Nat->Town->Town×Bool
 | 0,u=>(u,true)
 |k + 1,u=>if (Xz u).2=true then X2 t k (Xz u).1 else (t,false)
def QL (t:Town) (n:Int):Town×Bool:=if inR n 1 100=true then X2 t n.toNat t else (t,false)
theorem Zsy {t:Town} (ht:ZE t):∀{k:Nat} {u:Town},ZE u->ZE (X2 t k u).1
 | 0,u,hu=>hu
 |k + 1,u,hu=>by
  unfold X2;split
  ·exact Zsy ht (Zm8 hu)
  ·exact ht
theorem Zsz {t:Town} (h:ZE t) (n:Int):ZE (QL t n).1:=by
 unfold QL;split
 ·exact Zsy h h
 ·exact h
abbrev XQ:Town:=⟨[],(⟨[],0,[],0⟩:Control),[],(⟨0,0⟩:Prio),[],false,[],0,0⟩
theorem ZsA {F:(((Int×Int)×(Town×(Town×Town)))->Option (Town×Bool))->((Int×Int)×(Town×(Town×Town)))->Option (Town×Bool)} {t:Town} {n:Int} (hn:n<=100)
  (h0:∀rec u (i:Nat),ZE u->¬(i:Int) < n->F rec ((n,(i:Int)),(t,(XQ,u)))=some (u,true))
  (h1:∀rec u (i:Nat),ZE u->(i:Int) < n->F rec ((n,(i:Int)),(t,(XQ,u)))=if (Xz u).2=true then rec ((n,((i + 1:Nat):Int)),(t,(XQ,(Xz u).1))) else some (t,false))
  {i:Nat} {u:Town} (hu:ZE u):Zf F NN ((n,(i:Int)),(t,(XQ,u)))=some (X2 t (n.toNat - i) u):=by
 refine ZgN (R:=fun v=>some (X2 t (n.toNat - v.1.2.toNat) v.2.2.2)) (fun v=>n.toNat - v.1.2.toNat) (fun v=>∃(i:Nat) (u:Town),v=((n,(i:Int)),(t,(XQ,u)))/\ZE u) ?_ NN _ ⟨i,u,rfl,hu⟩ (Qj (by omega));rintro rec _ ⟨i,u,rfl,hu⟩ hr;by_cases c:(i:Int) < n
 ·rw [h1 rec u i hu c];have e:n.toNat - i=n.toNat - (i + 1) + 1:=by omega
  simp only [UC];rw [e,X2];split
  ·rw [hr _ ⟨i + 1,_,rfl,Zm8 hu⟩ (by simp only [UC];omega)];simp only [UC]
  ·rfl
 ·rw [h0 rec u i hu c];simp only [UC];rw [show n.toNat - i=0 by omega];rfl
theorem ZCj (t:Town) (n:Int) (h:ZE t):Zhv t n=some (QL t n):=by
 unfold Zhv QL;simp only [Zt,Zl,Zn,Zu,Zv,Zw,Zr,ZT,Z5,Z6,Yc,Z3,ZD,Z4,ZaO t h,Kt,Ze];cases hn:inR n 1 100 with
 |false=>simp
 |true=>
  have hn':1<=n/\n<=100:=by simpa [inR] using hn
  simp only [Uk,Zh,U3];refine (ZsA (t:=t) (n:=n) (i:=0) (u:=t) hn'.2 ?_ ?_ h).trans (by simp)
  ·intro rec u i hu hi;simp [hi,ZD,Z4]
  ·intro rec u i hu hi;simp only [Zt,Zl,Zn,Zu,Zv,Zw,Zr,ZT,Z5,Z6,Yc,Z3,ZD,Z4,Ut hi,Zp,ZCi u hu,Ze,ZaO t h,ZA (show i<=9223372036854775806 by omega)];cases (Xz u).2 <;> simp
theorem ZCk (t:Town) (n:Int) (h:ZE t):Zh4 t n=some (QL t n):=by
 unfold Zh4 QL;simp only [Zt,Zl,Zn,Zu,Zv,Zw,Zr,ZT,Z5,Z6,Yc,Z3,Z3,ZD,Z4,VX t h,ZaC,Ze,Zsx t h];cases hn:inR n 1 100 with
 |false=>simp
 |true=>
  have hn':1<=n/\n<=100:=by simpa [inR] using hn
  simp only [Uk,Zh,U3,show decide ((0:Int) < n)=true from Ut (by omega),Zp,show W (0 + 1)=((1:Nat):Int) from ZB (by omega) (by omega)];have e:n.toNat=n.toNat - 1 + 1:=by omega
  rw [e,X2];cases h2:(Xz t).2 with
  |false=>simp
  |true=>
   simp only [Uk,Zh,U3];refine ZsA (t:=t) (n:=n) (i:=1) (u:=(Xz t).1) hn'.2 ?_ ?_ (Zm8 h)
   ·intro rec u i hu hi;simp [hi,ZD,Z4]
   ·intro rec u i hu hi;simp only [Zt,Zl,Zn,Zu,Zv,Zw,Zr,ZT,Z5,Z6,Yc,Z3,Z3,ZD,Z4,Ut hi,Zp,Zsx u hu,Ze,VX t h,ZA (show i<=9223372036854775806 by omega)];cases (Xz u).2 <;> simp
end Go.Sh
