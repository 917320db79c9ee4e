/- Consoles: both sides answer alike. -/
import Derived.Test.YtnpgbpkogmniaaaGreatDoorQX
import Derived.Lib.SplitLaws
set_option linter.all false
namespace Go.Sh
open Go.Fx
def Yj (c:UInt8):List UInt8->List (List UInt8)
 | []=> [[]]
 |x::r=>if x=c then []::Yj c r else match Yj c r with
  |y::ys=>(x::y)::ys
  | []=> [[x]]
theorem Zor (c:UInt8):∀(a l:List UInt8),c∉a->Yj c (a ++ l)=match Yj c l with
  |y::ys=>(a ++ y)::ys
  | []=> [a]
 | [],l,_=>by
  cases h:Yj c l with
  |nil=>cases l with
   |nil=>cases h
   |cons x r=>
    unfold Yj at h;split at h
    ·cases h
    ·split at h <;> cases h
  |cons y ys=>simpa using h
 |x::a,l,h=>by
  have h1:¬x=c:=fun e=>h (by rw [e];exact Un ..)
  have h2:=Zor c a l fun hm=>h (Ui _ hm)
  rw [U6,Yj,Uf h1,h2];cases Yj c l <;> rfl
theorem Zos {c:UInt8} {a:List UInt8} (h:c∉a):Yj c a= [a]:=by
 have:=Zor c a [] h;rw [UJ] at this;rw [this];simp [Yj]
theorem Zot {c:UInt8} {a r:List UInt8} (h:c∉a):Yj c (a ++ c::r)=a::Yj c r:=by
 rw [Zor c a _ h,Yj,Uh rfl];simp
theorem Zuw (c:UInt8):∀l:List UInt8,Yj c l≠ []
 | []=>by simp [Yj]
 |x::r=>by
  unfold Yj;split
  ·simp
  ·split <;> simp
theorem ZE7 (c:UInt8):∀(n:Nat) (s:List UInt8),s.length<=n->Lib.splitK [c] 0 (s.count c) s=Yj c s:=by
 intro n
 induction n with
 |zero=>
  intro s hs;have:s= []:=List.length_eq_zero_iff.1 (by omega);subst this;rfl
 |succ n ih=>
  intro s hs;have hge:=Lib.indexByte_ge s c;by_cases hm:Lib.indexByte s c= -1
  ·have hno:c∉s:=fun h=>by
    obtain ⟨k,hk⟩:=Mk h;exact Lib.indexByte_none hm k hk
   rw [List.count_eq_zero.2 hno,Zos hno];rfl
  ·obtain ⟨o,ho⟩:∃o:Nat,Lib.indexByte s c=o:=⟨(Lib.indexByte s c).toNat,by omega⟩
   obtain ⟨h1,h2⟩:=Lib.indexByte_some ho;have hlt:o < s.length:=(List.getElem?_eq_some_iff.1 h1).1;have hsp:s=s.take o ++ c::s.drop (o + 1):=by
    conv=>lhs;rw [←Uq o s]
    congr 1;rw [UH hlt];congr 1;exact (List.getElem?_eq_some_iff.1 h1).2
   have hno:c∉s.take o:=fun h=>by
    obtain ⟨k,hk⟩:=Mk h;rw [UA] at hk;split at hk
    ·exact h2 k (by assumption) hk
    ·cases hk
   have hc:s.count c=(s.drop (o + 1)).count c + 1:=by
    conv=>lhs;rw [hsp]
    rw [List.count_append,List.count_eq_zero.2 hno,List.count_cons];simp
   rw [hc,Lib.splitK,Lib.index_one,ho];rw [Uf (by simp)];simp only [Uy,M0,UK,UQ,UZ];rw [ih (s.drop (o + 1)) (by rw [Us];omega)]
   conv=>rhs;rw [hsp]
   rw [Zot hno]
theorem ZE8 (l:List ByteArray):l=(l.map (·.data.toList)).map bs:=by
 rw [MQ]
 conv=>lhs;rw [←FS l]
 exact List.map_congr_left fun x _=>Zuu x
theorem Zux (s:ByteArray) (c:UInt8) (h:s.size<=1048576):ZaL s (bs [c])=some ((Yj c s.data.toList).map bs):=by
 unfold ZaL;rw [Zl ⟨by omega,Ur 1⟩];congr 1;rw [ZE8 (Lib.splitB _ _ _ _),Lib.splitB_data];congr 1;have e:Lib.countB s (bs [c])=s.data.toList.count c:=Lib.count_one c s.data.toList;rw [e];exact ZE7 c _ _ (Ur _)
theorem Zkf (c:UInt8):∀l:List UInt8,(Yj c l).length<=l.length + 1
 | []=>by simp [Yj]
 |x::r=>by
  have:=Zkf c r;unfold Yj;split
  ·simp;omega
  ·split
   ·rename_i h;rw [h] at this;simp at this ⊢;omega
   ·simp
theorem Zkg (c:UInt8):∀l:List UInt8,∀p∈Yj c l,p.length<=l.length
 | [],p,h=>by
  simp [Yj] at h;subst h;simp
 |x::r,p,h=>by
  have ih:=Zkg c r;unfold Yj at h;split at h
  ·rcases List.mem_cons.1 h with rfl |h
   ·simp
   ·have:=ih p h;simp;omega
  ·split at h
   ·rename_i y ys e;rcases List.mem_cons.1 h with rfl |h
    ·have:=ih y (by rw [e];exact Un ..);simp;omega
    ·have:=ih p (by rw [e];exact Ui _ h);simp;omega
   ·rw [Mn.1 h];simp
def Xu (u:List UInt8):List (List UInt8):=(Yj 32 u).filter fun w=> !w.isEmpty
def wgo:List UInt8->List UInt8->List (List UInt8)
 | [],w=>if w.isEmpty then [] else [w]
 |x::r,w=>if x=32 then (if w.isEmpty then wgo r [] else w::wgo r []) else wgo r (w ++ [x])
theorem Zou:∀(r w:List UInt8),32∉w->wgo r w=(Yj 32 (w ++ r)).filter fun w=> !w.isEmpty
 | [],w,h=>by
  rw [UJ,Zos h];unfold wgo;cases w <;> rfl
 |x::r,w,h=>by
  unfold wgo;by_cases c:x=32
  ·subst c;rw [Uh rfl,Zot h,Zou r [] (by simp)];cases w <;> rfl
  ·rw [Uf c,Zou r (w ++ [x]) (by
    intro hm;rcases List.mem_append.1 hm with hm |hm
    ·exact h hm
    ·exact c (Mn.1 hm).symm)]
   rw [Ux];rfl
theorem ZE9 (u:List UInt8):wgo u []=Xu u:=by
 rw [Zou u [] (by simp)];rfl
theorem Zuy (u:List UInt8):(Xu u).length<=u.length + 1:=Mm (Fi _ _) (Zkf 32 u)
theorem ZFa (u:List UInt8):∀w∈Xu u,w.length<=u.length:=fun w hw=>Zkg 32 u w (List.mem_filter.1 hw).1
theorem YK (a b:List UInt8):(ByteArray.toList (bs a)==ByteArray.toList (bs b))=decide (a=b):=by
 rw [Zcy];by_cases h:a=b
 ·subst h;simp
 ·rw [Ug h];exact Ug fun e=>h (Zut e)
theorem Xa (l:List UInt8):ByteArray.mk (List.toArray l)=bs l:=rfl
theorem ZFb {u:List UInt8} {k:Nat} {x:UInt8} (h:u[k]? =some x):(bs u).extract k (k + 1)=bs [x]:=by
 apply MS;apply Array.toList_inj.1;show ((bs u).extract k (k + 1)).data.toList= [x]
 rw [FG,FL];show (u.extract k (k + 1))= [x]
 rw [List.extract_eq_take_drop,Nat.add_sub_cancel_left];have hlt:=(List.getElem?_eq_some_iff.1 h).1;rw [UH hlt,(List.getElem?_eq_some_iff.1 h).2];rfl
def Xv (u:List UInt8):List (Option UInt8):=u.map some ++ [none]
theorem ZcA (u:List UInt8):(Xv u).length=u.length + 1:=by simp [Xv]
def Vv:List (Option UInt8)->List UInt8->List (List UInt8)
 | [],_=> []
 |none::r,w=>if w.isEmpty then Vv r [] else w::Vv r []
 |some x::r,w=>if x=32 then (if w.isEmpty then Vv r [] else w::Vv r []) else Vv r (w ++ [x])
theorem Zov:∀(u w:List UInt8),Vv (Xv u) w=wgo u w
 | [],w=>by unfold Xv;cases w <;> rfl
 |x::u,w=>by
  show Vv (some x::Xv u) w=_;unfold Vv wgo;rw [Zov u [],Zov u (w ++ [x])]
theorem ZFc (u:List UInt8) (h:u.length<=1048576):Zht (bs u)=some ((Xu u).map bs):=by
 have hsz:(bs u).size=u.length:=rfl;unfold Zht;refine (Yf (Xv u) (by rw [ZcA];omega) (fun k (a:List ByteArray×List UInt8)=>(bs u,a.1,bs a.2,(k:Int))) ([],[]) (fun k a=>a.1.length<=k/\a.2.length<=k) ⟨Ur _,Ur _⟩ (fun r _ a=>some (a.1 ++ (Vv r a.2).map bs)) rfl ?_ ?_).trans ?_
 ·intro rec a hJ;rw [ZcA];simp only [hsz];rw [show decide (((u.length + 1:Nat):Int)<=((u.length:Nat):Int))=false from Ug (by omega),Zf];simp [Vv]
 ·intro rec k x a hJ hx hk hr;rw [ZcA] at hk;obtain ⟨h1,h2⟩:=hJ;simp only [Up] at hr;simp only [hsz];rw [show decide (((k:Nat):Int)<=((u.length:Nat):Int))=true from Ul (by omega),Zn];have hlen:∀l:List ByteArray,l.length<=k->(rws sR (l.map sR.enc) fun (l3:List ByteArray)=>rec (bs u,(l3,(bs [],W ((k:Int) + 1)))))=rec (bs u,(l,(bs [],(k:Int) + 1))):=fun l _=>by simp only [YF];rw [Zq (by omega)]
  have hend:(cnd (!(ByteArray.toList (bs a.2)==ByteArray.toList (bs []))) (ifA ((((List.length (a.1.map sR.enc)) + (List.length [[(Sg (bs a.2))]])) * 16)<=140737488355328/\((List.length (a.1.map sR.enc)) + (List.length [[(Sg (bs a.2))]]))<=1152921504606846976) (rws sR ((a.1.map sR.enc) ++ [[(Sg (bs a.2))]]) fun (l3:List ByteArray)=>rec (bs u,(l3,(bs [],W ((k:Int) + 1)))))) (rws sR (a.1.map sR.enc) fun (l3:List ByteArray)=>rec (bs u,(l3,(bs [],W ((k:Int) + 1))))))=some (a.1 ++ ((if a.2.isEmpty then Vv ((Xv u).drop (k + 1)) [] else a.2::Vv ((Xv u).drop (k + 1)) []).map bs)):=by
   rw [YK];cases ha:a.2 with
   |nil=>
    simp only [Mo,Uk,Zf,List.isEmpty_nil,U2];rw [hlen _ h1];exact hr (a.1,[]) ⟨by show a.1.length<=k + 1;omega,by simp⟩
   |cons y ys=>
    rw [Ug (by simp),UT,Zn,Zl (by simp;omega)];simp only [Zcs];rw [Zq (by omega)];have:=hr (a.1 ++ [bs (y::ys)],[]) ⟨by simp;omega,by simp⟩;rw [this];simp
  by_cases hku:k < u.length
  ·rw [show decide (((k:Nat):Int) < ((u.length:Nat):Int))=true from Ul (by omega),Zn];have hxu:=Ua hku;have hxo:x=some u[k]:=by
    unfold Xv at hx;rw [UU (by simpa using hku),Mf,hxu] at hx;exact (Uo hx).symm
   subst hxo;rw [Zbm (s:=bs u) hxu];by_cases hc:u[k]=32
   ·rw [show ((u[k].toNat:Int) != 32)=false by rw [hc];rfl,Zf];show _=some (a.1 ++ ((if u[k]=32 then _ else _:List (List UInt8)).map bs));rw [Uh hc];exact hend
   ·have hne:((u[k].toNat:Int) != 32)=true:=by
     have:u[k].toNat≠32:=fun e=>hc (UInt8.toNat_inj.1 e)
     simp only [bne_iff_ne,ne_eq];omega
    rw [hne,Zn,Zq (by omega),Zl (by omega)];rw [show (((k:Nat):Int) + 1).toNat=k + 1 by omega,Uy,ZFb hxu,Zcw];rw [Zl (by show a.2.length + 1<=_;omega)];simp only [YF];have:=hr (a.1,a.2 ++ [u[k]]) ⟨by show a.1.length<=k + 1;omega,by simp;omega⟩;rw [this];show _=some (a.1 ++ ((if u[k]=32 then _ else _:List (List UInt8)).map bs));rw [Uf hc]
  ·have hku':k=u.length:=by omega
   rw [show decide (((k:Nat):Int) < ((u.length:Nat):Int))=false from Ug (by omega),Zf];have hxo:x=none:=by
    unfold Xv at hx;rw [Mg (by simp;omega)] at hx;simp [hku'] at hx;exact hx.symm
   subst hxo;exact hend
 ·show some ([] ++ ((Vv (Xv u) []).map bs))=_;rw [Zov,ZE9];rfl
def dvN:List UInt8->Nat->Nat
 | [],n=>n
 |c::r,n=>dvN r (10 * n + (c.toNat - 48))
def dgt (c:UInt8):Prop:=48<=c.toNat/\c.toNat<=57
theorem ZFd {n:Int} (h0:0<=n) (h1:n<=255):IntKind.u8.wrap n=n:=by
 unfold IntKind.wrap;simp [IntKind.bits,IntKind.signed];omega
theorem Zow:∀(u:List UInt8) (n:Nat),(∀c∈u,dgt c)->(n + 1) * 10 ^ u.length<=1000000000000000000->pd u (n:Int)=some ((dvN u n:Nat):Int)
 | [],n,_,_=>rfl
 |c::r,n,hd,hb=>by
  obtain ⟨h0,h1⟩:=hd c (Un ..);have hp:1<=10 ^ r.length:=Nat.one_le_pow _ _ (by omega);rw [UK,Nat.pow_succ] at hb;have e1:(n + 1) * (10 ^ r.length * 10)=(10 * n + 10) * 10 ^ r.length:=by
   rw [←Nat.mul_assoc,Nat.mul_right_comm];congr 1;omega
  rw [e1] at hb;have hn:10 * n + 10<=1000000000000000000:=Mm (Nat.le_mul_of_pos_right _ hp) hb;unfold pd dvN;rw [Uf (by omega),ZFd (by omega) (by omega),ZB (n:=10 * (n:Int)) (by omega) (by omega),ZB (n:=(c.toNat:Int) - 48) (by omega) (by omega),ZB (by omega) (by omega)];have e2:10 * (n:Int) + ((c.toNat:Int) - 48)=((10 * n + (c.toNat - 48):Nat):Int):=by omega
  rw [e2];refine Zow r _ (fun d hm=>hd d (Ui _ hm)) (Mm (UL _ ?_) hb);omega
theorem Zox:∀(u:List UInt8) (n m:Int),pd u n=some m->∀c∈u,dgt c
 | [],_,_,_,c,h=>by cases h
 |x::r,n,m,h,c,hc=>by
  unfold pd at h;split at h
  ·cases h
  ·rename_i hx;rcases List.mem_cons.1 hc with rfl |hc
   ·exact ⟨by omega,by omega⟩
   ·exact Zox r _ m h c hc
theorem Zuz:∀(u:List UInt8) (c:UInt8) (n:Nat),dvN (u ++ [c]) n=10 * dvN u n + (c.toNat - 48)
 | [],c,n=>rfl
 |x::u,c,n=>by
  show dvN (u ++ [c]) _=_;rw [Zuz u c];rfl
theorem ZuA:∀(u:List UInt8) (n:Nat),n<=dvN u n
 | [],n=>Ur _
 |c::u,n=>by
  have:=ZuA u (10 * n + (c.toNat - 48));show n<=dvN u _;omega
theorem ZFe {u:List UInt8} {c:UInt8} (h:u[0]? =some c) (hc:48 < c.toNat):1<=dvN u 0:=by
 cases u with
 |nil=>cases h
 |cons x r=>
  have:x=c:=Uo h;subst this;have:=ZuA r (10 * 0 + (x.toNat - 48));show 1<=dvN r _;omega
theorem ZuB {c:UInt8} {n:Nat} (h:c.toNat=n):UInt8.ofNat n=c:=by rw [←h];simp
theorem ZFf:∀(n:Nat) (u:List UInt8),u.length=n->0 < n->(∀c∈u,dgt c)->(n=1\/∀c,u[0]? =some c->48 < c.toNat)->Lib.decDigits (dvN u 0)=u:=by
 intro n
 induction n with
 |zero=>intro u _ h;omega
 |succ n ih=>
  intro u hu _ hd hz;have hne:u≠ []:=fun e=>by rw [e] at hu;simp at hu
  obtain ⟨v,c,rfl⟩:∃v c,u=v ++ [c]:=⟨u.dropLast,u.getLast hne,(List.dropLast_concat_getLast hne).symm⟩
  obtain ⟨h0,h1⟩:=hd c (by simp);rw [Zuz];have hv:v.length=n:=by simp at hu;exact hu
  by_cases hn:n=0
  ·have:v= []:=List.length_eq_zero_iff.1 (by omega);subst this;rw [show dvN [] 0=0 from rfl,Lib.decDigits,dif_pos (by omega)];show [_]= [c]
   rw [ZuB (c:=c) (n:=48 + (10 * 0 + (c.toNat - 48))) (by omega)]
  ·have hz':∀d,v[0]? =some d->48 < d.toNat:=fun d hd0=>by
    rcases hz with hz |hz
    ·omega
    ·exact hz d (by rw [UU (by omega)];exact hd0)
   have hpos:1<=dvN v 0:=by
    have hlt:0 < v.length:=by omega
    exact ZFe (Ua hlt) (hz' _ (Ua hlt))
   rw [Lib.decDigits,dif_neg (by omega),show (10 * dvN v 0 + (c.toNat - 48)) / 10=dvN v 0 by omega,show (10 * dvN v 0 + (c.toNat - 48)) % 10=c.toNat - 48 by omega,ih v hv (by omega) (fun d hm=>hd d (by simp [hm])) (.inr hz')];rw [ZuB (c:=c) (n:=48 + (c.toNat - 48)) (by omega)]
theorem ZFg:∀(n:Nat),1<=n->(Lib.decDigits n)[0]? ≠some 48:=by
 intro n
 induction n using Nat.strongRecOn with
 | _ n ih=>
  intro h;rw [Lib.decDigits];split
  ·rename_i hn;intro e;have e:=Uo e;have key:∀k:Nat,k < 10->1<=k->UInt8.ofNat (48 + k)≠48:=by decide
   exact key n hn h e
  ·have hne:0 < (Lib.decDigits (n / 10)).length:=by
    rw [Lib.decDigits];split <;> simp
   rw [UU hne];exact ih (n / 10) (by omega) (by omega)
theorem ZFh (n:Nat):Lib.itoa (n:Int)=Lib.decDigits n:=by
 unfold Lib.itoa;rw [Uf (by omega)];simp
theorem ZFi {u:List UInt8} (h0:0 < u.length) (hd:∀c∈u,dgt c):(Lib.itoa ((dvN u 0:Nat):Int)=u)↔¬(1 < u.length/\u[0]? =some 48):=by
 rw [ZFh];constructor
 ·rintro e ⟨h1,h2⟩;by_cases hz:dvN u 0=0
  ·rw [hz] at e;rw [←e] at h1;have:(Lib.decDigits 0).length=1:=by rw [Lib.decDigits];rfl
   omega
  ·have h1':1<=dvN u 0:=by omega
   exact ZFg _ h1' (by rw [e];exact h2)
 ·intro h;refine ZFf _ u rfl h0 hd ?_;by_cases h1:u.length=1
  ·exact .inl h1
  ·refine .inr fun c hc=> ?_
   have hm:=hd c (Um hc);have hne:c≠48:=fun e=>h ⟨by omega,by rw [hc,e]⟩
   have:c.toNat≠48:=fun e=>hne (UInt8.toNat_inj.1 e)
   have:=hm.1;omega
def Zkh (u:List UInt8):Int×Bool:=
 if u.length=0\/13 < u.length then (0,false) else match pd u 0 with
  |none=>(0,false)
  |some n=>if (1000000000000:Int) < n then (0,false) else if Lib.itoa n=u then (n,true) else (0,false)
theorem ZuC (u:List UInt8):Zkh u=Y4 u:=by
 unfold Zkh Y4 Zcv;by_cases h:u.length=0\/13 < u.length
 ·rw [Uh h,Uh (by omega)]
 rw [Uf h];cases hp:pd u 0 with
 |none=>simp only [ite_self]
 |some n=>
  have hd:=Zox u 0 n hp;have hv:pd u 0=some ((dvN u 0:Nat):Int):=Zow u 0 hd (by
   have:10 ^ u.length<=10 ^ 13:=Ml (by omega) (by omega);omega)
  rw [hp] at hv;have hn:=Uo hv;subst hn;have ht:=ZFi (by omega) hd;by_cases c:1 < u.length/\u[0]? =some 48
  ·rw [Uh (by exact .inr (.inr c))];have:¬Lib.itoa ((dvN u 0:Nat):Int)=u:=fun e=>(ht.1 e) c
   simp only [Uf this,ite_self]
  ·rw [Uf (by rintro (h1 |h1 |h1) <;> first |exact c h1 |omega)];simp only [Uh (ht.2 c)]
theorem ZFj {u:List UInt8} {n:Int} (h:pd u 0=some n):Rg n:=Zom u 0 n ⟨by decide,by decide⟩ h
theorem ZFk (u:List UInt8) (h:u.length<=1099511627776):ZhB (bs u)=some (Y4 u):=by
 have hsz:(bs u).size=u.length:=rfl;rw [←ZuC];unfold ZhB Zkh;simp only [hsz,Jd,Zc];by_cases h0:u.length=0\/13 < u.length
 ·rw [Uh h0];have:(decide ((1:Int)<=(u.length:Int)) && decide ((u.length:Int)<=13))=false:=by
   rw [Fg];rcases h0 with h0 |h0
   ·exact .inl (Ug (by omega))
   ·exact .inr (Ug (by omega))
  rw [this];rfl
 rw [Uf h0,Ul (by omega),Ul (by omega),Mw,Uk,Zf];refine (Yf u (by omega) (fun k n=>(bs u,n,(k:Int))) 0 (fun k n=>pd u 0=pd (u.drop k) n) rfl (fun r _ n=>some (match pd r n with
  |none=>(0,false)
  |some n=>if (1000000000000:Int) < n then (0,false) else if Lib.itoa n=u then (n,true) else (0,false))) rfl ?_ ?_).trans rfl
 ·intro rec n hJ;rw [M5] at hJ;simp only [hsz];rw [Ug (by omega),Zf];have hr:Rg n:=ZFj (u:=u) (n:=n) (by rw [hJ];rfl);simp only [QF n hr,Zc,Zcy,pd,ZG,gt_iff_lt,UG];by_cases hn:(1000000000000:Int) < n
  ·rw [Uh hn,Uh hn]
  ·rw [Uf hn,Uf hn];by_cases hi:Lib.itoa n=u
   ·have:Yg n=bs u:=by rw [←hi];rfl
    rw [Uh hi,Ul this];rfl
   ·have:¬Yg n=bs u:=fun e=>hi (Zut e)
    rw [Uf hi,Ug this];rfl
 ·intro rec k c n hJ hc hk hr;simp only [Up] at hr;simp only [hsz];rw [Ul (by omega),Zn];have hl:c.toNat < 256:=c.toNat_lt;simp only [Zbm (s:=bs u) hc,Jd,Zc,Zq (show k<=9223372036854775806 by omega),ZB (n:=(c.toNat:Int)) (by omega) (by omega)];have hdr:u.drop k=c::u.drop (k + 1):=by
   rw [UH hk,(List.getElem?_eq_some_iff.1 hc).2]
  rw [hdr] at hJ;rw [show pd (c::u.drop (k + 1)) n=if (c.toNat:Int) < 48\/(57:Int) < (c.toNat:Int) then none else pd (u.drop (k + 1)) (W (W (10 * n) + W (IntKind.u8.wrap ((c.toNat:Int) - 48)))) from rfl] at hJ ⊢;by_cases hx:(c.toNat:Int) < 48\/(57:Int) < (c.toNat:Int)
  ·have:(decide ((48:Int)<=(c.toNat:Int)) && decide ((c.toNat:Int)<=57))=false:=by
    rw [Fg];rcases hx with hx |hx
    ·exact .inl (Ug (by omega))
    ·exact .inr (Ug (by omega))
   rw [this,Uh hx];rfl
  ·rw [Uf hx] at hJ ⊢;rw [Ul (by omega),Ul (by omega),Mw,Uk,Zf];exact hr _ hJ
def Xb:List (List UInt8)->Option (List Int)
 | []=>some []
 |w::r=>if (Y4 w).2=true then (Xb r).map ((Y4 w).1:: ·) else none
def Zbn:List (List UInt8)->List Int->List Int×Bool
 | [],out=>(out,true)
 |w::r,out=>if (Y4 w).2=true then Zbn r (out ++ [(Y4 w).1]) else (out,false)
def ZdT (many:Int):List (List UInt8)->List Int->List Int×Bool
 | [],out=>(out,(out.length:Int)==many)
 |w::r,out=>if (Y4 w).2=true then ZdT many r (out ++ [(Y4 w).1]) else ([],false)
theorem ZuD:∀{ws:List (List UInt8)} {l:List Int} (out:List Int),Xb ws=some l->Zbn ws out=(out ++ l,true)
 | [],l,out,h=>by
  have:=Uo h;subst this;rw [UJ];rfl
 |w::r,l,out,h=>by
  unfold Xb at h;split at h
  ·rename_i hw;cases hr:Xb r with
   |none=>rw [hr] at h;cases h
   |some m=>
    rw [hr] at h;have:=Uo h;subst this;unfold Zbn;rw [Uh hw,ZuD _ hr,Ux];rfl
  ·cases h
theorem ZuE:∀{ws:List (List UInt8)} (out:List Int),Xb ws=none->(Zbn ws out).2=false
 | [],out,h=>by cases h
 |w::r,out,h=>by
  unfold Xb at h;unfold Zbn;split at h
  ·rename_i hw;rw [Uh hw];cases hr:Xb r with
   |none=>exact ZuE _ hr
   |some m=>rw [hr] at h;cases h
  ·rename_i hw;rw [Uf hw]
theorem ZuF (many:Int):∀(ws:List (List UInt8)) (out:List Int),ZdT many ws out=match Xb ws with
  |none=>([],false)
  |some l=>(out ++ l,((out ++ l).length:Int)==many)
 | [],out=>by
  show (out,_)=(out ++ [],_)
  rw [UJ]
 |w::r,out=>by
  unfold ZdT Xb;split
  ·rename_i hw;rw [ZuF many r];cases Xb r with
   |none=>rfl
   |some l=>simp [Ux]
  ·rfl
theorem ZuG:∀{ws:List (List UInt8)} {l:List Int},Xb ws=some l->l.length=ws.length/\∀y∈l,Rg y
 | [],l,h=>by
  have:=Uo h;subst this;exact ⟨rfl,fun y hy=>by cases hy⟩
 |w::r,l,h=>by
  unfold Xb at h;split at h
  ·cases hr:Xb r with
   |none=>rw [hr] at h;cases h
   |some m=>
    rw [hr] at h;have:=Uo h;subst this;obtain ⟨h1,h2⟩:=ZuG hr;refine ⟨by simp [h1],fun y hy=> ?_⟩;rcases List.mem_cons.1 hy with rfl |hy
    ·exact Zuq w
    ·exact h2 y hy
  ·cases h
theorem K6 {ws:List (List UInt8)} {k:Nat} {w:List UInt8} (h:ws[k]? =some w):(ws.map bs)[k]? =some (bs w):=by rw [Mf,h];rfl
theorem ZFl (ws:List (List UInt8)) (hl:ws.length<=1048580) (hw:∀w∈ws,w.length<=1048580):ZhC (ws.map bs)=some (Zbn ws []):=by
 unfold ZhC;simp only [YF,QO,Xm];refine (Yf ws (by omega) (fun k (out:List Int)=>(ws.map bs,(out,(k:Int)))) [] (fun k out=>out.length<=k) (Ur _) (fun r _ out=>some (Zbn r out)) rfl ?_ ?_).trans rfl
 ·intro rec out hJ;simp only [Ut];rw [Ug (by omega),Zf];simp only [Zo];rfl
 ·intro rec k w out hJ hx hk hr;simp only [Up] at hr;simp only [Ut];rw [Ul (by omega),Zn,Zh (K6 hx),ZFk w (by have:=hw w (Um hx);omega),Zc];unfold Zbn;cases hp:(Y4 w).2 with
  |false=>simp
  |true=>
   rw [Uk,Zf,Zl (by simp;omega),Zq (by omega)];simp only [Zcg,U2];exact hr _ (by simp;omega)
theorem ZFm (ws:List (List UInt8)) (many:Int) (hl:ws.length<=1048580) (hw:∀w∈ws,w.length<=1048580):Ziy (ws.map bs) many=some (ZdT many ws []):=by
 unfold Ziy;simp only [YF,QO,Xm,Ut];refine (Yf ws (by omega) (fun k (out:List Int)=>(many,(out,(ws.map bs,(((ws.length:Nat):Int),(k:Int)))))) [] (fun k out=>out.length<=k) (Ur _) (fun r _ out=>some (ZdT many r out)) rfl ?_ ?_).trans rfl
 ·intro rec out hJ;simp only [];rw [Ug (by omega),Zf];simp only [Zo,ZZ];rfl
 ·intro rec k w out hJ hx hk hr;simp only [Up] at hr;simp only [];rw [Ul (by omega),Zn,Zh (K6 hx),Zuo (bs w) (by have:=hw w (Um hx);show w.length<=_;omega),Zc];show cnd (!(Y4 w).2) _ _=_;unfold ZdT;cases hp:(Y4 w).2 with
  |false=>simp
  |true=>
   rw [Uk,Zf,Zl (by simp;omega),Zq (by omega)];simp only [Zcg,U2];exact hr _ (by simp;omega)
def XM:List (List UInt8)->Option (List Path)
 | []=>some []
 |w::r=>match QI (bs w) with
  |none=>none
  |some p=>(XM r).map (p.1:: ·)
theorem ZuH (s:ByteArray):(QI s).getD ZdS=match QI s with |none=>ZdS |some p=>(p.1,true):=by
 cases h:QI s with
 |none=>rfl
 |some r=>
  obtain ⟨p,rfl,_⟩:=Zoq h;rfl
theorem Zoy:∀{ws:List (List UInt8)} {l:List Path},XM ws=some l->l.length=ws.length
 | [],l,h=>by have:=Uo h;subst this;rfl
 |w::r,l,h=>by
  unfold XM at h;split at h
  ·cases h
  ·cases hr:XM r with
   |none=>rw [hr] at h;cases h
   |some m=>
    rw [hr] at h;have:=Uo h;subst this;simp [Zoy hr]
def XN:ByteArray:=bs [119,104,97,116]
def Zki:ByteArray:=bs [110,111]
def ZuI:ByteArray:=bs [111,107]
def Kk (t:Town) (x:Town×Bool):Town×ByteArray:=if x.2=true then (x.1,ZuI) else (t,Zki)
theorem Zoz (t x:Town) (ok:Bool) (h:Zw t):Zdc t x ok=some (Kk t (x,ok)):=by
 unfold Zdc Kk;simp only [Zt,Zk,Zp,Zr,Zv,QB t h,Zc];cases ok <;> rfl
theorem ZuJ (t x:Town) (ok:Bool) (h:Zw t):ZaU t x ok=some (Kk t (x,ok)):=by
 unfold ZaU Kk;simp only [Zt,Zk,Zp,Zr,Zv,Jl t h,Zc];cases ok <;> rfl
def K7 (t:Town) (l:Option (List Path)):Town×ByteArray:=match l with
 |none=>(t,XN)
 |some l=>if l.length=0 then (t,XN) else Kk t (Kh l)
theorem ZFn (t:Town) (ws:List (List UInt8)) (h:Zw t) (hl:ws.length<=1048570):ZhA t (ws.map bs)=some (K7 t (XM ws)):=by
 unfold ZhA;simp only [YF,QO,Xm,Zt,Zk,Zp,Zr,Zv];refine (Yf ws (by omega) (fun k (out:List Path)=>(((ws.map bs),(out,(k:Int))),(t,Xj))) [] (fun k out=>out.length=k) rfl (fun r k out=>some (K7 t ((XM r).map (out ++ ·)))) rfl ?_ ?_).trans ?_
 ·intro rec out hJ;simp only [Ut];rw [Ug (by omega),Zf];simp only [Zs,YG,Zk,Zp,QB t h,Zc,ZDS out (show Sm out by unfold Sm;omega),Zoz _ _ _ h];show _=some (K7 t (some (out ++ [])));rw [UJ];unfold K7;simp only [ZG];by_cases c:out.length=0
  ·rw [Uh (by simp [c]),Uh c];rfl
  ·rw [Uf (by simp;intro e;rw [e] at c;simp at c),Uf c]
 ·intro rec k w out hJ hx hk hr;simp only [Up] at hr;simp only [Ut];rw [Ul (by omega),Zn,Zh (K6 hx),ZEY,Zc,ZuH];simp only [XM];cases hp:QI (bs w) with
  |none=>
   simp only [ZdS,UT,Zn,Zk,Zp,QB t h,Zc];rfl
  |some p=>
   simp only [Uk,Zf];rw [Zl (by simp;omega),Zq (by omega)];simp only [YF,Zk,Zr,ZtQ];have:=hr (out ++ [p.1]) (by simp;omega);refine this.trans ?_;cases XM (ws.drop (k + 1)) with
   |none=>rfl
   |some m=>simp [Ux]
 ·cases XM ws with
  |none=>rfl
  |some m=>simp
theorem ZFo (ws:List (List UInt8)) (hl:ws.length<=1048570) (hw:∀w∈ws,w.length<=1048580):Zil (ws.map bs)=some (match XM ws with |none=>([],false) |some l=>(l,decide (0 < l.length))):=by
 unfold Zil;simp only [YF,QO,Xm,Ut];refine (Yf ws (by omega) (fun k (out:List Path)=>(out,(ws.map bs,(((ws.length:Nat):Int),(k:Int))))) [] (fun k out=>out.length=k) rfl (fun r k out=>some (match XM r with |none=>([],false) |some l=>(out ++ l,decide (0 < (out ++ l).length)))) rfl ?_ ?_).trans ?_
 ·intro rec out hJ;simp only [];rw [Ug (by omega),Zf];simp only [Zs,YG,XM,UJ];congr 2;rw [decide_eq_decide];omega
 ·intro rec k w out hJ hx hk hr;simp only [Up] at hr;simp only [];rw [Ul (by omega),Zn,Zh (K6 hx),ZE4 (bs w) (by have:=hw w (Um hx);show w.length<=_;omega),Zc,ZuH];simp only [XM];cases hp:QI (bs w) with
  |none=>rfl
  |some p=>
   simp only [Uk,Zf];rw [Zl (by simp;omega),Zq (by omega)];simp only [YF,ZtQ];have:=hr (out ++ [p.1]) (by simp;omega);refine this.trans ?_;cases XM (ws.drop (k + 1)) with
   |none=>rfl
   |some m=>simp [Ux]
 ·cases XM ws with
  |none=>rfl
  |some m=>simp
theorem ZoA {V β:Type} {F:(V->Option β)->V->Option β} {v:V} {r:Option β} (h:∀rec,F rec v=r):Ze F NN v=r:=by
 obtain ⟨n,hn⟩:=Zjj;rw [hn,show n + 64=(n + 63) + 1 from rfl,Vd];exact h _
def Zbo (l:List Path) (id:Int):List Int:=if ZD l id < 0\/ZK l=false then [] else (l.filter fun p=>Z2 p (ZQ l id)).map (·.id)
theorem ZFp (l:List Path) (id:Int) (h:Sm l):Zia l id=some (Zbo l id):=by
 have hl:=h;unfold Sm at hl;unfold Zia Zbo;simp only [Zs,XE l id h,Zc,Xn,YG];refine (Yf l (by omega) (fun k (out:List Int)=>(l,(out,(ZD l id,(k:Int))))) [] (fun k out=>out.length<=k) (Ur _) (fun r _ out=>some (if ZD l id < 0\/ZK l=false then out else out ++ (r.filter fun p=>Z2 p (ZQ l id)).map (·.id))) rfl ?_ ?_).trans (by simp)
 ·intro rec out hJ;simp only [Ut];rw [Ug (by omega),Zf];simp only [Zo];simp
 ·intro rec k p out hJ hx hk hr;simp only [Up] at hr;simp only [Ut];rw [Ul (by omega),Zn];by_cases hf:ZD l id < 0
  ·rw [Ug (by omega),Zf];simp only [Zo,hf,true_or,U2]
  ·rw [Ul (by omega),Zn,Je l h,Zc];cases ha:ZK l with
   |false=>simp [Zo]
   |true=>
    simp only [Zn,Zh hx,Y8 hf,ZfC,Zc,Zq (show k<=9223372036854775806 by omega)];rw [Uf (by simp [hf])];have hr1:=hr out (by omega);rw [Uf (by simp [hf,ha])] at hr1;cases hc:Z2 p (ZQ l id) with
    |false=>
     rw [Zf];simp only [Zo];rw [hr1,FC (by simp [hc])]
    |true=>
     rw [Zn,Zl (by simp;omega)];simp only [Zcg];have hr2:=hr (out ++ [p.id]) (by simp;omega);rw [Uf (by simp [hf,ha])] at hr2;rw [hr2,M6 (by simp [hc])];simp
theorem ZFq (l:List Path) (id:Int) (h:Sm l):ZiZ l id=some (Zbo l id):=by
 have hl:=h;unfold Sm at hl;unfold ZiZ Zbo;simp only [Zs,Qb l id h,Zc,Xn,YG,JZ l h];by_cases hf:ZD l id < 0
 ·rw [Ul hf,Zn,Uh (.inl hf)]
 rw [Ug hf,Zf];cases ha:ZK l with
 |false=>simp
 |true=>
 rw [Uk,Zf,Uf (by simp [hf])];refine (Yf l (by omega) (fun k (out:List Int)=>(l,(out,(ZD l id,(l,(((l.length:Nat):Int),(k:Int))))))) [] (fun k out=>out.length<=k) (Ur _) (fun r _ out=>some (out ++ (r.filter fun p=>Z2 p (ZQ l id)).map (·.id))) rfl ?_ ?_).trans (by simp)
 ·intro rec out hJ;simp only [];rw [Ug (by omega),Zf];simp only [Zo];simp
 ·intro rec k p out hJ hx hk hr;simp only [Up] at hr;simp only [];rw [Ul (by omega),Zn];simp only [Zh hx,Y8 hf,Zdx,Zc,Zq (show k<=9223372036854775806 by omega)];have hr1:=hr out (by omega);rw [Zn5];cases hc:Z2 p (ZQ l id) with
  |false=>
   rw [Zf];simp only [Zo];rw [hr1,FC (by simp [hc])]
  |true=>
   rw [Zn,Zl (by simp;omega)];simp only [Zcg];have hr2:=hr (out ++ [p.id]) (by simp;omega);rw [hr2,M6 (by simp [hc])];simp
theorem ZFr (l:List Path) (id:Int) (h:Sm l) (hr:∀p∈l,VQ p):Sm (Zbo l id)/\∀y∈Zbo l id,Rg y:=by
 unfold Zbo;split
 ·exact ⟨by unfold Sm;simp,fun y hy=>by cases hy⟩
 ·refine ⟨?_,fun y hy=> ?_⟩
  ·have:=Fi (fun p=>Z2 p (ZQ l id)) l;unfold Sm at h ⊢;rw [Ut];omega
  ·obtain ⟨p,hp,rfl⟩:=List.mem_map.1 hy;exact (hr p (List.mem_filter.1 hp).1).1
def ZcB (l:List Path) (p:List Part) (id:Int):Int:=if Yp l p=true/\¬ZD l id < 0 then ZdE l p id else 0
theorem ZFs (l:List Path) (p:List Part) (id:Int) (h:Sm l) (hp:SmL p):Zdh l p id=some (ZcB l p id):=by
 unfold ZcB;by_cases c:Yp l p=true/\¬ZD l id < 0
 ·rw [Uh c];exact ZES l p h hp c.1 id c.2
 rw [Uf c];have e:Zdg l p id=some []:=by
  unfold Zdg;simp only [Zs,Xh,Znk l p h hp,Zc,XE l id h];cases hpl:Yp l p with
  |false=>rfl
  |true=>
   have hf:ZD l id < 0:=by
    rcases Int.lt_or_le (ZD l id) 0 with h |h
    ·exact h
    ·exact absurd ⟨hpl,by omega⟩ c
   rw [Uk,Zf,Ul hf,Zn]
 unfold Zdh;simp only [Zs,Xh,e,Zc,Zo];refine ZoA fun rec=> ?_
 simp only [ZZ,UQ];rw [show decide ((0:Int) < W (2 * ((0:Nat):Int)))=false from rfl,Zf,Zcd];rfl
theorem ZFt (l:List Path) (p:List Part) (id:Int) (h:Sm l) (hp:SmL p):Zdt l p id=some (ZcB l p id):=by
 unfold ZcB;by_cases c:Yp l p=true/\¬ZD l id < 0
 ·rw [Uh c];exact ZCL l p h hp c.1 id c.2
 rw [Uf c];have e:Zds l p id=some []:=by
  unfold Zds;simp only [Zs,Xh,Qb l id h,Zc];by_cases hf:ZD l id < 0
  ·rw [Ul hf,Zn]
  ·have hpl:Yp l p=false:=by
    cases hpl:Yp l p with
    |false=>rfl
    |true=>exact absurd ⟨hpl,hf⟩ c
   have hc:cyc l p=0:=by unfold cyc;rw [Uf (by simp [hpl])]
   rw [Ug hf,Zf,Znp l p h hp,Zc,hc];rw [Zl (by decide)];show rws bR (([]:List Bool).map bR.enc) _=_;simp only [Zmv];refine ZoA fun rec=> ?_
   rfl
 unfold Zdt;simp only [Zs,Xh,e,Zc,Zmv];refine ZoA fun rec=> ?_
 rfl
def X1 (x:Control) (p:Int):Bool:=has x.stage p && (x.next.isEmpty || has x.next p)
theorem ZFu (l:List Path) (x:Control) (p:Int) (hx:ZY x):Zid l x p=some (X1 x p):=by
 unfold Zid X1;simp only [Zo,QW _ _ hx.1,QW _ _ hx.2,Zc,ZZ,Qc];cases has x.stage p <;> cases x.next.isEmpty <;> simp
theorem ZFv (x:Control) (p:Int):(XF x p != 1)= !X1 x p:=by
 unfold XF X1;cases has x.stage p <;> cases x.next.isEmpty <;> cases has x.next p <;> rfl
def msr (x:Control) (p:Int):Nat:=
 if X1 x p=true then 0 else if x.next.isEmpty=true then (7 - x.since).toNat + 8 else if has x.next p=true then x.left.toNat else x.left.toNat + 16
theorem ZuK (p:Int):has [p] p=true:=by simp [has]
theorem ZuL {l:List Path} {x:Control} {p:Int} (hc:ZR l x=true) (hr:XJ l p=true) (hg:X1 x p=false):msr (Y9 l x p) p < msr x p:=by
 obtain ⟨h1,h2⟩:=Za9 hc;have hcl:=ZdI l x.stage [p];have m0:msr x p=if x.next.isEmpty=true then (7 - x.since).toNat + 8 else if has x.next p=true then x.left.toNat else x.left.toNat + 16:=by
  unfold msr;rw [Uf (by simp [hg])]
 rw [m0];have hgreen:msr ⟨[p],0,[],0⟩ p=0:=by
  unfold msr;rw [Uh (by simp [X1,ZuK])]
 have eT:QD l x=false->Y9 l x p=Xi l x:=fun h=>by
  have hcond:¬(QD l x && (XJ l p && !has x.stage p))=true:=by simp [h]
  unfold Y9 QE;simp only [Uf hcond,MW,Mx]
 cases hn:x.next.isEmpty with
 |true=>
  simp only [U2];have hst:has x.stage p=false:=by
   unfold X1 at hg;rw [hn] at hg;simpa using hg
  by_cases hcc:QD l x=true
  ·have hcond:(QD l x && (XJ l p && !has x.stage p))=true:=by simp [hcc,hr,hst]
   by_cases h0:Yz l x.stage [p]=0
   ·have e:Y9 l x p=⟨[p],0,[],0⟩:=by
     unfold Y9 QE;simp only [Uh hcond,Uh h0,U2]
    rw [e,hgreen];omega
   ·have e:Y9 l x p=⟨x.stage,x.since,[p],Yz l x.stage [p]⟩:=by
     unfold Y9 QE;simp only [Uh hcond,Uf h0,U2]
    rw [e];unfold msr;split
    ·omega
    ·rw [Uf (show ¬([p]:List Int).isEmpty=true by simp),Uh (ZuK p)];show (Yz l x.stage [p]).toNat < _;omega
  ·rw [eT (by simpa using hcc)];have hs:x.since < 7:=by
    have hcc:QD l x=false:=by simpa using hcc
    unfold QD at hcc;rw [hc,hn] at hcc;simp only [UV] at hcc;have:=of_decide_eq_false hcc;split at this <;> omega
   unfold Xi;rw [Uh hc,Uh hn,Uh (show x.since < 1000000 by omega)];have hg':X1 {x with since:=x.since + 1} p=false:=hg;unfold msr;rw [Uf (by simp [hg']),Uh (show x.next.isEmpty=true from hn)];show (7 - (x.since + 1)).toNat + 8 < _;omega
 |false=>
  simp only [MW,Mx];have hl:=h2 hn;have hcc:QD l x=false:=by unfold QD;rw [hn];simp
  rw [eT hcc];unfold Xi;rw [Uh hc,Uf (show ¬x.next.isEmpty=true by simp [hn])];by_cases h3:x.left > 1
  ·rw [Uh h3];have hg':X1 {x with left:=x.left - 1} p=false:=hg;unfold msr;rw [Uf (by simp [hg']),Uf (show ¬x.next.isEmpty=true by simp [hn])];show (if has x.next p=true then (x.left - 1).toNat else (x.left - 1).toNat + 16) < _;split <;> omega
  ·rw [Uf h3];by_cases hnp:has x.next p=true
   ·rw [Uh hnp];have:msr ⟨x.next,0,[],0⟩ p=0:=by
     unfold msr;rw [Uh (by simp [X1,hnp])]
    rw [this];omega
   ·rw [Uf hnp];unfold msr;split
    ·omega
    ·rw [Uh (show ([]:List Int).isEmpty=true from rfl)];show (7 - (0:Int)).toNat + 8 < _;omega
theorem ZFw {l:List Path} {x:Control} {p:Int} (hc:ZR l x=true):msr x p<=21:=by
 obtain ⟨h1,h2⟩:=Za9 hc;unfold msr;split
 ·omega
 ·split
  ·omega
  ·rename_i hn;have:=h2 (by simpa using hn);split <;> omega
theorem ZFx {l:List Path} {x:Control} {p:Int} (m:Nat):∀(x:Control) (n:Int),ZR l x=true->XJ l p=true->msr x p<=m->0<=n->n + m<=1000000->ZY x->Sm l->
  ∃r:Int,0<=r/\r<=n + m/\∀{V:Type} (F:(V->Option Int)->V->Option Int) (a:Control->Int->V),
   (∀rec x n,ZY x->ZR l x=true->0<=n->n<=1000000->F rec (a x n)=if X1 x p=true then some n else rec (a (Y9 l x p) (n + 1)))->
   ∀k,Ze F (k + m + 1) (a x n)=some r:=by
 induction m with
 |zero=>
  intro x n hc hr hm h0 h1 hx hl;have hg:X1 x p=true:=by
   rcases hgc:X1 x p with _ | _
   ·have:=ZuL hc hr hgc;omega
   ·rfl
  exact ⟨n,h0,by omega,fun F a hF k=>by rw [Vd,hF _ _ _ hx hc h0 (by omega),Uh hg]⟩
 |succ m ih=>
  intro x n hc hr hm h0 h1 hx hl;by_cases hg:X1 x p=true
  ·exact ⟨n,h0,by omega,fun F a hF k=>by rw [Vd,hF _ _ _ hx hc h0 (by omega),Uh hg]⟩
  ·have hlt:=ZuL hc hr (by simpa using hg);obtain ⟨r,r0,r1,hrr⟩:=ih (Y9 l x p) (n + 1) (ZnB hc) hr (by omega) (by omega) (by omega) (ZjG hx) hl;refine ⟨r,r0,by omega,fun F a hF k=> ?_⟩;have e1:=hrr F a hF k;rw [show k + (m + 1) + 1=(k + m + 1) + 1 by omega];rw [Vd,hF _ _ _ hx hc h0 (by omega),Uf hg,e1]
theorem ZFy (l:List Path) (x:Control) (p:Int) (h:Sm l) (hx:ZY x):∃r,Zie l x p=some r/\Zi2 l x p=some r/\Rg r:=by
 unfold Zie Zi2;simp only [Zt,Zs,Zo,Zy,XE l p h,Qb l p h,Jg l x h hx,KO l x h hx,Znw l p h,Zc,Xn];cases hc:ZR l x with
 |false=>exact ⟨-1,rfl,rfl,by decide,by decide⟩
 |true=>
 simp only [Uk,Zf];by_cases hf:ZD l p < 0
 ·have:XJ l p=false:=by unfold XJ;simp [hf]
  rw [Ul hf,Zn,this];exact ⟨-1,rfl,rfl,by decide,by decide⟩
 rw [Ug hf,Zf,Y8 hf];cases hr:XJ l p with
 |false=>
  have:((ZQ l p).kind==2)=true:=by
   unfold XJ at hr;simp only [hf,U3,UT,UV] at hr;simpa using hr
  rw [this,Zn];exact ⟨-1,rfl,rfl,by decide,by decide⟩
 |true=>
  have:((ZQ l p).kind==2)=false:=by
   unfold XJ at hr;simp only [hf,U3,UT,UV] at hr;simpa using hr
  rw [this,Zf,Uk,Zf];obtain ⟨r,r0,r1,hrr⟩:=ZFx (l:=l) (x:=x) (p:=p) 21 x 0 hc hr (ZFw hc) (by omega) (by omega) hx h;obtain ⟨n,hn⟩:=Zjj;refine ⟨r,?_,?_,by omega,by omega⟩
  ·rw [hn];refine hrr _ (fun x n=>((l,(p,n)),x)) ?_ (n + 42);intro rec y n hy hyc n0 n1;simp only [Zs,Zt,Zy,ZFu l y p hy,Zta l y p h hy,Zc];rw [ZB (by omega) (by omega)];cases X1 y p <;> simp
  ·rw [hn];refine hrr _ (fun x n=>((l,(p,(ZD l p,n))),x)) ?_ (n + 42);intro rec y n hy hyc n0 n1;simp only [Zs,Zt,Zy,Zjp l y h hy,Ztb l y p h hy,Zc,Yw];rw [ZB (by omega) (by omega),ZfO hyc hf,ZFv];cases X1 y p <;> simp
theorem ZuM (a:Path):∀(r:List (Path×Int)) (o:Int),Rg o->(∀x∈r,Rg x.1.id)->Rg (goO a r o)
 | [],_,h,_=>h
 |x::r,o,h,hr=>by
  unfold goO;refine ZuM a r _ ?_ fun y hy=>hr y (Ui _ hy)
  split
  ·exact hr x (Un ..)
  ·exact h
theorem ZFz {t:Town} {p s:Int} (hp:Rg p):Zsc (Y0 t p s).1:=by
 cases h:(Y0 t p s).2 with
 |false=>
  have e:(Y0 t p s).1=ZfH:=by
   unfold Y0 at h ⊢;split
   ·rfl
   ·rename_i hc;rw [Uf hc] at h;split
    ·rfl
    ·rename_i e he;rw [he] at h;cases h
  rw [e];exact ⟨⟨by decide,by decide⟩,⟨by decide,by decide⟩,⟨by decide,by decide⟩,⟨by decide,by decide⟩,⟨by decide,by decide⟩⟩
 |true=>
  obtain ⟨ht,m,q,q2,q1,hq,i,e,x,he,e1,e3,e2,hsec,hx,h0,h2,hn,hr⟩:=ZD2 h;rw [hr];simp only [ZS,Ub,UG,inR] at ht;obtain ⟨⟨⟨⟨⟨⟨⟨⟨⟨⟨t1,t2⟩,t3⟩,t4⟩,t5⟩,t6⟩,t7⟩,t8⟩,t9⟩,t10⟩,t11⟩:=ht;have hl:=Zfz t5 e he;have hpaths:ZK t.paths=true:=by
   unfold ZR at t1;simp only [Ub] at t1;exact Zcm t1.1.1.1.2
  refine ⟨hp,(show Rg s from ⟨by omega,by omega⟩),(show Rg x from ⟨by omega,by omega⟩),?_,ZuM q _ _ (show Rg 0 from ⟨by decide,by decide⟩) fun y hy=> ?_⟩
  ·show Rg (VU t.record m s);unfold VU;split
   ·exact Zup _
   ·exact (show Rg (-1) from ⟨by decide,by decide⟩)
  ·have hm:y.1∈t.paths:=(List.of_mem_zip hy).1;have:=Zba hpaths (Zn6 hm);exact ⟨by omega,by omega⟩
theorem V2 {n:Int} (h1: -1000000000<=n) (h2:n<=1000000000):Rg n:=⟨by omega,by omega⟩
def RgT (t:Town):Prop:=Zje t.control/\(∀y∈t.paths,VQ y)/\Rg t.books/\Rg t.now
theorem ZFA (l:List Path) (x:List Lamp) (p:Bool):Yc l x p=0\/Yc l x p=1\/Yc l x p=2:=by
 unfold Yc;split
 ·simp
 ·split
  ·simp
  ·split <;> simp
def ZfZ (m:Int):ByteArray:=if m=0 then bs [102,117,108,108] else if m=1 then bs [98,108,105,110,107] else bs [100,97,114,107]
theorem ZFB (m:Int):(ZfZ m).size<=5:=by
 unfold ZfZ;split
 ·decide
 ·split <;> decide
theorem ZFC {m:Int} (h:m=0\/m=1\/m=2):ZmI m=some (ZfZ m):=by
 rcases h with rfl |rfl |rfl <;> rfl
theorem ZFD {m:Int} (h:m=0\/m=1\/m=2):ZmZ m=some (ZfZ m):=by
 rcases h with rfl |rfl |rfl <;> rfl
theorem ZoB {α:Type} {l:List α} (h:Sm l):Rg (l.length:Int):=by
 unfold Sm at h;exact ⟨by omega,by omega⟩
theorem ZFE (t:Town) (h:Zw t) (kb:Rg t.books) (kn:Rg t.now):∃v,Zh3 t=some v/\Zi6 t=some v:=by
 obtain ⟨h0,h1,h2,h3,h4⟩:=h;have hm:=ZFA t.paths t.lamps t.power;have e1:QR t=some (Yc t.paths t.lamps t.power):=by unfold QR;simp [Zjq _ _ _ h0 h3]
 have e2:QV t=some (Yc t.paths t.lamps t.power):=by unfold QV;simp [Zjr _ _ _ h0 h3]
 have hs:Sm [(t.paths.length:Int),(t.wants.length:Int),(t.record.length:Int),t.books]:=by unfold Sm;simp
 have hrg:∀y∈ [(t.paths.length:Int),(t.wants.length:Int),(t.record.length:Int),t.books],Rg y:=by
  intro y hy;simp only [List.mem_cons,List.not_mem_nil,or_false] at hy;rcases hy with rfl |rfl |rfl |rfl
  ·exact ZoB h0
  ·exact ZoB h2
  ·exact ZoB h4.1
  ·exact kb
 have z0:=Y3 kn;have z1:=ZFB (Yc t.paths t.lamps t.power);have z2:=Zj7 hs hrg;have e:∀(a b c d:Int) (K:List Int->Option ByteArray),rws iR [[I a],[I b],[I c],[I d]] K=K [a,b,c,d]:=fun _ _ _ _ _=>rfl
 unfold Zh3 Zi6;simp only [Zk,Zp,Zr,Zo,Zs,ZP,Z3,Z0,YG,X7,Vf,Zy,ZX,e,e1,e2,ZFC hm,ZFD hm,QF _ kn,Q1 _ kn,ZdM _ hs hrg,ZdN _ hs hrg,Zc,ZfS,UN,YN,UK,UQ];refine ⟨Yg t.now ++ bs [32] ++ ZfZ (Yc t.paths t.lamps t.power) ++ bs [32] ++ Qg [(t.paths.length:Int),(t.wants.length:Int),(t.record.length:Int),t.books],?_,?_⟩ <;>
  rw [Zl (by omega),Zl (by omega),Zl (by omega),Zl (by omega)]
theorem ZuN:∀{p:List Part},(∀x∈p,x.stage.length<=20)->Zcu p<=20 * p.length
 | [],_=>by simp [Zcu]
 |x::p,h=>by
  rw [Zt8];have:=ZuN (p:=p) fun y hy=>h y (Ui _ hy)
  have:=h x (Un ..);simp only [UK];omega
theorem ZuO (l:List Path) (h:Sm l):ZeX l=some (QH l):=by
 obtain ⟨hs,hn⟩:=Zod l;unfold ZeX;simp only [Zs,ZtI l h,Zc,ZaH,ZbQ,Ve,Zhr,Zo,Xh];refine (Yf (Y2 l) (by omega) (fun k acc=>(l,acc,Y2 l,(k:Int))) [] (fun k acc=>acc=((Y2 l).take k).map fun s=>(⟨s,YS l s⟩:Part)) rfl (fun _ _ _=>some (QH l)) rfl ?_ ?_).trans rfl
 ·intro rec acc ha;rw [MU] at ha;have ha:acc=K3 l:=ha;subst ha;simp only [show decide ((((Y2 l).length:Nat):Int) < (((Y2 l).length:Nat):Int))=false from Ug (by omega),Zf,Zs,ZE5,Xh,Znk l _ h (Zoe l),Zc];unfold QH;cases Yp l (K3 l) <;> rfl
 ·intro rec k s acc ha hx hk hr;have hlen:acc.length=k:=by rw [ha,Ut,Uc];omega
  have hr':=hr (acc ++ [⟨s,YS l s⟩]) (by rw [ha];exact Zuc (fun s=>(⟨s,YS l s⟩:Part)) hx);simp only [Up] at hr';simp [hk,Zh hx,Zjz l s h (hs s (Um hx)),Zub,Zq (show k<=9223372036854775806 by omega),hlen,show (k + 1) * 32<=140737488355328 by omega,show k<=1152921504606846975 by omega,hr']
theorem ZuP (l:List Path) (h:Sm l):Zfj l=some (QH l):=by
 obtain ⟨hs,hn⟩:=Zod l;unfold Zfj;simp only [Zs,ZtH l h,Zc,JM,Ve];refine (Yf (Y2 l) (by omega) (fun k acc=>(l,acc,Y2 l,((Y2 l).length:Int),(k:Int))) [] (fun k acc=>acc=((Y2 l).take k).map fun s=>(⟨s,YS l s⟩:Part)) rfl (fun _ _ _=>some (QH l)) rfl ?_ ?_).trans rfl
 ·intro rec acc ha;rw [MU] at ha;have ha:acc=K3 l:=ha;subst ha;simp only [ltF,Zf,Zs,Xh,ZsR l _ h (Zoe l),Zc];unfold QH;cases Yp l (K3 l) <;> rfl
 ·intro rec k s acc ha hx hk hr;have hlen:acc.length=k:=by rw [ha,Ut,Uc];omega
  have hr':=hr (acc ++ [⟨s,YS l s⟩]) (by rw [ha];exact Zuc (fun s=>(⟨s,YS l s⟩:Part)) hx);simp only [Up] at hr';simp [hk,Zh hx,ZjA l s h (hs s (Um hx)),Zub,Zq (show k<=9223372036854775806 by omega),hlen,show (k + 1) * 32<=140737488355328 by omega,show k<=1152921504606846975 by omega,hr']
theorem ZFF (t:Town) (h:Zw t):∃v,ZeY (QH t.paths)=some v/\Zfk (QH t.paths)=some v:=by
 have hp:=(ZE6 t.paths).1;have:=ZuN fun y hy=>(hp.2 y hy).1
 have:=hp.1;exact ⟨_,ZEo _ ⟨by have:=hp.1;unfold Sm;omega,fun y hy=>by have:=(hp.2 y hy).1;show Sm y.stage;unfold Sm;omega⟩ (fun y hy=>⟨⟨by have:=(hp.2 y hy).1;unfold maxLen;omega,(hp.2 y hy).2.1⟩,(hp.2 y hy).2.2⟩) (by omega)⟩
theorem ZFG (t:Town):∃v,JS (K5 t.paths)=some v/\JY (K5 t.paths)=some v:=by
 obtain ⟨h1,h2⟩:=Zoc t.paths;have hs:Sm (K5 t.paths):=by unfold Sm K5;rw [Ut];omega
 have hr:∀y∈K5 t.paths,Rg y:=fun y hy=>by
  obtain ⟨s,hm,rfl⟩:=List.mem_map.1 hy;have:=h2 s hm;exact V2 (by omega) (by omega)
 exact ⟨_,ZdM _ hs hr,ZdN _ hs hr⟩
theorem ZoC (row:List Int) (M:Int):∀(ks:List Nat) (b n:Int),0<=b->0<=n->b<=M->n + ks.length<=M->0<=gW row ks b n/\gW row ks b n<=M
 | [],b,n,h0,h1,h2,h3=>by
  unfold gW;split <;> omega
 |k::ks,b,n,h0,h1,h2,h3=>by
  rw [UK] at h3;unfold gW;split
  ·refine ZoC row M ks _ _ ?_ (by omega) ?_ (by omega) <;> split <;> omega
  ·refine ZoC row M ks _ _ ?_ (by omega) ?_ (by omega) <;> split <;> omega
theorem ZFH (l:List Path) (p:List Part) (id:Int):Rg (ZcB l p id):=by
 unfold ZcB;split
 ·rename_i c;have h1:=ZdD c.1;have:=ZoC (YJ l p id) 1000 (List.range (2 * cyc l p)) 0 0 (by omega) (by omega) (by omega) (by rw [Fj];omega);unfold ZdE;exact V2 (by omega) (by omega)
 ·exact V2 (by omega) (by omega)
theorem ZuQ (t:Town) (h:Zw t) (hr:RgT t) (w:List UInt8):∃v0 v1 v2 v3 v4 v5 v6 v7:ByteArray,
  Ze1 t (bs w)=some (if w= [108,105,103,104,116,115] then v0 else if w= [115,101,101,110] then v1 else if w= [99,111,110,116,114,111,108] then v2 else if w= [112,97,116,104,115] then v3 else if w= [112,108,97,110] then v4 else if w= [115,116,97,103,101,115] then v5 else if w= [116,111,119,110] then v6 else if w= [97,117,100,105,116] then v7 else XN)/\
  (∀n,YI t (bs [108,105,103,104,116,115]) n=some v0)/\(∀n,YI t (bs [115,101,101,110]) n=some v1)/\(∀n,YI t (bs [99,111,110,116,114,111,108]) n=some v2)/\(∀n,YI t (bs [112,97,116,104,115]) n=some v3)/\
  (∀n,YI t (bs [112,108,97,110]) n=some v4)/\(∀n,YI t (bs [115,116,97,103,101,115]) n=some v5)/\(∀n,YI t (bs [116,111,119,110]) n=some v6)/\(∀n,YI t (bs [97,117,100,105,116]) n=some v7):=by
 obtain ⟨k1,k2,k3,k4⟩:=hr;obtain ⟨v2,a2,b2⟩:=ZEi t.control h.2.1 k1;obtain ⟨v4,a4,b4⟩:=ZFF t h;obtain ⟨v5,a5,b5⟩:=ZFG t;obtain ⟨v6,a6,b6⟩:=ZFE t h k3 k4;obtain ⟨v7,a7,b7⟩:=ZET t h;have hl:=ZjF t h;have hs:=ZCw t h;refine ⟨Ki (YA t),Ki (Zck t),v2,ZfT t.paths,v4,v5,v6,(if v7=bs [] then ZuI else v7),?_,?_,?_,?_,?_,?_,?_,?_,?_⟩
 ·unfold Ze1;simp only [Xa,YK,Zt,Zk,Zp,Zr,Zs,Zo,Xh,ZfE t h,ZCu t h,Zc,Zj3 _ hl,Zj3 _ hs,a2,ZEl t.paths h.1 k2,ZuO t.paths h.1,a4,ZEQ t.paths h.1,a5,a6,a7,ZG,UG]
  repeat (split; · rfl)
  split
  ·simp only [Zcy,UI,U9];by_cases c:v7=bs []
   ·rw [Uf (by simp [c]),Uh c];rfl
   ·rw [Uh c,Uf c]
  ·rfl
 all_goals intro n
 all_goals unfold YI
 all_goals simp only [Xa,YK,Zt,Zk,Zp,Zr,Zs,Zo,Xh,ZfF t h,ZCv t h,Zc,Zj4 _ hl,Zj4 _ hs,b2,ZEm t.paths h.1 k2,ZuP t.paths h.1,b4,ZER t.paths h.1,b5,b6,b7,ZG,UG]
 all_goals repeat rw [Uf (by decide)]
 all_goals try rw [Uh trivial]
 simp only [Zcy,UI,U9];by_cases c:v7=bs []
 ·rw [Uf (by simp [c]),Uh c];rfl
 ·rw [Uh c,Uf c]
theorem ZuR (t:Town) (h:Zw t) (hr:RgT t) (w:List UInt8) (a:Int):∃v0 v1 v2 v3:ByteArray,
  Ze2 t (bs w) a=some (if w= [99,111,110,102,108,105,99,116,115] then v0 else if w= [119,97,105,116] then v1 else if w= [115,105,114,101,110] then v2 else if w= [115,104,111,119,110] then v3 else XN)/\
  YI t (bs [99,111,110,102,108,105,99,116,115]) [a]=some v0/\YI t (bs [119,97,105,116]) [a]=some v1/\YI t (bs [115,105,114,101,110]) [a]=some v2/\YI t (bs [115,104,111,119,110]) [a]=some v3:=by
 obtain ⟨k1,k2,k3,k4⟩:=hr;obtain ⟨c1,c2⟩:=ZFr t.paths a h.1 k2;obtain ⟨r,e1,e2,e3⟩:=ZFy t.paths t.control a h.1 h.2.1;have hw:=ZFH t.paths (QH t.paths) a;have hp:=ZEs t.paths;have hs:=Zng a h.2.2.2.2;have hz:∀{β:Type} (K:Int->Option β),Z6 [a] 0 K=K a:=fun K=>rfl
 refine ⟨Qg (Zbo t.paths a),Yg (ZcB t.paths (QH t.paths) a),Yg r,(if (Qd t.record a).2=true then Ki (Qd t.record a).1 else Zki),?_,?_,?_,?_,?_⟩
 ·unfold Ze2;simp only [Xa,YK,Zt,Zk,Zp,Zr,Zs,Zo,Xh,Z0,Zy,ZFp t.paths a h.1,ZuO t.paths h.1,ZFs t.paths _ a h.1 hp,e1,Zjx t.record a h.2.2.2.2,Zc,ZdM _ c1 c2,QF _ hw,QF _ e3,Zj3 _ hs,ZG,UG]
  repeat (split; · rfl)
  split
  ·cases (Qd t.record a).2 <;> rfl
  ·rfl
 all_goals unfold YI
 all_goals simp only [Xa,YK,Zt,Zk,Zp,Zr,Zs,Zo,Xh,Z0,Zy,Yw,hz,ZFq t.paths a h.1,ZuP t.paths h.1,ZFt t.paths _ a h.1 hp,e2,ZsJ t.record a h.2.2.2.2,Zc,ZdN _ c1 c2,Q1 _ hw,Q1 _ e3,Zj4 _ hs,ZG,UG]
 all_goals repeat rw [Uf (by decide)]
 all_goals try rw [Uh trivial]
 cases (Qd t.record a).2 <;> rfl
theorem ZuS (t:Town) (h:Zw t) (w:List UInt8) (a b:Int) (ha:Rg a):∃v:ByteArray,
  X8 t (bs w) [a,b]=some (if w= [114,101,112,111,114,116] then v else XN)/\YI t (bs [114,101,112,111,114,116]) [a,b]=some v:=by
 obtain ⟨v,e1,e2⟩:=ZEk _ (ZFz (t:=t) (p:=a) (s:=b) ha);have hz:∀{β:Type} (K:Int->Option β),Z6 [a,b] 0 K=K a:=fun K=>rfl
 have hz1:∀{β:Type} (K:Int->Option β),Z6 [a,b] 1 K=K b:=fun K=>rfl
 refine ⟨(if (Y0 t a b).2=true then v else Zki),?_,?_⟩
 ·unfold X8;simp only [ZZ,UK,UQ,Xa,YK,Zk,Yw,hz,hz1,Zni t a b h,Zc,e1];rw [show (((0 + 1 + 1:Nat):Int)==0)=false from rfl,Zf,show (((0 + 1 + 1:Nat):Int)==1)=false from rfl,Zf,show (((0 + 1 + 1:Nat):Int)==2)=true from rfl,Zn,show (((0 + 1 + 1:Nat):Int)==3)=false from rfl];simp only [ZG,UG];split
  ·cases (Y0 t a b).2 <;> rfl
  ·rfl
 ·unfold YI;simp only [Xa,YK,Zk,Yw,hz,hz1,Znj t a b h,Zc,e2,ZG,UG]
  repeat rw [Uf (by decide)]
  rw [Uh trivial];cases (Y0 t a b).2 <;> rfl
theorem ZuT (t:Town) (h:Zw t) (w:List UInt8) (a b c:Int):∃v:ByteArray,
  X8 t (bs w) [a,b,c]=some (if w= [118,101,114,100,105,99,116] then v else XN)/\YI t (bs [118,101,114,100,105,99,116]) [a,b,c]=some v:=by
 obtain ⟨v,e1,e2⟩:=ZBY (Y0 t a c).1 (Y0 t b c).1;have hz:∀{β:Type} (K:Int->Option β),Z6 [a,b,c] 0 K=K a:=fun K=>rfl
 have hz1:∀{β:Type} (K:Int->Option β),Z6 [a,b,c] 1 K=K b:=fun K=>rfl
 have hz2:∀{β:Type} (K:Int->Option β),Z6 [a,b,c] 2 K=K c:=fun K=>rfl
 refine ⟨(if (Y0 t a c).2=true/\(Y0 t b c).2=true then v else Zki),?_,?_⟩
 ·unfold X8;simp only [ZZ,UK,UQ,Xa,YK,Zk,Yw,hz,hz1,hz2,Zni t a c h,Zni t b c h,Zc,e1];rw [show (((0 + 1 + 1 + 1:Nat):Int)==0)=false from rfl,Zf,show (((0 + 1 + 1 + 1:Nat):Int)==1)=false from rfl,Zf,show (((0 + 1 + 1 + 1:Nat):Int)==2)=false from rfl,Zf,show (((0 + 1 + 1 + 1:Nat):Int)==3)=true from rfl,Zn];simp only [ZG,UG];split
  ·cases (Y0 t a c).2 <;> cases (Y0 t b c).2 <;> rfl
  ·rfl
 ·unfold YI;simp only [Xa,YK,Zk,Yw,hz,hz1,hz2,Znj t a c h,Znj t b c h,Zc,e2,ZG,UG]
  repeat rw [Uf (by decide)]
  rw [Uh trivial];cases (Y0 t a c).2 <;> cases (Y0 t b c).2 <;> rfl
theorem K8 (t:Town) (w:ByteArray):X8 t w []=Ze1 t w:=by
 unfold X8;simp only [ZZ,UQ,Zk,Za1];rfl
theorem ZuU (t:Town) (w:ByteArray) (a:Int):X8 t w [a]=Ze2 t w a:=by
 unfold X8;simp only [ZZ,UK,UQ,Zk,Za1,Yw];rfl
theorem ZFI (t:Town) (w:ByteArray) (a b c d:Int) (l:List Int):X8 t w (a::b::c::d::l)=some XN:=by
 unfold X8;simp only [ZZ,UK,Zk];have e:∀k:Int,k<=3->(((l.length + 1 + 1 + 1 + 1:Nat):Int)==k)=false:=fun k hk=>by rw [Mc];omega
 rw [e 0 (by omega),Zf,e 1 (by omega),Zf,e 2 (by omega),Zf,e 3 (by omega),Zf];rfl
def Kl:Evt:=⟨0,0,0,false⟩
def X2 (w:List UInt8):List Int->Evt
 | [a]=>if w= [99,97,108,108] then ⟨1,a,0,false⟩ else if w= [98,117,115] then ⟨2,a,0,false⟩ else if w= [104,101,108,112] then ⟨6,a,0,false⟩ else
   if w= [112,111,119,101,114]/\0<=a/\a<=1 then ⟨4,0,0,a==1⟩ else if w= [114,117,110] then ⟨5,0,a,false⟩ else Kl
 | [a,b]=>if w= [98,114,101,97,107] then ⟨3,a,b,true⟩ else if w= [109,101,110,100] then ⟨3,a,b,false⟩ else Kl
 | _=>Kl
theorem Zkj (w:List UInt8) (n:List Int):ZeP (bs w) n=some (X2 w n):=by
 unfold ZeP ZmG ZeO;simp only [ZZ,Xa,YK,Yw,Jd,Zc]
 match n with
 | []=>rfl
 | [a]=>
  have hz:∀{β:Type} (K:Int->Option β),Z6 [a] 0 K=K a:=fun K=>rfl
  simp only [UK,UQ,hz];rw [show (((0 + 1:Nat):Int)==1)=true from rfl,show (((0 + 1:Nat):Int)==2)=false from rfl];simp only [Zn,Zf];unfold X2;by_cases h1:w= [99,97,108,108]
  ·simp [h1]
  by_cases h2:w= [98,117,115]
  ·simp [h2]
  by_cases h3:w= [104,101,108,112]
  ·simp [h3]
  by_cases h4:w= [112,111,119,101,114]
  ·by_cases h5:0<=a
   ·by_cases h6:a<=1
    ·simp [h4,h5,h6]
    ·simp [h4,h5,h6,Kl]
   ·simp [h4,h5,Kl]
  by_cases h5:w= [114,117,110]
  ·simp [h5]
  ·simp [h1,h2,h3,h4,h5,Kl]
 | [a,b]=>
  have hz:∀{β:Type} (K:Int->Option β),Z6 [a,b] 0 K=K a:=fun K=>rfl
  have hz1:∀{β:Type} (K:Int->Option β),Z6 [a,b] 1 K=K b:=fun K=>rfl
  simp only [UK,UQ,hz,hz1];rw [show (((0 + 1 + 1:Nat):Int)==1)=false from rfl,show (((0 + 1 + 1:Nat):Int)==2)=true from rfl];simp only [Zn,Zf];unfold X2;by_cases h1:w= [98,114,101,97,107]
  ·simp [h1]
  by_cases h2:w= [109,101,110,100]
  ·simp [h2]
  ·simp [h1,h2,Kl]
 |a::b::c::l=>
  simp only [UK];have e:∀k:Int,k<=2->(((l.length + 1 + 1 + 1:Nat):Int)==k)=false:=fun k hk=>by rw [Mc];omega
  rw [e 1 (by omega),e 2 (by omega)];rfl
theorem ZFJ (u:List UInt8):0<=(Y4 u).1:=by
 rw [←ZuC];unfold Zkh;split
 ·exact Fk _
 ·rename_i h;cases hp:pd u 0 with
  |none=>exact Fk _
  |some n=>
   have hv:pd u 0=some ((dvN u 0:Nat):Int):=Zow u 0 (Zox u 0 n hp) (by
    have:10 ^ u.length<=10 ^ 13:=Ml (by omega) (by omega);omega)
   rw [hp] at hv;have hn:=Uo hv;simp only;split
   ·exact Fk _
   ·split
    ·rw [hn];exact Fw _
    ·exact Fk _
theorem ZuV:∀{ws:List (List UInt8)} {l:List Int},Xb ws=some l->∀y∈l,0<=y
 | [],l,h=>by
  have:=Uo h;subst this;exact fun y hy=>by cases hy
 |w::r,l,h=>by
  unfold Xb at h;split at h
  ·cases hr:Xb r with
   |none=>rw [hr] at h;cases h
   |some m=>
    rw [hr] at h;have:=Uo h;subst this;intro y hy;rcases List.mem_cons.1 hy with rfl |hy
    ·exact ZFJ w
    ·exact ZuV hr y hy
  ·cases h
def YT (w:List UInt8):Int:=
 if w= [108,105,103,104,116,115] then 0 else if w= [115,101,101,110] then 0 else if w= [99,111,110,116,114,111,108] then 0 else if w= [112,97,116,104,115] then 0 else if w= [112,108,97,110] then 0 else if w= [115,116,97,103,101,115] then 0 else if w= [116,111,119,110] then 0 else if w= [97,117,100,105,116] then 0 else
 if w= [99,97,108,108] then 1 else if w= [98,117,115] then 1 else if w= [104,101,108,112] then 1 else if w= [112,111,119,101,114] then 1 else if w= [114,117,110] then 1 else if w= [99,111,110,102,108,105,99,116,115] then 1 else if w= [119,97,105,116] then 1 else if w= [115,105,114,101,110] then 1 else if w= [115,104,111,119,110] then 1 else
 if w= [98,114,101,97,107] then 2 else if w= [109,101,110,100] then 2 else if w= [114,101,112,111,114,116] then 2 else if w= [118,101,114,100,105,99,116] then 3 else -1
theorem ZFK (w:List UInt8):Zix (bs w)=some (YT w):=by
 unfold Zix YT;simp only [Xa,YK,ZG,UG,apply_ite (some:Int->Option Int)]
def QJ (w:List UInt8):Prop:=w= [99,97,108,108]\/w= [98,117,115]\/w= [104,101,108,112]\/w= [112,111,119,101,114]\/w= [114,117,110]\/w= [98,114,101,97,107]\/w= [109,101,110,100]
theorem ZFL (t:Town) (w:List UInt8) (l:List Int) (h:¬QJ w):XB t (bs w) l=some (t,(false,false)):=by
 unfold QJ at h;simp only [not_or] at h;obtain ⟨h1,h2,h3,h4,h5,h6,h7⟩:=h;unfold XB;simp only [Xa,YK,Ug h1,Ug h2,Ug h3,Ug h4,Ug h5,Ug h6,Ug h7,Zf,Zk]
noncomputable def V3 (t:Town) (w:List UInt8) (l:List Int):Option (Town×ByteArray):=
 bnd (ZeP (bs w) l) fun e=>cnd (decide (e.kind > 0)) (bnd (ZeU t e) fun x=>Zdc t x.1 x.2) (bnd (X8 t (bs w) l) fun v=>some (t,v))
noncomputable def Km (t:Town) (w:List UInt8) (l:List Int):Option (Town×ByteArray):=
 bnd (XB t (bs w) l) fun r=>cnd (!r.2.2) (bnd (YI t (bs w) l) fun v=>some (t,v)) (ZaU t r.1 r.2.1)
theorem ZFM {t:Town} {w:List UInt8} {l:List Int} (h:Zw t) (hk:(X2 w l).kind > 0):V3 t w l=some (Kk t (K0 t (X2 w l))):=by
 unfold V3;rw [Zkj,Zc,Ul hk,Zn,Zn4 t _ h,Zc,Zoz _ _ _ h]
theorem ZdU {t:Town} {w:List UInt8} {l:List Int} {v:ByteArray} (hk:X2 w l=Kl) (hv:X8 t (bs w) l=some v):V3 t w l=some (t,v):=by
 unfold V3;rw [Zkj,Zc,hk,show decide (Kl.kind > 0)=false from rfl,Zf,hv,Zc]
theorem ZFN {t:Town} {w:List UInt8} {l:List Int} {v:ByteArray} (hw:¬QJ w) (hv:YI t (bs w) l=some v):Km t w l=some (t,v):=by
 unfold Km;rw [ZFL t w l hw,Zc,UT,Zn,hv,Zc]
theorem ZFO {t:Town} {w:List UInt8} {l:List Int} {x:Town×Bool} (h:Zw t) (hv:XB t (bs w) l=some (x.1,(x.2,true))):Km t w l=some (Kk t x):=by
 unfold Km;rw [hv,Zc,Uk,Zf,ZuJ _ _ _ h]
theorem ZFP (t:Town) (w:List UInt8) (l:List Int) (h:Zw t) (hr:RgT t) (hl:∀y∈l,Rg y) (hbad:(l.length:Int)≠YT w\/(w= [112,111,119,101,114]/\∃a,l= [a]/\1 < a)):V3 t w l=some (t,XN):=by
 have bad:(l.length:Int)=YT w->w≠ [112,111,119,101,114]->False:=fun e hw=>by
  rcases hbad with h1 | ⟨h1,_⟩
  ·exact h1 e
  ·exact hw h1
 match l,hbad,bad,hl with
 | [],hbad,bad,_=>
  obtain ⟨v0,v1,v2,v3,v4,v5,v6,v7,e,_⟩:=ZuQ t h hr w;refine ZdU rfl ?_;rw [K8,e];congr 1;have no:∀x:List UInt8,YT x=0->x≠ [112,111,119,101,114]->¬w=x:=fun x hx hp e=>by subst e;exact bad (by rw [hx];rfl) hp
  rw [Uf (no _ (by decide) (by decide)),Uf (no _ (by decide) (by decide)),Uf (no _ (by decide) (by decide)),Uf (no _ (by decide) (by decide)),Uf (no _ (by decide) (by decide)),Uf (no _ (by decide) (by decide)),Uf (no _ (by decide) (by decide)),Uf (no _ (by decide) (by decide))]
 | [a],hbad,bad,_=>
  obtain ⟨v0,v1,v2,v3,e,_⟩:=ZuR t h hr w a;have no:∀x:List UInt8,YT x=1->x≠ [112,111,119,101,114]->¬w=x:=fun x hx hp e=>by subst e;exact bad (by rw [hx];rfl) hp
  have np:¬(w= [112,111,119,101,114]/\0<=a/\a<=1):=by
   rintro ⟨e1,e2,e3⟩;rcases hbad with h1 | ⟨_,b,h2,h3⟩
   ·rw [e1] at h1;exact h1 (show ((1:Nat):Int)=_ by decide)
   ·have:a=b:=by injection h2
    omega
  refine ZdU ?_ ?_
  ·simp only [X2];rw [Uf (no _ (by decide) (by decide)),Uf (no _ (by decide) (by decide)),Uf (no _ (by decide) (by decide)),Uf np,Uf (no _ (by decide) (by decide))]
  ·rw [ZuU,e];congr 1;rw [Uf (no _ (by decide) (by decide)),Uf (no _ (by decide) (by decide)),Uf (no _ (by decide) (by decide)),Uf (no _ (by decide) (by decide))]
 | [a,b],hbad,bad,hl=>
  obtain ⟨v,e,_⟩:=ZuS t h w a b (hl a (by simp));have no:∀x:List UInt8,YT x=2->x≠ [112,111,119,101,114]->¬w=x:=fun x hx hp e=>by subst e;exact bad (by rw [hx];rfl) hp
  refine ZdU ?_ ?_
  ·simp only [X2];rw [Uf (no _ (by decide) (by decide)),Uf (no _ (by decide) (by decide))]
  ·rw [e,Uf (no _ (by decide) (by decide))]
 | [a,b,c],hbad,bad,_=>
  obtain ⟨v,e,_⟩:=ZuT t h w a b c;have no:∀x:List UInt8,YT x=3->x≠ [112,111,119,101,114]->¬w=x:=fun x hx hp e=>by subst e;exact bad (by rw [hx];rfl) hp
  refine ZdU rfl ?_;rw [e,Uf (no _ (by decide) (by decide))]
 |a::b::c::d::l,_,_,_=>exact ZdU rfl (ZFI t _ a b c d l)
theorem ZFQ (w:List UInt8):YT w= -1\/(YT w=0/\(w= [108,105,103,104,116,115]\/w= [115,101,101,110]\/w= [99,111,110,116,114,111,108]\/w= [112,97,116,104,115]\/w= [112,108,97,110]\/w= [115,116,97,103,101,115]\/w= [116,111,119,110]\/w= [97,117,100,105,116]))\/
  (YT w=1/\(w= [99,97,108,108]\/w= [98,117,115]\/w= [104,101,108,112]\/w= [112,111,119,101,114]\/w= [114,117,110]\/w= [99,111,110,102,108,105,99,116,115]\/w= [119,97,105,116]\/w= [115,105,114,101,110]\/w= [115,104,111,119,110]))\/
  (YT w=2/\(w= [98,114,101,97,107]\/w= [109,101,110,100]\/w= [114,101,112,111,114,116]))\/(YT w=3/\w= [118,101,114,100,105,99,116]):=by
 unfold YT;by_cases h1:w= [108,105,103,104,116,115]
 ·simp [h1]
 by_cases h2:w= [115,101,101,110]
 ·simp [h2]
 by_cases h3:w= [99,111,110,116,114,111,108]
 ·simp [h3]
 by_cases h4:w= [112,97,116,104,115]
 ·simp [h4]
 by_cases h5:w= [112,108,97,110]
 ·simp [h5]
 by_cases h6:w= [115,116,97,103,101,115]
 ·simp [h6]
 by_cases h7:w= [116,111,119,110]
 ·simp [h7]
 by_cases h8:w= [97,117,100,105,116]
 ·simp [h8]
 by_cases h9:w= [99,97,108,108]
 ·simp [h9]
 by_cases h10:w= [98,117,115]
 ·simp [h10]
 by_cases h11:w= [104,101,108,112]
 ·simp [h11]
 by_cases h12:w= [112,111,119,101,114]
 ·simp [h12]
 by_cases h13:w= [114,117,110]
 ·simp [h13]
 by_cases h14:w= [99,111,110,102,108,105,99,116,115]
 ·simp [h14]
 by_cases h15:w= [119,97,105,116]
 ·simp [h15]
 by_cases h16:w= [115,105,114,101,110]
 ·simp [h16]
 by_cases h17:w= [115,104,111,119,110]
 ·simp [h17]
 by_cases h18:w= [98,114,101,97,107]
 ·simp [h18]
 by_cases h19:w= [109,101,110,100]
 ·simp [h19]
 by_cases h20:w= [114,101,112,111,114,116]
 ·simp [h20]
 by_cases h21:w= [118,101,114,100,105,99,116]
 ·simp [h21]
 ·left;simp [h1,h2,h3,h4,h5,h6,h7,h8,h9,h10,h11,h12,h13,h14,h15,h16,h17,h18,h19,h20,h21]
theorem ZcC {t:Town} {w:List UInt8} {l:List Int} {x:Town×Bool} (h:Zw t) (hk:(X2 w l).kind > 0) (hx:K0 t (X2 w l)=x) (hv:XB t (bs w) l=some (x.1,(x.2,true))):∃r,V3 t w l=some r/\Km t w l=some r:=
 ⟨Kk t x,by rw [ZFM h hk,hx],ZFO h hv⟩
theorem Js {t:Town} {w:List UInt8} {l:List Int} {v:ByteArray} (hk:X2 w l=Kl) (hw:¬QJ w) (hs:X8 t (bs w) l=some v) (hi:YI t (bs w) l=some v):∃r,V3 t w l=some r/\Km t w l=some r:=
 ⟨(t,v),ZdU hk hs,ZFN hw hi⟩
theorem ZFR (t:Town) (w:List UInt8) (l:List Int) (h:Zw t) (hr:RgT t) (hl:∀y∈l,Rg y/\0<=y) (hn:(l.length:Int)=YT w) (hp:∀a,w= [112,111,119,101,114]->l= [a]->a<=1):∃r,V3 t w l=some r/\Km t w l=some r:=by
  rcases ZFQ w with hA | ⟨hA,hw⟩ | ⟨hA,hw⟩ | ⟨hA,hw⟩ | ⟨hA,hw⟩
  · omega
  · have hl0:l= []:=List.length_eq_zero_iff.1 (by omega);subst hl0;obtain ⟨v0,v1,v2,v3,v4,v5,v6,v7,e,i0,i1,i2,i3,i4,i5,i6,i7⟩:=ZuQ t h hr w;rcases hw with rfl |rfl |rfl |rfl |rfl |rfl |rfl |rfl
    · exact Js rfl (by unfold QJ;decide) (by rw [K8,e];rfl) (i0 _)
    · exact Js rfl (by unfold QJ;decide) (by rw [K8,e];rfl) (i1 _)
    · exact Js rfl (by unfold QJ;decide) (by rw [K8,e];rfl) (i2 _)
    · exact Js rfl (by unfold QJ;decide) (by rw [K8,e];rfl) (i3 _)
    · exact Js rfl (by unfold QJ;decide) (by rw [K8,e];rfl) (i4 _)
    · exact Js rfl (by unfold QJ;decide) (by rw [K8,e];rfl) (i5 _)
    · exact Js rfl (by unfold QJ;decide) (by rw [K8,e];rfl) (i6 _)
    · exact Js rfl (by unfold QJ;decide) (by rw [K8,e];rfl) (i7 _)
  · obtain ⟨a,rfl⟩:∃a,l= [a]:=by
      match l,hn with
      | [a],_=>exact ⟨a,rfl⟩
      | [],hn=>rw [hA] at hn;simp at hn
      |a::b::m,hn=>rw [hA] at hn;simp at hn;omega
    have ha:=(hl a (by simp)).2;have hz:∀{β:Type} (K:Int->Option β),Z6 [a] 0 K=K a:=fun K=>rfl
    obtain ⟨v0,v1,v2,v3,e,i0,i1,i2,i3⟩:=ZuR t h hr w a;have chg:∀u:List UInt8,XB t (bs u) [a]=XB t (bs u) [a]:=fun _=>rfl
    rcases hw with rfl |rfl |rfl |rfl |rfl |rfl |rfl |rfl |rfl
    · refine ZcC (x:=Jn t a) h (by show (1:Int) > 0;decide) rfl ?_;unfold XB;simp only [Xa,YK,Yw,hz,Zk,Zp,ZDo t a h,Zc];rfl
    · refine ZcC (x:=Jm t a) h (by show (2:Int) > 0;decide) rfl ?_;unfold XB;simp only [Xa,YK,Yw,hz,Zk,Zp,ZC0 t a h,Zc];rfl
    · refine ZcC (x:=VX t a) h (by show (6:Int) > 0;decide) rfl ?_;unfold XB;simp only [Xa,YK,Yw,hz,Zk,Zp,ZDe t a h,Zc];rfl
    · have ha1:=hp a rfl rfl;have ev:X2 [112,111,119,101,114] [a]=⟨4,0,0,a==1⟩:=by
        simp only [X2];rw [Uf (by decide),Uf (by decide),Uf (by decide),Uh ⟨trivial,ha,ha1⟩]
      refine ZcC (x:=VV t (a==1)) h (by rw [ev];show (4:Int) > 0;decide) (by rw [ev];rfl) ?_;unfold XB;simp only [Xa,YK,Yw,hz,Zk,Zp,ZDb t (a==1) h,Zc];rfl
    · have ev:X2 [114,117,110] [a]=⟨5,0,a,false⟩:=by
        simp only [X2];rw [Uf (by decide),Uf (by decide),Uf (by decide),Uf (by rintro ⟨h1,_⟩;revert h1;decide)];rfl
      refine ZcC (x:=VZ t a) h (by rw [ev];show (5:Int) > 0;decide) (by rw [ev];rfl) ?_;unfold XB;simp only [Xa,YK,Yw,hz,Zk,Zp,ZDN t a h,Zc];rfl
    all_goals refine Js ?_ (by unfold QJ;decide) ?_ (by assumption)
    all_goals first
      | (rw [ZuU,e];rfl)
      | (simp only [X2]
         rw [Uf (by decide),Uf (by decide),Uf (by decide),Uf (by rintro ⟨h1,_⟩;revert h1;decide),Uf (by decide)])
  · obtain ⟨a,b,rfl⟩:∃a b,l= [a,b]:=by
      match l,hn with
      | [a,b],_=>exact ⟨a,b,rfl⟩
      | [],hn=>rw [hA] at hn;simp at hn
      | [a],hn=>rw [hA] at hn;simp at hn
      |a::b::c::m,hn=>rw [hA] at hn;simp at hn;omega
    have hz:∀{β:Type} (K:Int->Option β),Z6 [a,b] 0 K=K a:=fun K=>rfl
    have hz1:∀{β:Type} (K:Int->Option β),Z6 [a,b] 1 K=K b:=fun K=>rfl
    obtain ⟨v,e,i⟩:=ZuS t h w a b (hl a (by simp)).1;rcases hw with rfl |rfl |rfl
    · refine ZcC (x:=Vt t a b true) h (by show (3:Int) > 0;decide) rfl ?_;unfold XB;simp only [Xa,YK,Yw,hz,hz1,Zk,Zp];rw [show decide True=true from rfl];simp only [ZtO t a b _ h,Zc];rfl
    · refine ZcC (x:=Vt t a b false) h (by show (3:Int) > 0;decide) rfl ?_;unfold XB;simp only [Xa,YK,Yw,hz,hz1,Zk,Zp,ZtO t a b _ h,Zc];rfl
    · exact Js rfl (by unfold QJ;decide) (by rw [e];rfl) i
  · obtain ⟨a,b,c,rfl⟩:∃a b c,l= [a,b,c]:=by
      match l,hn with
      | [a,b,c],_=>exact ⟨a,b,c,rfl⟩
      | [],hn=>rw [hA] at hn;simp at hn
      | [a],hn=>rw [hA] at hn;simp at hn
      | [a,b],hn=>rw [hA] at hn;simp at hn
      |a::b::c::d::m,hn=>rw [hA] at hn;simp at hn;omega
    obtain ⟨v,e,i⟩:=ZuT t h w a b c;subst hw;exact Js rfl (by unfold QJ;decide) (by rw [e];rfl) i
theorem ZuW {α β:Type} (x:Option (α×β)):(bnd x fun r=>some (r.1,r.2))=x:=by cases x <;> rfl
noncomputable def K9 (t:Town) (u:List UInt8):List (List UInt8)->Option (Town×ByteArray)
 | []=>some (t,XN)
 |w::r=>if 200 < u.length then some (t,XN) else if w= [110,101,119] then some (K7 t (XM r)) else match Xb r with
  |none=>some (t,XN)
  |some l=>V3 t w l
theorem ZFS (t:Town) (u:List UInt8) (h:Zw t) (hu:u.length<=1048576):Zdi t (bs u)=K9 t u (Xu u):=by
 have hsz:(bs u).size=u.length:=rfl;have hwl:=Zuy u;have hws:=ZFa u;unfold Zdi;simp only [ZFc u hu,Zc,Zt,Zk,Zp,Zr,Xm,Ut,QO,Zmw,Zmx,YF,Zo,Xa,YK,hsz,QB t h];generalize Xu u=ws at *
 cases ws with
 |nil=>rfl
 |cons w r=>
  have hg:∀{β:Type} (K:ByteArray->Option β),Z6 ((w::r).map bs) 0 K=K (bs w):=fun K=>rfl
  have hd:List.drop (Int.toNat 1) (List.take (((w::r).length:Nat):Int).toNat ((w::r).map bs))=r.map bs:=by
   rw [Uy,show (w::r).length=((w::r).map bs).length from (Ut _).symm,MU];rfl
  simp only [UK] at hwl;rw [show ((((w::r).length:Nat):Int)==0)=false by rw [Mc,UK];omega,Zf];simp only [K9];by_cases hb:200 < u.length
  ·rw [Ul (by omega),Zn,Uh hb];rfl
  rw [Ug (by omega),Zf,Uf hb];simp only [hg,hd,YK];have hc:(0:Int)<=1/\(1:Int)<=(((w::r).length:Nat):Int)/\(((w::r).length:Nat):Int)<=(((w::r).length:Nat):Int):=⟨by decide,by rw [UK];omega,Fk _⟩
  by_cases hn:w= [110,101,119]
  ·rw [Ul hn,Zn,Uh hn,Zl hc,ZFn t r h (by omega),Zc]
  rw [Ug hn,Zf,Uf hn,Zl hc,ZFl r (by omega) (fun x hx=>by have:=hws x (Ui _ hx);omega),Zc];cases hm:Xb r with
  |none=>rw [ZuE [] hm];rfl
  |some l=>
   rw [ZuD [] hm];simp only [U5,Uk,Zf];unfold V3;simp only [Zkj,Zc,Zn4 t _ h,ZuW]
open Classical in
noncomputable def Zf0 (t:Town) (u:List UInt8):List (List UInt8)->Option (Town×ByteArray)
 | []=>some (t,XN)
 |w::r=>if 200 < u.length then some (t,XN) else if w= [110,101,119] then some (K7 t (XM r)) else match Xb r with
  |none=>some (t,XN)
  |some l=>if (l.length:Int)≠YT w\/(w= [112,111,119,101,114]/\∃a,l= [a]/\1 < a) then some (t,XN) else Km t w l
theorem ZFT (t:Town) (u:List UInt8) (ws:List (List UInt8)) (h:Zw t) (hr:RgT t):∃r,K9 t u ws=some r/\Zf0 t u ws=some r:=by
 cases ws with
 |nil=>exact ⟨_,rfl,rfl⟩
 |cons w r=>
  simp only [K9,Zf0];split
  ·exact ⟨_,rfl,rfl⟩
  split
  ·exact ⟨_,rfl,rfl⟩
  cases hm:Xb r with
  |none=>exact ⟨_,rfl,rfl⟩
  |some l=>
   have h1:=(ZuG hm).2;have h2:=ZuV hm;simp only;by_cases hbad:(l.length:Int)≠YT w\/(w= [112,111,119,101,114]/\∃a,l= [a]/\1 < a)
   ·rw [Uh hbad];exact ⟨_,ZFP t w l h hr h1 hbad,rfl⟩
   ·rw [Uf hbad];simp only [not_or,Classical.not_not] at hbad;refine ZFR t w l h hr (fun y hy=>⟨h1 y hy,h2 y hy⟩) hbad.1 fun a e1 e2=> ?_
    rcases Int.lt_or_le 1 a with h3 |h3
    ·exact absurd ⟨e1,a,e2,h3⟩ hbad.2
    ·exact h3
theorem ZFU (t:Town) (u:List UInt8) (h:Zw t) (hu:u.length<=1048576):Zcb t (bs u)=Zf0 t u (Xu u):=by
 have hsz:(bs u).size=u.length:=rfl;have hcl:=Zkf 32 u;have hcs:=Zkg 32 u;unfold Zcb;simp only [Xa,Zux (bs u) 32 (by omega),Zc,YF,Zk,Xm,Ut];show Ze _ NN ((bs u,([],((Yj 32 u).map bs,((((Yj 32 u).length:Nat):Int),0)))),(t,Xj))=_;refine (Yf (Yj 32 u) (by omega) (fun k (out:List (List UInt8))=>((bs u,(out.map bs,((Yj 32 u).map bs,((((Yj 32 u).length:Nat):Int),(k:Int))))),(t,Xj))) [] (fun k out=>out.length<=k/\∀x∈out,x.length<=u.length) ⟨Ur _,fun x hx=>by cases hx⟩ (fun r _ out=>Zf0 t u (out ++ r.filter fun w=> !w.isEmpty)) rfl ?_ ?_).trans ?_
 ·intro rec ws hJ;obtain ⟨hwl,hws⟩:=hJ;simp only [List.filter_nil,UJ];rw [Ug (by omega),Zf];simp only [hsz,Zt,Zk,Zp,Zr,Xm,Ut,QO,Zmw,Zmx,YF,Zo,Zs,YK,Jl t h,Zc];cases ws with
  |nil=>
   by_cases hb:200 < u.length
   ·rw [Ul (by omega),Zn];rfl
   ·rw [Ug (by omega),Zf];rfl
  |cons w r=>
   have hg:∀{β:Type} (K:ByteArray->Option β),Z6 ((w::r).map bs) 0 K=K (bs w):=fun K=>rfl
   have hd:List.drop (Int.toNat 1) (List.take (((w::r).length:Nat):Int).toNat ((w::r).map bs))=r.map bs:=by
    rw [Uy,show (w::r).length=((w::r).map bs).length from (Ut _).symm,MU];rfl
   simp only [UK] at hwl;simp only [Zf0];by_cases hb:200 < u.length
   ·rw [Ul (by omega),Zn,Uh hb];rfl
   rw [Ug (by omega),Zf,Uf hb];rw [show ((((w::r).length:Nat):Int)==0)=false by rw [Mc,UK];omega,Zf];simp only [hg,hd,YK];have hc:(0:Int)<=1/\(1:Int)<=(((w::r).length:Nat):Int)/\(((w::r).length:Nat):Int)<=(((w::r).length:Nat):Int):=⟨by decide,by rw [UK];omega,Fk _⟩
   have hrl:∀x∈r,x.length<=1048580:=fun x hx=>by have:=hws x (Ui _ hx);omega
   by_cases hn:w= [110,101,119]
   ·rw [Ul hn,Zn,Uh hn,Zl hc,ZFo r (by omega) hrl,Zc];cases hp:XM r with
    |none=>rfl
    |some l=>
     have hl:=Zoy hp;simp only [K7];by_cases h0:l.length=0
     ·rw [Ug (by omega),Uh h0];rfl
     ·rw [Ul (by omega),Uf h0,Uk,Zf];simp only [ZDT l (show Sm l by unfold Sm;omega),Zc,ZuJ _ _ _ h]
   rw [Ug hn,Zf,Uf hn,Zl hc,ZFK,Zc,ZFm r _ (by omega) hrl,Zc,ZuF];cases hm:Xb r with
   |none=>rfl
   |some l=>
    simp only [U5];by_cases hal:(l.length:Int)=YT w
    ·rw [show (((l.length:Nat):Int)==YT w)=true by rw [hal];simp,Uk,Zf];have tailE:∀(T:Option (Town×ByteArray)),T=(bnd (XB t (bs w) l) fun r=>cnd (!r.2.2) (bnd (YI t (bs w) l) fun v=>some (t,v)) (bnd (ZaU t r.1 r.2.1) fun x=>some (x.1,x.2)))->T=Km t w l:=by
      rintro T rfl;unfold Km;simp only [ZuW]
     by_cases hp:w= [112,111,119,101,114]
     ·rw [Ul hp,Zn];have hl1:l.length=1:=by
       rw [hp] at hal;have:YT [112,111,119,101,114]=1:=by decide
       omega
      obtain ⟨a,rfl⟩:∃a,l= [a]:=List.length_eq_one_iff.1 hl1;have hz:∀{β:Type} (K:Int->Option β),Z6 [a] 0 K=K a:=fun K=>rfl
      simp only [Yw,hz];by_cases ha:1 < a
      ·rw [Ul ha,Zn,Uh (.inr ⟨hp,a,rfl,ha⟩)];rfl
      ·have hno:¬((([a]:List Int).length:Int)≠YT w\/(w= [112,111,119,101,114]/\∃b,[a]= [b]/\1 < b)):=by
        rintro (h1 | ⟨_,b,h2,h3⟩)
        ·exact h1 hal
        ·injection h2 with h2;omega
       rw [Ug ha,Zf,Uf hno];exact tailE _ rfl
     ·have hno:¬((l.length:Int)≠YT w\/(w= [112,111,119,101,114]/\∃b,l= [b]/\1 < b)):=by
       rintro (h1 | ⟨h2,_⟩)
       ·exact h1 hal
       ·exact hp h2
      rw [Ug hp,Zf,Uf hno];exact tailE _ rfl
    ·rw [show (((l.length:Nat):Int)==YT w)=false by rw [Mc];exact hal,UT,Zn,Uh (.inl hal)];rfl
 ·intro rec k p out hJ hx hk hr;simp only [Up] at hr;obtain ⟨h1,h2⟩:=hJ;simp only [QO];rw [Ul (by omega),Zn,Zh (K6 hx)];simp only [YK,Zq (show k<=9223372036854775806 by omega)];cases p with
  |nil=>
   rw [show decide (([]:List UInt8)= [])=true from rfl,Uk,Zf];simp only [YF,Zk,Zr];exact hr out ⟨by omega,h2⟩
  |cons y ys=>
   rw [Ug (by simp),UT,Zn,Zl (by simp;omega)];simp only [YF,Zcs,Zk,Zr];have:=hr (out ++ [y::ys]) ⟨by simp;omega,fun x hx2=>by
    rcases List.mem_append.1 hx2 with hx2 |hx2
    ·exact h2 x hx2
    ·rw [Mn.1 hx2];exact hcs _ (Um hx)⟩
   rw [UW] at this;refine this.trans ?_;rw [M6 (by simp),Ux];rfl
 ·rfl
theorem ZFV {l:List Path} {x:Control} (hx:ZY x) (h:ZR l x=true):Zje x:=by
 obtain ⟨a1,a2,a3⟩:=ZfN h;obtain ⟨h1,h2⟩:=Za9 h;have ha:=Zcm a2;have sm:∀{l:List Int},Sm l->l.length<=maxLen:=fun h=>by unfold Sm at h;unfold maxLen;omega
 refine ⟨⟨sm hx.1,fun y hy=> ?_⟩,V2 (by omega) (by omega),⟨sm hx.2,fun y hy=> ?_⟩,?_⟩
 ·have:=Zba ha (Za2 a2 y hy);exact V2 (by omega) (by omega)
 ·have:=Zba ha (Za2 a3 y hy);exact V2 (by omega) (by omega)
 ·cases hn:x.next.isEmpty with
  |false=>have:=h2 hn;exact V2 (by omega) (by omega)
  |true=>
   have hn':x.next= []:=by simpa using hn
   unfold ZR at h;simp only [Ub] at h;have:=h.2;rw [Uh hn'] at this;have:x.left=0:=by simpa using this
   rw [this];exact V2 (by omega) (by omega)
theorem ZFW {p:Path} (h:Z8 p=true):VQ p:=by
 unfold Z8 inR at h;simp only [Ub,UG] at h;refine ⟨?_,?_,?_,?_⟩
 all_goals exact V2 (by omega) (by omega)
theorem ZFX {t:Town} (hs:Zw t) (h:ZS t=true):RgT t:=by
 obtain ⟨h1,_⟩:=KX h;obtain ⟨a1,a2,a3⟩:=ZfN h1;have ha:=Zcm a2;have hb:0<=t.books/\t.books<=1000/\0<=t.now/\t.now<=1000000:=by
  simp only [ZS,Ub,UG,inR] at h;omega
 refine ⟨ZFV hs.2.1 h1,fun y hy=> ?_,V2 (by omega) (by omega),V2 (by omega) (by omega)⟩;unfold ZK at ha;rw [Ub] at ha;exact ZFW (ZjO ha.2 y hy)
def Inv (t:Town):Prop:=Zw t/\RgT t/\(ZS t=true\/t=Xj)
theorem ZFY:Inv Xj:=by
 have h0:Rg 0:=V2 (by omega) (by omega);have hn:∀y∈([]:List Int),Rg y:=fun y hy=>by cases hy
 have hm:([]:List Int).length<=maxLen:=Mb _;have hc:Zje (⟨[],0,[],0⟩:Control):=⟨⟨hm,hn⟩,h0,⟨hm,hn⟩,h0⟩
 have s1:Sm ([]:List Path):=Mb _;have s2:Sm ([]:List Want):=Mb _;have s3:Sm ([]:List Lamp):=Mb _;exact ⟨⟨s1,⟨Ke,Ke⟩,s2,s3,KU⟩,⟨hc,fun y hy=>(by cases hy),h0,h0⟩, .inr rfl⟩
theorem ZFZ {t:Town} (hs:Zw t) (h:ZS t=true):Inv t:=⟨hs,ZFX hs h, .inl h⟩
theorem ZF0 {t:Town} {e:Evt} (h:(K0 t e).2=true):ZS (K0 t e).1=true:=by
 unfold K0 at h ⊢;split at h
 ·rename_i c;rw [Uh c];exact (ZD3 h).1
 rename_i c1;rw [Uf c1];split at h
 ·rename_i c;rw [Uh c];exact (ZD4 h).1
 rename_i c2;rw [Uf c2];split at h
 ·rename_i c;rw [Uh c];exact (ZD7 h).1
 rename_i c3;rw [Uf c3];split at h
 ·rename_i c;rw [Uh c];exact (ZD8 h).1
 rename_i c4;rw [Uf c4];split at h
 ·rename_i c;rw [Uh c];exact (ZEb h).2.1
 rename_i c5;rw [Uf c5];split at h
 ·rename_i c;rw [Uh c];exact (ZEa h).2.1
 ·cases h
theorem ZF1 {l:List Path} (h:(Kh l).2=true):ZS (Kh l).1=true:=by
 unfold Kh at h ⊢;split at h
 ·cases h
 ·rename_i s r e;split at h
  ·rename_i c;simp only [Uh c];exact c
  ·cases h
theorem ZuX {t:Town} {x:Town×Bool} (ht:Inv t) (hs:Zw x.1) (hx:x.2=true->ZS x.1=true):Inv (Kk t x).1:=by
 unfold Kk;split
 ·rename_i h;exact ZFZ hs (hx h)
 ·exact ht
theorem ZF2 {t:Town} {l:Option (List Path)} (ht:Inv t) (hl:∀m,l=some m->Sm m):Inv (K7 t l).1:=by
 unfold K7;cases l with
 |none=>exact ht
 |some m=>
  simp only;split
  ·exact ht
  ·exact ZuX ht (ZDR (hl m rfl)) ZF1
theorem ZF3 {t:Town} {w:List UInt8} {l:List Int} {r:Town×ByteArray} (ht:Inv t) (h:V3 t w l=some r):Inv r.1:=by
 unfold V3 at h;rw [Zkj,Zc] at h;by_cases hk:(X2 w l).kind > 0
 ·rw [Ul hk,Zn,Zn4 t _ ht.1,Zc,Zoz _ _ _ ht.1] at h;have:=Uo h;subst this;exact ZuX ht (ZDZ ht.1 _) ZF0
 ·rw [Ug hk,Zf] at h;cases ha:X8 t (bs w) l with
  |none=>rw [ha] at h;cases h
  |some v=>
   rw [ha,Zc] at h;have:=Uo h;subst this;exact ht
theorem ZF4 {t:Town} {u:List UInt8} {ws:List (List UInt8)} {r:Town×ByteArray} (ht:Inv t) (hw:ws.length<=1048570) (h:K9 t u ws=some r):Inv r.1:=by
 cases ws with
 |nil=>have:=Uo h;subst this;exact ht
 |cons w rs=>
  simp only [K9] at h;split at h
  ·have:=Uo h;subst this;exact ht
  split at h
  ·have:=Uo h;subst this;refine ZF2 ht fun m hm=> ?_
   have:=Zoy hm;simp only [UK] at hw;unfold Sm;omega
  split at h
  ·have:=Uo h;subst this;exact ht
  ·exact ZF3 ht h
noncomputable def Jt (t:Town) (u:List UInt8):Town×ByteArray:=if 200 < u.length then (t,XN) else (K9 t u (Xu u)).getD (t,XN)
theorem ZuY (t:Town) (u:List UInt8) (h:200 < u.length) (ws:List (List UInt8)):K9 t u ws=some (t,XN):=by
 cases ws with
 |nil=>rfl
 |cons w r=>simp only [K9];rw [Uh h]
theorem Zkk {t:Town} {u:List UInt8} (ht:Inv t) (hu:u.length<=1048576):Zdi t (bs u)=some (Jt t u)/\Zcb t (bs u)=some (Jt t u)/\Inv (Jt t u).1:=by
 obtain ⟨r,e1,e2⟩:=ZFT t u (Xu u) ht.1 ht.2.1;have e:Jt t u=r:=by
  unfold Jt;split
  ·rename_i h;rw [ZuY t u h] at e1;exact Uo e1
  ·rw [e1];rfl
 rw [e];refine ⟨by rw [ZFS t u ht.1 hu,e1],by rw [ZFU t u ht.1 hu,e2],?_⟩;by_cases h:200 < u.length
 ·rw [ZuY t u h] at e1;have:=Uo e1;subst this;exact ht
 ·have:=Zuy u;exact ZF4 ht (by omega) e1
noncomputable def Kn:Town->List (List UInt8)->List ByteArray
 | _,[]=> []
 |t,w::r=>(Jt t w).2::Kn (Jt t w).1 r
theorem ZuZ:∀(t:Town) (l:List (List UInt8)),(Kn t l).length=l.length
 | _,[]=>rfl
 |t,w::r=>by simp [Kn,ZuZ _ r]
def Ko (c:List (List UInt8)):List (List UInt8):=if c.getLast? =some [] then c.dropLast else c
def Zf1 (u:List UInt8):List (List UInt8):=Ko (Yj 10 u)
def lgo:List UInt8->List UInt8->List (List UInt8)
 | [],w=>if w.isEmpty then [] else [w]
 |x::r,w=>if x=10 then w::lgo r [] else lgo r (w ++ [x])
theorem ZF5 (a:List UInt8) {c:List (List UInt8)} (h:c≠ []):Ko (a::c)=a::Ko c:=by
 unfold Ko;cases c with
 |nil=>exact absurd rfl h
 |cons b c=>
  rw [List.getLast?_cons_cons];split <;> rfl
theorem ZoD:∀(r w:List UInt8),10∉w->lgo r w=Ko (Yj 10 (w ++ r))
 | [],w,h=>by
  rw [UJ,Zos h];unfold lgo Ko;cases w <;> rfl
 |x::r,w,h=>by
  unfold lgo;by_cases c:x=10
  ·subst c;rw [Uh rfl,Zot h,ZoD r [] (by simp),ZF5 _ (Zuw _ _)];rfl
  ·rw [Uf c,ZoD r (w ++ [x]) (by
    intro hm;rcases List.mem_append.1 hm with hm |hm
    ·exact h hm
    ·exact c (Mn.1 hm).symm),Ux]
   rfl
def V4:List (Option UInt8)->List UInt8->List (List UInt8)
 | [],_=> []
 |none::r,w=>if w.isEmpty then [] else w::V4 r []
 |some x::r,w=>if x=10 then w::V4 r [] else V4 r (w ++ [x])
theorem ZoE:∀(u w:List UInt8),V4 (Xv u) w=lgo u w
 | [],w=>by unfold Xv;cases w <;> rfl
 |x::u,w=>by
  show V4 (some x::Xv u) w=_;unfold V4 lgo;rw [ZoE u [],ZoE u (w ++ [x])]
theorem ZF6 {u:List UInt8} {a k:Nat} (h:a<=k):(bs u).extract a k=bs ((u.take k).drop a):=by
 apply MS;apply Array.toList_inj.1;show ((bs u).extract a k).data.toList=(u.take k).drop a;rw [FG,FL];show (u.extract a k)=_;rw [List.extract_eq_take_drop,List.drop_take]
noncomputable def Q2 (ls:List (List UInt8)):List ByteArray×Bool:=if 60 < ls.length then ([],false) else (Kn Xj ls,true)
theorem ZoF (ls:List (List UInt8)) (hl:ls.length<=60) (hw:∀w∈ls,w.length<=1048576) {V:Type} (st:Nat->List ByteArray->Town->V) {F:(V->Option (List ByteArray×Bool))->V->Option (List ByteArray×Bool)} {v:V} (hv:v=st 0 [] Xj)
  (h0:∀rec out t,F rec (st ls.length out t)=some (out,true))
  (h1:∀rec k w out t,ls[k]? =some w->k < ls.length->out.length<=k->Inv t->F rec (st k out t)=rec (st (k + 1) (out ++ [(Jt t w).2]) (Jt t w).1)):Ze F NN v=some (Kn Xj ls,true):=by
 refine (Yf ls (by omega) (fun k (a:List ByteArray×Town)=>st k a.1 a.2) ([],Xj) (fun k a=>a.1.length<=k/\Inv a.2) ⟨Ur _,ZFY⟩ (fun r _ a=>some (a.1 ++ Kn a.2 r,true)) hv ?_ ?_).trans (by simp)
 ·intro rec a hJ;rw [h0];simp [Kn]
 ·intro rec k w a hJ hx hk hr;rw [h1 rec k w a.1 a.2 hx hk hJ.1 hJ.2];have:=hr (a.1 ++ [(Jt a.2 w).2],(Jt a.2 w).1) ⟨by simp;have:=hJ.1;omega,(Zkk hJ.2 (hw w (Um hx))).2.2⟩;rw [this];simp [Kn]
theorem ZF7 (u:List UInt8) (hu:u.length<=1048576):Zii (bs u)=some (Q2 (Zf1 u)):=by
 have hsz:(bs u).size=u.length:=rfl;unfold Zii;refine (Yf (Xv u) (by rw [ZcA];omega) (fun k (a:List (List UInt8)×Nat)=>(bs u,(a.1.map bs,((a.2:Int),(k:Int))))) ([],0)
  (fun k a=>a.1.length<=k/\a.2<=k/\(∀w∈a.1,w.length<=u.length)) ⟨Ur _,Ur _,fun w hw=>by cases hw⟩ (fun r k a=>some (Q2 (a.1 ++ V4 r ((u.take k).drop a.2)))) rfl ?_ ?_).trans ?_
 ·intro rec a hJ;obtain ⟨hJ1,hJ2,hJw⟩:=hJ;rw [ZcA] at *
  simp only [hsz,Xm,Ut];rw [Ug (by omega),Zf];simp only [V4,UJ];by_cases h60:60 < a.1.length
  ·rw [Ul (by omega),Zn];unfold Q2;rw [Uh h60]
  ·rw [Ug (by omega),Zf];unfold Q2;rw [Uf h60];simp only [YF];refine ZoF a.1 (by omega) (fun w hw=>by have:=hJw w hw;omega) (fun k out t=>((a.1.map bs,(out,(k:Int))),t)) rfl ?_ ?_
   ·intro rec out t;simp only [Xm,Ut];rw [Ug (by omega),Zf]
   ·intro rec k w out t hx hk ho ht;simp only [Xm,Ut,QO,Zk];rw [Ul (by omega),Zn,Zh (K6 hx),(Zkk ht (by have:=hJw w (Um hx);omega)).1,Zc,Zl (by simp;omega)];simp only [YF,Zcs,Zk,Zq (show k<=9223372036854775806 by omega)];rfl
 ·intro rec k x a hJ hx hk hr;obtain ⟨hJ1,hJ2,hJw⟩:=hJ;rw [ZcA] at hk;simp only [Up] at hr;simp only [hsz,Xm,Ut];rw [Ul (by omega),Zn];have hex:(bs u).extract ((a.2:Int)).toNat ((k:Int)).toNat=bs ((u.take k).drop a.2):=by
   rw [Uy,Uy,ZF6 hJ2]
  have hsz2:((u.take k).drop a.2).length<=u.length:=by rw [Us,Uc];omega
  have hw':∀w∈a.1 ++ [(u.take k).drop a.2],w.length<=u.length:=fun w hw=>by
   rcases List.mem_append.1 hw with hw |hw
   ·exact hJw w hw
   ·rw [Mn.1 hw];exact hsz2
  have add:=hr (a.1 ++ [(u.take k).drop a.2],k + 1) ⟨by simp;omega,Ur _,hw'⟩;rw [UW] at add;have hdr:(u.take (k + 1)).drop (k + 1)= []:=by
   apply U1;rw [Uc];omega
  simp only [hdr] at add;by_cases hku:k < u.length
  ·have e1:(((k:Nat):Int)==((u.length:Nat):Int))=false:=by rw [Mc];omega
   simp only [e1,Zf];have hxu:=Ua hku;have hxo:x=some u[k]:=by
    unfold Xv at hx;rw [UU (by simpa using hku),Mf,hxu] at hx;exact (Uo hx).symm
   subst hxo;rw [Zbm (s:=bs u) hxu];by_cases hc:u[k]=10
   ·rw [show ((u[k].toNat:Int)==10)=true by rw [hc];rfl,Zn,Zl (by omega),Zl (by simp;omega),hex];simp only [Zcs,Zq (show k<=9223372036854775806 by omega)];refine Eq.trans add ?_;simp only [V4];rw [Uh hc,Ux];rfl
   ·have hne:((u[k].toNat:Int)==10)=false:=by
     have:u[k].toNat≠10:=fun e=>hc (UInt8.toNat_inj.1 e)
     rw [Mc];omega
    rw [hne,Zf];simp only [YF,Zq (show k<=9223372036854775806 by omega)];have:=hr (a.1,a.2) ⟨by show a.1.length<=k + 1;omega,by show a.2<=k + 1;omega,hJw⟩;refine Eq.trans this ?_;simp only [V4];rw [Uf hc];congr 4;rw [List.take_succ,hxu];rw [List.drop_append_of_le_length (by rw [Uc];omega)];rfl
  ·have hku':k=u.length:=by omega
   have e1:(((k:Nat):Int)==((u.length:Nat):Int))=true:=by rw [hku'];simp
   have hxo:x=none:=by
    unfold Xv at hx;rw [Mg (by simp;omega)] at hx;simp [hku'] at hx;exact hx.symm
   subst hxo;have hdn:(Xv u).drop (k + 1)= []:=U1 (by rw [ZcA];omega);rw [hdn] at add;simp only [e1,Zn];rw [hdn];by_cases ha:a.2=u.length
   ·rw [show (((a.2:Nat):Int)==((u.length:Nat):Int))=true by rw [ha];simp,Zn];have:(u.take k).drop a.2= []:=U1 (by rw [Uc];omega);rw [this];show _=some (Q2 (a.1 ++ []));rw [UJ];by_cases h60:60 < a.1.length
    ·rw [Ul (by omega),Zn];unfold Q2;rw [Uh h60]
    ·rw [Ug (by omega),Zf];unfold Q2;rw [Uf h60];simp only [YF];refine ZoF a.1 (by omega) (fun w hw=>by have:=hJw w hw;omega) (fun k out t=>((a.1.map bs,(out,(k:Int))),t)) rfl ?_ ?_
     ·intro rec out t;simp only [Xm,Ut];rw [Ug (by omega),Zf]
     ·intro rec k w out t hx hk ho ht;simp only [Xm,Ut,QO,Zk];rw [Ul (by omega),Zn,Zh (K6 hx),(Zkk ht (by have:=hJw w (Um hx);omega)).1,Zc,Zl (by simp;omega)];simp only [YF,Zcs,Zk,Zq (show k<=9223372036854775806 by omega)];rfl
   ·rw [show (((a.2:Nat):Int)==((u.length:Nat):Int))=false by rw [Mc];omega,Zf,Zl (by omega),Zl (by simp;omega),hex];simp only [Zcs,Zq (show k<=9223372036854775806 by omega)];refine Eq.trans add ?_;have hne:((u.take k).drop a.2).isEmpty=false:=by
     cases hq:(u.take k).drop a.2 with
     |nil=>
      have:=UC List.length hq;rw [Us,Uc] at this;simp at this;omega
     |cons _ _=>rfl
    simp only [V4,hne,UJ];rfl
 ·show some (Q2 ([] ++ V4 (Xv u) _))=_;rw [ZoE];simp only [List.take_zero,List.drop_nil,U5];rw [ZoD u [] (by simp)];rfl
theorem Zu0 (ls:List (List UInt8)) (hl:ls.length<=60) (hw:∀w∈ls,w.length<=1048576) {F:((List ByteArray×List ByteArray×Int×Int)×Town->Option (List ByteArray×Bool))->(List ByteArray×List ByteArray×Int×Int)×Town->Option (List ByteArray×Bool)} (n:Int) (hn:n=((ls.length:Nat):Int))
  (hF:∀rec x,F rec x=cnd (decide (x.1.2.2.2 < x.1.2.2.1)) (Zz sR (x.1.2.1.map sR.enc) x.1.2.2.2 fun (p6:ByteArray)=>bnd (Zcb x.2 p6) fun r7=>ifA ((((List.length (x.1.1.map sR.enc)) + (List.length [[(Sg r7.2)]])) * 16<=140737488355328)/\((List.length (x.1.1.map sR.enc)) + (List.length [[(Sg r7.2)]]))<=1152921504606846976) (rws sR ((x.1.1.map sR.enc) ++ [[(Sg r7.2)]]) fun (l8:List ByteArray)=>rec ((l8,(x.1.2.1,(x.1.2.2.1,W (x.1.2.2.2 + 1)))),r7.1))) (some (x.1.1,true))):
  Ze F NN (([],(ls.map bs,(n,0))),Xj)=some (Kn Xj ls,true):=by
 subst hn;refine ZoF ls hl hw (fun k out t=>((out,(ls.map bs,(((ls.length:Nat):Int),(k:Int)))),t)) rfl ?_ ?_
 ·intro rec out t;rw [hF];simp only;rw [Ug (by omega),Zf]
 ·intro rec k w out t hx hk ho ht;rw [hF];simp only [QO];rw [Ul (by omega),Zn,Zh (K6 hx),(Zkk ht (hw w (Um hx))).2.1,Zc,Zl (by simp;omega)];simp only [Zcs,Zq (show k<=9223372036854775806 by omega)];rfl
theorem ZF8 (u:List UInt8) (hu:u.length<=1048576):Zfp (bs u)=some (Q2 (Zf1 u)):=by
 have hcl:=Zkf 10 u;have hcs:=Zkg 10 u;have hne:=Zuw 10 u;unfold Zfp Zf1;simp only [Xa,Zux (bs u) 10 (show u.length<=_ by omega),Zc,QO,Zmw,Zmx,Xm,YF,Zke,Ut];generalize Yj 10 u=c at *
 have hpos:0 < c.length:=List.length_pos_iff.2 hne;have hW:W (((c.length:Nat):Int) - 1)=((c.length - 1:Nat):Int):=by rw [ZB (by omega) (by omega)];omega
 have hlast:c[c.length - 1]? =some (c.getLast hne):=by rw [←List.getLast?_eq_getElem?,M8 hne]
 rw [hW,Zh (K6 hlast)];simp only [YK];have ht:List.drop (Int.toNat 0) (List.take (((c.length - 1:Nat):Int)).toNat (c.map bs))=c.dropLast.map bs:=by
  rw [Uy,List.dropLast_eq_take,List.map_take];rfl
 have hgl:c.getLast? =some (c.getLast hne):=M8 hne;by_cases hl:c.getLast hne= []
 ·have htr:Ko c=c.dropLast:=by
   unfold Ko;rw [hgl,hl,Uh rfl]
  unfold Q2;rw [Ul hl,Zn,Zl ⟨by decide,by omega,by omega⟩,htr];simp only [ht,Ut];by_cases h60:60 < c.dropLast.length
  ·rw [Ul (by omega),Zn,Uh h60]
  ·rw [Ug (by omega),Zf,Uf h60];refine Zu0 c.dropLast (by omega) (fun w hw=>by have:=hcs w (List.dropLast_subset _ hw);omega) _ rfl ?_;intro rec x;simp only [Zk,YF,QO,Xm]
 ·have htr:Ko c=c:=by
   unfold Ko;rw [hgl,Uf (fun e=>hl (Uo e))]
  unfold Q2;rw [Ug hl,Zf,htr];by_cases h60:60 < c.length
  ·rw [Ul (by omega),Zn,Uh h60]
  ·rw [Ug (by omega),Zf,Uf h60];refine Zu0 c (by omega) (fun w hw=>by have:=hcs w hw;omega) _ rfl ?_;intro rec x;simp only [Zk,YF,QO,Xm]
theorem ZF9 {β:Type} (n:Int) (K:ByteArray->Option β):bst [[(AV.lit (.int .u8 n))]] K=K (bs [UInt8.ofNat n.toNat]):=rfl
theorem ZGa (k:Int) (h0:0<=k) (h1:k<=1000):∃v,Zcc k=some v:=by
 unfold Zcc;by_cases hk:k<=0
 ·rw [Ul hk,Zn];exact ⟨_,rfl⟩
 rw [Ug hk,Zf];refine Exists.imp (fun b (h:_/\True)=>h.1) ?_;refine ZtP (Q:=fun _=>True) (fun v:Int×ByteArray=>v.1.toNat) (fun v=>0<=v.1/\v.1<=1000/\v.2.size + v.1.toNat<=5000) ?_ NN (k,bs []) ⟨h0,h1,by show 0 + k.toNat<=5000;omega⟩ (KG (by show k.toNat<=_;omega))
 ·rintro rec ⟨x,s⟩ ⟨a0,a1,a2⟩ hrec;simp only at a0 a1 a2 ⊢;by_cases hx:x > 0
  ·rw [Ul hx,Zn,ZF9];rw [Zl (by show 1 + s.size<=_;omega)];have hd:Int.tdiv x 10=x / 10:=Int.tdiv_eq_ediv_of_nonneg a0;rw [hd,ZB (by omega) (by omega)];refine hrec _ ⟨by show 0<=x / 10;omega,by show x / 10<=1000;omega,?_⟩ (by show (x / 10).toNat < x.toNat;omega);rw [UN];show 1 + s.size + (x / 10).toNat<=5000;omega
  ·rw [Ug hx,Zf,Zl (by show 1 + s.size<=_;omega)];exact ⟨_,rfl,trivial⟩
def HdT (s:ByteArray) (k n:Int):Prop:=n=1/\Zcc k=some s
theorem ZGb {β:Type} (l:List ByteArray) (n:Nat) (K:ByteArray->Option β):n_s l n K=Qw l n K:=Zc3 sR l n K
theorem ZGc {β:Type} (l:List ByteArray) (i:Nat) (v:ByteArray) (K:List ByteArray->Option β):rws sR (List.set (l.map sR.enc) i [Sg v]) K=K (l.set i v):=by
 have e:List.set (l.map sR.enc) i [Sg v]=(l.set i v).map sR.enc:=(List.map_set (f:=sR.enc) (l:=l) (i:=i) (a:=v)).symm;rw [e];exact YF _ K
theorem ZGd (l:List ByteArray) (h:l.length<=60):∃n b,0<=n/\n<=100/\b.length=l.length/\HdL HdT b 1 n/\Zjd l 1=some (1 + n,b):=by
 have main:∀(m:Nat) (k:Int) (i:Nat) (l:List ByteArray),i<=l.length->l.length<=60->l.length - i < m->1<=k->k<=1 + i->
   ∃n b,0<=n/\n=((l.length - i:Nat):Int)/\b.length=l.length - i/\HdL HdT b k n/\Ze (fun (rec3:(((Int×Int)×(List ByteArray))->(Option (Int×(List ByteArray))))) (x4:((Int×Int)×(List ByteArray)))=>cnd (decide (x4.1.2 < ((x4.2.length:Nat):Int))) (bnd (Zcc x4.1.1) fun r5=>ifA (0<=x4.1.2/\x4.1.2 < ((x4.2.length:Nat):Int)) (Qw x4.2 x4.1.2.toNat fun _=>rec3 ((W (x4.1.1 + 1),W (x4.1.2 + 1)),x4.2.set x4.1.2.toNat r5))) (some (x4.1.1,x4.2))) m ((k,(i:Int)),l)=some (k + n,l.take i ++ b):=by
  intro m
  induction m with
  |zero=>intro k i l _ _ h;omega
  |succ m ih=>
   intro k i l hi hl hm hk hki;rw [Vd];simp only;by_cases hlt:i < l.length
   ·obtain ⟨v,hv⟩:=ZGa k (by omega) (by omega);rw [Ul (by omega),Zn,hv,Zc,Zl (by omega),Uy,ZbP (Ua hlt),ZB (by omega) (by omega),ZB (by omega) (by omega)];obtain ⟨n,b,n0,n1,hb,hd,e⟩:=ih (k + 1) (i + 1) (l.set i v) (by rw [U4];omega) (by rw [U4];omega) (by rw [U4];omega) (by omega) (by omega);rw [U4] at n1 hb;refine ⟨1 + n,v::b,by omega,by omega,by simp;omega, .cons ⟨rfl,hv⟩ hd,?_⟩;rw [show ((i:Int) + 1)=((i + 1:Nat):Int) by omega,e];congr 2
    ·omega
    ·rw [MF,List.take_set_of_le (by omega),List.getElem?_set_self hlt];simp
   ·refine ⟨0,[],Fk _,by omega,by simp;omega, .nil _,?_⟩;rw [Ug (by omega),Zf,U0 (by omega)];simp
 obtain ⟨n,b,n0,n1,hb,hd,e⟩:=main NN 1 0 l (Mb _) h (KG (by omega)) (by omega) (by omega);refine ⟨n,b,n0,by omega,by omega,hd,?_⟩;unfold Zjd;simp only [YF,Xm,ZGb,ZGc];simpa using e
theorem ZGe (b:List ByteArray) (h:b.length<=60) {n:Int} (hn:n<=100) (hd:HdL HdT b 1 n):Zfr b 1=some (1 + n):=by
 unfold Zfr;simp only [YF,Xm,QO];refine Zsd HdT b (by omega) (fun y k n hy=>by rw [hy.1];decide) ?_ ?_ NN b 1 n 0 rfl (Mb _) (KG (by omega)) (by omega) (by omega) hd
 ·intro rec k;simp only;rw [Ug (by omega),Zf]
 ·intro rec k i y m hy hi hi2 hk hkm hm hhd;obtain ⟨rfl,hv⟩:=hhd;simp only;rw [Ul (by omega),Zn,Zh hy,hv,Zc,Zcy,Ul rfl,Uk,Zf,ZB (by omega) (by omega),ZB (by omega) (by omega)];rfl
theorem ZGf (ls:List (List UInt8)):(Q2 ls).1.length<=60:=by
 unfold Q2;split
 ·exact Mb _
 ·show (Kn Xj ls).length<=60;rw [ZuZ];omega
theorem ZGg (a:ByteArray):Zm0 a=some true:=by
 rw [Zuu a];generalize a.data.toList=u;have hsz:(bs u).size=u.length:=rfl;unfold Zm0;simp only [hsz];by_cases hu:1048576 < u.length
 ·rw [Ul (by omega),Zn]
 rw [Ug (by omega),Zf,ZF7 u (by omega),Zc,ZF8 u (by omega),Zc];have hl:=ZGf (Zf1 u);generalize Q2 (Zf1 u)=r at *
 obtain ⟨l,ok⟩:=r;have hs:Sm l:=by unfold Sm;have:l.length<=60:=hl;omega
 obtain ⟨n,b,n0,n1,hb,hd,e⟩:=ZGd l hl;have hh:=ZGe b (by rw [hb];exact hl) n1 hd;simp only [AV.okU,Y6,ZBq,Mw,ZBo,ZBp,YF,ZBX l l hs,Zc,Mo,e,hh];rw [Zl trivial];simp only [show ¬((1:Int) + n < 0) by omega,U3,Zf,Uk,MO];rw [Zl trivial]
end Go.Sh
