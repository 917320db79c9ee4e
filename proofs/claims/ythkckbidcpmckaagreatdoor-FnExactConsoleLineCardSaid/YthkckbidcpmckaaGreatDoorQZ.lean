/- Consoles. -/
import Derived.Test.YthkckbidcpmckaaGreatDoorQQ
import Derived.Lib.SplitLaws
set_option linter.all false
namespace Go.Sh
open Go.Fx
def YB (c:UInt8):List UInt8->List (List UInt8)
 | []=> [[]]
 |x::r=>if x=c then []::YB c r else match YB c r with
  |y::ys=>(x::y)::ys
  | []=> [[x]]
theorem ZpH (c:UInt8):∀(a l:List UInt8),c∉a->YB c (a ++ l)=match YB c l with
  |y::ys=>(a ++ y)::ys
  | []=> [a]
 | [],l,_=>by
  cases h:YB c l with
  |nil=>cases l with
   |nil=>cases h
   |cons x r=>
    unfold YB at h;split at h
    ·cases h
    ·split at h <;> cases h
  |cons y ys=>simpa using h
 |x::a,l,h=>by
  have h1:¬x=c:=fun e=>h (by rw [e];exact Uj ..)
  have h2:=ZpH c a l fun hm=>h (Ug _ hm)
  rw [U5,YB,Uf h1,h2];cases YB c l <;> rfl
theorem ZvV {c:UInt8} {a:List UInt8} (h:c∉a):YB c a= [a]:=by
 have:=ZpH c a [] h;rw [UK] at this;rw [this];simp [YB]
theorem ZvW {c:UInt8} {a r:List UInt8} (h:c∉a):YB c (a ++ c::r)=a::YB c r:=by
 rw [ZpH c a _ h,YB,Ul rfl];simp
theorem ZHM (c:UInt8):∀(n:Nat) (s:List UInt8),s.length<=n->Lib.splitK [c] 0 (s.count c) s=YB c s:=by
 intro n
 induction n with
 |zero=>
  intro s hs;have:s= []:=List.length_eq_zero_iff.1 (by omega);subst this;rfl
 |succ n ih=>
  intro s hs;have hge:=Lib.indexByte_ge s c;by_cases hm:Lib.indexByte s c= -1
  ·have hno:c∉s:=fun h=>by
    obtain ⟨k,hk⟩:=Mh h;exact Lib.indexByte_none hm k hk
   rw [List.count_eq_zero.2 hno,ZvV hno];rfl
  ·obtain ⟨o,ho⟩:∃o:Nat,Lib.indexByte s c=o:=⟨(Lib.indexByte s c).toNat,by omega⟩
   obtain ⟨h1,h2⟩:=Lib.indexByte_some ho;have hlt:o < s.length:=(List.getElem?_eq_some_iff.1 h1).1;have hsp:s=s.take o ++ c::s.drop (o + 1):=by
    conv=>lhs;rw [←Up o s]
    congr 1;rw [UF hlt];congr 1;exact (List.getElem?_eq_some_iff.1 h1).2
   have hno:c∉s.take o:=fun h=>by
    obtain ⟨k,hk⟩:=Mh h;rw [UA] at hk;split at hk
    ·exact h2 k (by assumption) hk
    ·cases hk
   have hc:s.count c=(s.drop (o + 1)).count c + 1:=by
    conv=>lhs;rw [hsp]
    rw [List.count_append,List.count_eq_zero.2 hno,List.count_cons];simp
   rw [hc,Lib.splitK,Lib.index_one,ho];rw [Uf (by simp)];simp only [Ux,MZ,UJ,UQ,U0];rw [ih (s.drop (o + 1)) (by rw [Uu];omega)]
   conv=>rhs;rw [hsp]
   rw [ZvW hno]
theorem ZHN (l:List ByteArray):l=(l.map (·.data.toList)).map bs:=by
 rw [MP]
 conv=>lhs;rw [←FC l]
 exact List.map_congr_left fun x _=>ZvT x
theorem ZHO (s:ByteArray) (c:UInt8) (h:s.size<=1048576):ZbS s (bs [c])=some ((YB c s.data.toList).map bs):=by
 unfold ZbS;rw [Zt ⟨by omega,Uq 1⟩];congr 1;rw [ZHN (Lib.splitB _ _ _ _),Lib.splitB_data];congr 1;have e:Lib.countB s (bs [c])=s.data.toList.count c:=Lib.count_one c s.data.toList;rw [e];exact ZHM c _ _ (Uq _)
theorem ZpI (c:UInt8):∀l:List UInt8,(YB c l).length<=l.length + 1
 | []=>by simp [YB]
 |x::r=>by
  have:=ZpI c r;unfold YB;split
  ·simp;omega
  ·split
   ·rename_i h;rw [h] at this;simp at this ⊢;omega
   ·simp
theorem ZpJ (c:UInt8):∀l:List UInt8,∀p∈YB c l,p.length<=l.length
 | [],p,h=>by
  simp [YB] at h;subst h;simp
 |x::r,p,h=>by
  have ih:=ZpJ c r;unfold YB at h;split at h
  ·rcases List.mem_cons.1 h with rfl |h
   ·simp
   ·have:=ih p h;simp;omega
  ·split at h
   ·rename_i y ys e;rcases List.mem_cons.1 h with rfl |h
    ·have:=ih y (by rw [e];exact Uj ..);simp;omega
    ·have:=ih p (by rw [e];exact Ug _ h);simp;omega
   ·rw [Ml.1 h];simp
def XP (u:List UInt8):List (List UInt8):=(YB 32 u).filter fun w=> !w.isEmpty
def wgo:List UInt8->List UInt8->List (List UInt8)
 | [],w=>if w.isEmpty then [] else [w]
 |x::r,w=>if x=32 then (if w.isEmpty then wgo r [] else w::wgo r []) else wgo r (w ++ [x])
theorem ZpK:∀(r w:List UInt8),32∉w->wgo r w=(YB 32 (w ++ r)).filter fun w=> !w.isEmpty
 | [],w,h=>by
  rw [UK,ZvV h];unfold wgo;cases w <;> rfl
 |x::r,w,h=>by
  unfold wgo;by_cases c:x=32
  ·subst c;rw [Ul rfl,ZvW h,ZpK r [] (by simp)];cases w <;> rfl
  ·rw [Uf c,ZpK r (w ++ [x]) (by
    intro hm;rcases List.mem_append.1 hm with hm |hm
    ·exact h hm
    ·exact c (Ml.1 hm).symm)]
   rw [Uw];rfl
theorem ZHP (u:List UInt8):wgo u []=XP u:=by
 rw [ZpK u [] (by simp)];rfl
theorem ZvX (u:List UInt8):(XP u).length<=u.length + 1:=Mk (Fg _ _) (ZpI 32 u)
theorem ZHQ (u:List UInt8):∀w∈XP u,w.length<=u.length:=fun w hw=>ZpJ 32 u w (List.mem_filter.1 hw).1
theorem YO (a b:List UInt8):(ByteArray.toList (bs a)==ByteArray.toList (bs b))=decide (a=b):=by
 rw [Zd2];by_cases h:a=b
 ·subst h;simp
 ·rw [Um h];exact Um fun e=>h (ZvS e)
theorem Xo (l:List UInt8):ByteArray.mk (List.toArray l)=bs l:=rfl
theorem ZHR {u:List UInt8} {k:Nat} {x:UInt8} (h:u[k]? =some x):(bs u).extract k (k + 1)=bs [x]:=by
 apply M3;apply Array.toList_inj.1;show ((bs u).extract k (k + 1)).data.toList= [x]
 rw [ByteArray.data_extract,Array.toList_extract];show (u.extract k (k + 1))= [x]
 rw [List.extract_eq_take_drop,Nat.add_sub_cancel_left];have hlt:=(List.getElem?_eq_some_iff.1 h).1;rw [UF hlt,(List.getElem?_eq_some_iff.1 h).2];rfl
def Jm (u:List UInt8):List (Option UInt8):=u.map some ++ [none]
theorem ZpL (u:List UInt8):(Jm u).length=u.length + 1:=by simp [Jm]
def Vw:List (Option UInt8)->List UInt8->List (List UInt8)
 | [],_=> []
 |none::r,w=>if w.isEmpty then Vw r [] else w::Vw r []
 |some x::r,w=>if x=32 then (if w.isEmpty then Vw r [] else w::Vw r []) else Vw r (w ++ [x])
theorem ZpM:∀(u w:List UInt8),Vw (Jm u) w=wgo u w
 | [],w=>by unfold Jm;cases w <;> rfl
 |x::u,w=>by
  show Vw (some x::Jm u) w=_;unfold Vw wgo;rw [ZpM u [],ZpM u (w ++ [x])]
theorem ZHS (u:List UInt8) (h:u.length<=1048576):Zh5 (bs u)=some ((XP u).map bs):=by
 have hsz:(bs u).size=u.length:=rfl;unfold Zh5;refine (Yj (Jm u) (by rw [ZpL];omega) (fun k (a:List ByteArray×List UInt8)=>(bs u,a.1,bs a.2,(k:Int))) ([],[]) (fun k a=>a.1.length<=k/\a.2.length<=k) ⟨Uq _,Uq _⟩ (fun r _ a=>some (a.1 ++ (Vw r a.2).map bs)) rfl ?_ ?_).trans ?_
 ·intro rec a hJ;rw [ZpL];simp only [hsz];rw [show decide (((u.length + 1:Nat):Int)<=((u.length:Nat):Int))=false from Um (by omega),Zh];simp [Vw]
 ·intro rec k x a hJ hx hk hr;rw [ZpL] at hk;obtain ⟨h1,h2⟩:=hJ;simp only [Uo] at hr;simp only [hsz];rw [show decide (((k:Nat):Int)<=((u.length:Nat):Int))=true from Uv (by omega),Zs];have hlen:∀l:List ByteArray,l.length<=k->(rws sR (l.map sR.enc) fun (l3:List ByteArray)=>rec (bs u,(l3,(bs [],W ((k:Int) + 1)))))=rec (bs u,(l,(bs [],(k:Int) + 1))):=fun l _=>by simp only [Vf];rw [Zw (by omega)]
  have hend:(cnd (!(ByteArray.toList (bs a.2)==ByteArray.toList (bs []))) (ifA ((((List.length (a.1.map sR.enc)) + (List.length [[(Sg (bs a.2))]])) * 16)<=140737488355328/\((List.length (a.1.map sR.enc)) + (List.length [[(Sg (bs a.2))]]))<=1152921504606846976) (rws sR ((a.1.map sR.enc) ++ [[(Sg (bs a.2))]]) fun (l3:List ByteArray)=>rec (bs u,(l3,(bs [],W ((k:Int) + 1)))))) (rws sR (a.1.map sR.enc) fun (l3:List ByteArray)=>rec (bs u,(l3,(bs [],W ((k:Int) + 1))))))=some (a.1 ++ ((if a.2.isEmpty then Vw ((Jm u).drop (k + 1)) [] else a.2::Vw ((Jm u).drop (k + 1)) []).map bs)):=by
   rw [YO];cases ha:a.2 with
   |nil=>
    simp only [Mr,Ui,Zh,List.isEmpty_nil,U1];rw [hlen _ h1];exact hr (a.1,[]) ⟨by show a.1.length<=k + 1;omega,by simp⟩
   |cons y ys=>
    rw [Um (by simp),UT,Zs,Zt (by simp;omega)];simp only [Zvp];rw [Zw (by omega)];have:=hr (a.1 ++ [bs (y::ys)],[]) ⟨by simp;omega,by simp⟩;rw [this];simp
  by_cases hku:k < u.length
  ·rw [show decide (((k:Nat):Int) < ((u.length:Nat):Int))=true from Uv (by omega),Zs];have hxu:=Ua hku;have hxo:x=some u[k]:=by
    unfold Jm at hx;rw [UZ (by simpa using hku),Mf,hxu] at hx;exact (Un hx).symm
   subst hxo;rw [Zcx (s:=bs u) hxu];by_cases hc:u[k]=32
   ·rw [show ((u[k].toNat:Int) != 32)=false by rw [hc];rfl,Zh];show _=some (a.1 ++ ((if u[k]=32 then _ else _:List (List UInt8)).map bs));rw [Ul hc];exact hend
   ·have hne:((u[k].toNat:Int) != 32)=true:=by
     have:u[k].toNat≠32:=fun e=>hc (UInt8.toNat_inj.1 e)
     simp only [bne_iff_ne,ne_eq];omega
    rw [hne,Zs,Zw (by omega),Zt (by omega)];rw [show (((k:Nat):Int) + 1).toNat=k + 1 by omega,Ux,ZHR hxu,Zcz];rw [Zt (by show a.2.length + 1<=_;omega)];simp only [Vf];have:=hr (a.1,a.2 ++ [u[k]]) ⟨by show a.1.length<=k + 1;omega,by simp;omega⟩;rw [this];show _=some (a.1 ++ ((if u[k]=32 then _ else _:List (List UInt8)).map bs));rw [Uf hc]
  ·have hku':k=u.length:=by omega
   rw [show decide (((k:Nat):Int) < ((u.length:Nat):Int))=false from Um (by omega),Zh];have hxo:x=none:=by
    unfold Jm at hx;rw [Mi (by simp;omega)] at hx;simp [hku'] at hx;exact hx.symm
   subst hxo;exact hend
 ·show some ([] ++ ((Vw (Jm u) []).map bs))=_;rw [ZpM,ZHP];rfl
def dvN:List UInt8->Nat->Nat
 | [],n=>n
 |c::r,n=>dvN r (10 * n + (c.toNat - 48))
def dgt (c:UInt8):Prop:=48<=c.toNat/\c.toNat<=57
theorem ZHT {n:Int} (h0:0<=n) (h1:n<=255):IntKind.u8.wrap n=n:=by
 unfold IntKind.wrap;simp [IntKind.bits,IntKind.signed];omega
theorem ZpN:∀(u:List UInt8) (n:Nat),(∀c∈u,dgt c)->(n + 1) * 10 ^ u.length<=1000000000000000000->pd u (n:Int)=some ((dvN u n:Nat):Int)
 | [],n,_,_=>rfl
 |c::r,n,hd,hb=>by
  obtain ⟨h0,h1⟩:=hd c (Uj ..);have hp:1<=10 ^ r.length:=Nat.one_le_pow _ _ (by omega);rw [UJ,Nat.pow_succ] at hb;have e1:(n + 1) * (10 ^ r.length * 10)=(10 * n + 10) * 10 ^ r.length:=by
   rw [←Nat.mul_assoc,Nat.mul_right_comm];congr 1;omega
  rw [e1] at hb;have hn:10 * n + 10<=1000000000000000000:=Mk (Nat.le_mul_of_pos_right _ hp) hb;unfold pd dvN;rw [Uf (by omega),ZHT (by omega) (by omega),Zz (n:=10 * (n:Int)) (by omega) (by omega),Zz (n:=(c.toNat:Int) - 48) (by omega) (by omega),Zz (by omega) (by omega)];have e2:10 * (n:Int) + ((c.toNat:Int) - 48)=((10 * n + (c.toNat - 48):Nat):Int):=by omega
  rw [e2];refine ZpN r _ (fun d hm=>hd d (Ug _ hm)) (Mk (UL _ ?_) hb);omega
theorem ZpO:∀(u:List UInt8) (n m:Int),pd u n=some m->∀c∈u,dgt c
 | [],_,_,_,c,h=>by cases h
 |x::r,n,m,h,c,hc=>by
  unfold pd at h;split at h
  ·cases h
  ·rename_i hx;rcases List.mem_cons.1 hc with rfl |hc
   ·exact ⟨by omega,by omega⟩
   ·exact ZpO r _ m h c hc
theorem ZvY:∀(u:List UInt8) (c:UInt8) (n:Nat),dvN (u ++ [c]) n=10 * dvN u n + (c.toNat - 48)
 | [],c,n=>rfl
 |x::u,c,n=>by
  show dvN (u ++ [c]) _=_;rw [ZvY u c];rfl
theorem ZvZ:∀(u:List UInt8) (n:Nat),n<=dvN u n
 | [],n=>Uq _
 |c::u,n=>by
  have:=ZvZ u (10 * n + (c.toNat - 48));show n<=dvN u _;omega
theorem ZHU {u:List UInt8} {c:UInt8} (h:u[0]? =some c) (hc:48 < c.toNat):1<=dvN u 0:=by
 cases u with
 |nil=>cases h
 |cons x r=>
  have:x=c:=Un h;subst this;have:=ZvZ r (10 * 0 + (x.toNat - 48));show 1<=dvN r _;omega
theorem Zv0 {c:UInt8} {n:Nat} (h:c.toNat=n):UInt8.ofNat n=c:=by rw [←h];simp
theorem ZHV:∀(n:Nat) (u:List UInt8),u.length=n->0 < n->(∀c∈u,dgt c)->(n=1\/∀c,u[0]? =some c->48 < c.toNat)->Lib.decDigits (dvN u 0)=u:=by
 intro n
 induction n with
 |zero=>intro u _ h;omega
 |succ n ih=>
  intro u hu _ hd hz;have hne:u≠ []:=fun e=>by rw [e] at hu;simp at hu
  obtain ⟨v,c,rfl⟩:∃v c,u=v ++ [c]:=⟨u.dropLast,u.getLast hne,(List.dropLast_concat_getLast hne).symm⟩
  obtain ⟨h0,h1⟩:=hd c (by simp);rw [ZvY];have hv:v.length=n:=by simp at hu;exact hu
  by_cases hn:n=0
  ·have:v= []:=List.length_eq_zero_iff.1 (by omega);subst this;rw [show dvN [] 0=0 from rfl,Lib.decDigits,dif_pos (by omega)];show [_]= [c]
   rw [Zv0 (c:=c) (n:=48 + (10 * 0 + (c.toNat - 48))) (by omega)]
  ·have hz':∀d,v[0]? =some d->48 < d.toNat:=fun d hd0=>by
    rcases hz with hz |hz
    ·omega
    ·exact hz d (by rw [UZ (by omega)];exact hd0)
   have hpos:1<=dvN v 0:=by
    have hlt:0 < v.length:=by omega
    exact ZHU (Ua hlt) (hz' _ (Ua hlt))
   rw [Lib.decDigits,dif_neg (by omega),show (10 * dvN v 0 + (c.toNat - 48)) / 10=dvN v 0 by omega,show (10 * dvN v 0 + (c.toNat - 48)) % 10=c.toNat - 48 by omega,ih v hv (by omega) (fun d hm=>hd d (by simp [hm])) (.inr hz')];rw [Zv0 (c:=c) (n:=48 + (c.toNat - 48)) (by omega)]
theorem ZHW:∀(n:Nat),1<=n->(Lib.decDigits n)[0]? ≠some 48:=by
 intro n
 induction n using Nat.strongRecOn with
 | _ n ih=>
  intro h;rw [Lib.decDigits];split
  ·rename_i hn;intro e;have e:=Un e;have key:∀k:Nat,k < 10->1<=k->UInt8.ofNat (48 + k)≠48:=by decide
   exact key n hn h e
  ·have hne:0 < (Lib.decDigits (n / 10)).length:=by
    rw [Lib.decDigits];split <;> simp
   rw [UZ hne];exact ih (n / 10) (by omega) (by omega)
theorem ZHX (n:Nat):Lib.itoa (n:Int)=Lib.decDigits n:=by
 unfold Lib.itoa;rw [Uf (by omega)];simp
theorem ZHY {u:List UInt8} (h0:0 < u.length) (hd:∀c∈u,dgt c):(Lib.itoa ((dvN u 0:Nat):Int)=u)↔¬(1 < u.length/\u[0]? =some 48):=by
 rw [ZHX];constructor
 ·rintro e ⟨h1,h2⟩;by_cases hz:dvN u 0=0
  ·rw [hz] at e;rw [←e] at h1;have:(Lib.decDigits 0).length=1:=by rw [Lib.decDigits];rfl
   omega
  ·have h1':1<=dvN u 0:=by omega
   exact ZHW _ h1' (by rw [e];exact h2)
 ·intro h;refine ZHV _ u rfl h0 hd ?_;by_cases h1:u.length=1
  ·exact .inl h1
  ·refine .inr fun c hc=> ?_
   have hm:=hd c (Uk hc);have hne:c≠48:=fun e=>h ⟨by omega,by rw [hc,e]⟩
   have:c.toNat≠48:=fun e=>hne (UInt8.toNat_inj.1 e)
   have:=hm.1;omega
def Zlf (u:List UInt8):Int×Bool:=
 if u.length=0\/13 < u.length then (0,false) else match pd u 0 with
  |none=>(0,false)
  |some n=>if (1000000000000:Int) < n then (0,false) else if Lib.itoa n=u then (n,true) else (0,false)
theorem Zv1 (u:List UInt8):Zlf u=Y5 u:=by
 unfold Zlf Y5 Zcy;by_cases h:u.length=0\/13 < u.length
 ·rw [Ul h,Ul (by omega)]
 rw [Uf h];cases hp:pd u 0 with
 |none=>simp only [ite_self]
 |some n=>
  have hd:=ZpO u 0 n hp;have hv:pd u 0=some ((dvN u 0:Nat):Int):=ZpN u 0 hd (by
   have:10 ^ u.length<=10 ^ 13:=Mj (by omega) (by omega);omega)
  rw [hp] at hv;have hn:=Un hv;subst hn;have ht:=ZHY (by omega) hd;by_cases c:1 < u.length/\u[0]? =some 48
  ·rw [Ul (by exact .inr (.inr c))];have:¬Lib.itoa ((dvN u 0:Nat):Int)=u:=fun e=>(ht.1 e) c
   simp only [Uf this,ite_self]
  ·rw [Uf (by rintro (h1 |h1 |h1) <;> first |exact c h1 |omega)];simp only [Ul (ht.2 c)]
theorem ZHZ {u:List UInt8} {n:Int} (h:pd u 0=some n):Rg n:=ZpB u 0 n ⟨by decide,by decide⟩ h
theorem ZH0 (u:List UInt8) (h:u.length<=1099511627776):Zid (bs u)=some (Y5 u):=by
 have hsz:(bs u).size=u.length:=rfl;rw [←Zv1];unfold Zid Zlf;simp only [hsz,V8,Zd];by_cases h0:u.length=0\/13 < u.length
 ·rw [Ul h0];have:(decide ((1:Int)<=(u.length:Int)) && decide ((u.length:Int)<=13))=false:=by
   rw [Ff];rcases h0 with h0 |h0
   ·exact .inl (Um (by omega))
   ·exact .inr (Um (by omega))
  rw [this];rfl
 rw [Uf h0,Uv (by omega),Uv (by omega),Mz,Ui,Zh];refine (Yj u (by omega) (fun k n=>(bs u,n,(k:Int))) 0 (fun k n=>pd u 0=pd (u.drop k) n) rfl (fun r _ n=>some (match pd r n with
  |none=>(0,false)
  |some n=>if (1000000000000:Int) < n then (0,false) else if Lib.itoa n=u then (n,true) else (0,false))) rfl ?_ ?_).trans rfl
 ·intro rec n hJ;rw [M6] at hJ;simp only [hsz];rw [Um (by omega),Zh];have hr:Rg n:=ZHZ (u:=u) (n:=n) (by rw [hJ];rfl);simp only [QE n hr,Zd,Zd2,pd,ZB,gt_iff_lt,UI];by_cases hn:(1000000000000:Int) < n
  ·rw [Ul hn,Ul hn]
  ·rw [Uf hn,Uf hn];by_cases hi:Lib.itoa n=u
   ·have:Yf n=bs u:=by rw [←hi];rfl
    rw [Ul hi,Uv this];rfl
   ·have:¬Yf n=bs u:=fun e=>hi (ZvS e)
    rw [Uf hi,Um this];rfl
 ·intro rec k c n hJ hc hk hr;simp only [Uo] at hr;simp only [hsz];rw [Uv (by omega),Zs];have hl:c.toNat < 256:=c.toNat_lt;simp only [Zcx (s:=bs u) hc,V8,Zd,Zw (show k<=9223372036854775806 by omega),Zz (n:=(c.toNat:Int)) (by omega) (by omega)];have hdr:u.drop k=c::u.drop (k + 1):=by
   rw [UF hk,(List.getElem?_eq_some_iff.1 hc).2]
  rw [hdr] at hJ;rw [show pd (c::u.drop (k + 1)) n=if (c.toNat:Int) < 48\/(57:Int) < (c.toNat:Int) then none else pd (u.drop (k + 1)) (W (W (10 * n) + W (IntKind.u8.wrap ((c.toNat:Int) - 48)))) from rfl] at hJ ⊢;by_cases hx:(c.toNat:Int) < 48\/(57:Int) < (c.toNat:Int)
  ·have:(decide ((48:Int)<=(c.toNat:Int)) && decide ((c.toNat:Int)<=57))=false:=by
    rw [Ff];rcases hx with hx |hx
    ·exact .inl (Um (by omega))
    ·exact .inr (Um (by omega))
   rw [this,Ul hx];rfl
  ·rw [Uf hx] at hJ ⊢;rw [Uv (by omega),Uv (by omega),Mz,Ui,Zh];exact hr _ hJ
def Xf:List (List UInt8)->Option (List Int)
 | []=>some []
 |w::r=>if (Y5 w).2=true then (Xf r).map ((Y5 w).1:: ·) else none
def Zbe:List (List UInt8)->List Int->List Int×Bool
 | [],out=>(out,true)
 |w::r,out=>if (Y5 w).2=true then Zbe r (out ++ [(Y5 w).1]) else (out,false)
def Zd3 (many:Int):List (List UInt8)->List Int->List Int×Bool
 | [],out=>(out,(out.length:Int)==many)
 |w::r,out=>if (Y5 w).2=true then Zd3 many r (out ++ [(Y5 w).1]) else ([],false)
theorem Zv2:∀{ws:List (List UInt8)} {l:List Int} (out:List Int),Xf ws=some l->Zbe ws out=(out ++ l,true)
 | [],l,out,h=>by
  have:=Un h;subst this;rw [UK];rfl
 |w::r,l,out,h=>by
  unfold Xf at h;split at h
  ·rename_i hw;cases hr:Xf r with
   |none=>rw [hr] at h;cases h
   |some m=>
    rw [hr] at h;have:=Un h;subst this;unfold Zbe;rw [Ul hw,Zv2 _ hr,Uw];rfl
  ·cases h
theorem Zv3:∀{ws:List (List UInt8)} (out:List Int),Xf ws=none->(Zbe ws out).2=false
 | [],out,h=>by cases h
 |w::r,out,h=>by
  unfold Xf at h;unfold Zbe;split at h
  ·rename_i hw;rw [Ul hw];cases hr:Xf r with
   |none=>exact Zv3 _ hr
   |some m=>rw [hr] at h;cases h
  ·rename_i hw;rw [Uf hw]
theorem Zv4 (many:Int):∀(ws:List (List UInt8)) (out:List Int),Zd3 many ws out=match Xf ws with
  |none=>([],false)
  |some l=>(out ++ l,((out ++ l).length:Int)==many)
 | [],out=>by
  show (out,_)=(out ++ [],_)
  rw [UK]
 |w::r,out=>by
  unfold Zd3 Xf;split
  ·rename_i hw;rw [Zv4 many r];cases Xf r with
   |none=>rfl
   |some l=>simp [Uw]
  ·rfl
theorem Zv5:∀{ws:List (List UInt8)} {l:List Int},Xf ws=some l->l.length=ws.length/\∀y∈l,Rg y
 | [],l,h=>by
  have:=Un h;subst this;exact ⟨rfl,fun y hy=>by cases hy⟩
 |w::r,l,h=>by
  unfold Xf at h;split at h
  ·cases hr:Xf r with
   |none=>rw [hr] at h;cases h
   |some m=>
    rw [hr] at h;have:=Un h;subst this;obtain ⟨h1,h2⟩:=Zv5 hr;refine ⟨by simp [h1],fun y hy=> ?_⟩;rcases List.mem_cons.1 hy with rfl |hy
    ·exact ZvP w
    ·exact h2 y hy
  ·cases h
theorem Zgn {ws:List (List UInt8)} {k:Nat} {w:List UInt8} (h:ws[k]? =some w):(ws.map bs)[k]? =some (bs w):=by rw [Mf,h];rfl
theorem ZH1 (ws:List (List UInt8)) (hl:ws.length<=1048580) (hw:∀w∈ws,w.length<=1048580):Zie (ws.map bs)=some (Zbe ws []):=by
 unfold Zie;simp only [Vf,ZbN,ZbO];refine (Yj ws (by omega) (fun k (out:List Int)=>(ws.map bs,(out,(k:Int)))) [] (fun k out=>out.length<=k) (Uq _) (fun r _ out=>some (Zbe r out)) rfl ?_ ?_).trans rfl
 ·intro rec out hJ;simp only [Uy];rw [Um (by omega),Zh];simp only [Zq];rfl
 ·intro rec k w out hJ hx hk hr;simp only [Uo] at hr;simp only [Uy];rw [Uv (by omega),Zs,Zi (Zgn hx),ZH0 w (by have:=hw w (Uk hx);omega),Zd];unfold Zbe;cases hp:(Y5 w).2 with
  |false=>simp
  |true=>
   rw [Ui,Zh,Zt (by simp;omega),Zw (by omega)];simp only [Zcg,U1];exact hr _ (by simp;omega)
theorem ZH2 (ws:List (List UInt8)) (many:Int) (hl:ws.length<=1048580) (hw:∀w∈ws,w.length<=1048580):Zja (ws.map bs) many=some (Zd3 many ws []):=by
 unfold Zja;simp only [Vf,ZbN,ZbO,Uy];refine (Yj ws (by omega) (fun k (out:List Int)=>(many,(out,(ws.map bs,(((ws.length:Nat):Int),(k:Int)))))) [] (fun k out=>out.length<=k) (Uq _) (fun r _ out=>some (Zd3 many r out)) rfl ?_ ?_).trans rfl
 ·intro rec out hJ;simp only [];rw [Um (by omega),Zh];simp only [Zq,ZV];rfl
 ·intro rec k w out hJ hx hk hr;simp only [Uo] at hr;simp only [];rw [Uv (by omega),Zs,Zi (Zgn hx),ZvN (bs w) (by have:=hw w (Uk hx);show w.length<=_;omega),Zd];show cnd (!(Y5 w).2) _ _=_;unfold Zd3;cases hp:(Y5 w).2 with
  |false=>simp
  |true=>
   rw [Ui,Zh,Zt (by simp;omega),Zw (by omega)];simp only [Zcg,U1];exact hr _ (by simp;omega)
def XQ:List (List UInt8)->Option (List Path)
 | []=>some []
 |w::r=>match QH (bs w) with
  |none=>none
  |some p=>(XQ r).map (p.1:: ·)
theorem Zv6 (s:ByteArray):(QH s).getD Zd1=match QH s with |none=>Zd1 |some p=>(p.1,true):=by
 cases h:QH s with
 |none=>rfl
 |some r=>
  obtain ⟨p,rfl,_⟩:=ZpG h;rfl
theorem ZpP:∀{ws:List (List UInt8)} {l:List Path},XQ ws=some l->l.length=ws.length
 | [],l,h=>by have:=Un h;subst this;rfl
 |w::r,l,h=>by
  unfold XQ at h;split at h
  ·cases h
  ·cases hr:XQ r with
   |none=>rw [hr] at h;cases h
   |some m=>
    rw [hr] at h;have:=Un h;subst this;simp [ZpP hr]
def QI:ByteArray:=bs [119,104,97,116]
def Zlg:ByteArray:=bs [110,111]
def Zv7:ByteArray:=bs [111,107]
def Kf (t:Town) (x:Town×Bool):Town×ByteArray:=if x.2=true then (x.1,Zv7) else (t,Zlg)
theorem ZpQ (t x:Town) (ok:Bool) (h:Zx t):Zdg t x ok=some (Kf t (x,ok)):=by
 unfold Zdg Kf;simp only [Zp,Zk,Zo,Zn,Zr,QB t h,Zd];cases ok <;> rfl
theorem Zv8 (t x:Town) (ok:Bool) (h:Zx t):ZaG t x ok=some (Kf t (x,ok)):=by
 unfold ZaG Kf;simp only [Zp,Zk,Zo,Zn,Zr,Jg t h,Zd];cases ok <;> rfl
def KV (t:Town) (l:Option (List Path)):Town×ByteArray:=match l with
 |none=>(t,QI)
 |some l=>if l.length=0 then (t,QI) else Kf t (Zct l)
theorem ZH3 (t:Town) (ws:List (List UInt8)) (h:Zx t) (hl:ws.length<=1048570):Zic t (ws.map bs)=some (KV t (XQ ws)):=by
 unfold Zic;simp only [Vf,ZbN,ZbO,Zp,Zk,Zo,Zn,Zr];refine (Yj ws (by omega) (fun k (out:List Path)=>(((ws.map bs),(out,(k:Int))),(t,Ji))) [] (fun k out=>out.length=k) rfl (fun r k out=>some (KV t ((XQ r).map (out ++ ·)))) rfl ?_ ?_).trans ?_
 ·intro rec out hJ;simp only [Uy];rw [Um (by omega),Zh];simp only [Zu,Yp,Zk,Zo,QB t h,Zd,ZGG out (show Sm out by unfold Sm;omega),ZpQ _ _ _ h];show _=some (KV t (some (out ++ [])));rw [UK];unfold KV;simp only [ZB];by_cases c:out.length=0
  ·rw [Ul (by simp [c]),Ul c];rfl
  ·rw [Uf (by simp;intro e;rw [e] at c;simp at c),Uf c]
 ·intro rec k w out hJ hx hk hr;simp only [Uo] at hr;simp only [Uy];rw [Uv (by omega),Zs,Zi (Zgn hx),ZHD,Zd,Zv6];simp only [XQ];cases hp:QH (bs w) with
  |none=>
   simp only [Zd1,UT,Zs,Zk,Zo,QB t h,Zd];rfl
  |some p=>
   simp only [Ui,Zh];rw [Zt (by simp;omega),Zw (by omega)];simp only [Vf,Zk,Zn,Zvf];have:=hr (out ++ [p.1]) (by simp;omega);refine this.trans ?_;cases XQ (ws.drop (k + 1)) with
   |none=>rfl
   |some m=>simp [Uw]
 ·cases XQ ws with
  |none=>rfl
  |some m=>simp
theorem ZH4 (ws:List (List UInt8)) (hl:ws.length<=1048570) (hw:∀w∈ws,w.length<=1048580):ZiX (ws.map bs)=some (match XQ ws with |none=>([],false) |some l=>(l,decide (0 < l.length))):=by
 unfold ZiX;simp only [Vf,ZbN,ZbO,Uy];refine (Yj ws (by omega) (fun k (out:List Path)=>(out,(ws.map bs,(((ws.length:Nat):Int),(k:Int))))) [] (fun k out=>out.length=k) rfl (fun r k out=>some (match XQ r with |none=>([],false) |some l=>(out ++ l,decide (0 < (out ++ l).length)))) rfl ?_ ?_).trans ?_
 ·intro rec out hJ;simp only [];rw [Um (by omega),Zh];simp only [Zu,Yp,XQ,UK];congr 2;rw [decide_eq_decide];omega
 ·intro rec k w out hJ hx hk hr;simp only [Uo] at hr;simp only [];rw [Uv (by omega),Zs,Zi (Zgn hx),ZHJ (bs w) (by have:=hw w (Uk hx);show w.length<=_;omega),Zd,Zv6];simp only [XQ];cases hp:QH (bs w) with
  |none=>rfl
  |some p=>
   simp only [Ui,Zh];rw [Zt (by simp;omega),Zw (by omega)];simp only [Vf,Zvf];have:=hr (out ++ [p.1]) (by simp;omega);refine this.trans ?_;cases XQ (ws.drop (k + 1)) with
   |none=>rfl
   |some m=>simp [Uw]
 ·cases XQ ws with
  |none=>rfl
  |some m=>simp
theorem ZpR {V β:Type} {F:(V->Option β)->V->Option β} {v:V} {r:Option β} (h:∀rec,F rec v=r):Zf F NN v=r:=by
 obtain ⟨n,hn⟩:=Zkm;rw [hn,show n + 64=(n + 63) + 1 from rfl,Ve];exact h _
def Zbf (l:List Path) (id:Int):List Int:=if ZD l id < 0\/ZJ l=false then [] else (l.filter fun p=>Z1 p (ZQ l id)).map (·.id)
theorem ZH5 (l:List Path) (id:Int) (h:Sm l):ZiM l id=some (Zbf l id):=by
 have hl:=h;unfold Sm at hl;unfold ZiM Zbf;simp only [Zu,XI l id h,Zd,Xs,Yp];refine (Yj l (by omega) (fun k (out:List Int)=>(l,(out,(ZD l id,(k:Int))))) [] (fun k out=>out.length<=k) (Uq _) (fun r _ out=>some (if ZD l id < 0\/ZJ l=false then out else out ++ (r.filter fun p=>Z1 p (ZQ l id)).map (·.id))) rfl ?_ ?_).trans (by simp)
 ·intro rec out hJ;simp only [Uy];rw [Um (by omega),Zh];simp only [Zq];simp
 ·intro rec k p out hJ hx hk hr;simp only [Uo] at hr;simp only [Uy];rw [Uv (by omega),Zs];by_cases hf:ZD l id < 0
  ·rw [Um (by omega),Zh];simp only [Zq,hf,true_or,U1]
  ·rw [Uv (by omega),Zs,V9 l h,Zd];cases ha:ZJ l with
   |false=>simp [Zq]
   |true=>
    simp only [Zs,Zi hx,Xd hf,Zf1,Zd,Zw (show k<=9223372036854775806 by omega)];rw [Uf (by simp [hf])];have hr1:=hr out (by omega);rw [Uf (by simp [hf,ha])] at hr1;cases hc:Z1 p (ZQ l id) with
    |false=>
     rw [Zh];simp only [Zq];rw [hr1,FD (by simp [hc])]
    |true=>
     rw [Zs,Zt (by simp;omega)];simp only [Zcg];have hr2:=hr (out ++ [p.id]) (by simp;omega);rw [Uf (by simp [hf,ha])] at hr2;rw [hr2,M7 (by simp [hc])];simp
theorem ZH6 (l:List Path) (id:Int) (h:Sm l):ZjB l id=some (Zbf l id):=by
 have hl:=h;unfold Sm at hl;unfold ZjB Zbf;simp only [Zu,Qd l id h,Zd,Xs,Yp,JW l h];by_cases hf:ZD l id < 0
 ·rw [Uv hf,Zs,Ul (.inl hf)]
 rw [Um hf,Zh];cases ha:ZJ l with
 |false=>simp
 |true=>
 rw [Ui,Zh,Uf (by simp [hf])];refine (Yj l (by omega) (fun k (out:List Int)=>(l,(out,(ZD l id,(l,(((l.length:Nat):Int),(k:Int))))))) [] (fun k out=>out.length<=k) (Uq _) (fun r _ out=>some (out ++ (r.filter fun p=>Z1 p (ZQ l id)).map (·.id))) rfl ?_ ?_).trans (by simp)
 ·intro rec out hJ;simp only [];rw [Um (by omega),Zh];simp only [Zq];simp
 ·intro rec k p out hJ hx hk hr;simp only [Uo] at hr;simp only [];rw [Uv (by omega),Zs];simp only [Zi hx,Xd hf,ZdD,Zd,Zw (show k<=9223372036854775806 by omega)];have hr1:=hr out (by omega);rw [Zpk];cases hc:Z1 p (ZQ l id) with
  |false=>
   rw [Zh];simp only [Zq];rw [hr1,FD (by simp [hc])]
  |true=>
   rw [Zs,Zt (by simp;omega)];simp only [Zcg];have hr2:=hr (out ++ [p.id]) (by simp;omega);rw [hr2,M7 (by simp [hc])];simp
theorem ZH7 (l:List Path) (id:Int) (h:Sm l) (hr:∀p∈l,QU p):Sm (Zbf l id)/\∀y∈Zbf l id,Rg y:=by
 unfold Zbf;split
 ·exact ⟨by unfold Sm;simp,fun y hy=>by cases hy⟩
 ·refine ⟨?_,fun y hy=> ?_⟩
  ·have:=Fg (fun p=>Z1 p (ZQ l id)) l;unfold Sm at h ⊢;rw [Uy];omega
  ·obtain ⟨p,hp,rfl⟩:=List.mem_map.1 hy;exact (hr p (List.mem_filter.1 hp).1).1
def ZcC (l:List Path) (p:List Part) (id:Int):Int:=if Ym l p=true/\¬ZD l id < 0 then ZdL l p id else 0
theorem ZH8 (l:List Path) (p:List Part) (id:Int) (h:Sm l) (hp:SmL p):Zdl l p id=some (ZcC l p id):=by
 unfold ZcC;by_cases c:Ym l p=true/\¬ZD l id < 0
 ·rw [Ul c];exact ZHx l p h hp c.1 id c.2
 rw [Uf c];have e:Zdk l p id=some []:=by
  unfold Zdk;simp only [Zu,Xm,Zow l p h hp,Zd,XI l id h];cases hpl:Ym l p with
  |false=>rfl
  |true=>
   have hf:ZD l id < 0:=by
    rcases Int.lt_or_le (ZD l id) 0 with h |h
    ·exact h
    ·exact absurd ⟨hpl,by omega⟩ c
   rw [Ui,Zh,Uv hf,Zs]
 unfold Zdl;simp only [Zu,Xm,e,Zd,Zq];refine ZpR fun rec=> ?_
 simp only [ZV,UQ];rw [show decide ((0:Int) < W (2 * ((0:Nat):Int)))=false from rfl,Zh,Zcd];rfl
theorem ZH9 (l:List Path) (p:List Part) (id:Int) (h:Sm l) (hp:SmL p):Zdw l p id=some (ZcC l p id):=by
 unfold ZcC;by_cases c:Ym l p=true/\¬ZD l id < 0
 ·rw [Ul c];exact ZFz l p h hp c.1 id c.2
 rw [Uf c];have e:Zdv l p id=some []:=by
  unfold Zdv;simp only [Zu,Xm,Qd l id h,Zd];by_cases hf:ZD l id < 0
  ·rw [Uv hf,Zs]
  ·have hpl:Ym l p=false:=by
    cases hpl:Ym l p with
    |false=>rfl
    |true=>exact absurd ⟨hpl,hf⟩ c
   have hc:cyc l p=0:=by unfold cyc;rw [Uf (by simp [hpl])]
   rw [Um hf,Zh,ZoB l p h hp,Zd,hc];rw [Zt (by decide)];show rws bR (([]:List Bool).map bR.enc) _=_;simp only [Zns];refine ZpR fun rec=> ?_
   rfl
 unfold Zdw;simp only [Zu,Xm,e,Zd,Zns];refine ZpR fun rec=> ?_
 rfl
def X5 (x:Control) (p:Int):Bool:=has x.stage p && (x.next.isEmpty || has x.next p)
theorem ZIa (l:List Path) (x:Control) (p:Int) (hx:ZX x):ZiP l x p=some (X5 x p):=by
 unfold ZiP X5;simp only [Zq,QV _ _ hx.1,QV _ _ hx.2,Zd,ZV,Qe];cases has x.stage p <;> cases x.next.isEmpty <;> simp
theorem ZIb (x:Control) (p:Int):(XJ x p != 1)= !X5 x p:=by
 unfold XJ X5;cases has x.stage p <;> cases x.next.isEmpty <;> cases has x.next p <;> rfl
def msr (x:Control) (p:Int):Nat:=
 if X5 x p=true then 0 else if x.next.isEmpty=true then (7 - x.since).toNat + 8 else if has x.next p=true then x.left.toNat else x.left.toNat + 16
theorem Zv9 (p:Int):has [p] p=true:=by simp [has]
theorem Zwa {l:List Path} {x:Control} {p:Int} (hc:ZR l x=true) (hr:XN l p=true) (hg:X5 x p=false):msr (Xe l x p) p < msr x p:=by
 obtain ⟨h1,h2⟩:=Zcn hc;have hcl:=ZdP l x.stage [p];have m0:msr x p=if x.next.isEmpty=true then (7 - x.since).toNat + 8 else if has x.next p=true then x.left.toNat else x.left.toNat + 16:=by
  unfold msr;rw [Uf (by simp [hg])]
 rw [m0];have hgreen:msr ⟨[p],0,[],0⟩ p=0:=by
  unfold msr;rw [Ul (by simp [X5,Zv9])]
 have eT:QC l x=false->Xe l x p=Xn l x:=fun h=>by
  have hcond:¬(QC l x && (XN l p && !has x.stage p))=true:=by simp [h]
  unfold Xe QD;simp only [Uf hcond,MV,Mw]
 cases hn:x.next.isEmpty with
 |true=>
  simp only [U1];have hst:has x.stage p=false:=by
   unfold X5 at hg;rw [hn] at hg;simpa using hg
  by_cases hcc:QC l x=true
  ·have hcond:(QC l x && (XN l p && !has x.stage p))=true:=by simp [hcc,hr,hst]
   by_cases h0:Yy l x.stage [p]=0
   ·have e:Xe l x p=⟨[p],0,[],0⟩:=by
     unfold Xe QD;simp only [Ul hcond,Ul h0,U1]
    rw [e,hgreen];omega
   ·have e:Xe l x p=⟨x.stage,x.since,[p],Yy l x.stage [p]⟩:=by
     unfold Xe QD;simp only [Ul hcond,Uf h0,U1]
    rw [e];unfold msr;split
    ·omega
    ·rw [Uf (show ¬([p]:List Int).isEmpty=true by simp),Ul (Zv9 p)];show (Yy l x.stage [p]).toNat < _;omega
  ·rw [eT (by simpa using hcc)];have hs:x.since < 7:=by
    have hcc:QC l x=false:=by simpa using hcc
    unfold QC at hcc;rw [hc,hn] at hcc;simp only [UW] at hcc;have:=of_decide_eq_false hcc;split at this <;> omega
   unfold Xn;rw [Ul hc,Ul hn,Ul (show x.since < 1000000 by omega)];have hg':X5 {x with since:=x.since + 1} p=false:=hg;unfold msr;rw [Uf (by simp [hg']),Ul (show x.next.isEmpty=true from hn)];show (7 - (x.since + 1)).toNat + 8 < _;omega
 |false=>
  simp only [MV,Mw];have hl:=h2 hn;have hcc:QC l x=false:=by unfold QC;rw [hn];simp
  rw [eT hcc];unfold Xn;rw [Ul hc,Uf (show ¬x.next.isEmpty=true by simp [hn])];by_cases h3:x.left > 1
  ·rw [Ul h3];have hg':X5 {x with left:=x.left - 1} p=false:=hg;unfold msr;rw [Uf (by simp [hg']),Uf (show ¬x.next.isEmpty=true by simp [hn])];show (if has x.next p=true then (x.left - 1).toNat else (x.left - 1).toNat + 16) < _;split <;> omega
  ·rw [Uf h3];by_cases hnp:has x.next p=true
   ·rw [Ul hnp];have:msr ⟨x.next,0,[],0⟩ p=0:=by
     unfold msr;rw [Ul (by simp [X5,hnp])]
    rw [this];omega
   ·rw [Uf hnp];unfold msr;split
    ·omega
    ·rw [Ul (show ([]:List Int).isEmpty=true from rfl)];show (7 - (0:Int)).toNat + 8 < _;omega
theorem ZIc {l:List Path} {x:Control} {p:Int} (hc:ZR l x=true):msr x p<=21:=by
 obtain ⟨h1,h2⟩:=Zcn hc;unfold msr;split
 ·omega
 ·split
  ·omega
  ·rename_i hn;have:=h2 (by simpa using hn);split <;> omega
theorem ZId {l:List Path} {x:Control} {p:Int} (m:Nat):∀(x:Control) (n:Int),ZR l x=true->XN l p=true->msr x p<=m->0<=n->n + m<=1000000->ZX x->Sm l->
  ∃r:Int,0<=r/\r<=n + m/\∀{V:Type} (F:(V->Option Int)->V->Option Int) (a:Control->Int->V),
   (∀rec x n,ZX x->ZR l x=true->0<=n->n<=1000000->F rec (a x n)=if X5 x p=true then some n else rec (a (Xe l x p) (n + 1)))->
   ∀k,Zf F (k + m + 1) (a x n)=some r:=by
 induction m with
 |zero=>
  intro x n hc hr hm h0 h1 hx hl;have hg:X5 x p=true:=by
   rcases hgc:X5 x p with _ | _
   ·have:=Zwa hc hr hgc;omega
   ·rfl
  exact ⟨n,h0,by omega,fun F a hF k=>by rw [Ve,hF _ _ _ hx hc h0 (by omega),Ul hg]⟩
 |succ m ih=>
  intro x n hc hr hm h0 h1 hx hl;by_cases hg:X5 x p=true
  ·exact ⟨n,h0,by omega,fun F a hF k=>by rw [Ve,hF _ _ _ hx hc h0 (by omega),Ul hg]⟩
  ·have hlt:=Zwa hc hr (by simpa using hg);obtain ⟨r,r0,r1,hrr⟩:=ih (Xe l x p) (n + 1) (ZoO hc) hr (by omega) (by omega) (by omega) (ZkJ hx) hl;refine ⟨r,r0,by omega,fun F a hF k=> ?_⟩;have e1:=hrr F a hF k;rw [show k + (m + 1) + 1=(k + m + 1) + 1 by omega];rw [Ve,hF _ _ _ hx hc h0 (by omega),Uf hg,e1]
theorem ZIe (l:List Path) (x:Control) (p:Int) (h:Sm l) (hx:ZX x):∃r,ZiQ l x p=some r/\ZjE l x p=some r/\Rg r:=by
 unfold ZiQ ZjE;simp only [Zp,Zu,Zq,Zy,XI l p h,Qd l p h,Jb l x h hx,KI l x h hx,ZoI l p h,Zd,Xs];cases hc:ZR l x with
 |false=>exact ⟨-1,rfl,rfl,by decide,by decide⟩
 |true=>
 simp only [Ui,Zh];by_cases hf:ZD l p < 0
 ·have:XN l p=false:=by unfold XN;simp [hf]
  rw [Uv hf,Zs,this];exact ⟨-1,rfl,rfl,by decide,by decide⟩
 rw [Um hf,Zh,Xd hf];cases hr:XN l p with
 |false=>
  have:((ZQ l p).kind==2)=true:=by
   unfold XN at hr;simp only [hf,U3,UT,UW] at hr;simpa using hr
  rw [this,Zs];exact ⟨-1,rfl,rfl,by decide,by decide⟩
 |true=>
  have:((ZQ l p).kind==2)=false:=by
   unfold XN at hr;simp only [hf,U3,UT,UW] at hr;simpa using hr
  rw [this,Zh,Ui,Zh];obtain ⟨r,r0,r1,hrr⟩:=ZId (l:=l) (x:=x) (p:=p) 21 x 0 hc hr (ZIc hc) (by omega) (by omega) hx h;obtain ⟨n,hn⟩:=Zkm;refine ⟨r,?_,?_,by omega,by omega⟩
  ·rw [hn];refine hrr _ (fun x n=>((l,(p,n)),x)) ?_ (n + 42);intro rec y n hy hyc n0 n1;simp only [Zu,Zp,Zy,ZIa l y p hy,ZuA l y p h hy,Zd];rw [Zz (by omega) (by omega)];cases X5 y p <;> simp
  ·rw [hn];refine hrr _ (fun x n=>((l,(p,(ZD l p,n))),x)) ?_ (n + 42);intro rec y n hy hyc n0 n1;simp only [Zu,Zp,Zy,Zks l y h hy,ZuB l y p h hy,Zd,Yu];rw [Zz (by omega) (by omega),Zgd hyc hf,ZIb];cases X5 y p <;> simp
theorem Zwb (a:Path):∀(r:List (Path×Int)) (o:Int),Rg o->(∀x∈r,Rg x.1.id)->Rg (goO a r o)
 | [],_,h,_=>h
 |x::r,o,h,hr=>by
  unfold goO;refine Zwb a r _ ?_ fun y hy=>hr y (Ug _ hy)
  split
  ·exact hr x (Uj ..)
  ·exact h
theorem ZIf {t:Town} {p s:Int} (hp:Rg p):ZtA (Y1 t p s).1:=by
 cases h:(Y1 t p s).2 with
 |false=>
  have e:(Y1 t p s).1=Zf6:=by
   unfold Y1 at h ⊢;split
   ·rfl
   ·rename_i hc;rw [Uf hc] at h;split
    ·rfl
    ·rename_i e he;rw [he] at h;cases h
  rw [e];exact ⟨⟨by decide,by decide⟩,⟨by decide,by decide⟩,⟨by decide,by decide⟩,⟨by decide,by decide⟩,⟨by decide,by decide⟩⟩
 |true=>
  obtain ⟨ht,m,q,q2,q1,hq,i,e,x,he,e1,e3,e2,hsec,hx,h0,h2,hn,hr⟩:=ZGQ h;rw [hr];simp only [Z7,Ub,UI,inR] at ht;obtain ⟨⟨⟨⟨⟨⟨⟨⟨⟨⟨t1,t2⟩,t3⟩,t4⟩,t5⟩,t6⟩,t7⟩,t8⟩,t9⟩,t10⟩,t11⟩:=ht;have hl:=ZfY t5 e he;have hpaths:ZJ t.paths=true:=by
   unfold ZR at t1;simp only [Ub] at t1;exact Zgc t1.1.1.1.2
  refine ⟨hp,(show Rg s from ⟨by omega,by omega⟩),(show Rg x from ⟨by omega,by omega⟩),?_,Zwb q _ _ (show Rg 0 from ⟨by decide,by decide⟩) fun y hy=> ?_⟩
  ·show Rg (VT t.record m s);unfold VT;split
   ·exact ZvO _
   ·exact (show Rg (-1) from ⟨by decide,by decide⟩)
  ·have hm:y.1∈t.paths:=(List.of_mem_zip hy).1;have:=ZdQ hpaths (Zpl hm);exact ⟨by omega,by omega⟩
theorem ZpS {n:Int} (h1: -1000000000<=n) (h2:n<=1000000000):Rg n:=⟨by omega,by omega⟩
def RgT (t:Town):Prop:=ZfH t.control/\(∀y∈t.paths,QU y)/\Rg t.books/\Rg t.now
theorem ZIg (l:List Path) (x:List Lamp) (p:Bool):Ye l x p=0\/Ye l x p=1\/Ye l x p=2:=by
 unfold Ye;split
 ·simp
 ·split
  ·simp
  ·split <;> simp
def Zgo (m:Int):ByteArray:=if m=0 then bs [102,117,108,108] else if m=1 then bs [98,108,105,110,107] else bs [100,97,114,107]
theorem ZIh (m:Int):(Zgo m).size<=5:=by
 unfold Zgo;split
 ·decide
 ·split <;> decide
theorem ZIi {m:Int} (h:m=0\/m=1\/m=2):ZnI m=some (Zgo m):=by
 rcases h with rfl |rfl |rfl <;> rfl
theorem ZIj {m:Int} (h:m=0\/m=1\/m=2):ZnZ m=some (Zgo m):=by
 rcases h with rfl |rfl |rfl <;> rfl
theorem ZpT {α:Type} {l:List α} (h:Sm l):Rg (l.length:Int):=by
 unfold Sm at h;exact ⟨by omega,by omega⟩
theorem ZIk (t:Town) (h:Zx t) (kb:Rg t.books) (kn:Rg t.now):∃v,ZiF t=some v/\ZjI t=some v:=by
 obtain ⟨h0,h1,h2,h3,h4⟩:=h;have hm:=ZIg t.paths t.lamps t.power;have e1:QP t=some (Ye t.paths t.lamps t.power):=by unfold QP;simp [Zkt _ _ _ h0 h3]
 have e2:QT t=some (Ye t.paths t.lamps t.power):=by unfold QT;simp [Zku _ _ _ h0 h3]
 have hs:Sm [(t.paths.length:Int),(t.wants.length:Int),(t.record.length:Int),t.books]:=by unfold Sm;simp
 have hrg:∀y∈ [(t.paths.length:Int),(t.wants.length:Int),(t.record.length:Int),t.books],Rg y:=by
  intro y hy;simp only [List.mem_cons,List.not_mem_nil,or_false] at hy;rcases hy with rfl |rfl |rfl |rfl
  ·exact ZpT h0
  ·exact ZpT h2
  ·exact ZpT h4.1
  ·exact kb
 have z0:=Y4 kn;have z1:=ZIh (Ye t.paths t.lamps t.power);have z2:=Zk8 hs hrg;have e:∀(a b c d:Int) (K:List Int->Option ByteArray),rws iR [[I a],[I b],[I c],[I d]] K=K [a,b,c,d]:=fun _ _ _ _ _=>rfl
 unfold ZiF ZjI;simp only [Zk,Zo,Zn,Zq,Zu,ZK,ZT,ZS,Yp,Xc,XE,Zy,ZW,e,e1,e2,ZIi hm,ZIj hm,QE _ kn,Q1 _ kn,ZdV _ hs hrg,ZdW _ hs hrg,Zd,Zgg,UO,YN,UJ,UQ];refine ⟨Yf t.now ++ bs [32] ++ Zgo (Ye t.paths t.lamps t.power) ++ bs [32] ++ Qh [(t.paths.length:Int),(t.wants.length:Int),(t.record.length:Int),t.books],?_,?_⟩ <;>
  rw [Zt (by omega),Zt (by omega),Zt (by omega),Zt (by omega)]
theorem Zwc:∀{p:List Part},(∀x∈p,x.stage.length<=20)->Zcw p<=20 * p.length
 | [],_=>by simp [Zcw]
 |x::p,h=>by
  rw [Zvx];have:=Zwc (p:=p) fun y hy=>h y (Ug _ hy)
  have:=h x (Uj ..);simp only [UJ];omega
theorem Zwd (l:List Path) (h:Sm l):Zfc l=some (QG l):=by
 obtain ⟨hs,hn⟩:=Zps l;unfold Zfc;simp only [Zu,Zu8 l h,Zd,Zat,ZbP,Vg,ZhQ,Zq,Xm];refine (Yj (Y3 l) (by omega) (fun k acc=>(l,acc,Y3 l,(k:Int))) [] (fun k acc=>acc=((Y3 l).take k).map fun s=>(⟨s,YS l s⟩:Part)) rfl (fun _ _ _=>some (QG l)) rfl ?_ ?_).trans rfl
 ·intro rec acc ha;rw [MT] at ha;have ha:acc=KS l:=ha;subst ha;simp only [show decide ((((Y3 l).length:Nat):Int) < (((Y3 l).length:Nat):Int))=false from Um (by omega),Zh,Zu,ZHK,Xm,Zow l _ h (Zpt l),Zd];unfold QG;cases Ym l (KS l) <;> rfl
 ·intro rec k s acc ha hx hk hr;have hlen:acc.length=k:=by rw [ha,Uy,Uc];omega
  have hr':=hr (acc ++ [⟨s,YS l s⟩]) (by rw [ha];exact ZvB (fun s=>(⟨s,YS l s⟩:Part)) hx);simp only [Uo] at hr';simp [hk,Zi hx,ZkC l s h (hs s (Uk hx)),ZvA,Zw (show k<=9223372036854775806 by omega),hlen,show (k + 1) * 32<=140737488355328 by omega,show k<=1152921504606846975 by omega,hr']
theorem Zwe (l:List Path) (h:Sm l):Zfy l=some (QG l):=by
 obtain ⟨hs,hn⟩:=Zps l;unfold Zfy;simp only [Zu,Zu7 l h,Zd,JH,Vg];refine (Yj (Y3 l) (by omega) (fun k acc=>(l,acc,Y3 l,((Y3 l).length:Int),(k:Int))) [] (fun k acc=>acc=((Y3 l).take k).map fun s=>(⟨s,YS l s⟩:Part)) rfl (fun _ _ _=>some (QG l)) rfl ?_ ?_).trans rfl
 ·intro rec acc ha;rw [MT] at ha;have ha:acc=KS l:=ha;subst ha;simp only [ltF,Zh,Zu,Xm,Zuh l _ h (Zpt l),Zd];unfold QG;cases Ym l (KS l) <;> rfl
 ·intro rec k s acc ha hx hk hr;have hlen:acc.length=k:=by rw [ha,Uy,Uc];omega
  have hr':=hr (acc ++ [⟨s,YS l s⟩]) (by rw [ha];exact ZvB (fun s=>(⟨s,YS l s⟩:Part)) hx);simp only [Uo] at hr';simp [hk,Zi hx,ZkD l s h (hs s (Uk hx)),ZvA,Zw (show k<=9223372036854775806 by omega),hlen,show (k + 1) * 32<=140737488355328 by omega,show k<=1152921504606846975 by omega,hr']
theorem ZIl (t:Town) (h:Zx t):∃v,Zfd (QG t.paths)=some v/\Zfz (QG t.paths)=some v:=by
 have hp:=(ZHL t.paths).1;have:=Zwc fun y hy=>(hp.2 y hy).1
 have:=hp.1;exact ⟨_,ZG3 _ ⟨by have:=hp.1;unfold Sm;omega,fun y hy=>by have:=(hp.2 y hy).1;show Sm y.stage;unfold Sm;omega⟩ (fun y hy=>⟨⟨by have:=(hp.2 y hy).1;unfold maxLen;omega,(hp.2 y hy).2.1⟩,(hp.2 y hy).2.2⟩) (by omega)⟩
theorem ZIm (t:Town):∃v,JO (KU t.paths)=some v/\JU (KU t.paths)=some v:=by
 obtain ⟨h1,h2⟩:=Zpr t.paths;have hs:Sm (KU t.paths):=by unfold Sm KU;rw [Uy];omega
 have hr:∀y∈KU t.paths,Rg y:=fun y hy=>by
  obtain ⟨s,hm,rfl⟩:=List.mem_map.1 hy;have:=h2 s hm;exact ZpS (by omega) (by omega)
 exact ⟨_,ZdV _ hs hr,ZdW _ hs hr⟩
theorem ZpU (row:List Int) (M:Int):∀(ks:List Nat) (b n:Int),0<=b->0<=n->b<=M->n + ks.length<=M->0<=gW row ks b n/\gW row ks b n<=M
 | [],b,n,h0,h1,h2,h3=>by
  unfold gW;split <;> omega
 |k::ks,b,n,h0,h1,h2,h3=>by
  rw [UJ] at h3;unfold gW;split
  ·refine ZpU row M ks _ _ ?_ (by omega) ?_ (by omega) <;> split <;> omega
  ·refine ZpU row M ks _ _ ?_ (by omega) ?_ (by omega) <;> split <;> omega
theorem ZIn (l:List Path) (p:List Part) (id:Int):Rg (ZcC l p id):=by
 unfold ZcC;split
 ·rename_i c;have h1:=ZdK c.1;have:=ZpU (YJ l p id) 1000 (List.range (2 * cyc l p)) 0 0 (by omega) (by omega) (by omega) (by rw [Fi];omega);unfold ZdL;exact ZpS (by omega) (by omega)
 ·exact ZpS (by omega) (by omega)
theorem Zwf (t:Town) (h:Zx t) (hr:RgT t) (w:List UInt8):∃v0 v1 v2 v3 v4 v5 v6 v7:ByteArray,
  Zfg t (bs w)=some (if w= [108,105,103,104,116,115] then v0 else if w= [115,101,101,110] then v1 else if w= [99,111,110,116,114,111,108] then v2 else if w= [112,97,116,104,115] then v3 else if w= [112,108,97,110] then v4 else if w= [115,116,97,103,101,115] then v5 else if w= [116,111,119,110] then v6 else if w= [97,117,100,105,116] then v7 else QI)/\
  (∀n,YI t (bs [108,105,103,104,116,115]) n=some v0)/\(∀n,YI t (bs [115,101,101,110]) n=some v1)/\(∀n,YI t (bs [99,111,110,116,114,111,108]) n=some v2)/\(∀n,YI t (bs [112,97,116,104,115]) n=some v3)/\
  (∀n,YI t (bs [112,108,97,110]) n=some v4)/\(∀n,YI t (bs [115,116,97,103,101,115]) n=some v5)/\(∀n,YI t (bs [116,111,119,110]) n=some v6)/\(∀n,YI t (bs [97,117,100,105,116]) n=some v7):=by
 obtain ⟨k1,k2,k3,k4⟩:=hr;obtain ⟨v2,a2,b2⟩:=ZGX t.control h.2.1 k1;obtain ⟨v4,a4,b4⟩:=ZIl t h;obtain ⟨v5,a5,b5⟩:=ZIm t;obtain ⟨v6,a6,b6⟩:=ZIk t h k3 k4;obtain ⟨v7,a7,b7⟩:=ZHy t h;have hl:=ZkI t h;have hs:=ZFk t h;refine ⟨Kd (Yz t),Kd (Zck t),v2,Zgh t.paths,v4,v5,v6,(if v7=bs [] then Zv7 else v7),?_,?_,?_,?_,?_,?_,?_,?_,?_⟩
 ·unfold Zfg;simp only [Xo,YO,Zp,Zk,Zo,Zn,Zu,Zq,Xm,Zf3 t h,ZFi t h,Zd,Zk4 _ hl,Zk4 _ hs,a2,ZG0 t.paths h.1 k2,Zwd t.paths h.1,a4,ZHv t.paths h.1,a5,a6,a7,ZB,UI]
  repeat (split; · rfl)
  split
  ·simp only [Zd2,UH,U7];by_cases c:v7=bs []
   ·rw [Uf (by simp [c]),Ul c];rfl
   ·rw [Ul c,Uf c]
  ·rfl
 all_goals intro n
 all_goals unfold YI
 all_goals simp only [Xo,YO,Zp,Zk,Zo,Zn,Zu,Zq,Xm,Zf4 t h,ZFj t h,Zd,Zk5 _ hl,Zk5 _ hs,b2,ZG1 t.paths h.1 k2,Zwe t.paths h.1,b4,ZHw t.paths h.1,b5,b6,b7,ZB,UI]
 all_goals repeat rw [Uf (by decide)]
 all_goals try rw [Ul trivial]
 simp only [Zd2,UH,U7];by_cases c:v7=bs []
 ·rw [Uf (by simp [c]),Ul c];rfl
 ·rw [Ul c,Uf c]
theorem Zwg (t:Town) (h:Zx t) (hr:RgT t) (w:List UInt8) (a:Int):∃v0 v1 v2 v3:ByteArray,
  Zfh t (bs w) a=some (if w= [99,111,110,102,108,105,99,116,115] then v0 else if w= [119,97,105,116] then v1 else if w= [115,105,114,101,110] then v2 else if w= [115,104,111,119,110] then v3 else QI)/\
  YI t (bs [99,111,110,102,108,105,99,116,115]) [a]=some v0/\YI t (bs [119,97,105,116]) [a]=some v1/\YI t (bs [115,105,114,101,110]) [a]=some v2/\YI t (bs [115,104,111,119,110]) [a]=some v3:=by
 obtain ⟨k1,k2,k3,k4⟩:=hr;obtain ⟨c1,c2⟩:=ZH7 t.paths a h.1 k2;obtain ⟨r,e1,e2,e3⟩:=ZIe t.paths t.control a h.1 h.2.1;have hw:=ZIn t.paths (QG t.paths) a;have hp:=ZG7 t.paths;have hs:=Zos a h.2.2.2.2;have hz:∀{β:Type} (K:Int->Option β),Z4 [a] 0 K=K a:=fun K=>rfl
 refine ⟨Qh (Zbf t.paths a),Yf (ZcC t.paths (QG t.paths) a),Yf r,(if (Qf t.record a).2=true then Kd (Qf t.record a).1 else Zlg),?_,?_,?_,?_,?_⟩
 ·unfold Zfh;simp only [Xo,YO,Zp,Zk,Zo,Zn,Zu,Zq,Xm,ZS,Zy,ZH5 t.paths a h.1,Zwd t.paths h.1,ZH8 t.paths _ a h.1 hp,e1,ZkA t.record a h.2.2.2.2,Zd,ZdV _ c1 c2,QE _ hw,QE _ e3,Zk4 _ hs,ZB,UI]
  repeat (split; · rfl)
  split
  ·cases (Qf t.record a).2 <;> rfl
  ·rfl
 all_goals unfold YI
 all_goals simp only [Xo,YO,Zp,Zk,Zo,Zn,Zu,Zq,Xm,ZS,Zy,Yu,hz,ZH6 t.paths a h.1,Zwe t.paths h.1,ZH9 t.paths _ a h.1 hp,e2,Zt9 t.record a h.2.2.2.2,Zd,ZdW _ c1 c2,Q1 _ hw,Q1 _ e3,Zk5 _ hs,ZB,UI]
 all_goals repeat rw [Uf (by decide)]
 all_goals try rw [Ul trivial]
 cases (Qf t.record a).2 <;> rfl
theorem Zwh (t:Town) (h:Zx t) (w:List UInt8) (a b:Int) (ha:Rg a):∃v:ByteArray,
  Qa t (bs w) [a,b]=some (if w= [114,101,112,111,114,116] then v else QI)/\YI t (bs [114,101,112,111,114,116]) [a,b]=some v:=by
 obtain ⟨v,e1,e2⟩:=ZGZ _ (ZIf (t:=t) (p:=a) (s:=b) ha);have hz:∀{β:Type} (K:Int->Option β),Z4 [a,b] 0 K=K a:=fun K=>rfl
 have hz1:∀{β:Type} (K:Int->Option β),Z4 [a,b] 1 K=K b:=fun K=>rfl
 refine ⟨(if (Y1 t a b).2=true then v else Zlg),?_,?_⟩
 ·unfold Qa;simp only [ZV,UJ,UQ,Xo,YO,Zk,Yu,hz,hz1,Zou t a b h,Zd,e1];rw [show (((0 + 1 + 1:Nat):Int)==0)=false from rfl,Zh,show (((0 + 1 + 1:Nat):Int)==1)=false from rfl,Zh,show (((0 + 1 + 1:Nat):Int)==2)=true from rfl,Zs,show (((0 + 1 + 1:Nat):Int)==3)=false from rfl];simp only [ZB,UI];split
  ·cases (Y1 t a b).2 <;> rfl
  ·rfl
 ·unfold YI;simp only [Xo,YO,Zk,Yu,hz,hz1,Zov t a b h,Zd,e2,ZB,UI]
  repeat rw [Uf (by decide)]
  rw [Ul trivial];cases (Y1 t a b).2 <;> rfl
theorem Zwi (t:Town) (h:Zx t) (w:List UInt8) (a b c:Int):∃v:ByteArray,
  Qa t (bs w) [a,b,c]=some (if w= [118,101,114,100,105,99,116] then v else QI)/\YI t (bs [118,101,114,100,105,99,116]) [a,b,c]=some v:=by
 obtain ⟨v,e1,e2⟩:=ZEM (Y1 t a c).1 (Y1 t b c).1;have hz:∀{β:Type} (K:Int->Option β),Z4 [a,b,c] 0 K=K a:=fun K=>rfl
 have hz1:∀{β:Type} (K:Int->Option β),Z4 [a,b,c] 1 K=K b:=fun K=>rfl
 have hz2:∀{β:Type} (K:Int->Option β),Z4 [a,b,c] 2 K=K c:=fun K=>rfl
 refine ⟨(if (Y1 t a c).2=true/\(Y1 t b c).2=true then v else Zlg),?_,?_⟩
 ·unfold Qa;simp only [ZV,UJ,UQ,Xo,YO,Zk,Yu,hz,hz1,hz2,Zou t a c h,Zou t b c h,Zd,e1];rw [show (((0 + 1 + 1 + 1:Nat):Int)==0)=false from rfl,Zh,show (((0 + 1 + 1 + 1:Nat):Int)==1)=false from rfl,Zh,show (((0 + 1 + 1 + 1:Nat):Int)==2)=false from rfl,Zh,show (((0 + 1 + 1 + 1:Nat):Int)==3)=true from rfl,Zs];simp only [ZB,UI];split
  ·cases (Y1 t a c).2 <;> cases (Y1 t b c).2 <;> rfl
  ·rfl
 ·unfold YI;simp only [Xo,YO,Zk,Yu,hz,hz1,hz2,Zov t a c h,Zov t b c h,Zd,e2,ZB,UI]
  repeat rw [Uf (by decide)]
  rw [Ul trivial];cases (Y1 t a c).2 <;> cases (Y1 t b c).2 <;> rfl
theorem KW (t:Town) (w:ByteArray):Qa t w []=Zfg t w:=by
 unfold Qa;simp only [ZV,UQ,Zk,ZaN];rfl
theorem Zwj (t:Town) (w:ByteArray) (a:Int):Qa t w [a]=Zfh t w a:=by
 unfold Qa;simp only [ZV,UJ,UQ,Zk,ZaN,Yu];rfl
theorem ZIo (t:Town) (w:ByteArray) (a b c d:Int) (l:List Int):Qa t w (a::b::c::d::l)=some QI:=by
 unfold Qa;simp only [ZV,UJ,Zk];have e:∀k:Int,k<=3->(((l.length + 1 + 1 + 1 + 1:Nat):Int)==k)=false:=fun k hk=>by rw [Mn];omega
 rw [e 0 (by omega),Zh,e 1 (by omega),Zh,e 2 (by omega),Zh,e 3 (by omega),Zh];rfl
def Kg:Evt:=⟨0,0,0,false⟩
def X6 (w:List UInt8):List Int->Evt
 | [a]=>if w= [99,97,108,108] then ⟨1,a,0,false⟩ else if w= [98,117,115] then ⟨2,a,0,false⟩ else if w= [104,101,108,112] then ⟨6,a,0,false⟩ else
   if w= [112,111,119,101,114]/\0<=a/\a<=1 then ⟨4,0,0,a==1⟩ else if w= [114,117,110] then ⟨5,0,a,false⟩ else Kg
 | [a,b]=>if w= [98,114,101,97,107] then ⟨3,a,b,true⟩ else if w= [109,101,110,100] then ⟨3,a,b,false⟩ else Kg
 | _=>Kg
theorem Zlh (w:List UInt8) (n:List Int):Ze4 (bs w) n=some (X6 w n):=by
 unfold Ze4 ZnG Ze3;simp only [ZV,Xo,YO,Yu,V8,Zd]
 match n with
 | []=>rfl
 | [a]=>
  have hz:∀{β:Type} (K:Int->Option β),Z4 [a] 0 K=K a:=fun K=>rfl
  simp only [UJ,UQ,hz];rw [show (((0 + 1:Nat):Int)==1)=true from rfl,show (((0 + 1:Nat):Int)==2)=false from rfl];simp only [Zs,Zh];unfold X6;by_cases h1:w= [99,97,108,108]
  ·simp [h1]
  by_cases h2:w= [98,117,115]
  ·simp [h2]
  by_cases h3:w= [104,101,108,112]
  ·simp [h3]
  by_cases h4:w= [112,111,119,101,114]
  ·by_cases h5:0<=a
   ·by_cases h6:a<=1
    ·simp [h4,h5,h6]
    ·simp [h4,h5,h6,Kg]
   ·simp [h4,h5,Kg]
  by_cases h5:w= [114,117,110]
  ·simp [h5]
  ·simp [h1,h2,h3,h4,h5,Kg]
 | [a,b]=>
  have hz:∀{β:Type} (K:Int->Option β),Z4 [a,b] 0 K=K a:=fun K=>rfl
  have hz1:∀{β:Type} (K:Int->Option β),Z4 [a,b] 1 K=K b:=fun K=>rfl
  simp only [UJ,UQ,hz,hz1];rw [show (((0 + 1 + 1:Nat):Int)==1)=false from rfl,show (((0 + 1 + 1:Nat):Int)==2)=true from rfl];simp only [Zs,Zh];unfold X6;by_cases h1:w= [98,114,101,97,107]
  ·simp [h1]
  by_cases h2:w= [109,101,110,100]
  ·simp [h2]
  ·simp [h1,h2,Kg]
 |a::b::c::l=>
  simp only [UJ];have e:∀k:Int,k<=2->(((l.length + 1 + 1 + 1:Nat):Int)==k)=false:=fun k hk=>by rw [Mn];omega
  rw [e 1 (by omega),e 2 (by omega)];rfl
theorem ZIp (u:List UInt8):0<=(Y5 u).1:=by
 rw [←Zv1];unfold Zlf;split
 ·exact Fj _
 ·rename_i h;cases hp:pd u 0 with
  |none=>exact Fj _
  |some n=>
   have hv:pd u 0=some ((dvN u 0:Nat):Int):=ZpN u 0 (ZpO u 0 n hp) (by
    have:10 ^ u.length<=10 ^ 13:=Mj (by omega) (by omega);omega)
   rw [hp] at hv;have hn:=Un hv;simp only;split
   ·exact Fj _
   ·split
    ·rw [hn];exact Fw _
    ·exact Fj _
theorem Zwk:∀{ws:List (List UInt8)} {l:List Int},Xf ws=some l->∀y∈l,0<=y
 | [],l,h=>by
  have:=Un h;subst this;exact fun y hy=>by cases hy
 |w::r,l,h=>by
  unfold Xf at h;split at h
  ·cases hr:Xf r with
   |none=>rw [hr] at h;cases h
   |some m=>
    rw [hr] at h;have:=Un h;subst this;intro y hy;rcases List.mem_cons.1 hy with rfl |hy
    ·exact ZIp w
    ·exact Zwk hr y hy
  ·cases h
def YT (w:List UInt8):Int:=
 if w= [108,105,103,104,116,115] then 0 else if w= [115,101,101,110] then 0 else if w= [99,111,110,116,114,111,108] then 0 else if w= [112,97,116,104,115] then 0 else if w= [112,108,97,110] then 0 else if w= [115,116,97,103,101,115] then 0 else if w= [116,111,119,110] then 0 else if w= [97,117,100,105,116] then 0 else
 if w= [99,97,108,108] then 1 else if w= [98,117,115] then 1 else if w= [104,101,108,112] then 1 else if w= [112,111,119,101,114] then 1 else if w= [114,117,110] then 1 else if w= [99,111,110,102,108,105,99,116,115] then 1 else if w= [119,97,105,116] then 1 else if w= [115,105,114,101,110] then 1 else if w= [115,104,111,119,110] then 1 else
 if w= [98,114,101,97,107] then 2 else if w= [109,101,110,100] then 2 else if w= [114,101,112,111,114,116] then 2 else if w= [118,101,114,100,105,99,116] then 3 else -1
theorem ZIq (w:List UInt8):Zi9 (bs w)=some (YT w):=by
 unfold Zi9 YT;simp only [Xo,YO,ZB,UI,apply_ite (some:Int->Option Int)]
def QJ (w:List UInt8):Prop:=w= [99,97,108,108]\/w= [98,117,115]\/w= [104,101,108,112]\/w= [112,111,119,101,114]\/w= [114,117,110]\/w= [98,114,101,97,107]\/w= [109,101,110,100]
theorem ZIr (t:Town) (w:List UInt8) (l:List Int) (h:¬QJ w):XG t (bs w) l=some (t,(false,false)):=by
 unfold QJ at h;simp only [not_or] at h;obtain ⟨h1,h2,h3,h4,h5,h6,h7⟩:=h;unfold XG;simp only [Xo,YO,Um h1,Um h2,Um h3,Um h4,Um h5,Um h6,Um h7,Zh,Zk]
noncomputable def VY (t:Town) (w:List UInt8) (l:List Int):Option (Town×ByteArray):=
 bnd (Ze4 (bs w) l) fun e=>cnd (decide (e.kind > 0)) (bnd (Ze9 t e) fun x=>Zdg t x.1 x.2) (bnd (Qa t (bs w) l) fun v=>some (t,v))
noncomputable def Kh (t:Town) (w:List UInt8) (l:List Int):Option (Town×ByteArray):=
 bnd (XG t (bs w) l) fun r=>cnd (!r.2.2) (bnd (YI t (bs w) l) fun v=>some (t,v)) (ZaG t r.1 r.2.1)
theorem ZIs {t:Town} {w:List UInt8} {l:List Int} (h:Zx t) (hk:(X6 w l).kind > 0):VY t w l=some (Kf t (ZdS t (X6 w l))):=by
 unfold VY;rw [Zlh,Zd,Uv hk,Zs,Zpj t _ h,Zd,ZpQ _ _ _ h]
theorem Zd4 {t:Town} {w:List UInt8} {l:List Int} {v:ByteArray} (hk:X6 w l=Kg) (hv:Qa t (bs w) l=some v):VY t w l=some (t,v):=by
 unfold VY;rw [Zlh,Zd,hk,show decide (Kg.kind > 0)=false from rfl,Zh,hv,Zd]
theorem ZIt {t:Town} {w:List UInt8} {l:List Int} {v:ByteArray} (hw:¬QJ w) (hv:YI t (bs w) l=some v):Kh t w l=some (t,v):=by
 unfold Kh;rw [ZIr t w l hw,Zd,UT,Zs,hv,Zd]
theorem ZIu {t:Town} {w:List UInt8} {l:List Int} {x:Town×Bool} (h:Zx t) (hv:XG t (bs w) l=some (x.1,(x.2,true))):Kh t w l=some (Kf t x):=by
 unfold Kh;rw [hv,Zd,Ui,Zh,Zv8 _ _ _ h]
theorem ZIv (t:Town) (w:List UInt8) (l:List Int) (h:Zx t) (hr:RgT t) (hl:∀y∈l,Rg y) (hbad:(l.length:Int)≠YT w\/(w= [112,111,119,101,114]/\∃a,l= [a]/\1 < a)):VY t w l=some (t,QI):=by
 have bad:(l.length:Int)=YT w->w≠ [112,111,119,101,114]->False:=fun e hw=>by
  rcases hbad with h1 | ⟨h1,_⟩
  ·exact h1 e
  ·exact hw h1
 match l,hbad,bad,hl with
 | [],hbad,bad,_=>
  obtain ⟨v0,v1,v2,v3,v4,v5,v6,v7,e,_⟩:=Zwf t h hr w;refine Zd4 rfl ?_;rw [KW,e];congr 1;have no:∀x:List UInt8,YT x=0->x≠ [112,111,119,101,114]->¬w=x:=fun x hx hp e=>by subst e;exact bad (by rw [hx];rfl) hp
  rw [Uf (no _ (by decide) (by decide)),Uf (no _ (by decide) (by decide)),Uf (no _ (by decide) (by decide)),Uf (no _ (by decide) (by decide)),Uf (no _ (by decide) (by decide)),Uf (no _ (by decide) (by decide)),Uf (no _ (by decide) (by decide)),Uf (no _ (by decide) (by decide))]
 | [a],hbad,bad,_=>
  obtain ⟨v0,v1,v2,v3,e,_⟩:=Zwg t h hr w a;have no:∀x:List UInt8,YT x=1->x≠ [112,111,119,101,114]->¬w=x:=fun x hx hp e=>by subst e;exact bad (by rw [hx];rfl) hp
  have np:¬(w= [112,111,119,101,114]/\0<=a/\a<=1):=by
   rintro ⟨e1,e2,e3⟩;rcases hbad with h1 | ⟨_,b,h2,h3⟩
   ·rw [e1] at h1;exact h1 (show ((1:Nat):Int)=_ by decide)
   ·have:a=b:=by injection h2
    omega
  refine Zd4 ?_ ?_
  ·simp only [X6];rw [Uf (no _ (by decide) (by decide)),Uf (no _ (by decide) (by decide)),Uf (no _ (by decide) (by decide)),Uf np,Uf (no _ (by decide) (by decide))]
  ·rw [Zwj,e];congr 1;rw [Uf (no _ (by decide) (by decide)),Uf (no _ (by decide) (by decide)),Uf (no _ (by decide) (by decide)),Uf (no _ (by decide) (by decide))]
 | [a,b],hbad,bad,hl=>
  obtain ⟨v,e,_⟩:=Zwh t h w a b (hl a (by simp));have no:∀x:List UInt8,YT x=2->x≠ [112,111,119,101,114]->¬w=x:=fun x hx hp e=>by subst e;exact bad (by rw [hx];rfl) hp
  refine Zd4 ?_ ?_
  ·simp only [X6];rw [Uf (no _ (by decide) (by decide)),Uf (no _ (by decide) (by decide))]
  ·rw [e,Uf (no _ (by decide) (by decide))]
 | [a,b,c],hbad,bad,_=>
  obtain ⟨v,e,_⟩:=Zwi t h w a b c;have no:∀x:List UInt8,YT x=3->x≠ [112,111,119,101,114]->¬w=x:=fun x hx hp e=>by subst e;exact bad (by rw [hx];rfl) hp
  refine Zd4 rfl ?_;rw [e,Uf (no _ (by decide) (by decide))]
 |a::b::c::d::l,_,_,_=>exact Zd4 rfl (ZIo t _ a b c d l)
theorem ZIw (w:List UInt8):YT w= -1\/(YT w=0/\(w= [108,105,103,104,116,115]\/w= [115,101,101,110]\/w= [99,111,110,116,114,111,108]\/w= [112,97,116,104,115]\/w= [112,108,97,110]\/w= [115,116,97,103,101,115]\/w= [116,111,119,110]\/w= [97,117,100,105,116]))\/
  (YT w=1/\(w= [99,97,108,108]\/w= [98,117,115]\/w= [104,101,108,112]\/w= [112,111,119,101,114]\/w= [114,117,110]\/w= [99,111,110,102,108,105,99,116,115]\/w= [119,97,105,116]\/w= [115,105,114,101,110]\/w= [115,104,111,119,110]))\/
  (YT w=2/\(w= [98,114,101,97,107]\/w= [109,101,110,100]\/w= [114,101,112,111,114,116]))\/(YT w=3/\w= [118,101,114,100,105,99,116]):=by
 unfold YT;by_cases h1:w= [108,105,103,104,116,115]
 ·simp [h1]
 by_cases h2:w= [115,101,101,110]
 ·simp [h2]
 by_cases h3:w= [99,111,110,116,114,111,108]
 ·simp [h3]
 by_cases h4:w= [112,97,116,104,115]
 ·simp [h4]
 by_cases h5:w= [112,108,97,110]
 ·simp [h5]
 by_cases h6:w= [115,116,97,103,101,115]
 ·simp [h6]
 by_cases h7:w= [116,111,119,110]
 ·simp [h7]
 by_cases h8:w= [97,117,100,105,116]
 ·simp [h8]
 by_cases h9:w= [99,97,108,108]
 ·simp [h9]
 by_cases h10:w= [98,117,115]
 ·simp [h10]
 by_cases h11:w= [104,101,108,112]
 ·simp [h11]
 by_cases h12:w= [112,111,119,101,114]
 ·simp [h12]
 by_cases h13:w= [114,117,110]
 ·simp [h13]
 by_cases h14:w= [99,111,110,102,108,105,99,116,115]
 ·simp [h14]
 by_cases h15:w= [119,97,105,116]
 ·simp [h15]
 by_cases h16:w= [115,105,114,101,110]
 ·simp [h16]
 by_cases h17:w= [115,104,111,119,110]
 ·simp [h17]
 by_cases h18:w= [98,114,101,97,107]
 ·simp [h18]
 by_cases h19:w= [109,101,110,100]
 ·simp [h19]
 by_cases h20:w= [114,101,112,111,114,116]
 ·simp [h20]
 by_cases h21:w= [118,101,114,100,105,99,116]
 ·simp [h21]
 ·left;simp [h1,h2,h3,h4,h5,h6,h7,h8,h9,h10,h11,h12,h13,h14,h15,h16,h17,h18,h19,h20,h21]
theorem ZcD {t:Town} {w:List UInt8} {l:List Int} {x:Town×Bool} (h:Zx t) (hk:(X6 w l).kind > 0) (hx:ZdS t (X6 w l)=x) (hv:XG t (bs w) l=some (x.1,(x.2,true))):∃r,VY t w l=some r/\Kh t w l=some r:=
 ⟨Kf t x,by rw [ZIs h hk,hx],ZIu h hv⟩
theorem Jn {t:Town} {w:List UInt8} {l:List Int} {v:ByteArray} (hk:X6 w l=Kg) (hw:¬QJ w) (hs:Qa t (bs w) l=some v) (hi:YI t (bs w) l=some v):∃r,VY t w l=some r/\Kh t w l=some r:=
 ⟨(t,v),Zd4 hk hs,ZIt hw hi⟩
theorem ZIx (t:Town) (w:List UInt8) (l:List Int) (h:Zx t) (hr:RgT t) (hl:∀y∈l,Rg y/\0<=y) (hn:(l.length:Int)=YT w) (hp:∀a,w= [112,111,119,101,114]->l= [a]->a<=1):∃r,VY t w l=some r/\Kh t w l=some r:=by
  rcases ZIw w with hA | ⟨hA,hw⟩ | ⟨hA,hw⟩ | ⟨hA,hw⟩ | ⟨hA,hw⟩
  · omega
  · have hl0:l= []:=List.length_eq_zero_iff.1 (by omega);subst hl0;obtain ⟨v0,v1,v2,v3,v4,v5,v6,v7,e,i0,i1,i2,i3,i4,i5,i6,i7⟩:=Zwf t h hr w;rcases hw with rfl |rfl |rfl |rfl |rfl |rfl |rfl |rfl
    · exact Jn rfl (by unfold QJ;decide) (by rw [KW,e];rfl) (i0 _)
    · exact Jn rfl (by unfold QJ;decide) (by rw [KW,e];rfl) (i1 _)
    · exact Jn rfl (by unfold QJ;decide) (by rw [KW,e];rfl) (i2 _)
    · exact Jn rfl (by unfold QJ;decide) (by rw [KW,e];rfl) (i3 _)
    · exact Jn rfl (by unfold QJ;decide) (by rw [KW,e];rfl) (i4 _)
    · exact Jn rfl (by unfold QJ;decide) (by rw [KW,e];rfl) (i5 _)
    · exact Jn rfl (by unfold QJ;decide) (by rw [KW,e];rfl) (i6 _)
    · exact Jn rfl (by unfold QJ;decide) (by rw [KW,e];rfl) (i7 _)
  · obtain ⟨a,rfl⟩:∃a,l= [a]:=by
      match l,hn with
      | [a],_=>exact ⟨a,rfl⟩
      | [],hn=>rw [hA] at hn;simp at hn
      |a::b::m,hn=>rw [hA] at hn;simp at hn;omega
    have ha:=(hl a (by simp)).2;have hz:∀{β:Type} (K:Int->Option β),Z4 [a] 0 K=K a:=fun K=>rfl
    obtain ⟨v0,v1,v2,v3,e,i0,i1,i2,i3⟩:=Zwg t h hr w a;have chg:∀u:List UInt8,XG t (bs u) [a]=XG t (bs u) [a]:=fun _=>rfl
    rcases hw with rfl |rfl |rfl |rfl |rfl |rfl |rfl |rfl |rfl
    · refine ZcD (x:=Zco t a) h (by show (1:Int) > 0;decide) rfl ?_;unfold XG;simp only [Xo,YO,Yu,hz,Zk,Zo,Zn,ZGc t a h,Zd];rfl
    · refine ZcD (x:=Zcm t a) h (by show (2:Int) > 0;decide) rfl ?_;unfold XG;simp only [Xo,YO,Yu,hz,Zk,Zo,Zn,ZFO t a h,Zd];rfl
    · refine ZcD (x:=ZaZ t a) h (by show (6:Int) > 0;decide) rfl ?_;unfold XG;simp only [Xo,YO,Yu,hz,Zk,Zo,Zn,ZF2 t a h,Zd];rfl
    · have ha1:=hp a rfl rfl;have ev:X6 [112,111,119,101,114] [a]=⟨4,0,0,a==1⟩:=by
        simp only [X6];rw [Uf (by decide),Uf (by decide),Uf (by decide),Ul ⟨trivial,ha,ha1⟩]
      refine ZcD (x:=ZaX t (a==1)) h (by rw [ev];show (4:Int) > 0;decide) (by rw [ev];rfl) ?_;unfold XG;simp only [Xo,YO,Yu,hz,Zk,Zo,Zn,ZFZ t (a==1) h,Zd];rfl
    · have ev:X6 [114,117,110] [a]=⟨5,0,a,false⟩:=by
        simp only [X6];rw [Uf (by decide),Uf (by decide),Uf (by decide),Uf (by rintro ⟨h1,_⟩;revert h1;decide)];rfl
      refine ZcD (x:=Za7 t a) h (by rw [ev];show (5:Int) > 0;decide) (by rw [ev];rfl) ?_;unfold XG;simp only [Xo,YO,Yu,hz,Zk,Zo,Zn,ZGB t a h,Zd];rfl
    all_goals refine Jn ?_ (by unfold QJ;decide) ?_ (by assumption)
    all_goals first
      | (rw [Zwj,e];rfl)
      | (simp only [X6]
         rw [Uf (by decide),Uf (by decide),Uf (by decide),Uf (by rintro ⟨h1,_⟩;revert h1;decide),Uf (by decide)])
  · obtain ⟨a,b,rfl⟩:∃a b,l= [a,b]:=by
      match l,hn with
      | [a,b],_=>exact ⟨a,b,rfl⟩
      | [],hn=>rw [hA] at hn;simp at hn
      | [a],hn=>rw [hA] at hn;simp at hn
      |a::b::c::m,hn=>rw [hA] at hn;simp at hn;omega
    have hz:∀{β:Type} (K:Int->Option β),Z4 [a,b] 0 K=K a:=fun K=>rfl
    have hz1:∀{β:Type} (K:Int->Option β),Z4 [a,b] 1 K=K b:=fun K=>rfl
    obtain ⟨v,e,i⟩:=Zwh t h w a b (hl a (by simp)).1;rcases hw with rfl |rfl |rfl
    · refine ZcD (x:=KQ t a b true) h (by show (3:Int) > 0;decide) rfl ?_;unfold XG;simp only [Xo,YO,Yu,hz,hz1,Zk,Zo,Zn];rw [show decide True=true from rfl];simp only [Zve t a b _ h,Zd];rfl
    · refine ZcD (x:=KQ t a b false) h (by show (3:Int) > 0;decide) rfl ?_;unfold XG;simp only [Xo,YO,Yu,hz,hz1,Zk,Zo,Zn,Zve t a b _ h,Zd];rfl
    · exact Jn rfl (by unfold QJ;decide) (by rw [e];rfl) i
  · obtain ⟨a,b,c,rfl⟩:∃a b c,l= [a,b,c]:=by
      match l,hn with
      | [a,b,c],_=>exact ⟨a,b,c,rfl⟩
      | [],hn=>rw [hA] at hn;simp at hn
      | [a],hn=>rw [hA] at hn;simp at hn
      | [a,b],hn=>rw [hA] at hn;simp at hn
      |a::b::c::d::m,hn=>rw [hA] at hn;simp at hn;omega
    obtain ⟨v,e,i⟩:=Zwi t h w a b c;subst hw;exact Jn rfl (by unfold QJ;decide) (by rw [e];rfl) i
theorem ZIy {β:Type} (b:Bool) (x y:Option β):cnd (!b) x y=cnd b y x:=by cases b <;> rfl
theorem Zwl {α β:Type} (x:Option (α×β)):(bnd x fun r=>some (r.1,r.2))=x:=by cases x <;> rfl
noncomputable def Zd5 (t:Town) (u:List UInt8):List (List UInt8)->Option (Town×ByteArray)
 | []=>some (t,QI)
 |w::r=>if 200 < u.length then some (t,QI) else if w= [110,101,119] then some (KV t (XQ r)) else match Xf r with
  |none=>some (t,QI)
  |some l=>VY t w l
theorem ZIz (t:Town) (u:List UInt8) (h:Zx t) (hu:u.length<=1048576):ZiU t (bs u)=Zd5 t u (XP u):=by
 have hsz:(bs u).size=u.length:=rfl;have hwl:=ZvX u;have hws:=ZHQ u;unfold ZiU;simp only [ZHS u hu,Zd,Zp,Zk,Zo,Zn,ZbO,Uy,ZbN,Zs7,Zs8,Vf,Zq,Xo,YO,hsz,QB t h];generalize XP u=ws at *
 cases ws with
 |nil=>rfl
 |cons w r=>
  have hg:∀{β:Type} (K:ByteArray->Option β),Z4 ((w::r).map bs) 0 K=K (bs w):=fun K=>rfl
  have hd:List.drop (Int.toNat 1) (List.take (((w::r).length:Nat):Int).toNat ((w::r).map bs))=r.map bs:=by
   rw [Ux,show (w::r).length=((w::r).map bs).length from (Uy _).symm,MT];rfl
  simp only [UJ] at hwl;rw [show ((((w::r).length:Nat):Int)==0)=false by rw [Mn,UJ];omega,Zh];simp only [Zd5];by_cases hb:200 < u.length
  ·rw [Uv (by omega),Zs,Ul hb];rfl
  rw [Um (by omega),Zh,Uf hb];simp only [hg,hd,YO];have hc:(0:Int)<=1/\(1:Int)<=(((w::r).length:Nat):Int)/\(((w::r).length:Nat):Int)<=(((w::r).length:Nat):Int):=⟨by decide,by rw [UJ];omega,Fj _⟩
  by_cases hn:w= [110,101,119]
  ·rw [Uv hn,Zs,Ul hn,Zt hc,ZH3 t r h (by omega),Zd]
  rw [Um hn,Zh,Uf hn,Zt hc,ZH1 r (by omega) (fun x hx=>by have:=hws x (Ug _ hx);omega),Zd];cases hm:Xf r with
  |none=>rw [Zv3 [] hm];rfl
  |some l=>
   rw [Zv2 [] hm];simp only [U9,Ui,Zh];unfold VY;simp only [Zlh,Zd,Zpj t _ h,Zwl]
open Classical in
noncomputable def Zgp (t:Town) (u:List UInt8):List (List UInt8)->Option (Town×ByteArray)
 | []=>some (t,QI)
 |w::r=>if 200 < u.length then some (t,QI) else if w= [110,101,119] then some (KV t (XQ r)) else match Xf r with
  |none=>some (t,QI)
  |some l=>if (l.length:Int)≠YT w\/(w= [112,111,119,101,114]/\∃a,l= [a]/\1 < a) then some (t,QI) else Kh t w l
theorem ZIA (t:Town) (u:List UInt8) (ws:List (List UInt8)) (h:Zx t) (hr:RgT t):∃r,Zd5 t u ws=some r/\Zgp t u ws=some r:=by
 cases ws with
 |nil=>exact ⟨_,rfl,rfl⟩
 |cons w r=>
  simp only [Zd5,Zgp];split
  ·exact ⟨_,rfl,rfl⟩
  split
  ·exact ⟨_,rfl,rfl⟩
  cases hm:Xf r with
  |none=>exact ⟨_,rfl,rfl⟩
  |some l=>
   have h1:=(Zv5 hm).2;have h2:=Zwk hm;simp only;by_cases hbad:(l.length:Int)≠YT w\/(w= [112,111,119,101,114]/\∃a,l= [a]/\1 < a)
   ·rw [Ul hbad];exact ⟨_,ZIv t w l h hr h1 hbad,rfl⟩
   ·rw [Uf hbad];simp only [not_or,Classical.not_not] at hbad;refine ZIx t w l h hr (fun y hy=>⟨h1 y hy,h2 y hy⟩) hbad.1 fun a e1 e2=> ?_
    rcases Int.lt_or_le 1 a with h3 |h3
    ·exact absurd ⟨e1,a,e2,h3⟩ hbad.2
    ·exact h3
theorem ZIB (t:Town) (u:List UInt8) (h:Zx t) (hu:u.length<=1048576):ZfE t (bs u)=Zgp t u (XP u):=by
 have hsz:(bs u).size=u.length:=rfl;have hcl:=ZpI 32 u;have hcs:=ZpJ 32 u;unfold ZfE;simp only [Xo,ZHO (bs u) 32 (by omega),Zd,Vf,Zk,ZbO,Uy];show Zf _ NN ((bs u,([],((YB 32 u).map bs,((((YB 32 u).length:Nat):Int),0)))),(t,Ji))=_;refine (Yj (YB 32 u) (by omega) (fun k (out:List (List UInt8))=>((bs u,(out.map bs,((YB 32 u).map bs,((((YB 32 u).length:Nat):Int),(k:Int))))),(t,Ji))) [] (fun k out=>out.length<=k/\∀x∈out,x.length<=u.length) ⟨Uq _,fun x hx=>by cases hx⟩ (fun r _ out=>Zgp t u (out ++ r.filter fun w=> !w.isEmpty)) rfl ?_ ?_).trans ?_
 ·intro rec ws hJ;obtain ⟨hwl,hws⟩:=hJ;simp only [List.filter_nil,UK];rw [Um (by omega),Zh];simp only [hsz,Zp,Zk,Zo,Zn,ZbO,Uy,ZbN,Zs7,Zs8,Vf,Zq,Zu,YO,Jg t h,Zd];cases ws with
  |nil=>
   by_cases hb:200 < u.length
   ·rw [Uv (by omega),Zs];rfl
   ·rw [Um (by omega),Zh];rfl
  |cons w r=>
   have hg:∀{β:Type} (K:ByteArray->Option β),Z4 ((w::r).map bs) 0 K=K (bs w):=fun K=>rfl
   have hd:List.drop (Int.toNat 1) (List.take (((w::r).length:Nat):Int).toNat ((w::r).map bs))=r.map bs:=by
    rw [Ux,show (w::r).length=((w::r).map bs).length from (Uy _).symm,MT];rfl
   simp only [UJ] at hwl;simp only [Zgp];by_cases hb:200 < u.length
   ·rw [Uv (by omega),Zs,Ul hb];rfl
   rw [Um (by omega),Zh,Uf hb];rw [show ((((w::r).length:Nat):Int)==0)=false by rw [Mn,UJ];omega,Zh];simp only [hg,hd,YO];have hc:(0:Int)<=1/\(1:Int)<=(((w::r).length:Nat):Int)/\(((w::r).length:Nat):Int)<=(((w::r).length:Nat):Int):=⟨by decide,by rw [UJ];omega,Fj _⟩
   have hrl:∀x∈r,x.length<=1048580:=fun x hx=>by have:=hws x (Ug _ hx);omega
   by_cases hn:w= [110,101,119]
   ·rw [Uv hn,Zs,Ul hn,Zt hc,ZH4 r (by omega) hrl,Zd];cases hp:XQ r with
    |none=>rfl
    |some l=>
     have hl:=ZpP hp;simp only [KV];by_cases h0:l.length=0
     ·rw [Um (by omega),Ul h0];rfl
     ·rw [Uv (by omega),Uf h0,Ui,Zh];simp only [ZGH l (show Sm l by unfold Sm;omega),Zd,Zv8 _ _ _ h]
   rw [Um hn,Zh,Uf hn,Zt hc,ZIq,Zd,ZH2 r _ (by omega) hrl,Zd,Zv4];cases hm:Xf r with
   |none=>rfl
   |some l=>
    simp only [U9];by_cases hal:(l.length:Int)=YT w
    ·rw [show (((l.length:Nat):Int)==YT w)=true by rw [hal];simp,Ui,Zh];have tailE:∀(T:Option (Town×ByteArray)),T=(bnd (XG t (bs w) l) fun r=>cnd r.2.2 (bnd (ZaG t r.1 r.2.1) fun x=>some (x.1,x.2)) (bnd (YI t (bs w) l) fun v=>some (t,v)))->T=Kh t w l:=by
      rintro T rfl;unfold Kh;simp only [Zwl,ZIy]
     by_cases hp:w= [112,111,119,101,114]
     ·rw [Uv hp,Zs];have hl1:l.length=1:=by
       rw [hp] at hal;have:YT [112,111,119,101,114]=1:=by decide
       omega
      obtain ⟨a,rfl⟩:∃a,l= [a]:=List.length_eq_one_iff.1 hl1;have hz:∀{β:Type} (K:Int->Option β),Z4 [a] 0 K=K a:=fun K=>rfl
      simp only [Yu,hz];by_cases ha:1 < a
      ·rw [Uv ha,Zs,Ul (.inr ⟨hp,a,rfl,ha⟩)];rfl
      ·have hno:¬((([a]:List Int).length:Int)≠YT w\/(w= [112,111,119,101,114]/\∃b,[a]= [b]/\1 < b)):=by
        rintro (h1 | ⟨_,b,h2,h3⟩)
        ·exact h1 hal
        ·injection h2 with h2;omega
       rw [Um ha,Zh,Uf hno];exact tailE _ rfl
     ·have hno:¬((l.length:Int)≠YT w\/(w= [112,111,119,101,114]/\∃b,l= [b]/\1 < b)):=by
       rintro (h1 | ⟨h2,_⟩)
       ·exact h1 hal
       ·exact hp h2
      rw [Um hp,Zh,Uf hno];exact tailE _ rfl
    ·rw [show (((l.length:Nat):Int)==YT w)=false by rw [Mn];exact hal,UT,Zs,Ul (.inl hal)];rfl
 ·intro rec k p out hJ hx hk hr;simp only [Uo] at hr;obtain ⟨h1,h2⟩:=hJ;simp only [ZbN];rw [Uv (by omega),Zs,Zi (Zgn hx)];simp only [YO,Zw (show k<=9223372036854775806 by omega)];cases p with
  |nil=>
   rw [show decide (([]:List UInt8)= [])=true from rfl,Ui,Zh];simp only [Vf,Zk,Zn];exact hr out ⟨by omega,h2⟩
  |cons y ys=>
   rw [Um (by simp),UT,Zs,Zt (by simp;omega)];simp only [Vf,Zvp,Zk,Zn];have:=hr (out ++ [y::ys]) ⟨by simp;omega,fun x hx2=>by
    rcases List.mem_append.1 hx2 with hx2 |hx2
    ·exact h2 x hx2
    ·rw [Ml.1 hx2];exact hcs _ (Uk hx)⟩
   rw [UY] at this;refine this.trans ?_;rw [M7 (by simp),Uw];rfl
 ·rfl
theorem Zwm {t:Town} {x:Town×Bool} (ht:Zx t) (hs:Zx x.1):Zx (Kf t x).1:=by
 unfold Kf;split
 ·exact hs
 ·exact ht
theorem ZIC {t:Town} {l:Option (List Path)} (ht:Zx t) (hl:∀m,l=some m->Sm m):Zx (KV t l).1:=by
 unfold KV;cases l with
 |none=>exact ht
 |some m=>
  simp only;split
  ·exact ht
  ·exact Zwm ht (ZGF (hl m rfl))
theorem ZID {t:Town} {w:List UInt8} {l:List Int} {r:Town×ByteArray} (ht:Zx t) (h:VY t w l=some r):Zx r.1:=by
 unfold VY at h;rw [Zlh,Zd] at h;by_cases hk:(X6 w l).kind > 0
 ·rw [Uv hk,Zs,Zpj t _ ht,Zd,ZpQ _ _ _ ht] at h;have:=Un h;subst this;exact Zwm ht (ZGN ht _)
 ·rw [Um hk,Zh] at h;cases ha:Qa t (bs w) l with
  |none=>rw [ha] at h;cases h
  |some v=>
   rw [ha,Zd] at h;have:=Un h;subst this;exact ht
theorem ZIE {t:Town} {u:List UInt8} {ws:List (List UInt8)} {r:Town×ByteArray} (ht:Zx t) (hw:ws.length<=u.length + 5) (h:Zd5 t u ws=some r):Zx r.1:=by
 cases ws with
 |nil=>have:=Un h;subst this;exact ht
 |cons w rs=>
  simp only [Zd5] at h;split at h
  ·have:=Un h;subst this;exact ht
  split at h
  ·have:=Un h;subst this;refine ZIC ht fun m hm=> ?_
   have:=ZpP hm;simp only [UJ] at hw;unfold Sm;omega
  split at h
  ·have:=Un h;subst this;exact ht
  ·exact ZID ht h
theorem ZIF (x:Town×ByteArray) (h:Zkh x.1/\x.2.size<=maxLen):Zj9 x.1 x.2=some true:=by
 obtain ⟨t,a⟩:=x;have ht:Zkh t:=h.1;clear h;show Zj9 t a=some true;rw [ZvT a];generalize a.data.toList=u;have hsz:(bs u).size=u.length:=rfl;obtain ⟨r,e,d⟩:=ZEa t ht 1048576 (by decide) (by decide);unfold Zj9 tU bU aT;simp only [hsz,Zk,Zo,Zn,Zr,Zu,Zq,ZK,ZT,ZS,Z3,Z0,Zy,ZW];by_cases hu:1048576 < u.length
 ·rw [Uv (by omega),Zs]
 rw [Um (by omega),Zh];rcases d with d | ⟨_,_,hs⟩
 ·simp [e,d]
 ·have hr:RgT t:=⟨ht.2.1,ht.1.2,ht.2.2.2.2.2.2.2.1,ht.2.2.2.2.2.2.2.2⟩
  obtain ⟨q,e1,e2⟩:=ZIA t u (XP u) hs hr;have hwl:=ZvX u;have hg:Zx q.1:=ZIE hs (by omega) e1;have es:=(ZIz t u hs (by omega)).trans e1;have ei:=(ZIB t u hs (by omega)).trans e2;obtain ⟨n0,b0,c0,d0,f0,e0⟩:=ZtF t hs 1 (by omega) (by omega);obtain ⟨n1,b1,c1,d1,f1,e3⟩:=ZtF _ hg 1 (by omega) (by omega);have e4:=ZEL b1 1 n1 (by omega) (by omega) f1;simp (disch:=omega) [e,show ¬r < 0 by omega,ZEl t hs,es,ei,ZtB _ _ hg,ZtB _ _ hs,e0,e3,e4,JV,Zog,AV.okU,Y7,Zy,ZW]
end Go.Sh
