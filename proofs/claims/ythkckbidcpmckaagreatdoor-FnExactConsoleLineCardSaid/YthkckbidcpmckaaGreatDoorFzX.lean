/- Regions that draw their order. -/
import Derived.Test.YthkckbidcpmckaaGreatDoorFzW
set_option linter.all false
namespace Go.Fx
section
variable {P:Program} {GE:Glob} {β:Type} {r:β} {E:Ctx} {id:Nat} {ops:Array Oper}
def AgrT (ops:Array Oper) (o:Oper) (s s':St):Prop:=(∀t,t∈o.looksAt ops->s'.env t=s.env t)/\(∀key ob,s.L key=some ob->s'.L key=some ob)/\(Yk o s=true->s'.G=s.G)
theorem AgrT.agr {o:Oper} {s s':St} (h:AgrT ops o s s'):Agr (Yk o s) o.op.operands.toList s s':=⟨fun t ht=>h.1 t (by
 unfold Oper.looksAt;refine Uz _ ?_;rw [MX];exact ⟨_,ht,rfl⟩),h.2⟩
theorem AgrT.refl (o:Oper) (s:St):AgrT ops o s s:=⟨fun _ _=>rfl,fun _ _ h=>h,fun _=>rfl⟩
def eff (s:St) (n:List Nat) (d:Option Nat) (v:SV):St:=put (ZN s n) d v
theorem VJ (s:St) (n:List Nat) (d:Option Nat) (v:SV):(eff s n d v).L=s.L:=by
 cases d <;> exact ZeG s n
theorem V3 (s:St) (n:List Nat) (d:Option Nat) (v:SV):(eff s n d v).G=s.G:=by
 cases d <;> exact ZbD s n
theorem YM (s:St) (n:List Nat) (d:Option Nat) (v:SV) (t:Nat):(eff s n d v).env t=if d=some t then v else if t∈n then XX (s.env t) else s.env t:=by
 cases d with
 |none=>simp only [eff,put,reduceCtorEq,Mw];exact JE s n t
 |some d=>
  by_cases h:d=t
  ·subst h;simp [eff,put,ZE]
  ·simp only [eff,put,MN,h,Mw];rw [ZA _ _ (fun e=>h e.symm)];exact JE s n t
theorem St.ext' {s s':St} (h1:∀t,s.env t=s'.env t) (h2:s.L=s'.L) (h3:s.G=s'.G):s=s':=by
 obtain ⟨e,l,g⟩:=s;obtain ⟨e',l',g'⟩:=s';simp only at h1 h2 h3;obtain rfl:e=e':=funext h1;rw [h2,h3]
theorem Zan {n:Nat} {l:List Nat} {o:Oper} (h:Qr ops l o=true) (hn:n∈l):n∉o.looksAt ops/\o.dst≠some n:=by
 have h:=MS.1 h n hn;simp only [Ub,UH,List.any_eq_false] at h;refine ⟨fun hm=> ?_,fun hd=> ?_⟩
 ·exact h.1 n hm (MC n)
 ·rw [hd] at h;have:=h.2;simp at this
theorem Zsb {o:Oper} {s:St} {n:List Nat} {d:Option Nat} {v:SV} (h:∀d',d=some d'->d'∉o.looksAt ops) (hn:Qr ops n o=true):AgrT ops o s (eff s n d v):=by
 refine ⟨fun t ht=> ?_,fun key ob hk=>by rw [VJ];exact hk,fun _=>V3 _ _ _ _⟩;rw [YM,Uf (fun e=>h t e ht),Uf (fun e=>(Zan hn e).1 ht)]
theorem ZCx {o:Oper} {s:St} {n:List Nat} {d:Option Nat} {v:SV} (h:∀d',d=some d'->d'∉o.looksAt ops) (hn:Qr ops n o=true):AgrT ops o (eff s n d v) s:=by
 obtain ⟨h1,h2,_⟩:=Zsb (s:=s) (v:=v) h hn;exact ⟨fun t ht=>(h1 t ht).symm,fun key ob hk=>by rw [VJ] at hk;exact hk,fun _=>(V3 _ _ _ _).symm⟩
theorem ZCy {s:St} {n1 n2:List Nat} {d1 d2:Option Nat} {v1 v2:SV} (h:∀d,d1=some d->d2≠some d) (h1:∀d,d∈n1->d2≠some d) (h2:∀d,d∈n2->d1≠some d):
  eff (eff s n1 d1 v1) n2 d2 v2=eff (eff s n2 d2 v2) n1 d1 v1:=by
 refine St.ext' (fun t=> ?_) (by simp only [VJ]) (by simp only [V3]);simp only [YM];by_cases e1:d1=some t
 ·rw [Uf (h t e1),Uf (fun e=>h2 t e e1),Ul e1,Ul e1]
 ·by_cases e2:d2=some t
  ·rw [Ul e2,Uf e1,Uf (fun e=>h1 t e e2),Ul e2]
  ·simp only [Uf e1,Uf e2];split <;> split <;> rfl
abbrev mov (E:Ctx) (id:Nat) (p:Oper×Nat):Prop:=JB E id p.1 p.2=true
abbrev tak (E:Ctx) (id:Nat) (p:Oper×Nat):List Nat:=YU (E.tk id p.2) p.1
theorem Kv {o:Oper} {i:Nat} {s:St} {K:St->Option β} (hq:mov E id (o,i)) (h:ZC E id ops i o s K=some r):
  ∃v,K (eff s (tak E id (o,i)) o.dst v)=some r/\∀s',AgrT ops o s s'->∀K':St->Option β,ZC E id ops i o s' K'=K' (eff s' (tak E id (o,i)) o.dst v):=by
 have hm:JB E id o i=true:=hq;unfold ZC at h;cases hg:o.guard with
 |none=>
  rw [hg] at h;simp only at h;cases hok:okE E.nt E.kp o.dst with
  |false=>rw [hok] at h;cases h
  |true=>
   rw [hok] at h;obtain ⟨v,h1,h2⟩:=ZCw hm h;refine ⟨v,h1,fun s' ha K'=> ?_⟩;simp only [ZC,hg,hok,Ut];exact h2 s' ha.agr _
 |some jw=>
  have htn:tak E id (o,i)= []:=ZCs hg;rw [htn];have hm2:=hm;unfold JB at hm2;simp only [Ub,Ma,UH] at hm2;rcases hm2 with hm2 |hm2
  case inr=>
   have:=(Zr8 hm2.1.1.1).1;rw [hg] at this;cases this
  obtain ⟨⟨⟨⟨hp,hmo⟩,hm2⟩,hpm⟩,hth⟩:=hm2;have htk:E.tk id i=false:=by
   rcases hm2 with hm2 |hm2
   ·exact hm2
   ·have:=(Zr7 hm2.1).1;rw [hg] at this;cases this
  obtain ⟨j,want⟩:=jw;rw [hg] at h;simp only at h;split at h
  ·cases h
  ·rename_i t ht;cases hok:okE E.nt E.kp o.dst with
   |false=>rw [hok] at h;cases h
   |true=>
    rw [hok] at h;simp only [Ui,Ur] at h;have htl:t∈o.looksAt ops:=by
     unfold Oper.looksAt;refine UD _ ?_;simp [hg,ht]
    split at h
    ·rename_i hen;refine ⟨_,h,fun s' ha K'=> ?_⟩;have e1:s'.env t= .val (.tup []):=(ha.1 t htl).trans hen;simp only [ZC,hg,ht,hok,Ui,Ur,e1];rfl
    obtain ⟨b,hb,h⟩:=ZmZ h;have hen:=ZmX hb;have hself:∀{s':St},s'.env t=s.env t->({s' with env:=upd s'.env t (XS b)}:St)=s':=fun {s'} e=>by
     have:upd s'.env t (XS b)=s'.env:=by rw [←hen,←e];exact Zr0 _ _
     rw [this]
    have hrw:∀s',AgrT ops o s s'->∀K':St->Option β,ZC E id ops i o s' K'=bif b==want then opR E id i o s' (fun v s''=>K' (put s'' o.dst v)) else K' (put s' o.dst (.val Xh)):=by
     intro s' ha K';have e1:s'.env t=XS b:=(ha.1 t htl).trans hen;have e2:=hself (ha.1 t htl);have e3:svA (s'.env t)= .lit (.bool b):=by rw [e1];rfl
     have e4:s'.env t= .val (.lit (.bool b)):=e1;simp only [ZC,hg,ht,hok,Ui,Ur,e4,svA,Zbm,cnd];cases b <;> cases want <;> simp only [Ut,Ur] <;> rw [e2] <;> rfl
    have h':(bif b==want then opR E id i o s (fun v s''=>K (put s'' o.dst v)) else K (put s o.dst (.val Xh)))=some r:=by
     rw [←h];have e2:=hself (s':=s) rfl;cases b <;> cases want <;> simp only [Ut,Ur] <;> rw [e2] <;> rfl
    cases hbw:b==want with
    |true=>
     rw [hbw] at h';obtain ⟨v,h1,h2⟩:=Zr5 hp hpm hth htk hmo h';exact ⟨v,h1,fun s' ha K'=>by rw [hrw s' ha K',hbw];exact h2 s' ha.agr _⟩
    |false=>
     rw [hbw] at h';exact ⟨.val Xh,h',fun s' ha K'=>by rw [hrw s' ha K',hbw];rfl⟩
def Part (E:Ctx) (id:Nat) (ops:Array Oper) (y x:Oper×Nat):Prop:=
 Oper.apart ops y.1 x.1=true/\Qr ops (tak E id y) x.1=true/\(Qp E id x.2 x.1=true\/Qr ops (tak E id x) y.1=true)
theorem Zhx {o:Oper} {j:Nat} (h:Qp E id j o=true):Nat.beq (E.hb id j) 0=true/\E.th id j=false/\o.guard=none/\∃t,o.op= .alloc t:=by
 unfold Qp at h;simp only [Ub,UH] at h;refine ⟨h.1.1,h.1.2,?_⟩;have h:=h.2;split at h
 ·rename_i h1 h2;exact ⟨h1,_,h2⟩
 ·cases h
theorem ZCz {x y:Oper×Nat} {s:St} {K:St->Option β} (hx:mov E id x) (hy:mov E id y) (hap:Oper.apart ops y.1 x.1=true) (hl1:Qr ops (tak E id y) x.1=true) (hl2:Qr ops (tak E id x) y.1=true)
  (h:ZC E id ops y.2 y.1 s (fun s1=>ZC E id ops x.2 x.1 s1 K)=some r):ZC E id ops x.2 x.1 s (fun s1=>ZC E id ops y.2 y.1 s1 K)=some r:=by
 obtain ⟨a1,a2,a3⟩:=Oper.apart_spec hap;obtain ⟨vy,h1,fy⟩:=Kv hy h;obtain ⟨vx,h2,fx⟩:=Kv hx h1;rw [fx s (ZCx a1 hl1),fy _ (Zsb a3 hl2),ZCy (fun d hd e=>a2 d e hd) (fun d hd e=> ?_) (fun d hd e=> ?_)]
 ·exact h2
 ·exact (Zan hl2 hd).2 e
 ·exact (Zan hl1 hd).2 e
theorem Zm5 {o:Oper} {i:Nat} {t:Nat} {s:St} {K:SV->St->Option β} (hb:Nat.beq (E.hb id i) 0=true) (hth:E.th id i=false) (ho:o.op= .alloc t) (h:opR E id i o s K=some r):
  ∃d,o.dst=some d/\(E.T t).ok=true/\E.rt id i=none/\s.L d=none/\K (.lp d 0 0) {s with L:=upd s.L d (some ⟨false,(E.T t).size,[(E.T t).zero]⟩)}=some r:=by
 unfold opR at h;rw [hth] at h;simp only [Ur] at h;unfold Xp at h;unfold opM at h;rw [hb] at h;simp only [Ut] at h;cases hrt:E.rt id i with
 |none=>
  rw [hrt] at h;simp only [opK,ho] at h;cases hok:(E.T t).ok with
  |false=>rw [hok] at h;cases h
  |true=>
   rw [hok] at h;simp only [Ui,Ur,newObj] at h;split at h
   ·cases h
   ·rename_i d hd;split at h
    ·rename_i hL;exact ⟨d,hd,rfl,rfl,hL,h⟩
    ·cases h
 |some A=>
  rw [hrt] at h;simp only [opK,ho] at h;cases hok:(E.T t).ok with
  |false=>rw [hok] at h;cases h
  |true=>
   rw [hok] at h;simp only [Ui,Ur,newObj] at h;split at h
   ·cases h
   ·split at h
    ·cases h
    ·cases h
theorem ZCA {x y:Oper×Nat} {s:St} {K:St->Option β} (hx:Qp E id x.2 x.1=true) (hy:mov E id y) (hap:Oper.apart ops y.1 x.1=true) (hl1:Qr ops (tak E id y) x.1=true)
  (h:ZC E id ops y.2 y.1 s (fun s1=>ZC E id ops x.2 x.1 s1 K)=some r):ZC E id ops x.2 x.1 s (fun s1=>ZC E id ops y.2 y.1 s1 K)=some r:=by
 obtain ⟨a1,a2,a3⟩:=Oper.apart_spec hap;obtain ⟨hb,hth,hg,t,ho⟩:=Zhx hx;obtain ⟨vy,h1,fy⟩:=Kv hy h;unfold ZC at h1;rw [hg] at h1;simp only at h1;cases hok:okE E.nt E.kp x.1.dst with
 |false=>rw [hok] at h1;cases h1
 |true=>
  rw [hok] at h1;obtain ⟨d,hd,htok,hrt,hL,h2⟩:=Zm5 hb hth ho h1;rw [VJ] at hL h2;have e:∀K':St->Option β,ZC E id ops x.2 x.1 s K'=K' (put {s with L:=upd s.L d (some ⟨false,(E.T t).size,[(E.T t).zero]⟩)} x.1.dst (.lp d 0 0)):=fun K'=>by
   unfold ZC;rw [hg];simp only [hok,Ut];unfold opR;rw [hth];simp only [Ur];unfold Xp;rw [hrt];simp only;unfold opM;rw [hb];simp only [Ut,opK,ho,htok,Ui,Ur,newObj];rw [hd];simp only [hL]
  have hag:AgrT ops y.1 s (put {s with L:=upd s.L d (some ⟨false,(E.T t).size,[(E.T t).zero]⟩)} x.1.dst (.lp d 0 0)):=by
   rw [hd];refine ⟨fun t' ht'=> ?_,fun key ob hk=> ?_,fun _=>rfl⟩
   ·exact ZA _ _ fun e1=>by subst e1;exact a3 _ hd ht'
   ·have:key≠d:=fun e1=>by subst e1;rw [hL] at hk;cases hk
    exact (ZA s.L _ this).trans hk
  rw [e,fy _ hag,←h2];congr 1;have hnd:d∉tak E id (y.1,y.2):=fun e'=>(Zan hl1 e').2 hd
  have hdd:y.1.dst≠some d:=fun e'=>a2 d e' hd
  refine St.ext' (fun t'=> ?_) ?_ ?_
  ·rw [YM,hd];show _=upd _ d _ t';by_cases e1:t'=d
   ·subst e1;rw [Uf hdd,Uf hnd,ZE];exact ZE _ _ _
   ·rw [ZA _ _ e1,YM];have:(put {s with L:=upd s.L d (some ⟨false,(E.T t).size,[(E.T t).zero]⟩)} (some d) (.lp d 0 0)).env t'=s.env t':=ZA _ _ e1;rw [this]
  ·rw [VJ,hd];rfl
  ·rw [V3,hd];show s.G=(eff s _ _ _).G;rw [V3]
theorem ZCB {α:Type} (f:Nat->α) {n d:Nat} (h:n≠d) (x y:α):upd (upd f d y) n x=upd (upd f n x) d y:=by
 funext i
 by_cases e1:i=n
 ·subst e1;rw [ZE,ZA _ _ h,ZE]
 ·by_cases e2:i=d
  ·subst e2;rw [ZA _ _ e1,ZE,ZE]
  ·rw [ZA _ _ e1,ZA _ _ e2,ZA _ _ e2,ZA _ _ e1]
theorem Zsc {tk:Bool} {cf:Value->Option AV} {x:Operand} {d:Nat} {b:AV} {s:St} {K:SV->St->Option β} (hne:x≠ .tmp d):
  rd tk cf x (put s (some d) (.val b)) K=rd tk cf x s (fun v s'=>K v (put s' (some d) (.val b))):=by
 cases x with
 |tmp n=>
  have hn:n≠d:=fun e=>hne (by rw [e])
  have e1:(put s (some d) (.val b)).env n=s.env n:=ZA _ _ hn;simp only [rd,e1];cases s.env n with
  |val a=>
   simp only;cases tk with
   |false=>rfl
   |true=>
    simp only [Ut];congr 1;show (⟨upd (upd s.env d (.val b)) n (.val a.clr),s.L,s.G⟩:St)=⟨upd (upd s.env n (.val a.clr)) d (.val b),s.L,s.G⟩
    rw [ZCB _ hn]
  |no=>rfl
  |lp k i o=>rfl
  |la k=>rfl
  |lv k i o g=>rfl
 |const v=>rfl
 |func f=>rfl
 |global g=>rfl
theorem ZCC (key:Nat) (f:Nat->SV) (d:Nat) (b:AV):nolv key (upd f d (.val b))=upd (nolv key f) d (.val b):=by
 funext i
 unfold nolv;by_cases e:i=d
 ·subst e;rw [ZE,ZE]
 ·rw [ZA _ _ e,ZA _ _ e]
theorem ZCD {dd:TD} {p:SV} {a:AV} {d:Nat} {b:AV} {s:St} {K:SV->St->Option β}:
  Qo E dd p a (put s (some d) (.val b)) K=Qo E dd p a s (fun v s'=>K v (put s' (some d) (.val b))):=by
 cases p with
 |lp key i off=>
  simp only [Qo,put,ZCC]
 |val v=>
  cases v <;> simp only [Qo,put]
 | _=>rfl
theorem ZCE {key:Nat} {f:Nat->SV} {n:Nat} {a:AV} (h:f n= .val a):nolv key f n= .val a:=by unfold nolv;rw [h]
theorem ZCF {dd:TD} {p:SV} {a:AV} {s:St} {K:SV->St->Option β} (h:Qo E dd p a s K=some r):
  ∃s2,K .no s2=some r/\(∀K':SV->St->Option β,Qo E dd p a s K'=K' .no s2)/\∀n c,s.env n= .val c->s2.env n= .val c:=by
 unfold Qo at h;split at h
 ·rename_i key i off;split at h
  ·rename_i o ho;cases hf:o.frz with
   |true=>rw [hf] at h;cases h
   |false=>
    rw [hf] at h;obtain ⟨x,h1,h2⟩:=ZcY h;obtain ⟨cs,h3,h4⟩:=Option.bind_eq_some_iff.1 h1;split at h4
    ·rename_i hle;refine ⟨_,h4,fun K'=> ?_,fun n c hn=>ZCE hn⟩;simp only [Qo,ho,hf,Ur];rw [h2,h3,UG,Ul hle]
    ·cases h4
  ·cases h
 ·rename_i id off;split at h
  ·rename_i row ho;obtain ⟨cs,h3,h4⟩:=Option.bind_eq_some_iff.1 h;split at h4
   ·rename_i hle;refine ⟨_,h4,fun K'=> ?_,fun n c hn=>hn⟩;simp only [Qo,ho];rw [h3,UG,Ul hle]
   ·cases h4
  ·cases h
 ·cases h
theorem Zao {o:Oper} {j:Nat} (h:YW E id j o=true):(Nat.beq (E.hb id j) 0=true\/Nat.beq (E.hb id j) 6=true)/\E.th id j=false/\E.rt id j=none/\o.guard=none/\o.dst=none/\∃t p v,o.op= .store t p v:=by
 unfold YW at h;simp only [Ub,Ma,UH,Mt] at h;refine ⟨h.1.1.1,h.1.1.2,h.1.2,?_⟩;have h:=h.2;split at h
 ·rename_i h1 h2 h3;exact ⟨h1,h3,_,_,_,h2⟩
 ·cases h
theorem Zsd {p o:Oper} {i:Nat} (h:Zg8 E id i p o=true):Nat.beq (E.hb id i) 0=true/\E.th id i=false/\E.tk id i=false/\E.rt id i=none/\p.guard=none/\
  ∃n k d,p.op= .extract (.tmp n) k/\p.dst=some d/\Operand.tmp n∉o.op.operands.toList/\Operand.tmp d∉o.op.operands.toList:=by
 unfold Zg8 at h;simp only [Ub,UH,Mt] at h;refine ⟨h.1.1.1.1,h.1.1.1.2,h.1.1.2,h.1.2,?_⟩;have h:=h.2;split at h
 ·rename_i n k d h1 h2 h3;refine ⟨h1,n,k,d,h2,h3,fun hm=> ?_,fun hm=> ?_⟩
  ·have:=MS.1 h _ hm;simp at this
  ·have:=MS.1 h _ hm;simp at this
 ·cases h
theorem Zse {tk:Bool} {cf:Value->Option AV} {x:Operand} {n:Nat} {s:St} {K:SV->St->Option β} (hne:x≠ .tmp n) (h:rd tk cf x s K=some r):
  ∃v s',K v s'=some r/\(∀K':SV->St->Option β,rd tk cf x s K'=K' v s')/\s'.env n=s.env n:=by
 cases x with
 |tmp m=>
  have hm:n≠m:=fun e=>hne (by rw [e])
  simp only [rd] at h;split at h
  ·rename_i a ha;cases tk with
   |false=>exact ⟨_,_,h,fun K'=>by simp only [rd,ha,Ur],rfl⟩
   |true=>exact ⟨_,_,h,fun K'=>by simp only [rd,ha,Ut],ZA _ _ hm⟩
  ·cases h
  ·rename_i h1 h2;refine ⟨_,_,h,fun K'=> ?_,rfl⟩;simp only [rd]
 |const v=>
  obtain ⟨a,h1,h2⟩:=Option.bind_eq_some_iff.1 (show (cf v).bind (fun a=>K (.val a) s)=some r from h);exact ⟨_,_,h2,fun K'=>by simp only [rd,h1,UG],rfl⟩
 |func f=>exact ⟨_,_,h,fun K'=>rfl,rfl⟩
 |global g=>cases h
theorem Zsf {p o:Oper} {i j:Nat} (h:JC E id i j p o=true):Nat.beq (E.hb id j) 0=true/\Zg8 E id i p o=true:=by
 unfold JC at h;simpa using h
theorem Zsg {x y:Oper×Nat} {s:St} {K:St->Option β} (hx:YW E id x.2 x.1=true) (hyj:JC E id y.2 x.2 y.1 x.1=true)
  (h:ZC E id ops y.2 y.1 s (fun s1=>ZC E id ops x.2 x.1 s1 K)=some r):ZC E id ops x.2 x.1 s (fun s1=>ZC E id ops y.2 y.1 s1 K)=some r:=by
 obtain ⟨_,x2,x3,x4,x5,t,p,v,x6⟩:=Zao hx;obtain ⟨x1,hy⟩:=Zsf hyj;obtain ⟨y1,y2,y3,y4,y5,n,k,d,y6,y7,y8,y9⟩:=Zsd hy;have ey:∀(s:St) (K':St->Option β),ZC E id ops y.2 y.1 s K'=bif okE E.nt E.kp (some d) then (match s.env n with
   | .val (.tup vs)=>match vs[k]? with
    |some a=>K' (put s (some d) (.val a.clr))
    |none=>none
   | _=>none) else none:=fun s K'=>by
  unfold ZC;simp only [y5];unfold opR Xp opM;simp only [y2,Ur,y4,y1,Ut,opK,y6,y3,y7];rfl
 have ex:∀(s:St) (K':St->Option β),ZC E id ops x.2 x.1 s K'=(bif okE E.nt E.kp none then bif !(E.T t).ok then none else rd (E.tk id x.2) (constA (E.T t)) v s fun v s1=>
   match v with
   | .val a=>rd false (fun _=>none) p s1 fun p s2=>Qo E (E.T t) p a s2 fun v s'=>K' s'
   | _=>none else none):=fun s K'=>by
  unfold ZC;simp only [x4];unfold opR Xp opM;simp only [x2,Ur,x3,x1,Ut,opK,x6,x5];rfl
 have hv:v≠ .tmp d/\p≠ .tmp d/\v≠ .tmp n/\p≠ .tmp n:=by
  rw [x6] at y8 y9;simp only [Op.operands] at y8 y9;refine ⟨fun e=>y9 (by simp [e]),fun e=>y9 (by simp [e]),fun e=>y8 (by simp [e]),fun e=>y8 (by simp [e])⟩
 rw [ey] at h;cases hok:okE E.nt E.kp (some d) with
 |false=>rw [hok] at h;cases h
 |true=>
 rw [hok] at h;simp only [Ut] at h;split at h
 case h_2=>cases h
 rename_i vs hen;split at h
 case h_2=>cases h
 rename_i a hk;rw [ex] at h ⊢;cases hok2:okE E.nt E.kp none with
 |false=>rw [hok2] at h;cases h
 |true=>
 rw [hok2] at h;simp only [Ut] at h ⊢;cases htok:(E.T t).ok with
 |false=>rw [htok] at h;cases h
 |true=>
 rw [htok] at h;simp only [Ui,Ur] at h ⊢;rw [Zsc hv.1] at h;obtain ⟨v1,s1,h1,g1,k1⟩:=Zse hv.2.2.1 h;rw [g1];cases v1 with
 |val a'=>
  simp only at h1 ⊢;rw [Zsc hv.2.1] at h1;obtain ⟨v2,s2,h2,g2,k2⟩:=Zse hv.2.2.2 h1;rw [g2]
  try simp only at h2
  rw [ZCD] at h2;obtain ⟨s3,h3,g3,k3⟩:=ZCF h2;rw [g3,ey,hok];simp only [Ut,k3 n _ (k2.trans (k1.trans hen)),hk];exact h3
 |no=>cases h1
 |lp _ _ _=>cases h1
 |la _=>cases h1
 |lv _ _ _ _=>cases h1
theorem Zm6 {o:Oper} {i n k d:Nat} (h:exT E id i o=some (n,k,d)):Nat.beq (E.hb id i) 0=true/\E.th id i=false/\E.tk id i=true/\E.rt id i=none/\o.guard=none/\o.op= .extract (.tmp n) k/\o.dst=some d:=by
 unfold exT at h;cases hc:Nat.beq (E.hb id i) 0 && !E.th id i && E.tk id i && (E.rt id i).isNone with
 |false=>rw [hc] at h;cases h
 |true=>
  rw [hc] at h;simp only [Ub,UH,Mt] at hc;simp only [Ut] at h;split at h
  ·rename_i h1 h2 h3;cases h;exact ⟨hc.1.1.1,hc.1.1.2,hc.1.2,hc.2,h1,h2,h3⟩
  ·cases h
theorem Zm7 {o:Oper} {i n k d:Nat} (h:exC E id i o=some (n,k,d)):Nat.beq (E.hb id i) 0=true/\E.th id i=false/\E.tk id i=false/\E.rt id i=none/\o.guard=none/\o.op= .extract (.tmp n) k/\o.dst=some d:=by
 unfold exC at h;cases hc:Nat.beq (E.hb id i) 0 && !E.th id i && !E.tk id i && (E.rt id i).isNone with
 |false=>rw [hc] at h;cases h
 |true=>
  rw [hc] at h;simp only [Ub,UH,Mt] at hc;simp only [Ut] at h;split at h
  ·rename_i h1 h2 h3;cases h;exact ⟨hc.1.1.1,hc.1.1.2,hc.1.2,hc.2,h1,h2,h3⟩
  ·cases h
def exS (s:St) (n k d:Nat) (vs:List AV) (a:AV):St:=put {s with env:=upd s.env n (.val (.tup (vs.modify k AV.clr)))} (some d) (.val a)
theorem Zsh {y:Oper×Nat} {n k d:Nat} (hy:exT E id y.2 y.1=some (n,k,d)) {β:Type} (s:St) (K':St->Option β):ZC E id ops y.2 y.1 s K'=bif okE E.nt E.kp (some d) then (match s.env n with
   | .val (.tup vs)=>match vs[k]? with
    |some a=>K' (exS s n k d vs a)
    |none=>none
   | _=>none) else none:=by
 obtain ⟨y1,y2,y3,y4,y5,y6,y7⟩:=Zm6 hy;unfold ZC;simp only [y5];unfold opR Xp opM;simp only [y2,Ur,y4,y1,Ut,opK,y6,y3,y7];rfl
theorem ZCG {y:Oper×Nat} {n k d:Nat} (hy:exC E id y.2 y.1=some (n,k,d)) {β:Type} (s:St) (K':St->Option β):ZC E id ops y.2 y.1 s K'=bif okE E.nt E.kp (some d) then (match s.env n with
   | .val (.tup vs)=>match vs[k]? with
    |some a=>K' (put s (some d) (.val a.clr))
    |none=>none
   | _=>none) else none:=by
 obtain ⟨y1,y2,y3,y4,y5,y6,y7⟩:=Zm7 hy;unfold ZC;simp only [y5];unfold opR Xp opM;simp only [y2,Ur,y4,y1,Ut,opK,y6,y3,y7];rfl
theorem Zsi {y:Oper×Nat} {n k d:Nat} (hy:exT E id y.2 y.1=some (n,k,d)) {s:St} {K:St->Option β} (h:ZC E id ops y.2 y.1 s K=some r):
  okE E.nt E.kp (some d)=true/\∃vs a,s.env n= .val (.tup vs)/\vs[k]? =some a/\K (exS s n k d vs a)=some r:=by
 rw [Zsh hy] at h;cases hok:okE E.nt E.kp (some d) with
 |false=>rw [hok] at h;cases h
 |true=>
  rw [hok] at h;simp only [Ut] at h;split at h
  case h_2=>cases h
  rename_i vs hen;split at h
  case h_2=>cases h
  rename_i a hk;exact ⟨rfl,vs,a,hen,hk,h⟩
theorem Zm8 {y:Oper×Nat} {n k d:Nat} (hy:exT E id y.2 y.1=some (n,k,d)) {s:St} {K:St->Option β} (hok:okE E.nt E.kp (some d)=true) {vs:List AV} {a:AV} (hen:s.env n= .val (.tup vs)) (hk:vs[k]? =some a):
  ZC E id ops y.2 y.1 s K=K (exS s n k d vs a):=by
 rw [Zsh hy,hok];simp only [Ut,hen,hk]
theorem ZeH (s:St) (n k d:Nat) (vs:List AV) (a:AV) (t:Nat):(exS s n k d vs a).env t=if t=d then .val a else if t=n then .val (.tup (vs.modify k AV.clr)) else s.env t:=by
 unfold exS;show upd (upd s.env n _) d _ t=_;by_cases h1:t=d
 ·subst h1;rw [ZE,Ul rfl]
 ·rw [ZA _ _ h1,Uf h1];by_cases h2:t=n
  ·subst h2;rw [ZE,Ul rfl]
  ·rw [ZA _ _ h2,Uf h2]
theorem ZCH {x y:Oper×Nat} {s:St} {K:St->Option β} (hp:Kp E id y.2 x.2 y.1 x.1=true)
  (h:ZC E id ops y.2 y.1 s (fun s1=>ZC E id ops x.2 x.1 s1 K)=some r):ZC E id ops x.2 x.1 s (fun s1=>ZC E id ops y.2 y.1 s1 K)=some r:=by
 unfold Kp at hp;cases hy:exT E id y.2 y.1 with
 |none=>rw [hy] at hp;cases hp
 |some q=>
 obtain ⟨n,k,d⟩:=q;rw [hy] at hp;obtain ⟨hok,vs,a,hen,hk,h1⟩:=Zsi hy h;simp only at hp;cases hx:exC E id x.2 x.1 with
 |some q'=>
  obtain ⟨n',k',d'⟩:=q';rw [hx] at hp;simp only [Ub,Ma,UH] at hp;have ne:∀{a b:Nat},Nat.beq a b=false->a≠b:=fun {a b} h e=>by rw [e,MC] at h;cases h
  obtain ⟨hnk,⟨hdd,hdn,hdn'⟩,hdn2⟩:=hp;have hdd:=ne hdd;have hdn:=ne hdn;have hdn':=ne hdn';have hdn2:=ne hdn2;rw [ZCG hx] at h1 ⊢;cases hok':okE E.nt E.kp (some d') with
  |false=>rw [hok'] at h1;cases h1
  |true=>
   rw [hok'] at h1;simp only [Ut] at h1 ⊢;rw [ZeH,Uf (Ne.symm hdn')] at h1;have key:∃vs' a',s.env n'= .val (.tup vs')/\vs'[k']? =some a'/\K (put (exS s n k d vs a) (some d') (.val a'.clr))=some r:=by
    by_cases hnn:n'=n
    ·subst hnn;rw [Ul rfl] at h1;simp only at h1;have hkk:k'≠k:=by
      rcases hnk with h |h
      ·exact absurd rfl (ne h)
      ·exact ne h
     rw [Mg] at h1;cases hv:vs[k']? with
     |none=>rw [hv] at h1;cases h1
     |some a'=>
      rw [hv] at h1;simp only [Option.map_eq_map,Fu,Uf (Ne.symm hkk)] at h1;exact ⟨vs,a',hen,hv,h1⟩
    ·rw [Uf hnn] at h1;split at h1
     case h_2=>cases h1
     rename_i vs' hen';split at h1
     case h_2=>cases h1
     rename_i a' hv;exact ⟨vs',a',hen',hv,h1⟩
   obtain ⟨vs',a',e1,e2,e3⟩:=key;rw [e1];simp only [e2];have hen2:(put s (some d') (.val a'.clr)).env n= .val (.tup vs):=(ZA _ _ (Ne.symm hdn)).trans hen;rw [Zm8 hy hok hen2 hk,←e3];congr 1;refine St.ext' (fun t=> ?_) rfl rfl;rw [ZeH];show _=upd (exS s n k d vs a).env d' _ t;by_cases h1:t=d'
   ·subst h1;rw [Uf hdd,Uf hdn,ZE];exact ZE _ _ _
   ·rw [ZA _ _ h1,ZeH];have:(put s (some d') (.val a'.clr)).env t=s.env t:=ZA _ _ h1;rw [this]
 |none=>
  rw [hx] at hp;simp only [Ub] at hp;obtain ⟨hnew,hp⟩:=hp;obtain ⟨hb,hth,hg,t,ho⟩:=Zhx hnew;unfold ZC at h1;rw [hg] at h1;simp only at h1;cases hok':okE E.nt E.kp x.1.dst with
  |false=>rw [hok'] at h1;cases h1
  |true=>
  rw [hok'] at h1;obtain ⟨d',hd,htok,hrt,hL,h2⟩:=Zm5 hb hth ho h1;rw [hd] at hp;simp only [Ub,UH] at hp;have ne:∀{a b:Nat},Nat.beq a b=false->a≠b:=fun {a b} h e=>by rw [e,MC] at h;cases h
  have hdd:=ne hp.1;have hdn:=ne hp.2;have hL':s.L d'=none:=hL;have e:∀K':St->Option β,ZC E id ops x.2 x.1 s K'=K' (put {s with L:=upd s.L d' (some ⟨false,(E.T t).size,[(E.T t).zero]⟩)} (some d') (.lp d' 0 0)):=fun K'=>by
   unfold ZC;rw [hg];simp only [hok',Ut];unfold opR;rw [hth];simp only [Ur];unfold Xp;rw [hrt];simp only;unfold opM;rw [hb];simp only [Ut,opK,ho,htok,Ui,Ur,newObj];rw [hd];simp only [hL']
  rw [e];have hen2:(put {s with L:=upd s.L d' (some ⟨false,(E.T t).size,[(E.T t).zero]⟩)} (some d') (.lp d' 0 0)).env n= .val (.tup vs):=(ZA _ _ (Ne.symm hdn)).trans hen;rw [Zm8 hy hok hen2 hk,←h2,hd];congr 1;refine St.ext' (fun t'=> ?_) rfl rfl;rw [ZeH];show _=upd (exS s n k d vs a).env d' _ t';by_cases h1:t'=d'
  ·subst h1;rw [Uf hdd,Uf hdn,ZE];exact ZE _ _ _
  ·rw [ZA _ _ h1,ZeH];have:(put {s with L:=upd s.L d' (some ⟨false,(E.T t).size,[(E.T t).zero]⟩)} (some d') (.lp d' 0 0)).env t'=s.env t':=ZA _ _ h1;rw [this]
theorem ZCI {tk:Bool} {cf:Value->Option AV} {x:Operand} {d:Nat} {b:SV} {s:St} {K:SV->St->Option β} (hne:x≠ .tmp d):
  rd tk cf x (put s (some d) b) K=rd tk cf x s (fun v s'=>K v (put s' (some d) b)):=by
 cases x with
 |tmp n=>
  have hn:n≠d:=fun e=>hne (by rw [e])
  have e1:(put s (some d) b).env n=s.env n:=ZA _ _ hn;simp only [rd,e1];cases s.env n with
  |val a=>
   simp only;cases tk with
   |false=>rfl
   |true=>
    simp only [Ut];congr 1;refine St.ext' (fun t=> ?_) rfl rfl;show upd (upd s.env d b) n (.val a.clr) t=upd (upd s.env n (.val a.clr)) d b t;by_cases c1:t=n
    ·subst c1;rw [ZE,ZA _ _ hn,ZE]
    ·by_cases c2:t=d
     ·subst c2;rw [ZA _ _ c1,ZE,ZE]
     ·rw [ZA _ _ c1,ZA _ _ c2,ZA _ _ c2,ZA _ _ c1]
  |no=>rfl
  |lp k i o=>rfl
  |la k=>rfl
  |lv k i o g=>rfl
 |const v=>rfl
 |func f=>rfl
 |global g=>rfl
theorem ZCJ {tk:Bool} {cf:Value->Option AV} {x:Operand} {s:St} {K:SV->St->Option β} (h:rd tk cf x s K=some r):
  ∃v n,K v (ZN s n)=some r/\(∀K':SV->St->Option β,rd tk cf x s K'=K' v (ZN s n))/\∀t,t∈n->x= .tmp t:=by
 cases x with
 |tmp n=>
  simp only [rd] at h;split at h
  ·rename_i a ha;cases tk with
   |false=>exact ⟨_,[],h,fun K'=>by simp only [rd,ha,Ur,ZN],fun t e=>by cases e⟩
   |true=>
    have et:ZN s [n]={s with env:=upd s.env n (.val a.clr)}:=by simp only [ZN,Y9,ha]
    refine ⟨.val a,[n],?_,fun K'=> ?_,fun t e=>by rw [Ml] at e;rw [e]⟩
    ·rw [et];exact h
    ·rw [et];simp only [rd,ha,Ut]
  ·cases h
  ·rename_i h1 h2;refine ⟨_,[],h,fun K'=> ?_,fun t e=>by cases e⟩;simp only [rd,ZN]
 |const v=>
  obtain ⟨a,h1,h2⟩:=Option.bind_eq_some_iff.1 (show (cf v).bind (fun a=>K (.val a) s)=some r from h);exact ⟨_,[],h2,fun K'=>by simp only [rd,h1,UG,ZN],fun t e=>by cases e⟩
 |func f=>exact ⟨_,[],h,fun K'=>rfl,fun t e=>by cases e⟩
 |global g=>cases h
section
variable {L0:Nat->Option LObj}
theorem Zhy {cf:Value->Option AV} {x:Operand} {s:St} {K:SV->St->Option β}:rd false cf x {s with L:=L0} K=rd false cf x s (fun v _=>K v {s with L:=L0}):=by
 cases x with
 |tmp n=>
  simp only [rd];cases s.env n <;> rfl
 |const v=>rfl
 |func f=>rfl
 |global g=>rfl
theorem ZCK {x:Operand} {s:St} {K:AV->Option β}:rd0 x {s with L:=L0} K=rd0 x s K:=by
 cases x <;> rfl
theorem Zm9 {cf:Nat->Value->Option AV}:∀{xs:List (Nat×Operand)} {s:St} {K:List (Nat×AV)->St->Option β},Xi false cf xs {s with L:=L0} K=Xi false cf xs s (fun v _=>K v {s with L:=L0})
 | [],s,K=>rfl
 | (i,x)::xs,s,K=>by
  simp only [Xi];rw [Zhy];have e:∀(K':SV->St->Option β),rd false (cf i) x s K'=rd false (cf i) x s (fun v _=>K' v s):=fun K'=>Zhy (L0:=s.L) (s:=s)
  refine Eq.trans ?_ (e _).symm;congr 1
  funext v _
  cases v with
  |val a=>exact Zm9
  | _=>rfl
theorem Zsj {d:TD} {v:SV} {s:St} {K:SV->St->Option β} (h:∀k i off,v= .lp k i off->L0 k=s.L k):Q9 E d false v {s with L:=L0} K=Q9 E d false v s (fun v _=>K v {s with L:=L0}):=by
 cases v with
 |lp k i off=>
  simp only [Q9,h k i off rfl,Ur]
 |val a=>cases a <;> simp only [Q9,Ur]
 | _=>rfl
theorem Zsk {vr:Nat} {o:Oper} {s:St} {K:SV->St->Option β} (hk:Zew o.op=true) (hl:∀t q k i off,o.op= .load t (.tmp q)->s.env q= .lp k i off->L0 k=s.L k):
  opK E false false vr o {s with L:=L0} K=opK E false false vr o s (fun v _=>K v {s with L:=L0}):=by
 unfold Zew at hk;split at hk
 ·rename_i n ho;simp only [opK,ho];exact Zhy
 ·rename_i t n f ho;simp only [opK,ho];split
  ·split
   ·rw [Zhy]
   ·rfl
  ·rfl
 ·rename_i ho;simp only [opK,ho,ZCK]
 ·rename_i ho;simp only [opK,ho];split
  ·exact Zm9
  ·exact Zm9
  ·rfl
 ·rename_i t q ho;simp only [opK,ho];cases (E.T t).ok with
  |false=>rfl
  |true=>
   simp only [Ui,Ur,rd];cases hq:s.env q with
   |val a=>exact Zsj fun k i off h=>by cases h
   |no=>rfl
   |lp k i off=>exact Zsj fun k' i' off' h=>by cases h;exact hl t q k i off ho hq
   |la k=>rfl
   |lv k i off g=>rfl
 ·cases hk
end
theorem Zna {l:List Operand} {n:Nat} (h:Zha l n=true):Operand.tmp n∉l:=fun hm=>by
 have:=MS.1 h _ hm;simp at this
theorem Zhz {p o:Oper} {i:Nat} (h:Zaf E ops id i p o=true):Nat.beq (E.hb id i) 0=true/\E.th id i=false/\(E.tk id i=false\/Zg9 p.op=true)/\E.mo id i=false/\E.rt id i=none/\p.guard=none/\Zew p.op=true/\
  (∃d,p.dst=some d/\Operand.tmp d∉o.op.operands.toList/\Operand.tmp d∉p.op.operands.toList)/\(∀t,Operand.tmp t∈p.op.operands.toList->Operand.tmp t∉o.op.operands.toList)/\
  ∀q m,ops[m]? =some q->i < m->∀x∈YP p,q.dst≠some x.1:=by
 unfold Zaf at h;simp only [Ub,Ma,UH,Mt] at h;obtain ⟨⟨⟨⟨⟨⟨⟨⟨⟨h1,h2⟩,h3⟩,h4⟩,h5⟩,h6⟩,h7⟩,h8⟩,h9⟩,h10⟩:=h;refine ⟨h1,h2,h3,h4,h5,h6,h7,?_,fun t ht=> ?_,fun q m hq hm x hx=> ?_⟩
 ·cases hd:p.dst with
  |none=>rw [hd] at h8;cases h8
  |some d=>
   rw [hd] at h8;simp only [Ub] at h8;exact ⟨d,rfl,Zna h8.1,Zna h8.2⟩
 ·exact Zna (MS.1 h9 _ ht)
 ·have hmem:(q,m)∈ops.toList.zipIdx:=by rw [UN];simpa using hq
  have h11:=MS.1 h10 _ hmem;simp only [Ma,UH] at h11;rcases h11 with h11 |h11
  ·have:Nat.blt i m=true:=by simp [Nat.blt];omega
   rw [this] at h11;cases h11
  ·intro hd;have:=MS.1 h11 _ hx;rw [hd] at this;simp at this
theorem Zsl {L0:Nat->Option LObj} {tk:Bool} {cf:Value->Option AV} {x:Operand} {s:St} {K:SV->St->Option β}:rd tk cf x {s with L:=L0} K=rd tk cf x s (fun v s'=>K v {s' with L:=L0}):=by
 cases x with
 |tmp n=>
  simp only [rd]
 |const v=>rfl
 |func f=>rfl
 |global g=>rfl
theorem ZCL {y:Oper×Nat} {x:Oper} (hp:Zaf E ops id y.2 y.1 x=true) {L0:Nat->Option LObj} {s:St} {K:St->Option β} (hl:∀t q k i off,y.1.op= .load t (.tmp q)->s.env q= .lp k i off->L0 k=s.L k) (h:ZC E id ops y.2 y.1 s K=some r):
  ZC E id ops y.2 y.1 {s with L:=L0} (fun s1=>K {s1 with L:=s.L})=some r:=by
 obtain ⟨h1,h2,h3,h4,h5,h6,h7,_⟩:=Zhz hp;have e:∀(s:St) (K:St->Option β),ZC E id ops y.2 y.1 s K=bif okE E.nt E.kp y.1.dst then opK E (E.tk id y.2) false (E.vr id y.2) y.1 s (fun v s'=>K (put s' y.1.dst v)) else none:=fun s K=>by
  unfold ZC;rw [h6];simp only;unfold opR;rw [h2];simp only [Ur];unfold Xp;rw [h5];simp only;unfold opM;rw [h1,h4];rfl
 rw [e] at h ⊢;cases hok:okE E.nt E.kp y.1.dst with
 |false=>rw [hok] at h;cases h
 |true=>
  rw [hok] at h;simp only [Ut] at h ⊢;rcases h3 with h3 |h3
  ·rw [h3] at h ⊢;rw [Zsk h7 hl];have e2:=Zsk (E:=E) (vr:=E.vr id y.2) (L0:=s.L) (K:=fun v s'=>K (put s' y.1.dst v)) h7 (fun t q k i off _ _=>rfl) (s:=s);rw [show ({s with L:=s.L}:St)=s from rfl] at e2;rw [e2] at h;rw [←h];congr 1
   funext v _
   congr 1;cases y.1.dst <;> rfl
  ·unfold Zg9 at h3;split at h3
   case h_2=>cases h3
   rename_i n ho;simp only [opK,ho] at h ⊢;rw [Zsl];have e2:=Zsl (L0:=s.L) (tk:=E.tk id y.2) (cf:=constA (E.T y.1.type)) (x:= .tmp n) (s:=s) (K:=fun v s'=>K (put s' y.1.dst v));rw [show ({s with L:=s.L}:St)=s from rfl] at e2;rw [e2] at h;rw [←h];congr 1
   funext v s1
   congr 1;cases y.1.dst <;> rfl
def ZbE (E:Ctx) (τ:Bool) (ty t0:Nat) (v0:Operand) (s:St) (K:St->Option β):Option β:=
 bif okE E.nt E.kp none then bif !(E.T ty).ok then none else rd τ (constA (E.T ty)) v0 s fun v s1=>
  match v with
  | .val a=>rd false (fun _=>none) (.tmp t0) s1 fun p s2=>Qo E (E.T ty) p a s2 fun _ s'=>K s'
  | _=>none else none
theorem Zsm {cf:Value->Option AV} {x:Operand} {tk:Bool}:∀{l:List Nat} {s:St} {K:SV->St->Option β},(∀n∈l,x≠ .tmp n)->rd tk cf x (ZN s l) K=rd tk cf x s (fun v s'=>K v (ZN s' l))
 | [],s,K,_=>rfl
 |n::l,s,K,h=>by
  have hn:=h n (Uj ..);simp only [ZN];rw [Zsm (fun m hm=>h m (Ug _ hm))];cases x with
  |tmp m=>
   have hm:m≠n:=fun e=>hn (by rw [e])
   have e1:(Y9 s n).env m=s.env m:=by rw [Zhu,Uf (fun e=>hm e.symm)]
   simp only [rd,e1];cases s.env m with
   |val a=>
    cases tk with
    |false=>rfl
    |true=>
     simp only [Ut];congr 2;refine St.ext' (fun t=> ?_) ?_ ?_
     ·show upd (Y9 s n).env m _ t=(Y9 {s with env:=upd s.env m (.val a.clr)} n).env t;rw [Zhu];by_cases e2:t=m
      ·subst e2;rw [ZE,Uf (fun e=>hm e.symm)];exact (ZE _ _ _).symm
      ·rw [ZA _ _ e2,Zhu];show _=if n=t then XX (upd s.env m _ t) else upd s.env m _ t
       rw [ZA _ _ e2]
     ·show (Y9 s n).L=_;rw [Zm3,Zm3]
     ·show (Y9 s n).G=_;rw [Zm4,Zm4]
   |no=>rfl
   |lp k i o=>rfl
   |la k=>rfl
   |lv k i o g=>rfl
  |const v=>rfl
  |func f=>rfl
  |global g=>rfl
theorem Zsn {τ:Bool} {ty t0:Nat} {v0:Operand} {y:Oper×Nat} {l:List Nat} {d:Nat} {vy:SV} {s:St} {K:St->Option β} {kk i0 off0:Nat}
  (hv0:v0≠ .tmp d) (ht0:t0≠d) (hl:∀t∈l,Operand.tmp t∈y.1.op.operands.toList) (h9:∀t,Operand.tmp t∈y.1.op.operands.toList->t≠t0/\v0≠ .tmp t) (h6:y.1.guard=none)
  (hnlv:∀k i o g,vy≠ .lv k i o g) (hops:∀t,Operand.tmp t∈y.1.op.operands.toList->t≠d/\∀k i o g,s.env t≠ .lv k i o g) (hk:s.env t0= .lp kk i0 off0)
  (g2:∀s',AgrT ops y.1 {s with L:=fun k=>if k=kk then none else s.L k} s'->∀K':St->Option β,ZC E id ops y.2 y.1 s' K'=K' (eff s' l (some d) vy))
  (h:ZbE E τ ty t0 v0 (eff s l (some d) vy) K=some r):ZbE E τ ty t0 v0 s (fun s1=>ZC E id ops y.2 y.1 s1 K)=some r:=by
 unfold ZbE at h ⊢;cases hok2:okE E.nt E.kp none with
 |false=>rw [hok2] at h;cases h
 |true=>
 rw [hok2] at h;simp only [Ut] at h ⊢;cases htok:(E.T ty).ok with
 |false=>rw [htok] at h;cases h
 |true=>
 rw [htok] at h;simp only [Ui,Ur] at h ⊢;rw [show eff s l (some d) vy=put (ZN s l) (some d) vy from rfl,ZCI hv0,Zsm fun n hn=>(h9 n (hl n hn)).2] at h;obtain ⟨v1,tkd,c1,c2,c3⟩:=ZCJ h;rw [c2];cases v1 with
 |val a=>
  simp only at c1 ⊢;have et0:∃i off,(ZN s tkd).env t0= .lp kk i off:=⟨i0,off0,by
   rw [JE];split
   ·rw [hk];rfl
   ·exact hk⟩
  obtain ⟨i1,off1,et0⟩:=et0;have et1:(put (ZN (ZN s tkd) l) (some d) vy).env t0= .lp kk i1 off1:=(ZA _ _ ht0).trans (by
   rw [JE,Uf (fun hm=>(h9 t0 (hl t0 hm)).1 rfl)];exact et0)
  simp only [rd,et1] at c1;simp only [rd,et0];simp only [Qo] at c1 ⊢;have hLt:(put (ZN (ZN s tkd) l) (some d) vy).L kk=(ZN s tkd).L kk:=by
   show (ZN (ZN s tkd) l).L kk=_;rw [ZeG]
  rw [hLt] at c1;split at c1
  case h_2=>cases c1
  rename_i ob hob
  try rw [hob]
  try simp only
  cases hf:ob.frz with
  |true=>rw [hf] at c1;cases c1
  |false=>
   rw [hf] at c1;simp only [Ur] at c1 ⊢;obtain ⟨row,r1,r2⟩:=ZcY c1;rw [r2];obtain ⟨cs,r3,r4⟩:=Option.bind_eq_some_iff.1 r1;rw [r3,UG];split at r4
   case isFalse=>cases r4
   rename_i hle;have hntk:∀t,Operand.tmp t∈y.1.op.operands.toList->t∉tkd:=fun t hto e=>(h9 t hto).2 (c3 t e)
   have hkeep:∀t,Operand.tmp t∈y.1.op.operands.toList->Fx.nolv kk (ZN s tkd).env t=s.env t:=fun t hto=>by
    unfold Fx.nolv;rw [JE,Uf (hntk t hto)];cases he:s.env t with
    |lv k i o g=>exact absurd he ((hops t hto).2 k i o g)
    | _=>rfl
   rw [Ul hle,g2]
   ·rw [←r4];congr 1;refine St.ext' (fun t=> ?_) ?_ ?_
    ·show (eff _ l (some d) vy).env t=Fx.nolv kk (upd (ZN (ZN s tkd) l).env d vy) t;rw [YM];by_cases e:d=t
     ·subst e;rw [Ul rfl];unfold Fx.nolv;rw [ZE];cases vy with
      |lv k i o g=>exact absurd rfl (hnlv k i o g)
      | _=>rfl
     ·rw [Uf (fun e'=>e (Un e'))];by_cases hm:t∈l
      ·rw [Ul hm];have hto:=hl t hm;have e1:=hkeep t hto;show XX (Fx.nolv kk (ZN s tkd).env t)=_;rw [e1];unfold Fx.nolv;rw [ZA _ _ (Ne.symm e),JE,Ul hm,JE,Uf (hntk t hto)];cases he:s.env t with
       |lv k i o g=>exact absurd he ((hops t hto).2 k i o g)
       | _=>rfl
      ·rw [Uf hm];unfold Fx.nolv;rw [ZA _ _ (Ne.symm e),JE (ZN s tkd),Uf hm]
    ·have:(put (ZN (ZN s tkd) l) (some d) vy).L=(ZN s tkd).L:=ZeG _ _;rw [VJ];show upd (ZN s tkd).L kk _=upd (put (ZN (ZN s tkd) l) (some d) vy).L kk _;rw [this]
    ·rw [V3];show (ZN s tkd).G=(ZN (ZN s tkd) l).G;rw [ZbD,ZbD,ZbD]
   ·refine ⟨fun t ht=> ?_,fun key ob' hke=> ?_,?_⟩
    ·have hto:Operand.tmp t∈y.1.op.operands.toList:=by
      unfold Oper.looksAt at ht;rcases List.mem_append.1 ht with ht |ht
      ·rw [MX] at ht;obtain ⟨op,ho1,ho2⟩:=ht;split at ho2
       ·cases ho2;exact ho1
       ·cases ho2
      ·rw [h6] at ht;simp at ht
     exact hkeep t hto
    ·have hke':(if key=kk then none else s.L key)=some ob':=hke;split at hke'
     ·cases hke'
     ·rename_i hne;show upd (ZN s tkd).L kk _ key=some ob';rw [ZA _ _ hne,ZeG];exact hke'
    ·intro _;show (ZN s tkd).G=s.G;exact ZbD _ _
 |no=>cases c1
 |lp _ _ _=>cases c1
 |la _=>cases c1
 |lv _ _ _ _=>cases c1
theorem Zso {x y:Oper×Nat} {s:St} (hpl:Zaf E ops id y.2 y.1 x.1=true) (hy:mov E id y) {vy:SV} {d:Nat} (hd:y.1.dst=some d) {r:β} (Q:Nat->Bool)
  (fy:∀s',AgrT ops y.1 s s'->∀K':St->Option β,ZC E id ops y.2 y.1 s' K'=K' (eff s' (tak E id y) y.1.dst vy)) (hload:∀t q k i off,y.1.op= .load t (.tmp q)->s.env q= .lp k i off->Q k=false):
  ∀s',AgrT ops y.1 {s with L:=fun k=>bif Q k then none else s.L k} s'->∀K':St->Option β,ZC E id ops y.2 y.1 s' K'=K' (eff s' (tak E id y) (some d) vy):=by
 classical
 have hrun:∀K':St->Option β,K' (eff s (tak E id y) (some d) vy)=some r->ZC E id ops y.2 y.1 s K'=some r:=fun K' hK=>by
  rw [fy s (AgrT.refl _ _) K',hd];exact hK
 obtain ⟨v',g1,g2⟩:=Kv hy (ZCL (L0:=fun k=>bif Q k then none else s.L k) hpl (fun t q k i off ho' hq=>by
  show (bif Q k then none else s.L k)=s.L k;rw [hload t q k i off ho' hq];rfl) (hrun (fun s1=>if s1.env d=vy then some r else none) (by
   rw [Ul (show (eff s (tak E id y) (some d) vy).env d=vy by rw [YM,Ul rfl])])))
 have hv':v'=vy:=by
  rw [hd] at g1;have e1:(eff ({s with L:=fun k=>bif Q k then none else s.L k}:St) (tak E id (y.1,y.2)) (some d) v').env d=v':=by rw [YM,Ul rfl]
  simp only [e1] at g1;by_cases c:v'=vy
  ·exact c
  ·rw [Uf c] at g1;cases g1
 subst hv';rw [hd] at g2;exact g2
theorem ZCM {n:Nat} {l:List Nat} {d:Nat} {vy:SV} {s:St} (hd:n≠d) (hl:n∉l):JA n (eff s l (some d) vy)=(JA n s).map fun s1=>eff s1 l (some d) vy:=by
 have e1:(eff s l (some d) vy).env n=s.env n:=by rw [YM,Uf (fun e=>hd (Un e).symm),Uf hl]
 have e2:(eff s l (some d) vy).L=s.L:=VJ _ _ _ _;unfold JA;rw [e1,e2];cases s.env n with
 |lv key i off ag=>
  cases i with
  |succ i=>rfl
  |zero=>
  cases off with
  |succ o=>rfl
  |zero=>
  cases ag with
  |hd=>rfl
  |el e k m o=>rfl
  |st m=>
   simp only;cases s.L key with
   |none=>rfl
   |some o=>
    simp only;cases o.frz with
    |true=>rfl
    |false=>
     simp only [Ur];split
     ·rename_i row hrow;cases Nat.beq row.length m with
      |false=>rfl
      |true=>
       simp only [Ut,Fu];congr 1;refine St.ext' (fun t=> ?_) ?_ ?_
       ·show upd (eff s l (some d) vy).env n _ t=_;rw [YM];by_cases c:t=n
        ·subst c;rw [ZE,Uf (fun e=>hd (Un e).symm),Uf hl];exact (ZE _ _ _).symm
        ·rw [ZA _ _ c,YM];show _=if some d=some t then vy else if t∈l then XX (upd s.env n _ t) else upd s.env n _ t
         rw [ZA _ _ c]
       ·rw [VJ]
       ·refine Eq.trans ?_ (V3 _ _ _ _).symm;show (eff s l (some d) vy).G=s.G;rw [V3]
     ·rfl
 | _=>rfl
theorem ZCN {n:Nat} {s s1:St} (h:JA n s=some s1):∃key i o g,s.env n= .lv key i o g/\(∀t,t≠n->s1.env t=s.env t)/\(∀k,k≠key->s1.L k=s.L k)/\s1.G=s.G:=by
 unfold JA at h;split at h
 case h_2=>cases h
 rename_i key m hen;split at h
 case h_2=>cases h
 rename_i o ho;cases hf:o.frz with
 |true=>rw [hf] at h;cases h
 |false=>
  rw [hf] at h;simp only [Ur] at h;split at h
  case h_2=>cases h
  rename_i row hrow;cases hb:Nat.beq row.length m with
  |false=>rw [hb] at h;cases h
  |true=>
   rw [hb] at h;cases h;exact ⟨key,0,0, .st m,hen,fun t ht=>ZA _ _ ht,fun k hk=>ZA _ _ hk,rfl⟩
theorem ZCO {x y:Oper×Nat} {s:St} {K:St->Option β} (hx:YW E id x.2 x.1=true) (hpl:Zaf E ops id y.2 y.1 x.1=true) (hy:mov E id y) {vy:SV}
  (fy:∀s',AgrT ops y.1 s s'->∀K':St->Option β,ZC E id ops y.2 y.1 s' K'=K' (eff s' (tak E id y) y.1.dst vy))
  (h:ZC E id ops x.2 x.1 (eff s (tak E id y) y.1.dst vy) K=some r)
  {t0 kk:Nat} {i0 off0:Nat} {ty:Nat} {v0:Operand} (ho:x.1.op= .store ty (.tmp t0) v0) (hk:s.env t0= .lp kk i0 off0) (hacc:∀e∈YP y.1,XU (eff s (tak E id y) y.1.dst vy) kk e=true)
  (h60:Nat.beq (E.hb id x.2) 0=true\/∃n key i o g,v0= .tmp n/\s.env n= .lv key i o g/\∀e∈YP y.1,XU (eff s (tak E id y) y.1.dst vy) key e=true):
  ZC E id ops x.2 x.1 s (fun s1=>ZC E id ops y.2 y.1 s1 K)=some r:=by
 obtain ⟨h1,h2,h3,h4,h5,h6,h7,⟨d,hd,hdx,hdy⟩,h9,_⟩:=Zhz hpl;obtain ⟨x1,x2,x3,x4,x5,_⟩:=Zao hx;have hl:∀t∈tak E id y,Operand.tmp t∈y.1.op.operands.toList:=fun t ht=>by
  have ht':t∈YU (E.tk id y.2) y.1:=ht;rcases h3 with h3 |h3
  ·rw [h3] at ht';unfold Zew at h7;unfold YU at ht';rw [h6] at ht';split at h7 <;> simp_all
  ·unfold Zg9 at h3;split at h3
   case h_2=>cases h3
   rename_i n ho';unfold YU at ht';rw [h6,ho'] at ht';rw [ho'];cases htk:E.tk id y.2 with
   |false=>rw [htk] at ht';simp at ht'
   |true=>rw [htk] at ht';simp at ht';simp [Op.operands,ht']
 have hfyd:=fy;rw [hd] at h hacc;rw [hd] at h60;have hopx:x.1.op.operands.toList= [.tmp t0,v0]:=by rw [ho];rfl
 rw [hopx] at hdx h9;have hv0:v0≠ .tmp d:=fun e=>hdx (by simp [e])
 have ht0:t0≠d:=fun e=>hdx (by simp [e])
 have h9':∀t,Operand.tmp t∈y.1.op.operands.toList->t≠t0/\v0≠ .tmp t:=fun t ht=>by
  have:=h9 t ht;simp only [List.mem_cons,List.not_mem_nil,or_false,not_or] at this;exact ⟨fun e=>this.1 (by rw [e]),fun e=>this.2 e.symm⟩
 have hda:(d,false)∈YP y.1:=by unfold YP;rw [hd];simp
 have hoa:∀t,Operand.tmp t∈y.1.op.operands.toList->∃b,(t,b)∈YP y.1:=fun t ht=>by
  unfold YP;split
  ·rename_i q ho';rw [ho'] at ht;simp [Op.operands] at ht;exact ⟨true,by simp [ht]⟩
  ·exact ⟨false,by
    refine Uz _ (MX.2 ⟨_,ht,rfl⟩)⟩
 have hnlv:∀k i o g,vy≠ .lv k i o g:=fun k i o g e=>by
  have:=hacc _ hda;unfold XU at this;simp only at this;rw [YM,Ul rfl,e] at this;cases this
 have hops:∀t,Operand.tmp t∈y.1.op.operands.toList->t≠d/\∀k i o g,s.env t≠ .lv k i o g:=fun t ht=>by
  have htd:t≠d:=fun e=>hdy (by rw [←e];exact ht)
  refine ⟨htd,fun k i o g e=> ?_⟩;obtain ⟨b,hm⟩:=hoa t ht;have:=hacc _ hm;unfold XU at this;simp only at this;have e2:(eff s (tak E id y) (some d) vy).env t= .lv k i o g:=by
   rw [YM,Uf (fun e'=>htd (Un e').symm),e];split <;> rfl
  rw [e2] at this;cases this
 have hload:∀{kk:Nat},(∀e∈YP y.1,XU (eff s (tak E id y) (some d) vy) kk e=true)->∀t q k i off,y.1.op= .load t (.tmp q)->s.env q= .lp k i off->k≠kk:=fun {kk} hacc t q k i off ho' hq=>by
  have hm:(q,true)∈YP y.1:=by unfold YP;rw [ho'];simp
  have hqd:q≠d:=(hops q (by rw [ho'];simp [Op.operands])).1;have:=hacc _ hm;unfold XU at this;simp only at this;have e2:(eff s (tak E id y) (some d) vy).env q= .lp k i off:=by
   rw [YM,Uf (fun e'=>hqd (Un e').symm),hq];split <;> rfl
  rw [e2] at this;intro e;rw [e] at this;simp at this
 have hex:∀(s:St) (K':St->Option β),Nat.beq (E.hb id x.2) 0=true->ZC E id ops x.2 x.1 s K'=ZbE E (E.tk id x.2) ty t0 v0 s K':=fun s K' x1=>by
  unfold ZC ZbE;simp only [x4];unfold opR Xp opM;simp only [x2,Ur,x3,x1,Ut,opK,ho,x5];rfl
 by_cases x0:Nat.beq (E.hb id x.2) 0=true
 ·rw [hex _ _ x0] at h ⊢;refine Zsn hv0 ht0 hl h9' h6 hnlv hops hk ?_ h;have:=Zso (r:=r) hpl hy hd (fun k=>Nat.beq k kk) fy (fun t q k i off ho' hq=>by
   cases hb:Nat.beq k kk with
   |false=>rfl
   |true=>exact absurd (Ud hb) (hload hacc t q k i off ho' hq))
  intro s' ha K';refine this s' ⟨ha.1,fun key ob hke=>ha.2.1 key ob ?_,ha.2.2⟩ K';have hke':(bif Nat.beq key kk then none else s.L key)=some ob:=hke;show (if key=kk then none else s.L key)=some ob;cases hb:Nat.beq key kk with
  |true=>rw [hb] at hke';cases hke'
  |false=>
   rw [hb] at hke';rw [Uf (fun e=>by rw [e,MC] at hb;cases hb)];exact hke'
 ·have x6:Nat.beq (E.hb id x.2) 6=true:=x1.resolve_left x0;obtain ⟨n,key,i1,o1,g1,rfl,hn,hacc2⟩:=h60.resolve_left x0;have e6:E.hb id x.2=6:=Ud x6;have hex6:∀(s:St) (K':St->Option β),ZC E id ops x.2 x.1 s K'=bif okE E.nt E.kp none then (JA n s).bind (fun s1=>ZbE E true ty t0 (.tmp n) s1 K') else none:=fun s K'=>by
   unfold ZC;simp only [x4];unfold opR Xp opM;simp only [x2,Ur,x3,e6,show Nat.beq 6 0=false from rfl,opU,ho,x5];cases hok:okE E.nt E.kp none with
   |false=>rfl
   |true=>
    simp only [Ut];congr 1
    funext s1
    unfold ZbE;rw [hok];simp only [Ut,opK,ho];rfl
  rw [hex6] at h ⊢;cases hok:okE E.nt E.kp none with
  |false=>rw [hok] at h;cases h
  |true=>
  rw [hok] at h;simp only [Ut] at h ⊢;have hnl:n∉tak E id y:=fun hm=>(h9' n (hl n hm)).2 rfl
  have hnd:n≠d:=fun e=>hv0 (by rw [e])
  rw [ZCM hnd hnl] at h;cases hu:JA n s with
  |none=>rw [hu] at h;cases h
  |some s1=>
  rw [hu] at h;simp only [Fu,UG] at h ⊢;obtain ⟨key',i2,o2,g2,hn2,f1,f2,f3⟩:=ZCN hu;rw [hn] at hn2;cases hn2;have ht0n:t0≠n:=fun e=>by rw [e,hn] at hk;cases hk
  refine Zsn hv0 ht0 hl h9' h6 hnlv (fun t ht=>⟨(hops t ht).1,fun k i o g e=>(hops t ht).2 k i o g (by rw [←f1 t (fun e'=>(h9' t ht).2 (by rw [e']))];exact e)⟩) (by rw [f1 t0 ht0n];exact hk) ?_ h;have:=Zso (r:=r) hpl hy hd (fun k=>Nat.beq k kk || Nat.beq k key) fy (fun t q k i off ho' hq=>by
   cases hb:Nat.beq k kk with
   |true=>exact absurd (Ud hb) (hload hacc t q k i off ho' hq)
   |false=>
    cases hb2:Nat.beq k key with
    |true=>exact absurd (Ud hb2) (hload hacc2 t q k i off ho' hq)
    |false=>rfl)
  intro s' ha K';have hlook:∀t,t∈y.1.looksAt ops->Operand.tmp t∈y.1.op.operands.toList:=fun t ht=>by
   unfold Oper.looksAt at ht;rcases List.mem_append.1 ht with ht |ht
   ·rw [MX] at ht;obtain ⟨op,ho1,ho2⟩:=ht;split at ho2
    ·cases ho2;exact ho1
    ·cases ho2
   ·rw [h6] at ht;simp at ht
  refine this s' ⟨fun t ht=> ?_,fun k ob hke=>ha.2.1 k ob ?_,fun hg=> ?_⟩ K'
  ·rw [ha.1 t ht];exact f1 t (fun e'=>(h9' t (hlook t ht)).2 (by rw [e']))
  ·have hke':(bif Nat.beq k kk || Nat.beq k key then none else s.L k)=some ob:=hke;show (if k=kk then none else s1.L k)=some ob;cases hb:Nat.beq k kk with
   |true=>rw [hb] at hke';cases hke'
   |false=>
    cases hb2:Nat.beq k key with
    |true=>rw [hb,hb2] at hke';cases hke'
    |false=>
     rw [hb,hb2] at hke';rw [Uf (fun e=>by rw [e,MC] at hb;cases hb),f2 k (fun e=>by rw [e,MC] at hb2;cases hb2)];exact hke'
  ·have hg2:Yk y.1 {s1 with L:=fun k=>if k=kk then none else s1.L k}=true:=by
    unfold Yk at hg ⊢;split at hg
    ·rename_i t q ho';show XT (s1.env q)=true;rw [f1 q (fun e'=>(h9' q (by rw [ho'];simp [Op.operands])).2 (by rw [e']))];exact hg
    ·cases hg
   exact (ha.2.2 hg2).trans f3
noncomputable def YF (E:Ctx) (id:Nat) (ops:Array Oper):List (Oper×Nat)->St->(St->Option β)->Option β
 | [],s,K=>K s
 |p::rest,s,K=>Kr E id ops p.2 p.1 s fun s'=>YF E id ops rest s' K
theorem Zsp {K:St->Option β}:∀{l:List Oper} {i:Nat} {s:St},Zey E id ops i l s K=YF E id ops (l.zipIdx i) s K
 | [],i,s=>rfl
 |o::l,i,s=>by
  simp only [Zey,List.zipIdx_cons,YF];congr 1
  funext s'
  exact Zsp
def ZCP (E:Ctx) (id:Nat) (ops:Array Oper) (y x:Oper×Nat):Prop:=
 (YW E id x.2 x.1=true/\(JC E id y.2 x.2 y.1 x.1=true\/Zaf E ops id y.2 y.1 x.1=true)/\(Xz E ops=false\/Zmn y.1=true))\/(YW E id x.2 x.1=false/\Part E id ops y x)
theorem ZcZ {x:Oper×Nat} {s:St} {K:St->Option β} (h:Kr E id ops x.2 x.1 s K=some r):ZC E id ops x.2 x.1 s K=some r:=by
 unfold Kr at h;cases hb:Zex E id ops x.2 x.1 s || Xz E ops && Yk x.1 s with
 |true=>rw [hb] at h;cases h
 |false=>rw [hb] at h;exact h
theorem Zsq {x:Oper×Nat} {s:St} {K:St->Option β} (h:Kr E id ops x.2 x.1 s K=some r):(Xz E ops && Yk x.1 s)=false:=by
 unfold Kr at h;cases hb:Xz E ops && Yk x.1 s with
 |true=>rw [hb,Bool.or_true] at h;cases h
 |false=>rfl
theorem ZhA {x:Oper×Nat} {s:St} {K:St->Option β} (hx:YW E id x.2 x.1=false) (hg:(Xz E ops && Yk x.1 s)=false):Kr E id ops x.2 x.1 s K=ZC E id ops x.2 x.1 s K:=by
 unfold Kr Zex;rw [hx,hg];rfl
theorem ZhB {y:Oper×Nat} (hy:mov E id y):YW E id y.2 y.1=false:=by
 cases hs:YW E id y.2 y.1 with
 |false=>rfl
 |true=>
  exfalso
  obtain ⟨_,_,_,_,_,t,p,v,ho⟩:=Zao hs;have hm:JB E id y.1 y.2=true:=hy;unfold JB Zae Zg7 at hm;rw [ho] at hm;simp at hm
theorem ZCQ {y:Oper×Nat} {q:Nat×Nat×Nat} (hy:exT E id y.2 y.1=some q):YW E id y.2 y.1=false:=by
 cases hs:YW E id y.2 y.1 with
 |false=>rfl
 |true=>
  exfalso
  obtain ⟨_,_,_,_,_,t,p,v,ho⟩:=Zao hs;obtain ⟨n,k,d⟩:=q;obtain ⟨_,_,_,_,_,h6,_⟩:=Zm6 hy;rw [ho] at h6;cases h6
theorem Zsr {s:St} {n:List Nat} {d:Option Nat} {v:SV} {k:Nat} {e:Nat×Bool} (hd:d≠some e.1) (h:XU (eff s n d v) k e=true):XU s k e=true:=by
 unfold XU at h ⊢;rw [YM,Uf hd] at h;by_cases hn:e.1∈n
 ·rw [Ul hn] at h;cases he:s.env e.1 <;> rw [he] at h <;> first |rfl |exact h
 ·rw [Uf hn] at h;exact h
theorem Znb {j:Nat} {o p:Oper} {i:Nat} (hp:ops[i]? =some p) (hij:i < j) (h1:Kq ops o i=false) (h2:JC E id i j p o=false) {e:Nat×Bool} (he:e∈YP p):e∈Zbu E id ops j o:=by
 unfold Zbu;rw [List.mem_flatMap];refine ⟨(p,i),?_,?_⟩
 ·rw [UN];simpa using hp
 ·have:Nat.blt i j=true:=by simp [Nat.blt];omega
  simp only [this,h1,h2,Bool.or_self,UT,Mz,Ut];exact he
theorem Zss {x:Oper×Nat} {L2:List (Oper×Nat)} {K:St->Option β} (hx:YW E id x.2 x.1=true) (hl:Zbt ops x.2=false):∀{L1:List (Oper×Nat)} {s:St},L1.Pairwise (fun p q=>p.2 < q.2)->(∀y∈L1,ops[y.2]? =some y.1/\y.2 < x.2/\Kq ops x.1 y.2=false/\mov E id y/\(JC E id y.2 x.2 y.1 x.1=true\/Zaf E ops id y.2 y.1 x.1=true)/\∀s:St,(Xz E ops && Yk y.1 s)=false)->
  YF E id ops (L1 ++ x::L2) s K=some r->
  (∀p i,ops[i]? =some p->i < x.2->Kq ops x.1 i=false->JC E id i x.2 p x.1=false->(∀z∈L1,∀e∈YP p,z.1.dst≠some e.1)->YP p≠ []->∃ty t v k i0 off,x.1.op= .store ty (.tmp t) v/\s.env t= .lp k i0 off/\(∀e∈YP p,XU s k e=true)/\(Nat.beq (E.hb id x.2) 0=true\/∃n key i o g,v= .tmp n/\s.env n= .lv key i o g/\∀e∈YP p,XU s key e=true))/\
  ZC E id ops x.2 x.1 s (fun s'=>YF E id ops (L1 ++ L2) s' K)=some r
 | [],s,_,_,h=>by
  simp only [U9,YF] at h;refine ⟨fun p i hp hi h1 h2 _ hne=> ?_,ZcZ h⟩;unfold Kr at h;cases hb:Zex E id ops x.2 x.1 s with
  |true=>rw [hb,Bool.true_or] at h;cases h
  |false=>
   unfold Zex at hb;rw [hx,hl] at hb;simp only [UW,FJ,Bool.not_eq_false',Ub,Ma] at hb;obtain ⟨hb,hb6⟩:=hb;obtain ⟨_,_,_,_,_,ty,p0,v,ho⟩:=Zao hx;unfold Zrd at hb;rw [ho] at hb;have hnil:Zbu E id ops x.2 x.1≠ []:=fun e=>by
    obtain ⟨e0,he0⟩:=List.exists_mem_of_ne_nil _ hne;have:=Znb (E:=E) (id:=id) hp hi h1 h2 he0;rw [e] at this;cases this
   have hne':(Zbu E id ops x.2 x.1).isEmpty=false:=by
    cases hq:Zbu E id ops x.2 x.1 with
    |nil=>exact absurd hq hnil
    |cons=>rfl
   split at hb
   ·rename_i ty' t v' heq;cases heq;split at hb
    ·rename_i k i0 off he;refine ⟨_,_,_,_,_,_,ho,he,fun e hm=>MS.1 hb e (Znb hp hi h1 h2 hm),hb6.imp (fun hz=>hz) fun hb6=> ?_⟩;unfold Zre at hb6;rw [ho] at hb6;split at hb6
     ·rename_i n heq2;cases heq2;split at hb6
      ·rename_i key i o g hlv;exact ⟨_,_,_,_,_,rfl,hlv,fun e hm=>MS.1 hb6 e (Znb hp hi h1 h2 hm)⟩
      ·cases hb6
     ·cases hb6
    ·rw [hne'] at hb;cases hb
   ·rw [hne'] at hb;cases hb
 |y::L1,s,hpw,hL,h=>by
  obtain ⟨y1,y2,y3,hy,hpl,hng⟩:=hL y (Uj ..);have hpw':=List.pairwise_cons.1 hpw;simp only [U5,YF] at h;rw [ZhA (ZhB hy) (hng s)] at h;obtain ⟨vy,h1,fy⟩:=Kv hy h;obtain ⟨hA,h2'⟩:=Zss hx hl hpw'.2 (fun z hz=>hL z (Ug _ hz)) h1;obtain ⟨_,_,_,_,_,ty,p0,v0,ho⟩:=Zao hx;have hyx:∀t,Operand.tmp t∈x.1.op.operands.toList->y.1.dst≠some t:=fun t ht hd=>by
   rcases hpl with hpl |hpl
   ·obtain ⟨_,_,_,_,_,n,k,d,_,e2,_,e4⟩:=Zsd (Zsf hpl).2;rw [hd] at e2;cases e2;exact e4 ht
   ·obtain ⟨_,_,_,_,_,_,_,⟨d,e1,e2,_⟩,_⟩:=Zhz hpl;rw [hd] at e1;cases e1;exact e2 ht
  have hback:∀p:Oper,(∀e∈YP p,y.1.dst≠some e.1)->(∃ty t v k i0 off,x.1.op= .store ty (.tmp t) v/\(eff s (tak E id y) y.1.dst vy).env t= .lp k i0 off/\(∀e∈YP p,XU (eff s (tak E id y) y.1.dst vy) k e=true)/\(Nat.beq (E.hb id x.2) 0=true\/∃n key i o g,v= .tmp n/\(eff s (tak E id y) y.1.dst vy).env n= .lv key i o g/\∀e∈YP p,XU (eff s (tak E id y) y.1.dst vy) key e=true))->
    ∃ty t v k i0 off,x.1.op= .store ty (.tmp t) v/\s.env t= .lp k i0 off/\(∀e∈YP p,XU s k e=true)/\(Nat.beq (E.hb id x.2) 0=true\/∃n key i o g,v= .tmp n/\s.env n= .lv key i o g/\∀e∈YP p,XU s key e=true):=fun p hd ⟨ty,t,v,k,i0,off,e1,e2,e3,e5⟩=>by
   refine ⟨ty,t,v,k,i0,off,e1,?_,fun e he=>Zsr (hd e he) (e3 e he),e5.imp (fun hz=>hz) fun ⟨n,key,i,o,g,a1,a2,a3⟩=>⟨n,key,i,o,g,a1,?_,fun e he=>Zsr (hd e he) (a3 e he)⟩⟩
   case refine_2=>
    rw [YM,Uf (hyx n (by rw [e1,a1];simp [Op.operands]))] at a2;split at a2
    ·cases hq:s.env n with
     |val a=>rw [hq] at a2;cases a2
     | _=>rw [hq] at a2;simpa [XX] using a2
    ·exact a2
   rw [YM,Uf (hyx t (by rw [e1];simp [Op.operands]))] at e2;split at e2
   ·cases hq:s.env t with
    |val a=>rw [hq] at e2;cases e2
    | _=>rw [hq] at e2;simpa [XX] using e2
   ·exact e2
  refine ⟨fun p i hp hi g1 g2 g3 g4=>hback p (fun e he=>g3 y (Uj ..) e he) (hA p i hp hi g1 g2 (fun z hz=>g3 z (Ug _ hz)) g4),?_⟩;have hsw:ZC E id ops x.2 x.1 s (fun s1=>ZC E id ops y.2 y.1 s1 fun s'=>YF E id ops (L1 ++ L2) s' K)=some r:=by
   rcases hpl with hpl |hpl
   ·refine Zsg hx hpl ?_;rw [fy s (AgrT.refl _ _)];exact h2'
   ·obtain ⟨_,_,_,_,_,_,hkd,⟨d,hd,_,hdy⟩,_,hnw⟩:=Zhz hpl;cases hst:JC E id y.2 x.2 y.1 x.1 with
    |true=>
     refine Zsg hx hst ?_;rw [fy s (AgrT.refl _ _)];exact h2'
    |false=>
     obtain ⟨ty,t,v,k,i0,off,e1,e2,e3,e6⟩:=hA y.1 y.2 y1 y2 y3 hst (fun z hz e he=>hnw z.1 z.2 (hL z (Ug _ hz)).1 (hpw'.1 z hz) e he) (by
      unfold YP;rw [hd];simp)
     have e2':s.env t= .lp k i0 off:=by
      rw [YM,Uf (hyx t (by rw [e1];simp [Op.operands]))] at e2;split at e2
      ·cases hq:s.env t with
       |val a=>rw [hq] at e2;cases e2
       | _=>rw [hq] at e2;simpa [XX] using e2
      ·exact e2
     refine ZCO hx hpl hy fy h2' e1 e2' e3 (e6.imp (fun hz=>hz) fun ⟨n,key,i,o,g,a1,a2,a3⟩=>⟨n,key,i,o,g,a1,?_,a3⟩);rw [YM,Uf (hyx n (by rw [e1,a1];simp [Op.operands]))] at a2;split at a2
     ·cases hq:s.env n with
      |val a=>rw [hq] at a2;cases a2
      | _=>rw [hq] at a2;simpa [XX] using a2
     ·exact a2
  have e:(fun s'=>YF E id ops (y::L1 ++ L2) s' K)=fun s1=>ZC E id ops y.2 y.1 s1 fun s'=>YF E id ops (L1 ++ L2) s' K:=by
   funext s1
   simp only [U5,YF];exact ZhA (ZhB hy) (hng s1)
  rw [e];exact hsw
theorem Znc {o:Oper} {j:Nat} (h:Qq E id j o=true):Nat.beq (E.hb id j) 0=true/\E.th id j=false/\E.tk id j=false/\E.rt id j=none/\o.guard=none/\∃c f,o.op= .call c/\c.callee= .value (.func f)/\E.gs f=true:=by
 unfold Qq at h;simp only [Ub,UH,Mt] at h;refine ⟨h.1.1.1.1,h.1.1.1.2,h.1.1.2,h.1.2,?_⟩;have h:=h.2;split at h
 ·rename_i c h1 h2;split at h
  ·rename_i f hc;exact ⟨h1,c,f,h2,hc,h⟩
  ·cases h
 ·cases h
theorem ZCR {y:Oper×Nat} (hy:Qq E id y.2 y.1=true):YW E id y.2 y.1=false:=by
 cases hs:YW E id y.2 y.1 with
 |false=>rfl
 |true=>
  obtain ⟨_,_,_,_,_,t,p,v,ho⟩:=Zao hs;obtain ⟨_,_,_,_,_,c,f,ho',_⟩:=Znc hy;rw [ho] at ho';cases ho'
theorem ZhC {y:Oper×Nat} {s:St} {K:St->Option β} (hy:Qq E id y.2 y.1=true) (h:ZC E id ops y.2 y.1 s K=some r):
  ∃v g',K (put {s with G:=g'} y.1.dst v)=some r/\∀s',(∀t,t∈y.1.looksAt ops->s'.env t=s.env t)->(∀key ob,s.L key=some ob->s'.L key=some ob)->s'.G=s.G->∀K':St->Option β,ZC E id ops y.2 y.1 s' K'=K' (put {s' with G:=g'} y.1.dst v):=by
 obtain ⟨h1,h2,h3,h4,h5,c,f,ho,hc,hg⟩:=Znc hy;have ex:∀(s:St) (K':St->Option β),ZC E id ops y.2 y.1 s K'=(bif okE E.nt E.kp y.1.dst then VB E false c.args.toList c.argTypes.toList s fun as s'=>Zac E f (E.vr id y.2) as s' fun v s'=>K' (put s' y.1.dst v) else none):=fun s K'=>by
  unfold ZC;simp only [h5];unfold opR Xp opM;simp only [h2,Ur,h4,h1,Ut,opK,ho,hc,h3]
 rw [ex] at h;simp only [ex];cases hok:okE E.nt E.kp y.1.dst with
 |false=>rw [hok] at h;cases h
 |true=>
 rw [hok] at h;simp only [Ut] at h ⊢;obtain ⟨as,e1,e2⟩:=Zm1 h;unfold Zac at e1;rw [hg] at e1;simp only [Ut] at e1;split at e1
 ·cases e1
 rename_i en hen;obtain ⟨r0,hcl,e3⟩:=ZG e1;refine ⟨_,_,e3,fun s' a1 a2 a3 K'=> ?_⟩;rw [e2 (bg:=true) s' ⟨fun t ht=>a1 t (by
  unfold Oper.looksAt;refine Uz _ ?_;rw [MX];refine ⟨.tmp t,?_,rfl⟩;rw [ho];simp only [Op.operands,Call.operands,hc];simp [ht]),a2,fun _=>a3⟩]
 unfold Zac;rw [hg];simp only [Ut,hen,bnd,a3,hcl,UG]
theorem Zst (x:SV):XT (XX x)=XT x:=by
 cases x with
 |val a=>
  cases a <;> try rfl
  rename_i o k xs;cases o <;> rfl
 | _=>rfl
theorem Znd {y:Oper} {s s1:St} (h:∀n,n∈y.looksAt ops->XT (s1.env n)=XT (s.env n)):Yk y s1=Yk y s:=by
 unfold Yk;split
 ·rename_i t n ho;refine h n ?_;unfold Oper.looksAt;refine Uz _ ?_;rw [MX];exact ⟨.tmp n,by rw [ho];simp [Op.operands],rfl⟩
 ·rfl
theorem Zsu {x:Oper×Nat} {s:St} {K:St->Option β} (hx:mov E id x\/Qp E id x.2 x.1=true\/Qq E id x.2 x.1=true) (h:ZC E id ops x.2 x.1 s K=some r):
  ∃s1,K s1=some r/\(∀K':St->Option β,ZC E id ops x.2 x.1 s K'=K' s1)/\∀t,x.1.dst≠some t->XT (s1.env t)=XT (s.env t):=by
 rcases hx with hx |hx |hx
 ·obtain ⟨v,h1,h2⟩:=Kv (o:=x.1) (i:=x.2) hx h;refine ⟨_,h1,fun K'=>h2 s (AgrT.refl _ _) K',fun t ht=> ?_⟩;rw [YM,Uf ht];split
  ·exact Zst _
  ·rfl
 ·obtain ⟨hb,hth,hg,t0,ho⟩:=Zhx hx;have h0:=h;unfold ZC at h;rw [hg] at h;simp only at h;cases hok:okE E.nt E.kp x.1.dst with
  |false=>rw [hok] at h;cases h
  |true=>
   rw [hok] at h;obtain ⟨d,hd,htok,hrt,hL,h2⟩:=Zm5 hb hth ho h;refine ⟨_,h2,fun K'=> ?_,fun t ht=> ?_⟩
   ·unfold ZC;rw [hg];simp only [hok,Ut];unfold opR;rw [hth];simp only [Ur];unfold Xp;rw [hrt];simp only;unfold opM;rw [hb];simp only [Ut,opK,ho,htok,Ui,Ur,newObj];rw [hd];simp only [hL]
   ·rw [hd] at ht ⊢;show XT (upd s.env d _ t)=_;rw [ZA _ _ (fun e=>ht (by rw [e]))]
 ·obtain ⟨v,g',h1,h2⟩:=ZhC (y:=x) hx h;refine ⟨_,h1,fun K'=>h2 s (fun _ _=>rfl) (fun _ _ h=>h) rfl K',fun t ht=> ?_⟩;cases hd:x.1.dst with
  |none=>rfl
  |some d=>
   rw [hd] at ht;show XT (upd s.env d _ t)=_;rw [ZA _ _ (fun e=>ht (by rw [e]))]
theorem Zc0 (s:St) (d:Option Nat) (v:SV) (t:Nat):(put s d v).env t=if d=some t then v else s.env t:=by
 cases d with
 |none=>simp [put]
 |some d=>
  by_cases h:d=t
  ·subst h;simp [put,ZE]
  ·simp only [put,MN,h,Mw];exact ZA _ _ (fun e=>h e.symm)
theorem ZhD (s:St) (d:Option Nat) (v:SV):(put s d v).L=s.L:=by cases d <;> rfl
theorem Zsv (s:St) (d:Option Nat) (v:SV):(put s d v).G=s.G:=by cases d <;> rfl
theorem Zsw {s:St} {n:List Nat} {d1 d2:Option Nat} {v1 v2:SV} {g:GS} (h:∀d,d1=some d->d2≠some d) (h2:∀d,d∈n->d1≠some d):
  eff (put {s with G:=g} d1 v1) n d2 v2=put {eff s n d2 v2 with G:=g} d1 v1:=by
 refine St.ext' (fun t=> ?_) (by rw [VJ,ZhD,ZhD];show s.L=(eff s n d2 v2).L;rw [VJ]) (by rw [V3,Zsv,Zsv]);rw [YM,Zc0,Zc0];show _=if d1=some t then v1 else (eff s n d2 v2).env t
 rw [YM];by_cases e1:d1=some t
 ·rw [Uf (h t e1),Ul e1,Ul e1];split
  ·rename_i hm;exact absurd e1 (h2 t hm)
  ·rfl
 ·simp only [Uf e1]
theorem ZCS {x y:Oper×Nat} {s:St} {K:St->Option β} (hy:Qq E id y.2 y.1=true) (hx:mov E id x) (hap:Oper.apart ops y.1 x.1=true) (hl2:Qr ops (tak E id x) y.1=true) (hgx:Yk x.1 s=false)
  (h:ZC E id ops y.2 y.1 s (fun s1=>ZC E id ops x.2 x.1 s1 K)=some r):ZC E id ops x.2 x.1 s (fun s1=>ZC E id ops y.2 y.1 s1 K)=some r:=by
 obtain ⟨a1,a2,a3⟩:=Oper.apart_spec hap;obtain ⟨vy,g',h1,fy⟩:=ZhC hy h;obtain ⟨vx,h2,fx⟩:=Kv hx h1;have hld:Yk x.1 (put {s with G:=g'} y.1.dst vy)=false:=by
  rw [Znd (ops:=ops) (s:=s) fun n hn=> ?_]
  ·exact hgx
  ·rw [Zc0,Uf fun e=>a1 n e hn]
 rw [fx s ⟨fun t ht=>by rw [Zc0,Uf fun e=>a1 t e ht],fun key ob hk=>by rw [ZhD] at hk;exact hk,fun hb=>by rw [hld] at hb;cases hb⟩];rw [fy _ (fun t ht=>by rw [YM,Uf fun e=>a3 t e ht,Uf fun e=>(Zan hl2 e).1 ht]) (fun key ob hk=>by rw [VJ];exact hk) (V3 _ _ _ _)];rw [Zsw (fun d hd e=>a2 d hd e) (fun d hd e=>(Zan hl2 hd).2 e)] at h2;exact h2
theorem ZCT {x y:Oper×Nat} {s:St} {K:St->Option β} (hy:mov E id y) (hx:Qq E id x.2 x.1=true) (hap:Oper.apart ops y.1 x.1=true) (hl1:Qr ops (tak E id y) x.1=true) (hgy:Yk y.1 s=false)
  (h:ZC E id ops y.2 y.1 s (fun s1=>ZC E id ops x.2 x.1 s1 K)=some r):ZC E id ops x.2 x.1 s (fun s1=>ZC E id ops y.2 y.1 s1 K)=some r:=by
 obtain ⟨a1,a2,a3⟩:=Oper.apart_spec hap;obtain ⟨vy,h1,fy⟩:=Kv hy h;obtain ⟨vx,g',h2,fx⟩:=ZhC hx h1;rw [fx s (fun t ht=>by rw [YM,Uf fun e=>a1 t e ht,Uf fun e=>(Zan hl1 e).1 ht]) (fun key ob hk=>by rw [VJ] at hk;exact hk) (V3 _ _ _ _).symm];rw [fy _ ⟨fun t ht=>by rw [Zc0,Uf fun e=>a3 t e ht],fun key ob hk=>by rw [ZhD];exact hk,fun hb=>by rw [hgy] at hb;cases hb⟩];rw [←h2];congr 1;exact Zsw (fun d hd e=>a2 d e hd) (fun d hd e=>(Zan hl1 hd).2 e)
def Swp (E:Ctx) (id:Nat) (ops:Array Oper) (y x:Oper×Nat):Prop:=
 (Kp E id y.2 x.2 y.1 x.1=true/\(mov E id x\/Qp E id x.2 x.1=true))\/(mov E id y/\Part E id ops y x/\((mov E id x\/Qp E id x.2 x.1=true)\/Qq E id x.2 x.1=true/\Xz E ops=true))\/
  (Qq E id y.2 y.1=true/\Xz E ops=true/\mov E id x/\Oper.apart ops y.1 x.1=true/\Qr ops (tak E id x) y.1=true)
theorem ZhE {x:Oper×Nat} {L2:List (Oper×Nat)} {K:St->Option β} (hx:mov E id x\/Qp E id x.2 x.1=true\/Qq E id x.2 x.1=true) (hxs:YW E id x.2 x.1=false):∀{L1:List (Oper×Nat)} {s:St},(∀y∈L1,Swp E id ops y x)->
  YF E id ops (L1 ++ x::L2) s K=some r->ZC E id ops x.2 x.1 s (fun s'=>YF E id ops (L1 ++ L2) s' K)=some r/\(Xz E ops && Yk x.1 s)=false
 | [],s,_,h=>by
  simp only [U9,YF] at h;exact ⟨ZcZ h,Zsq h⟩
 |y::L1,s,hL,h=>by
  simp only [U5,YF] at h;have hgy:=Zsq h;have Jd:YW E id y.2 y.1=false->(∀d,x.1.dst=some d->d∉y.1.looksAt ops)->ZC E id ops x.2 x.1 s (fun s1=>ZC E id ops y.2 y.1 s1 fun s'=>YF E id ops (L1 ++ L2) s' K)=some r->
    ZC E id ops x.2 x.1 s (fun s'=>YF E id ops (y::L1 ++ L2) s' K)=some r:=fun hn ha3 h0=>by
   obtain ⟨s1,d1,d2,d3⟩:=Zsu hx h0;rw [d2];simp only [U5,YF];rw [ZhA hn]
   ·exact d1
   ·rw [Znd (ops:=ops) (s:=s) fun n hn'=>d3 n fun e=>ha3 n e hn'];exact hgy
  have hld:∀{s1:St},(∀n,n∈x.1.looksAt ops->XT (s1.env n)=XT (s.env n))->(Xz E ops && Yk x.1 s1)=false->(Xz E ops && Yk x.1 s)=false:=fun h1 h2=>by
   rwa [Znd (ops:=ops) h1] at h2
  rcases hL y (Uj ..) with ⟨hpair,hx2⟩ | ⟨hy,⟨ha,hl1,hl2⟩,hx2⟩ | ⟨hy,hgs,hx2,ha,hl2⟩
  ·cases hyT:exT E id y.2 y.1 with
   |none=>simp [Kp,hyT] at hpair
   |some q=>
    obtain ⟨n,k,d⟩:=q;obtain ⟨hok,vs,a,hen,hk,h1⟩:=Zsi hyT (ZcZ h);obtain ⟨h2,_⟩:=ZhE hx hxs (fun z hz=>hL z (Ug _ hz)) h1;have h3:ZC E id ops x.2 x.1 s (fun s1=>ZC E id ops y.2 y.1 s1 fun s'=>YF E id ops (L1 ++ L2) s' K)=some r:=by
     refine ZCH hpair ?_;rw [Zm8 hyT hok hen hk];exact h2
    obtain ⟨_,_,_,_,_,hyo,_⟩:=Zm6 hyT;have hyl:∀s1:St,Yk y.1 s1=false:=fun s1=>by unfold Yk;rw [hyo]
    have hxl:Yk x.1 s=false:=by
     unfold Kp at hpair;rw [hyT] at hpair;simp only at hpair;split at hpair
     ·rename_i n' k' d' hc;obtain ⟨_,_,_,_,_,hxo,_⟩:=Zm7 hc;unfold Yk;rw [hxo]
     ·rw [Ub] at hpair;obtain ⟨_,_,_,t0,hxo⟩:=Zhx hpair.1;unfold Yk;rw [hxo]
    refine ⟨?_,by rw [hxl,Bool.and_false]⟩;obtain ⟨s1,d1,d2,d3⟩:=Zsu hx h3;rw [d2];simp only [U5,YF];rw [ZhA (ZCQ hyT) (by rw [hyl,Bool.and_false])];exact d1
  ·obtain ⟨vy,h1,fy⟩:=Kv hy (ZcZ h);obtain ⟨h2,hg2⟩:=ZhE hx hxs (fun z hz=>hL z (Ug _ hz)) h1;obtain ⟨a1,a2,a3⟩:=Oper.apart_spec ha;have h3:ZC E id ops y.2 y.1 s (fun s1=>ZC E id ops x.2 x.1 s1 fun s'=>YF E id ops (L1 ++ L2) s' K)=some r:=by
    rw [fy s (AgrT.refl _ _)];exact h2
   refine ⟨Jd (ZhB hy) a3 ?_,hld (fun n hn=> ?_) hg2⟩
   ·rcases hx2 with hx2 | ⟨hx2,hgs⟩
    ·by_cases hn:Qp E id x.2 x.1=true
     ·exact ZCA hn hy ha hl1 h3
     ·rcases hx2 with hx2 |hx2
      ·rcases hl2 with hl2 |hl2
       ·exact absurd hl2 hn
       ·exact ZCz hx2 hy ha hl1 hl2 h3
      ·exact absurd hx2 hn
    ·rw [hgs,UW] at hgy;exact ZCT hy hx2 ha hl1 hgy h3
   ·rw [YM,Uf (fun e=>a1 n e hn)];split
    ·exact Zst _
    ·rfl
  ·obtain ⟨vy,g',h1,fy⟩:=ZhC hy (ZcZ h);obtain ⟨h2,hg2⟩:=ZhE hx hxs (fun z hz=>hL z (Ug _ hz)) h1;obtain ⟨a1,a2,a3⟩:=Oper.apart_spec ha;have h3:ZC E id ops y.2 y.1 s (fun s1=>ZC E id ops x.2 x.1 s1 fun s'=>YF E id ops (L1 ++ L2) s' K)=some r:=by
    rw [fy s (fun _ _=>rfl) (fun _ _ h=>h) rfl];exact h2
   have hgx:=hld (fun n hn=>by rw [Zc0,Uf (fun e=>a1 n e hn)]) hg2;have hgx':=hgx;rw [hgs,UW] at hgx';exact ⟨Jd (ZCR hy) a3 (ZCS hy hx2 ha hl2 hgx' h3),hgx⟩
theorem Zsx (h:ZcQ E id ops=true) {o:Oper} {j:Nat} (ho:ops[j]? =some o):
  (∀e∈o.after,Region.binds .any e=true->e.on < j)/\(Zbt ops j=true\/((((mov E id (o,j)\/Qp E id j o=true)\/YW E id j o=true)\/Qq E id j o=true/\Xz E ops=true)/\∀p i,ops[i]? =some p->i < j->(Kq ops o i=true\/((Kp E id i j p o=true\/(Qq E id i p=true/\Xz E ops=true/\mov E id (o,j)/\Oper.apart ops p o=true/\Qr ops (tak E id (o,j)) p=true))\/(mov E id (p,i)/\ZCP E id ops (p,i) (o,j)))))):=by
 unfold ZcQ at h;rw [MS] at h;have hm:∀{p:Oper} {i:Nat},ops[i]? =some p->(p,i)∈ops.toList.zipIdx:=fun {p i} hp=>by
  rw [UN];simpa using hp
 have h1:=h _ (hm ho);simp only [Ub,Ma,UH] at h1;obtain ⟨h4,h1⟩:=h1;refine ⟨fun e he hb=> ?_,?_⟩
 ·have:=Array.all_eq_true_iff_forall_mem.1 h4 e he;rw [hb] at this;exact Zah (by simpa using this)
 ·rcases h1 with h1 | ⟨h1,h5⟩
  ·exact .inl h1
  ·refine .inr ⟨h1,fun p i hp hij=> ?_⟩;rw [MS] at h5;have:=h5 _ (hm hp);simp only [Ma,UH,Ub] at this;rcases this with h |h
   ·have:Nat.blt i j=true:=by simp [Nat.blt];omega
    rw [this] at h;cases h
   ·rcases h with h |h | ⟨h6,h⟩
    ·exact .inl h
    ·refine .inr (.inl ?_);rcases h with h |h
     ·exact .inl h
     ·exact .inr ⟨h.1.1.1.1,h.1.1.1.2,h.1.1.2,h.1.2,h.2⟩
    ·refine .inr (.inr ⟨h6,?_⟩);cases hs:YW E id j o with
     |true=>
      rw [hs] at h;simp only [Ut,Ub,Ma,UH] at h;exact .inl ⟨hs,h.1,h.2⟩
     |false=>
      rw [hs] at h;simp only [Ur,Ub,Ma] at h;exact .inr ⟨hs,h.1.1,h.1.2,h.2⟩
theorem Zsy {listed:Array Bool} {i:Nat} (hc:∀i p,ops[i]? =some p->listed.getD i false=true->∀e∈p.after,Region.binds .any e=true->listed.getD e.on false=true):
  ∀(n:Nat) {o:Oper},Zev ops n o i=true->(∀e∈o.after,Region.binds .any e=true->listed.getD e.on false=true)->listed.getD i false=true
 | 0,o,h,hr=>by
  unfold Zev at h;obtain ⟨e,he,hb⟩:=Array.any_eq_true'.1 h;rw [Ub] at hb;rw [←Ud hb.2];exact hr e he hb.1
 |n + 1,o,h,hr=>by
  unfold Zev at h;obtain ⟨e,he,hb⟩:=Array.any_eq_true'.1 h;rw [Ub,Ma] at hb;obtain ⟨hb,h1⟩:=hb;have hl:=hr e he hb;rcases h1 with h1 |h1
  ·rw [←Ud h1];exact hl
  ·split at h1
   ·rename_i p hp;exact Zsy hc n h1 fun e' he' hb'=>hc _ p hp hl e' he' hb'
   ·cases h1
theorem ZCU {listed:Array Bool} {o:Oper} {i:Nat} (h:Kq ops o i=true) (hr:∀e∈o.after,Region.binds .any e=true->listed.getD e.on false=true)
  (hc:∀i p,ops[i]? =some p->listed.getD i false=true->∀e∈p.after,Region.binds .any e=true->listed.getD e.on false=true):listed.getD i false=true:=
 Zsy hc 3 h hr
theorem Zsz {listed:Array Bool} {j:Nat} {o:Oper} (h:Zbt ops j=true) (ho:ops[j]? =some o) (hr:∀e∈o.after,Region.binds .any e=true->listed.getD e.on false=true)
  (hc:∀i p,ops[i]? =some p->listed.getD i false=true->∀e∈p.after,Region.binds .any e=true->listed.getD e.on false=true):∀(m i:Nat),j<=i + m->i < j->listed.getD i false=true
 | 0,i,h1,h2=>by omega
 |m + 1,i,h1,h2=>by
  have h3:=MS.1 (show _ from h) i (by simpa using h2);obtain ⟨⟨p,k⟩,hk,h3⟩:=List.any_eq_true.1 h3;rw [Ub,Ub] at h3;have hik:=Zah h3.1.1;have hkj0:k<=j:=MI h3.1.2;obtain ⟨e,he,hb⟩:=Array.any_eq_true'.1 h3.2;rw [Ub] at hb;have hei:=Ud hb.2;have hp:ops[k]? =some p:=by
   rw [UN] at hk;simpa using hk
  rcases U2 k j with hkj |hkj
  ·have hl:=Zsz h ho hr hc m k (by omega) hkj;have:=hc k p hp hl e he hb.1
   rwa [hei] at this
  ·have hkj':k=j:=by omega
   subst hkj';rw [ho] at hp;cases hp;have:=hr e he hb.1
   rwa [hei] at this
theorem ZsA (hT:TOk P E.T) (hC:Xq P GE.ng GE.G0 E.C) (hU:Qv P GE.ng GE.G0 E.cu/\(GE.v0≠none->E.kp=true)) (hcf:ZcQ E id ops=true) {K:St->Option β} {D:Nat->Prop} {Pr0:Nat->Nat->Prop} {w0:World} {Q:Exit->Act->World->Prop}
  (hQ:∀s1 a' w',K s1=some r->At GE D Pr0 w0 E.nt s1 a' w'->Q .normal a' w'):∀(fuel:Nat) (listed:Array Bool) (rem:List (Oper×Nat)) (s:St) (a:Act) (w:World),rem.length<=fuel->listed.size=ops.size->
  (∀i p,ops[i]? =some p->listed.getD i false=true->∀e∈p.after,Region.binds .any e=true->listed.getD e.on false=true)->
  rem.Pairwise (fun p q=>p.2 < q.2)->(∀p,p∈rem↔(ops[p.2]? =some p.1/\listed.getD p.2 true=false))->YF E id ops rem s K=some r->At GE D Pr0 w0 E.nt s a w->wpAny P .any ops Q fuel listed a w
 | 0,listed,rem,s,a,w,hl,_,_,_,hm,h,hat=>by
  have hr:rem= []:=Us (by omega);subst hr;refine ⟨?_,hQ s a w h hat⟩;cases hrd:Region.ready .any ops listed with
  |nil=>rfl
  |cons j js=>
   have hj:j∈Region.ready .any ops listed:=by rw [hrd];exact Uj ..
   obtain ⟨h1,o,h2,_⟩:=mem_ready.1 hj;have:=(hm (o,j)).2 ⟨h2,h1⟩;cases this
 |fuel + 1,listed,rem,s,a,w,hl,hsz,hcl,hpw,hm,h,hat=>by
  refine ⟨fun hrd=> ?_,fun i hi=> ?_⟩
  ·cases rem with
   |nil=>exact hQ s a w h hat
   |cons p rem=>
    exfalso
    obtain ⟨hp1,hp2⟩:=(hm p).1 (Uj ..);obtain ⟨hed,_⟩:=Zsx hcf hp1;have:p.2∈Region.ready .any ops listed:=mem_ready.2 ⟨hp2,p.1,hp1,fun e he hb=>by
     have hlt:=hed e he hb;have hpl:p.2 < ops.size:=(Array.getElem?_eq_some_iff.1 hp1).1;have hel:e.on < listed.size:=by omega
     cases hq:listed.getD e.on false with
     |true=>rfl
     |false=>
      exfalso
      have hq':listed.getD e.on true=false:=by simpa [hel] using hq
      obtain ⟨q,hq1⟩:∃q,ops[e.on]? =some q:=⟨_,MG (by omega)⟩
      have hmem:=(hm (q,e.on)).2 ⟨hq1,hq'⟩;rcases List.mem_cons.1 hmem with hmem |hmem
      ·rw [←hmem] at hlt;exact absurd hlt (MR _)
      ·have:=(List.pairwise_cons.1 hpw).1 _ hmem;simp only at this;omega⟩
    rw [hrd] at this;cases this
  ·obtain ⟨h1,o,h2,h3⟩:=mem_ready.1 hi;have hmem:=(hm (o,i)).2 ⟨h2,h1⟩;obtain ⟨L1,L2,rfl⟩:=List.append_of_mem hmem;have hpw':=List.pairwise_append.1 hpw;have hb:ZC E id ops i o s (fun s'=>YF E id ops (L1 ++ L2) s' K)=some r:=by
    have hlastc:Zbt ops i=true->ZC E id ops i o s (fun s'=>YF E id ops (L1 ++ L2) s' K)=some r:=fun hlast=>by
     have hL1:L1= []:=by
      cases hL:L1 with
      |nil=>rfl
      |cons y ys=>
       exfalso
       have hyL:y∈L1:=by rw [hL];exact Uj ..
       obtain ⟨y1,y2⟩:=(hm y).1 (Uz _ hyL);have hlt:=hpw'.2.2 y hyL _ (Uj ..);have h4:=Zsz hlast h2 h3 hcl i y.2 (by omega) hlt;have hyl:y.2 < listed.size:=by rw [hsz];exact (Array.getElem?_eq_some_iff.1 y1).1
       simp [hyl] at h4 y2;rw [y2] at h4;cases h4
     subst hL1;simp only [U9,YF] at h;exact ZcZ (x:=(o,i)) h
    rcases (Zsx hcf h2).2 with hlast | ⟨hq,hap⟩
    ·exact hlastc hlast
    cases hlst:Zbt ops i with
    |true=>exact hlastc hlst
    |false=>
     have hunf:∀y∈L1,ops[y.2]? =some y.1/\y.2 < i/\Kq ops o y.2=false:=fun y hy=>by
      obtain ⟨y1,y2⟩:=(hm y).1 (Uz _ hy);have hlt:=hpw'.2.2 y hy _ (Uj ..);refine ⟨y1,hlt,?_⟩;cases hf:Kq ops o y.2 with
      |false=>rfl
      |true=>
       have h4:=ZCU hf h3 hcl;have hyl:y.2 < listed.size:=by rw [hsz];exact (Array.getElem?_eq_some_iff.1 y1).1
       simp [hyl] at h4 y2;rw [y2] at h4;cases h4
     cases hs:YW E id i o with
     |true=>
      refine (Zss (x:=(o,i)) hs hlst hpw'.1 (fun y hy=> ?_) h).2;obtain ⟨y1,hlt,hf⟩:=hunf y hy;refine ⟨y1,hlt,hf,?_⟩;rcases hap y.1 y.2 y1 hlt with h |h | ⟨h5,h6⟩
      ·rw [hf] at h;cases h
      ·exfalso
       rcases h with h | ⟨_,_,hm,_⟩
       case inr=>have:=ZhB hm;rw [hs] at this;cases this
       obtain ⟨_,_,_,_,_,t,p,v,ho⟩:=Zao hs;unfold Kp exC Qp at h;rw [ho] at h;split at h
       ·cases h
       ·simp at h
      ·rcases h6 with ⟨_,h6,h7⟩ | ⟨h6,_⟩
       ·refine ⟨h5,h6,fun s=> ?_⟩;rcases h7 with h7 |h7
        ·rw [h7];rfl
        ·have:Yk y.1 s=false:=by
          unfold Zmn at h7;unfold Yk;split
          ·rename_i t n ho;rw [ho] at h7;cases h7
          ·rfl
         rw [this,Bool.and_false]
       ·rw [hs] at h6;cases h6
     |false=>
      have hq2:(mov E id (o,i)\/Qp E id i o=true)\/Qq E id i o=true/\Xz E ops=true:=by
       rcases hq with (hq |hq) |hq
       ·exact .inl hq
       ·rw [hs] at hq;cases hq
       ·exact .inr hq
      refine (ZhE (x:=(o,i)) (by
       rcases hq2 with (hq2 |hq2) |hq2
       ·exact .inl hq2
       ·exact .inr (.inl hq2)
       ·exact .inr (.inr hq2.1)) hs (fun y hy=> ?_) h).1
      obtain ⟨y1,hlt,hf⟩:=hunf y hy;rcases hap y.1 y.2 y1 hlt with h |h | ⟨h5,h6⟩
      ·rw [hf] at h;cases h
      ·rcases h with h |h
       ·refine .inl ⟨h,?_⟩;unfold Kp at h;split at h
        ·cases h
        ·split at h
         ·rename_i hc;rcases hq2 with hq2 |hq2
          ·exact hq2
          ·exfalso
           obtain ⟨_,_,_,_,_,ho,_⟩:=Zm7 hc;obtain ⟨_,_,_,_,_,c,f,ho',_⟩:=Znc hq2.1;rw [ho] at ho';cases ho'
         ·rw [Ub] at h;exact .inr h.1
       ·exact .inr (.inr h)
      ·rcases h6 with ⟨h6,_⟩ | ⟨_,h6⟩
       ·rw [hs] at h6;cases h6
       ·exact .inr (.inl ⟨h5,h6,hq2⟩)
   obtain ⟨s1,g1,g2⟩:=Zhs (GE:=GE) hT hC hU hb;unfold wpOp;simp only [h2];refine g2 D Pr0 w0 a w hat _ Q fun a' w' hat'=> ?_
   refine ZsA hT hC hU hcf hQ fuel _ (L1 ++ L2) s1 a' w' (by simp at hl ⊢;omega) (by simpa using hsz) (fun k p hk hlk e he hbe=> ?_) ?_ (fun p=> ?_) g1 hat'
   ·have hil:i < listed.size:=by rw [hsz];exact (Array.getElem?_eq_some_iff.1 h2).1
    have hset:∀m,listed.getD m false=true->(listed.setIfInBounds i true).getD m false=true:=fun m hm=>by
     by_cases hmi:i=m
     ·subst hmi;simp [hil]
     ·rw [getD_set_ne false hmi];exact hm
    by_cases hki:i=k
    ·subst hki;rw [h2] at hk;cases hk;exact hset _ (h3 e he hbe)
    ·rw [getD_set_ne false hki] at hlk;exact hset _ (hcl k p hk hlk e he hbe)
   ·rw [List.pairwise_append];exact ⟨hpw'.1,(List.pairwise_cons.1 hpw'.2.1).2,fun y hy z hz=>hpw'.2.2 y hy z (Ug _ hz)⟩
   ·have hil:i < listed.size:=by rw [hsz];exact (Array.getElem?_eq_some_iff.1 h2).1
    have hne:p∈L1 ++ L2->p.2≠i:=fun hp e=>by
     rcases List.mem_append.1 hp with hp |hp
     ·have:=hpw'.2.2 p hp _ (Uj ..);simp only at this;omega
     ·have:=(List.pairwise_cons.1 hpw'.2.1).1 p hp;simp only at this;omega
    constructor
    ·intro hp;have hn:=hne hp;have:=(hm p).1 (by
      rcases List.mem_append.1 hp with hp |hp
      ·exact Uz _ hp
      ·exact UD _ (Ug _ hp))
     exact ⟨this.1,by rw [getD_set_ne true (fun e=>hn e.symm)];exact this.2⟩
    ·rintro ⟨p1,p2⟩;have hn:i≠p.2:=fun e=>by
      subst e;simp [hil] at p2
     rw [getD_set_ne true hn] at p2;have:=(hm p).2 ⟨p1,p2⟩;rcases List.mem_append.1 this with h |h
     ·exact Uz _ h
     ·rcases List.mem_cons.1 h with h |h
      ·exact absurd (by rw [h]) hn
      ·exact UD _ h
end
end Go.Fx
