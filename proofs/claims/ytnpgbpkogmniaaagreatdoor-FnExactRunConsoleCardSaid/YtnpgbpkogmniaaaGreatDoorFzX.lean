/- Regions that draw their order. -/
import Derived.Test.YtnpgbpkogmniaaaGreatDoorFzW
set_option linter.all false
namespace Go.Fx
section
variable {P:Program} {GE:Glob} {β:Type} {r:β} {E:Ctx} {id:Nat} {ops:Array Oper}
def AgrT (ops:Array Oper) (o:Oper) (s s':St):Prop:=(∀t,t∈o.looksAt ops->s'.env t=s.env t)/\(∀key ob,s.L key=some ob->s'.L key=some ob)/\(Yl o s=true->s'.G=s.G)
theorem AgrT.agr {o:Oper} {s s':St} (h:AgrT ops o s s'):Agr (Yl o s) o.op.operands.toList s s':=⟨fun t ht=>h.1 t (by
 unfold Oper.looksAt;refine Uz _ ?_;rw [MY];exact ⟨_,ht,rfl⟩),h.2⟩
theorem AgrT.refl (o:Oper) (s:St):AgrT ops o s s:=⟨fun _ _=>rfl,fun _ _ h=>h,fun _=>rfl⟩
def eff (s:St) (n:List Nat) (d:Option Nat) (v:SV):St:=put (ZN s n) d v
theorem VI (s:St) (n:List Nat) (d:Option Nat) (v:SV):(eff s n d v).L=s.L:=by
 cases d <;> exact Zev s n
theorem V9 (s:St) (n:List Nat) (d:Option Nat) (v:SV):(eff s n d v).G=s.G:=by
 cases d <;> exact ZbM s n
theorem YM (s:St) (n:List Nat) (d:Option Nat) (v:SV) (t:Nat):(eff s n d v).env t=if d=some t then v else if t∈n then XU (s.env t) else s.env t:=by
 cases d with
 |none=>simp only [eff,put,reduceCtorEq,Mx];exact JK s n t
 |some d=>
  by_cases h:d=t
  ·subst h;simp [eff,put,ZE]
  ·simp only [eff,put,MN,h,Mx];rw [ZA _ _ (fun e=>h e.symm)];exact JK s n t
theorem St.ext' {s s':St} (h1:∀t,s.env t=s'.env t) (h2:s.L=s'.L) (h3:s.G=s'.G):s=s':=by
 obtain ⟨e,l,g⟩:=s;obtain ⟨e',l',g'⟩:=s';simp only at h1 h2 h3;obtain rfl:e=e':=funext h1;rw [h2,h3]
theorem Zaz {n:Nat} {l:List Nat} {o:Oper} (h:Qo ops l o=true) (hn:n∈l):n∉o.looksAt ops/\o.dst≠some n:=by
 have h:=MT.1 h n hn;simp only [Ub,UI,List.any_eq_false] at h;refine ⟨fun hm=> ?_,fun hd=> ?_⟩
 ·exact h.1 n hm (MC n)
 ·rw [hd] at h;have:=h.2;simp at this
theorem ZqT {o:Oper} {s:St} {n:List Nat} {d:Option Nat} {v:SV} (h:∀d',d=some d'->d'∉o.looksAt ops) (hn:Qo ops n o=true):AgrT ops o s (eff s n d v):=by
 refine ⟨fun t ht=> ?_,fun key ob hk=>by rw [VI];exact hk,fun _=>V9 _ _ _ _⟩;rw [YM,Uf (fun e=>h t e ht),Uf (fun e=>(Zaz hn e).1 ht)]
theorem ZAx {o:Oper} {s:St} {n:List Nat} {d:Option Nat} {v:SV} (h:∀d',d=some d'->d'∉o.looksAt ops) (hn:Qo ops n o=true):AgrT ops o (eff s n d v) s:=by
 obtain ⟨h1,h2,_⟩:=ZqT (s:=s) (v:=v) h hn;exact ⟨fun t ht=>(h1 t ht).symm,fun key ob hk=>by rw [VI] at hk;exact hk,fun _=>(V9 _ _ _ _).symm⟩
theorem ZAy {s:St} {n1 n2:List Nat} {d1 d2:Option Nat} {v1 v2:SV} (h:∀d,d1=some d->d2≠some d) (h1:∀d,d∈n1->d2≠some d) (h2:∀d,d∈n2->d1≠some d):
  eff (eff s n1 d1 v1) n2 d2 v2=eff (eff s n2 d2 v2) n1 d1 v1:=by
 refine St.ext' (fun t=> ?_) (by simp only [VI]) (by simp only [V9]);simp only [YM];by_cases e1:d1=some t
 ·rw [Uf (h t e1),Uf (fun e=>h2 t e e1),Uh e1,Uh e1]
 ·by_cases e2:d2=some t
  ·rw [Uh e2,Uf e1,Uf (fun e=>h1 t e e2),Uh e2]
  ·simp only [Uf e1,Uf e2];split <;> split <;> rfl
abbrev mov (E:Ctx) (id:Nat) (p:Oper×Nat):Prop:=JH E id p.1 p.2=true
abbrev tak (E:Ctx) (id:Nat) (p:Oper×Nat):List Nat:=YU (E.tk id p.2) p.1
theorem KC {o:Oper} {i:Nat} {s:St} {K:St->Option β} (hq:mov E id (o,i)) (h:ZC E id ops i o s K=some r):
  ∃v,K (eff s (tak E id (o,i)) o.dst v)=some r/\∀s',AgrT ops o s s'->∀K':St->Option β,ZC E id ops i o s' K'=K' (eff s' (tak E id (o,i)) o.dst v):=by
 have hm:JH E id o i=true:=hq;unfold ZC at h;cases hg:o.guard with
 |none=>
  rw [hg] at h;simp only at h;cases hok:okE E.nt E.kp o.dst with
  |false=>rw [hok] at h;cases h
  |true=>
   rw [hok] at h;obtain ⟨v,h1,h2⟩:=ZAw hm h;refine ⟨v,h1,fun s' ha K'=> ?_⟩;simp only [ZC,hg,hok,Uw];exact h2 s' ha.agr _
 |some jw=>
  have htn:tak E id (o,i)= []:=ZAs hg;rw [htn];have hm2:=hm;unfold JH at hm2;simp only [Ub,Me,UI] at hm2;rcases hm2 with hm2 |hm2
  case inr=>
   have:=(ZqQ hm2.1.1.1).1;rw [hg] at this;cases this
  obtain ⟨⟨⟨⟨hp,hmo⟩,hm2⟩,hpm⟩,hth⟩:=hm2;have htk:E.tk id i=false:=by
   rcases hm2 with hm2 |hm2
   ·exact hm2
   ·have:=(ZqP hm2.1).1;rw [hg] at this;cases this
  obtain ⟨j,want⟩:=jw;rw [hg] at h;simp only at h;split at h
  ·cases h
  ·rename_i t ht;cases hok:okE E.nt E.kp o.dst with
   |false=>rw [hok] at h;cases h
   |true=>
    rw [hok] at h;simp only [Uk,Uu] at h;have htl:t∈o.looksAt ops:=by
     unfold Oper.looksAt;refine UD _ ?_;simp [hg,ht]
    split at h
    ·rename_i hen;refine ⟨_,h,fun s' ha K'=> ?_⟩;have e1:s'.env t= .val (.tup []):=(ha.1 t htl).trans hen;simp only [ZC,hg,ht,hok,Uk,Uu,e1];rfl
    obtain ⟨b,hb,h⟩:=Zl3 h;have hen:=Zl1 hb;have hself:∀{s':St},s'.env t=s.env t->({s' with env:=upd s'.env t (XP b)}:St)=s':=fun {s'} e=>by
     have:upd s'.env t (XP b)=s'.env:=by rw [←hen,←e];exact ZqI _ _
     rw [this]
    have hrw:∀s',AgrT ops o s s'->∀K':St->Option β,ZC E id ops i o s' K'=bif b==want then opR E id i o s' (fun v s''=>K' (put s'' o.dst v)) else K' (put s' o.dst (.val Xd)):=by
     intro s' ha K';have e1:s'.env t=XP b:=(ha.1 t htl).trans hen;have e2:=hself (ha.1 t htl);have e3:svA (s'.env t)= .lit (.bool b):=by rw [e1];rfl
     have e4:s'.env t= .val (.lit (.bool b)):=e1;simp only [ZC,hg,ht,hok,Uk,Uu,e4,svA,Zbv,cnd];cases b <;> cases want <;> simp only [Uw,Uu] <;> rw [e2] <;> rfl
    have h':(bif b==want then opR E id i o s (fun v s''=>K (put s'' o.dst v)) else K (put s o.dst (.val Xd)))=some r:=by
     rw [←h];have e2:=hself (s':=s) rfl;cases b <;> cases want <;> simp only [Uw,Uu] <;> rw [e2] <;> rfl
    cases hbw:b==want with
    |true=>
     rw [hbw] at h';obtain ⟨v,h1,h2⟩:=ZqN hp hpm hth htk hmo h';exact ⟨v,h1,fun s' ha K'=>by rw [hrw s' ha K',hbw];exact h2 s' ha.agr _⟩
    |false=>
     rw [hbw] at h';exact ⟨.val Xd,h',fun s' ha K'=>by rw [hrw s' ha K',hbw];rfl⟩
def Part (E:Ctx) (id:Nat) (ops:Array Oper) (y x:Oper×Nat):Prop:=
 Oper.apart ops y.1 x.1=true/\Qo ops (tak E id y) x.1=true/\(Qm E id x.2 x.1=true\/Qo ops (tak E id x) y.1=true)
theorem Zg8 {o:Oper} {j:Nat} (h:Qm E id j o=true):Nat.beq (E.hb id j) 0=true/\E.th id j=false/\o.guard=none/\∃t,o.op= .alloc t:=by
 unfold Qm at h;simp only [Ub,UI] at h;refine ⟨h.1.1,h.1.2,?_⟩;have h:=h.2;split at h
 ·rename_i h1 h2;exact ⟨h1,_,h2⟩
 ·cases h
theorem ZAz {x y:Oper×Nat} {s:St} {K:St->Option β} (hx:mov E id x) (hy:mov E id y) (hap:Oper.apart ops y.1 x.1=true) (hl1:Qo ops (tak E id y) x.1=true) (hl2:Qo ops (tak E id x) y.1=true)
  (h:ZC E id ops y.2 y.1 s (fun s1=>ZC E id ops x.2 x.1 s1 K)=some r):ZC E id ops x.2 x.1 s (fun s1=>ZC E id ops y.2 y.1 s1 K)=some r:=by
 obtain ⟨a1,a2,a3⟩:=Oper.apart_spec hap;obtain ⟨vy,h1,fy⟩:=KC hy h;obtain ⟨vx,h2,fx⟩:=KC hx h1;rw [fx s (ZAx a1 hl1),fy _ (ZqT a3 hl2),ZAy (fun d hd e=>a2 d e hd) (fun d hd e=> ?_) (fun d hd e=> ?_)]
 ·exact h2
 ·exact (Zaz hl2 hd).2 e
 ·exact (Zaz hl1 hd).2 e
theorem Zl9 {o:Oper} {i:Nat} {t:Nat} {s:St} {K:SV->St->Option β} (hb:Nat.beq (E.hb id i) 0=true) (hth:E.th id i=false) (ho:o.op= .alloc t) (h:opR E id i o s K=some r):
  ∃d,o.dst=some d/\(E.T t).ok=true/\E.rt id i=none/\s.L d=none/\K (.lp d 0 0) {s with L:=upd s.L d (some ⟨false,(E.T t).size,[(E.T t).zero]⟩)}=some r:=by
 unfold opR at h;rw [hth] at h;simp only [Uu] at h;unfold Xk at h;unfold opM at h;rw [hb] at h;simp only [Uw] at h;cases hrt:E.rt id i with
 |none=>
  rw [hrt] at h;simp only [opK,ho] at h;cases hok:(E.T t).ok with
  |false=>rw [hok] at h;cases h
  |true=>
   rw [hok] at h;simp only [Uk,Uu,newObj] at h;split at h
   ·cases h
   ·rename_i d hd;split at h
    ·rename_i hL;exact ⟨d,hd,rfl,rfl,hL,h⟩
    ·cases h
 |some A=>
  rw [hrt] at h;simp only [opK,ho] at h;cases hok:(E.T t).ok with
  |false=>rw [hok] at h;cases h
  |true=>
   rw [hok] at h;simp only [Uk,Uu,newObj] at h;split at h
   ·cases h
   ·split at h
    ·cases h
    ·cases h
theorem ZAA {x y:Oper×Nat} {s:St} {K:St->Option β} (hx:Qm E id x.2 x.1=true) (hy:mov E id y) (hap:Oper.apart ops y.1 x.1=true) (hl1:Qo ops (tak E id y) x.1=true)
  (h:ZC E id ops y.2 y.1 s (fun s1=>ZC E id ops x.2 x.1 s1 K)=some r):ZC E id ops x.2 x.1 s (fun s1=>ZC E id ops y.2 y.1 s1 K)=some r:=by
 obtain ⟨a1,a2,a3⟩:=Oper.apart_spec hap;obtain ⟨hb,hth,hg,t,ho⟩:=Zg8 hx;obtain ⟨vy,h1,fy⟩:=KC hy h;unfold ZC at h1;rw [hg] at h1;simp only at h1;cases hok:okE E.nt E.kp x.1.dst with
 |false=>rw [hok] at h1;cases h1
 |true=>
  rw [hok] at h1;obtain ⟨d,hd,htok,hrt,hL,h2⟩:=Zl9 hb hth ho h1;rw [VI] at hL h2;have e:∀K':St->Option β,ZC E id ops x.2 x.1 s K'=K' (put {s with L:=upd s.L d (some ⟨false,(E.T t).size,[(E.T t).zero]⟩)} x.1.dst (.lp d 0 0)):=fun K'=>by
   unfold ZC;rw [hg];simp only [hok,Uw];unfold opR;rw [hth];simp only [Uu];unfold Xk;rw [hrt];simp only;unfold opM;rw [hb];simp only [Uw,opK,ho,htok,Uk,Uu,newObj];rw [hd];simp only [hL]
  have hag:AgrT ops y.1 s (put {s with L:=upd s.L d (some ⟨false,(E.T t).size,[(E.T t).zero]⟩)} x.1.dst (.lp d 0 0)):=by
   rw [hd];refine ⟨fun t' ht'=> ?_,fun key ob hk=> ?_,fun _=>rfl⟩
   ·exact ZA _ _ fun e1=>by subst e1;exact a3 _ hd ht'
   ·have:key≠d:=fun e1=>by subst e1;rw [hL] at hk;cases hk
    exact (ZA s.L _ this).trans hk
  rw [e,fy _ hag,←h2];congr 1;have hnd:d∉tak E id (y.1,y.2):=fun e'=>(Zaz hl1 e').2 hd
  have hdd:y.1.dst≠some d:=fun e'=>a2 d e' hd
  refine St.ext' (fun t'=> ?_) ?_ ?_
  ·rw [YM,hd];show _=upd _ d _ t';by_cases e1:t'=d
   ·subst e1;rw [Uf hdd,Uf hnd,ZE];exact ZE _ _ _
   ·rw [ZA _ _ e1,YM];have:(put {s with L:=upd s.L d (some ⟨false,(E.T t).size,[(E.T t).zero]⟩)} (some d) (.lp d 0 0)).env t'=s.env t':=ZA _ _ e1;rw [this]
  ·rw [VI,hd];rfl
  ·rw [V9,hd];show s.G=(eff s _ _ _).G;rw [V9]
theorem ZAB {α:Type} (f:Nat->α) {n d:Nat} (h:n≠d) (x y:α):upd (upd f d y) n x=upd (upd f n x) d y:=by
 funext i
 by_cases e1:i=n
 ·subst e1;rw [ZE,ZA _ _ h,ZE]
 ·by_cases e2:i=d
  ·subst e2;rw [ZA _ _ e1,ZE,ZE]
  ·rw [ZA _ _ e1,ZA _ _ e2,ZA _ _ e2,ZA _ _ e1]
theorem ZqU {tk:Bool} {cf:Value->Option AV} {x:Operand} {d:Nat} {b:AV} {s:St} {K:SV->St->Option β} (hne:x≠ .tmp d):
  rd tk cf x (put s (some d) (.val b)) K=rd tk cf x s (fun v s'=>K v (put s' (some d) (.val b))):=by
 cases x with
 |tmp n=>
  have hn:n≠d:=fun e=>hne (by rw [e])
  have e1:(put s (some d) (.val b)).env n=s.env n:=ZA _ _ hn;simp only [rd,e1];cases s.env n with
  |val a=>
   simp only;cases tk with
   |false=>rfl
   |true=>
    simp only [Uw];congr 1;show (⟨upd (upd s.env d (.val b)) n (.val a.clr),s.L,s.G⟩:St)=⟨upd (upd s.env n (.val a.clr)) d (.val b),s.L,s.G⟩
    rw [ZAB _ hn]
  |no=>rfl
  |lp k i o=>rfl
  |la k=>rfl
  |lv k i o g=>rfl
 |const v=>rfl
 |func f=>rfl
 |global g=>rfl
theorem ZAC (key:Nat) (f:Nat->SV) (d:Nat) (b:AV):nolv key (upd f d (.val b))=upd (nolv key f) d (.val b):=by
 funext i
 unfold nolv;by_cases e:i=d
 ·subst e;rw [ZE,ZE]
 ·rw [ZA _ _ e,ZA _ _ e]
theorem ZAD {dd:TD} {p:SV} {a:AV} {d:Nat} {b:AV} {s:St} {K:SV->St->Option β}:
  Ql E dd p a (put s (some d) (.val b)) K=Ql E dd p a s (fun v s'=>K v (put s' (some d) (.val b))):=by
 cases p with
 |lp key i off=>
  simp only [Ql,put,ZAC]
 |val v=>
  cases v <;> simp only [Ql,put]
 | _=>rfl
theorem ZAE {key:Nat} {f:Nat->SV} {n:Nat} {a:AV} (h:f n= .val a):nolv key f n= .val a:=by unfold nolv;rw [h]
theorem ZAF {dd:TD} {p:SV} {a:AV} {s:St} {K:SV->St->Option β} (h:Ql E dd p a s K=some r):
  ∃s2,K .no s2=some r/\(∀K':SV->St->Option β,Ql E dd p a s K'=K' .no s2)/\∀n c,s.env n= .val c->s2.env n= .val c:=by
 unfold Ql at h;split at h
 ·rename_i key i off;split at h
  ·rename_i o ho;cases hf:o.frz with
   |true=>rw [hf] at h;cases h
   |false=>
    rw [hf] at h;obtain ⟨x,h1,h2⟩:=ZcY h;obtain ⟨cs,h3,h4⟩:=Option.bind_eq_some_iff.1 h1;split at h4
    ·rename_i hle;refine ⟨_,h4,fun K'=> ?_,fun n c hn=>ZAE hn⟩;simp only [Ql,ho,hf,Uu];rw [h2,h3,UF,Uh hle]
    ·cases h4
  ·cases h
 ·rename_i id off;split at h
  ·rename_i row ho;obtain ⟨cs,h3,h4⟩:=Option.bind_eq_some_iff.1 h;split at h4
   ·rename_i hle;refine ⟨_,h4,fun K'=> ?_,fun n c hn=>hn⟩;simp only [Ql,ho];rw [h3,UF,Uh hle]
   ·cases h4
  ·cases h
 ·cases h
theorem ZaA {o:Oper} {j:Nat} (h:YW E id j o=true):(Nat.beq (E.hb id j) 0=true\/Nat.beq (E.hb id j) 6=true)/\E.th id j=false/\E.rt id j=none/\o.guard=none/\o.dst=none/\∃t p v,o.op= .store t p v:=by
 unfold YW at h;simp only [Ub,Me,UI,Ms] at h;refine ⟨h.1.1.1,h.1.1.2,h.1.2,?_⟩;have h:=h.2;split at h
 ·rename_i h1 h2 h3;exact ⟨h1,h3,_,_,_,h2⟩
 ·cases h
theorem ZqV {p o:Oper} {i:Nat} (h:ZgK E id i p o=true):Nat.beq (E.hb id i) 0=true/\E.th id i=false/\E.tk id i=false/\E.rt id i=none/\p.guard=none/\
  ∃n k d,p.op= .extract (.tmp n) k/\p.dst=some d/\Operand.tmp n∉o.op.operands.toList/\Operand.tmp d∉o.op.operands.toList:=by
 unfold ZgK at h;simp only [Ub,UI,Ms] at h;refine ⟨h.1.1.1.1,h.1.1.1.2,h.1.1.2,h.1.2,?_⟩;have h:=h.2;split at h
 ·rename_i n k d h1 h2 h3;refine ⟨h1,n,k,d,h2,h3,fun hm=> ?_,fun hm=> ?_⟩
  ·have:=MT.1 h _ hm;simp at this
  ·have:=MT.1 h _ hm;simp at this
 ·cases h
theorem ZqW {tk:Bool} {cf:Value->Option AV} {x:Operand} {n:Nat} {s:St} {K:SV->St->Option β} (hne:x≠ .tmp n) (h:rd tk cf x s K=some r):
  ∃v s',K v s'=some r/\(∀K':SV->St->Option β,rd tk cf x s K'=K' v s')/\s'.env n=s.env n:=by
 cases x with
 |tmp m=>
  have hm:n≠m:=fun e=>hne (by rw [e])
  simp only [rd] at h;split at h
  ·rename_i a ha;cases tk with
   |false=>exact ⟨_,_,h,fun K'=>by simp only [rd,ha,Uu],rfl⟩
   |true=>exact ⟨_,_,h,fun K'=>by simp only [rd,ha,Uw],ZA _ _ hm⟩
  ·cases h
  ·rename_i h1 h2;refine ⟨_,_,h,fun K'=> ?_,rfl⟩;simp only [rd]
 |const v=>
  obtain ⟨a,h1,h2⟩:=Option.bind_eq_some_iff.1 (show (cf v).bind (fun a=>K (.val a) s)=some r from h);exact ⟨_,_,h2,fun K'=>by simp only [rd,h1,UF],rfl⟩
 |func f=>exact ⟨_,_,h,fun K'=>rfl,rfl⟩
 |global g=>cases h
theorem ZqX {p o:Oper} {i j:Nat} (h:JI E id i j p o=true):Nat.beq (E.hb id j) 0=true/\ZgK E id i p o=true:=by
 unfold JI at h;simpa using h
theorem ZqY {x y:Oper×Nat} {s:St} {K:St->Option β} (hx:YW E id x.2 x.1=true) (hyj:JI E id y.2 x.2 y.1 x.1=true)
  (h:ZC E id ops y.2 y.1 s (fun s1=>ZC E id ops x.2 x.1 s1 K)=some r):ZC E id ops x.2 x.1 s (fun s1=>ZC E id ops y.2 y.1 s1 K)=some r:=by
 obtain ⟨_,x2,x3,x4,x5,t,p,v,x6⟩:=ZaA hx;obtain ⟨x1,hy⟩:=ZqX hyj;obtain ⟨y1,y2,y3,y4,y5,n,k,d,y6,y7,y8,y9⟩:=ZqV hy;have ey:∀(s:St) (K':St->Option β),ZC E id ops y.2 y.1 s K'=bif okE E.nt E.kp (some d) then (match s.env n with
   | .val (.tup vs)=>match vs[k]? with
    |some a=>K' (put s (some d) (.val a.clr))
    |none=>none
   | _=>none) else none:=fun s K'=>by
  unfold ZC;simp only [y5];unfold opR Xk opM;simp only [y2,Uu,y4,y1,Uw,opK,y6,y3,y7];rfl
 have ex:∀(s:St) (K':St->Option β),ZC E id ops x.2 x.1 s K'=(bif okE E.nt E.kp none then bif !(E.T t).ok then none else rd (E.tk id x.2) (constA (E.T t)) v s fun v s1=>
   match v with
   | .val a=>rd false (fun _=>none) p s1 fun p s2=>Ql E (E.T t) p a s2 fun v s'=>K' s'
   | _=>none else none):=fun s K'=>by
  unfold ZC;simp only [x4];unfold opR Xk opM;simp only [x2,Uu,x3,x1,Uw,opK,x6,x5];rfl
 have hv:v≠ .tmp d/\p≠ .tmp d/\v≠ .tmp n/\p≠ .tmp n:=by
  rw [x6] at y8 y9;simp only [Op.operands] at y8 y9;refine ⟨fun e=>y9 (by simp [e]),fun e=>y9 (by simp [e]),fun e=>y8 (by simp [e]),fun e=>y8 (by simp [e])⟩
 rw [ey] at h;cases hok:okE E.nt E.kp (some d) with
 |false=>rw [hok] at h;cases h
 |true=>
 rw [hok] at h;simp only [Uw] at h;split at h
 case h_2=>cases h
 rename_i vs hen;split at h
 case h_2=>cases h
 rename_i a hk;rw [ex] at h ⊢;cases hok2:okE E.nt E.kp none with
 |false=>rw [hok2] at h;cases h
 |true=>
 rw [hok2] at h;simp only [Uw] at h ⊢;cases htok:(E.T t).ok with
 |false=>rw [htok] at h;cases h
 |true=>
 rw [htok] at h;simp only [Uk,Uu] at h ⊢;rw [ZqU hv.1] at h;obtain ⟨v1,s1,h1,g1,k1⟩:=ZqW hv.2.2.1 h;rw [g1];cases v1 with
 |val a'=>
  simp only at h1 ⊢;rw [ZqU hv.2.1] at h1;obtain ⟨v2,s2,h2,g2,k2⟩:=ZqW hv.2.2.2 h1;rw [g2]
  try simp only at h2
  rw [ZAD] at h2;obtain ⟨s3,h3,g3,k3⟩:=ZAF h2;rw [g3,ey,hok];simp only [Uw,k3 n _ (k2.trans (k1.trans hen)),hk];exact h3
 |no=>cases h1
 |lp _ _ _=>cases h1
 |la _=>cases h1
 |lv _ _ _ _=>cases h1
theorem Zma {o:Oper} {i n k d:Nat} (h:exT E id i o=some (n,k,d)):Nat.beq (E.hb id i) 0=true/\E.th id i=false/\E.tk id i=true/\E.rt id i=none/\o.guard=none/\o.op= .extract (.tmp n) k/\o.dst=some d:=by
 unfold exT at h;cases hc:Nat.beq (E.hb id i) 0 && !E.th id i && E.tk id i && (E.rt id i).isNone with
 |false=>rw [hc] at h;cases h
 |true=>
  rw [hc] at h;simp only [Ub,UI,Ms] at hc;simp only [Uw] at h;split at h
  ·rename_i h1 h2 h3;cases h;exact ⟨hc.1.1.1,hc.1.1.2,hc.1.2,hc.2,h1,h2,h3⟩
  ·cases h
theorem Zmb {o:Oper} {i n k d:Nat} (h:exC E id i o=some (n,k,d)):Nat.beq (E.hb id i) 0=true/\E.th id i=false/\E.tk id i=false/\E.rt id i=none/\o.guard=none/\o.op= .extract (.tmp n) k/\o.dst=some d:=by
 unfold exC at h;cases hc:Nat.beq (E.hb id i) 0 && !E.th id i && !E.tk id i && (E.rt id i).isNone with
 |false=>rw [hc] at h;cases h
 |true=>
  rw [hc] at h;simp only [Ub,UI,Ms] at hc;simp only [Uw] at h;split at h
  ·rename_i h1 h2 h3;cases h;exact ⟨hc.1.1.1,hc.1.1.2,hc.1.2,hc.2,h1,h2,h3⟩
  ·cases h
def exS (s:St) (n k d:Nat) (vs:List AV) (a:AV):St:=put {s with env:=upd s.env n (.val (.tup (vs.modify k AV.clr)))} (some d) (.val a)
theorem ZqZ {y:Oper×Nat} {n k d:Nat} (hy:exT E id y.2 y.1=some (n,k,d)) {β:Type} (s:St) (K':St->Option β):ZC E id ops y.2 y.1 s K'=bif okE E.nt E.kp (some d) then (match s.env n with
   | .val (.tup vs)=>match vs[k]? with
    |some a=>K' (exS s n k d vs a)
    |none=>none
   | _=>none) else none:=by
 obtain ⟨y1,y2,y3,y4,y5,y6,y7⟩:=Zma hy;unfold ZC;simp only [y5];unfold opR Xk opM;simp only [y2,Uu,y4,y1,Uw,opK,y6,y3,y7];rfl
theorem ZAG {y:Oper×Nat} {n k d:Nat} (hy:exC E id y.2 y.1=some (n,k,d)) {β:Type} (s:St) (K':St->Option β):ZC E id ops y.2 y.1 s K'=bif okE E.nt E.kp (some d) then (match s.env n with
   | .val (.tup vs)=>match vs[k]? with
    |some a=>K' (put s (some d) (.val a.clr))
    |none=>none
   | _=>none) else none:=by
 obtain ⟨y1,y2,y3,y4,y5,y6,y7⟩:=Zmb hy;unfold ZC;simp only [y5];unfold opR Xk opM;simp only [y2,Uu,y4,y1,Uw,opK,y6,y3,y7];rfl
theorem Zq0 {y:Oper×Nat} {n k d:Nat} (hy:exT E id y.2 y.1=some (n,k,d)) {s:St} {K:St->Option β} (h:ZC E id ops y.2 y.1 s K=some r):
  okE E.nt E.kp (some d)=true/\∃vs a,s.env n= .val (.tup vs)/\vs[k]? =some a/\K (exS s n k d vs a)=some r:=by
 rw [ZqZ hy] at h;cases hok:okE E.nt E.kp (some d) with
 |false=>rw [hok] at h;cases h
 |true=>
  rw [hok] at h;simp only [Uw] at h;split at h
  case h_2=>cases h
  rename_i vs hen;split at h
  case h_2=>cases h
  rename_i a hk;exact ⟨rfl,vs,a,hen,hk,h⟩
theorem Zmc {y:Oper×Nat} {n k d:Nat} (hy:exT E id y.2 y.1=some (n,k,d)) {s:St} {K:St->Option β} (hok:okE E.nt E.kp (some d)=true) {vs:List AV} {a:AV} (hen:s.env n= .val (.tup vs)) (hk:vs[k]? =some a):
  ZC E id ops y.2 y.1 s K=K (exS s n k d vs a):=by
 rw [ZqZ hy,hok];simp only [Uw,hen,hk]
theorem Zew (s:St) (n k d:Nat) (vs:List AV) (a:AV) (t:Nat):(exS s n k d vs a).env t=if t=d then .val a else if t=n then .val (.tup (vs.modify k AV.clr)) else s.env t:=by
 unfold exS;show upd (upd s.env n _) d _ t=_;by_cases h1:t=d
 ·subst h1;rw [ZE,Uh rfl]
 ·rw [ZA _ _ h1,Uf h1];by_cases h2:t=n
  ·subst h2;rw [ZE,Uh rfl]
  ·rw [ZA _ _ h2,Uf h2]
theorem ZAH {x y:Oper×Nat} {s:St} {K:St->Option β} (hp:Kw E id y.2 x.2 y.1 x.1=true)
  (h:ZC E id ops y.2 y.1 s (fun s1=>ZC E id ops x.2 x.1 s1 K)=some r):ZC E id ops x.2 x.1 s (fun s1=>ZC E id ops y.2 y.1 s1 K)=some r:=by
 unfold Kw at hp;cases hy:exT E id y.2 y.1 with
 |none=>rw [hy] at hp;cases hp
 |some q=>
 obtain ⟨n,k,d⟩:=q;rw [hy] at hp;obtain ⟨hok,vs,a,hen,hk,h1⟩:=Zq0 hy h;simp only at hp;cases hx:exC E id x.2 x.1 with
 |some q'=>
  obtain ⟨n',k',d'⟩:=q';rw [hx] at hp;simp only [Ub,Me,UI] at hp;have ne:∀{a b:Nat},Nat.beq a b=false->a≠b:=fun {a b} h e=>by rw [e,MC] at h;cases h
  obtain ⟨hnk,⟨hdd,hdn,hdn'⟩,hdn2⟩:=hp;have hdd:=ne hdd;have hdn:=ne hdn;have hdn':=ne hdn';have hdn2:=ne hdn2;rw [ZAG hx] at h1 ⊢;cases hok':okE E.nt E.kp (some d') with
  |false=>rw [hok'] at h1;cases h1
  |true=>
   rw [hok'] at h1;simp only [Uw] at h1 ⊢;rw [Zew,Uf (Ne.symm hdn')] at h1;have key:∃vs' a',s.env n'= .val (.tup vs')/\vs'[k']? =some a'/\K (put (exS s n k d vs a) (some d') (.val a'.clr))=some r:=by
    by_cases hnn:n'=n
    ·subst hnn;rw [Uh rfl] at h1;simp only at h1;have hkk:k'≠k:=by
      rcases hnk with h |h
      ·exact absurd rfl (ne h)
      ·exact ne h
     rw [Mj] at h1;cases hv:vs[k']? with
     |none=>rw [hv] at h1;cases h1
     |some a'=>
      rw [hv] at h1;simp only [Option.map_eq_map,Fu,Uf (Ne.symm hkk)] at h1;exact ⟨vs,a',hen,hv,h1⟩
    ·rw [Uf hnn] at h1;split at h1
     case h_2=>cases h1
     rename_i vs' hen';split at h1
     case h_2=>cases h1
     rename_i a' hv;exact ⟨vs',a',hen',hv,h1⟩
   obtain ⟨vs',a',e1,e2,e3⟩:=key;rw [e1];simp only [e2];have hen2:(put s (some d') (.val a'.clr)).env n= .val (.tup vs):=(ZA _ _ (Ne.symm hdn)).trans hen;rw [Zmc hy hok hen2 hk,←e3];congr 1;refine St.ext' (fun t=> ?_) rfl rfl;rw [Zew];show _=upd (exS s n k d vs a).env d' _ t;by_cases h1:t=d'
   ·subst h1;rw [Uf hdd,Uf hdn,ZE];exact ZE _ _ _
   ·rw [ZA _ _ h1,Zew];have:(put s (some d') (.val a'.clr)).env t=s.env t:=ZA _ _ h1;rw [this]
 |none=>
  rw [hx] at hp;simp only [Ub] at hp;obtain ⟨hnew,hp⟩:=hp;obtain ⟨hb,hth,hg,t,ho⟩:=Zg8 hnew;unfold ZC at h1;rw [hg] at h1;simp only at h1;cases hok':okE E.nt E.kp x.1.dst with
  |false=>rw [hok'] at h1;cases h1
  |true=>
  rw [hok'] at h1;obtain ⟨d',hd,htok,hrt,hL,h2⟩:=Zl9 hb hth ho h1;rw [hd] at hp;simp only [Ub,UI] at hp;have ne:∀{a b:Nat},Nat.beq a b=false->a≠b:=fun {a b} h e=>by rw [e,MC] at h;cases h
  have hdd:=ne hp.1;have hdn:=ne hp.2;have hL':s.L d'=none:=hL;have e:∀K':St->Option β,ZC E id ops x.2 x.1 s K'=K' (put {s with L:=upd s.L d' (some ⟨false,(E.T t).size,[(E.T t).zero]⟩)} (some d') (.lp d' 0 0)):=fun K'=>by
   unfold ZC;rw [hg];simp only [hok',Uw];unfold opR;rw [hth];simp only [Uu];unfold Xk;rw [hrt];simp only;unfold opM;rw [hb];simp only [Uw,opK,ho,htok,Uk,Uu,newObj];rw [hd];simp only [hL']
  rw [e];have hen2:(put {s with L:=upd s.L d' (some ⟨false,(E.T t).size,[(E.T t).zero]⟩)} (some d') (.lp d' 0 0)).env n= .val (.tup vs):=(ZA _ _ (Ne.symm hdn)).trans hen;rw [Zmc hy hok hen2 hk,←h2,hd];congr 1;refine St.ext' (fun t'=> ?_) rfl rfl;rw [Zew];show _=upd (exS s n k d vs a).env d' _ t';by_cases h1:t'=d'
  ·subst h1;rw [Uf hdd,Uf hdn,ZE];exact ZE _ _ _
  ·rw [ZA _ _ h1,Zew];have:(put {s with L:=upd s.L d' (some ⟨false,(E.T t).size,[(E.T t).zero]⟩)} (some d') (.lp d' 0 0)).env t'=s.env t':=ZA _ _ h1;rw [this]
theorem ZAI {tk:Bool} {cf:Value->Option AV} {x:Operand} {d:Nat} {b:SV} {s:St} {K:SV->St->Option β} (hne:x≠ .tmp d):
  rd tk cf x (put s (some d) b) K=rd tk cf x s (fun v s'=>K v (put s' (some d) b)):=by
 cases x with
 |tmp n=>
  have hn:n≠d:=fun e=>hne (by rw [e])
  have e1:(put s (some d) b).env n=s.env n:=ZA _ _ hn;simp only [rd,e1];cases s.env n with
  |val a=>
   simp only;cases tk with
   |false=>rfl
   |true=>
    simp only [Uw];congr 1;refine St.ext' (fun t=> ?_) rfl rfl;show upd (upd s.env d b) n (.val a.clr) t=upd (upd s.env n (.val a.clr)) d b t;by_cases c1:t=n
    ·subst c1;rw [ZE,ZA _ _ hn,ZE]
    ·by_cases c2:t=d
     ·subst c2;rw [ZA _ _ c1,ZE,ZE]
     ·rw [ZA _ _ c1,ZA _ _ c2,ZA _ _ c2,ZA _ _ c1]
  |no=>rfl
  |lp k i o=>rfl
  |la k=>rfl
  |lv k i o g=>rfl
 |const v=>rfl
 |func f=>rfl
 |global g=>rfl
theorem ZAJ {tk:Bool} {cf:Value->Option AV} {x:Operand} {s:St} {K:SV->St->Option β} (h:rd tk cf x s K=some r):
  ∃v n,K v (ZN s n)=some r/\(∀K':SV->St->Option β,rd tk cf x s K'=K' v (ZN s n))/\∀t,t∈n->x= .tmp t:=by
 cases x with
 |tmp n=>
  simp only [rd] at h;split at h
  ·rename_i a ha;cases tk with
   |false=>exact ⟨_,[],h,fun K'=>by simp only [rd,ha,Uu,ZN],fun t e=>by cases e⟩
   |true=>
    have et:ZN s [n]={s with env:=upd s.env n (.val a.clr)}:=by simp only [ZN,Y7,ha]
    refine ⟨.val a,[n],?_,fun K'=> ?_,fun t e=>by rw [Mn] at e;rw [e]⟩
    ·rw [et];exact h
    ·rw [et];simp only [rd,ha,Uw]
  ·cases h
  ·rename_i h1 h2;refine ⟨_,[],h,fun K'=> ?_,fun t e=>by cases e⟩;simp only [rd,ZN]
 |const v=>
  obtain ⟨a,h1,h2⟩:=Option.bind_eq_some_iff.1 (show (cf v).bind (fun a=>K (.val a) s)=some r from h);exact ⟨_,[],h2,fun K'=>by simp only [rd,h1,UF,ZN],fun t e=>by cases e⟩
 |func f=>exact ⟨_,[],h,fun K'=>rfl,fun t e=>by cases e⟩
 |global g=>cases h
section
variable {L0:Nat->Option LObj}
theorem Zg9 {cf:Value->Option AV} {x:Operand} {s:St} {K:SV->St->Option β}:rd false cf x {s with L:=L0} K=rd false cf x s (fun v _=>K v {s with L:=L0}):=by
 cases x with
 |tmp n=>
  simp only [rd];cases s.env n <;> rfl
 |const v=>rfl
 |func f=>rfl
 |global g=>rfl
theorem ZAK {x:Operand} {s:St} {K:AV->Option β}:rd0 x {s with L:=L0} K=rd0 x s K:=by
 cases x <;> rfl
theorem Zmd {cf:Nat->Value->Option AV}:∀{xs:List (Nat×Operand)} {s:St} {K:List (Nat×AV)->St->Option β},Xe false cf xs {s with L:=L0} K=Xe false cf xs s (fun v _=>K v {s with L:=L0})
 | [],s,K=>rfl
 | (i,x)::xs,s,K=>by
  simp only [Xe];rw [Zg9];have e:∀(K':SV->St->Option β),rd false (cf i) x s K'=rd false (cf i) x s (fun v _=>K' v s):=fun K'=>Zg9 (L0:=s.L) (s:=s)
  refine Eq.trans ?_ (e _).symm;congr 1
  funext v _
  cases v with
  |val a=>exact Zmd
  | _=>rfl
theorem Zq1 {d:TD} {v:SV} {s:St} {K:SV->St->Option β} (h:∀k i off,v= .lp k i off->L0 k=s.L k):Va E d false v {s with L:=L0} K=Va E d false v s (fun v _=>K v {s with L:=L0}):=by
 cases v with
 |lp k i off=>
  simp only [Va,h k i off rfl,Uu]
 |val a=>cases a <;> simp only [Va,Uu]
 | _=>rfl
theorem Zq2 {vr:Nat} {o:Oper} {s:St} {K:SV->St->Option β} (hk:Zel o.op=true) (hl:∀t q k i off,o.op= .load t (.tmp q)->s.env q= .lp k i off->L0 k=s.L k):
  opK E false false vr o {s with L:=L0} K=opK E false false vr o s (fun v _=>K v {s with L:=L0}):=by
 unfold Zel at hk;split at hk
 ·rename_i n ho;simp only [opK,ho];exact Zg9
 ·rename_i t n f ho;simp only [opK,ho];split
  ·split
   ·rw [Zg9]
   ·rfl
  ·rfl
 ·rename_i ho;simp only [opK,ho,ZAK]
 ·rename_i ho;simp only [opK,ho];split
  ·exact Zmd
  ·exact Zmd
  ·rfl
 ·rename_i t q ho;simp only [opK,ho];cases (E.T t).ok with
  |false=>rfl
  |true=>
   simp only [Uk,Uu,rd];cases hq:s.env q with
   |val a=>exact Zq1 fun k i off h=>by cases h
   |no=>rfl
   |lp k i off=>exact Zq1 fun k' i' off' h=>by cases h;exact hl t q k i off ho hq
   |la k=>rfl
   |lv k i off g=>rfl
 ·cases hk
end
theorem Zme {l:List Operand} {n:Nat} (h:ZgM l n=true):Operand.tmp n∉l:=fun hm=>by
 have:=MT.1 h _ hm;simp at this
theorem Zha {p o:Oper} {i:Nat} (h:Zar E ops id i p o=true):Nat.beq (E.hb id i) 0=true/\E.th id i=false/\(E.tk id i=false\/ZgL p.op=true)/\E.mo id i=false/\E.rt id i=none/\p.guard=none/\Zel p.op=true/\
  (∃d,p.dst=some d/\Operand.tmp d∉o.op.operands.toList/\Operand.tmp d∉p.op.operands.toList)/\(∀t,Operand.tmp t∈p.op.operands.toList->Operand.tmp t∉o.op.operands.toList)/\
  ∀q m,ops[m]? =some q->i < m->∀x∈YP p,q.dst≠some x.1:=by
 unfold Zar at h;simp only [Ub,Me,UI,Ms] at h;obtain ⟨⟨⟨⟨⟨⟨⟨⟨⟨h1,h2⟩,h3⟩,h4⟩,h5⟩,h6⟩,h7⟩,h8⟩,h9⟩,h10⟩:=h;refine ⟨h1,h2,h3,h4,h5,h6,h7,?_,fun t ht=> ?_,fun q m hq hm x hx=> ?_⟩
 ·cases hd:p.dst with
  |none=>rw [hd] at h8;cases h8
  |some d=>
   rw [hd] at h8;simp only [Ub] at h8;exact ⟨d,rfl,Zme h8.1,Zme h8.2⟩
 ·exact Zme (MT.1 h9 _ ht)
 ·have hmem:(q,m)∈ops.toList.zipIdx:=by rw [UO];simpa using hq
  have h11:=MT.1 h10 _ hmem;simp only [Me,UI] at h11;rcases h11 with h11 |h11
  ·have:Nat.blt i m=true:=by simp [Nat.blt];omega
   rw [this] at h11;cases h11
  ·intro hd;have:=MT.1 h11 _ hx;rw [hd] at this;simp at this
theorem Zq3 {L0:Nat->Option LObj} {tk:Bool} {cf:Value->Option AV} {x:Operand} {s:St} {K:SV->St->Option β}:rd tk cf x {s with L:=L0} K=rd tk cf x s (fun v s'=>K v {s' with L:=L0}):=by
 cases x with
 |tmp n=>
  simp only [rd]
 |const v=>rfl
 |func f=>rfl
 |global g=>rfl
theorem ZAL {y:Oper×Nat} {x:Oper} (hp:Zar E ops id y.2 y.1 x=true) {L0:Nat->Option LObj} {s:St} {K:St->Option β} (hl:∀t q k i off,y.1.op= .load t (.tmp q)->s.env q= .lp k i off->L0 k=s.L k) (h:ZC E id ops y.2 y.1 s K=some r):
  ZC E id ops y.2 y.1 {s with L:=L0} (fun s1=>K {s1 with L:=s.L})=some r:=by
 obtain ⟨h1,h2,h3,h4,h5,h6,h7,_⟩:=Zha hp;have e:∀(s:St) (K:St->Option β),ZC E id ops y.2 y.1 s K=bif okE E.nt E.kp y.1.dst then opK E (E.tk id y.2) false (E.vr id y.2) y.1 s (fun v s'=>K (put s' y.1.dst v)) else none:=fun s K=>by
  unfold ZC;rw [h6];simp only;unfold opR;rw [h2];simp only [Uu];unfold Xk;rw [h5];simp only;unfold opM;rw [h1,h4];rfl
 rw [e] at h ⊢;cases hok:okE E.nt E.kp y.1.dst with
 |false=>rw [hok] at h;cases h
 |true=>
  rw [hok] at h;simp only [Uw] at h ⊢;rcases h3 with h3 |h3
  ·rw [h3] at h ⊢;rw [Zq2 h7 hl];have e2:=Zq2 (E:=E) (vr:=E.vr id y.2) (L0:=s.L) (K:=fun v s'=>K (put s' y.1.dst v)) h7 (fun t q k i off _ _=>rfl) (s:=s);rw [show ({s with L:=s.L}:St)=s from rfl] at e2;rw [e2] at h;rw [←h];congr 1
   funext v _
   congr 1;cases y.1.dst <;> rfl
  ·unfold ZgL at h3;split at h3
   case h_2=>cases h3
   rename_i n ho;simp only [opK,ho] at h ⊢;rw [Zq3];have e2:=Zq3 (L0:=s.L) (tk:=E.tk id y.2) (cf:=constA (E.T y.1.type)) (x:= .tmp n) (s:=s) (K:=fun v s'=>K (put s' y.1.dst v));rw [show ({s with L:=s.L}:St)=s from rfl] at e2;rw [e2] at h;rw [←h];congr 1
   funext v s1
   congr 1;cases y.1.dst <;> rfl
def ZbN (E:Ctx) (τ:Bool) (ty t0:Nat) (v0:Operand) (s:St) (K:St->Option β):Option β:=
 bif okE E.nt E.kp none then bif !(E.T ty).ok then none else rd τ (constA (E.T ty)) v0 s fun v s1=>
  match v with
  | .val a=>rd false (fun _=>none) (.tmp t0) s1 fun p s2=>Ql E (E.T ty) p a s2 fun _ s'=>K s'
  | _=>none else none
theorem Zq4 {cf:Value->Option AV} {x:Operand} {tk:Bool}:∀{l:List Nat} {s:St} {K:SV->St->Option β},(∀n∈l,x≠ .tmp n)->rd tk cf x (ZN s l) K=rd tk cf x s (fun v s'=>K v (ZN s' l))
 | [],s,K,_=>rfl
 |n::l,s,K,h=>by
  have hn:=h n (Un ..);simp only [ZN];rw [Zq4 (fun m hm=>h m (Ui _ hm))];cases x with
  |tmp m=>
   have hm:m≠n:=fun e=>hn (by rw [e])
   have e1:(Y7 s n).env m=s.env m:=by rw [Zg5,Uf (fun e=>hm e.symm)]
   simp only [rd,e1];cases s.env m with
   |val a=>
    cases tk with
    |false=>rfl
    |true=>
     simp only [Uw];congr 2;refine St.ext' (fun t=> ?_) ?_ ?_
     ·show upd (Y7 s n).env m _ t=(Y7 {s with env:=upd s.env m (.val a.clr)} n).env t;rw [Zg5];by_cases e2:t=m
      ·subst e2;rw [ZE,Uf (fun e=>hm e.symm)];exact (ZE _ _ _).symm
      ·rw [ZA _ _ e2,Zg5];show _=if n=t then XU (upd s.env m _ t) else upd s.env m _ t
       rw [ZA _ _ e2]
     ·show (Y7 s n).L=_;rw [Zl7,Zl7]
     ·show (Y7 s n).G=_;rw [Zl8,Zl8]
   |no=>rfl
   |lp k i o=>rfl
   |la k=>rfl
   |lv k i o g=>rfl
  |const v=>rfl
  |func f=>rfl
  |global g=>rfl
theorem Zq5 {τ:Bool} {ty t0:Nat} {v0:Operand} {y:Oper×Nat} {l:List Nat} {d:Nat} {vy:SV} {s:St} {K:St->Option β} {kk i0 off0:Nat}
  (hv0:v0≠ .tmp d) (ht0:t0≠d) (hl:∀t∈l,Operand.tmp t∈y.1.op.operands.toList) (h9:∀t,Operand.tmp t∈y.1.op.operands.toList->t≠t0/\v0≠ .tmp t) (h6:y.1.guard=none)
  (hnlv:∀k i o g,vy≠ .lv k i o g) (hops:∀t,Operand.tmp t∈y.1.op.operands.toList->t≠d/\∀k i o g,s.env t≠ .lv k i o g) (hk:s.env t0= .lp kk i0 off0)
  (g2:∀s',AgrT ops y.1 {s with L:=fun k=>if k=kk then none else s.L k} s'->∀K':St->Option β,ZC E id ops y.2 y.1 s' K'=K' (eff s' l (some d) vy))
  (h:ZbN E τ ty t0 v0 (eff s l (some d) vy) K=some r):ZbN E τ ty t0 v0 s (fun s1=>ZC E id ops y.2 y.1 s1 K)=some r:=by
 unfold ZbN at h ⊢;cases hok2:okE E.nt E.kp none with
 |false=>rw [hok2] at h;cases h
 |true=>
 rw [hok2] at h;simp only [Uw] at h ⊢;cases htok:(E.T ty).ok with
 |false=>rw [htok] at h;cases h
 |true=>
 rw [htok] at h;simp only [Uk,Uu] at h ⊢;rw [show eff s l (some d) vy=put (ZN s l) (some d) vy from rfl,ZAI hv0,Zq4 fun n hn=>(h9 n (hl n hn)).2] at h;obtain ⟨v1,tkd,c1,c2,c3⟩:=ZAJ h;rw [c2];cases v1 with
 |val a=>
  simp only at c1 ⊢;have et0:∃i off,(ZN s tkd).env t0= .lp kk i off:=⟨i0,off0,by
   rw [JK];split
   ·rw [hk];rfl
   ·exact hk⟩
  obtain ⟨i1,off1,et0⟩:=et0;have et1:(put (ZN (ZN s tkd) l) (some d) vy).env t0= .lp kk i1 off1:=(ZA _ _ ht0).trans (by
   rw [JK,Uf (fun hm=>(h9 t0 (hl t0 hm)).1 rfl)];exact et0)
  simp only [rd,et1] at c1;simp only [rd,et0];simp only [Ql] at c1 ⊢;have hLt:(put (ZN (ZN s tkd) l) (some d) vy).L kk=(ZN s tkd).L kk:=by
   show (ZN (ZN s tkd) l).L kk=_;rw [Zev]
  rw [hLt] at c1;split at c1
  case h_2=>cases c1
  rename_i ob hob
  try rw [hob]
  try simp only
  cases hf:ob.frz with
  |true=>rw [hf] at c1;cases c1
  |false=>
   rw [hf] at c1;simp only [Uu] at c1 ⊢;obtain ⟨row,r1,r2⟩:=ZcY c1;rw [r2];obtain ⟨cs,r3,r4⟩:=Option.bind_eq_some_iff.1 r1;rw [r3,UF];split at r4
   case isFalse=>cases r4
   rename_i hle;have hntk:∀t,Operand.tmp t∈y.1.op.operands.toList->t∉tkd:=fun t hto e=>(h9 t hto).2 (c3 t e)
   have hkeep:∀t,Operand.tmp t∈y.1.op.operands.toList->Fx.nolv kk (ZN s tkd).env t=s.env t:=fun t hto=>by
    unfold Fx.nolv;rw [JK,Uf (hntk t hto)];cases he:s.env t with
    |lv k i o g=>exact absurd he ((hops t hto).2 k i o g)
    | _=>rfl
   rw [Uh hle,g2]
   ·rw [←r4];congr 1;refine St.ext' (fun t=> ?_) ?_ ?_
    ·show (eff _ l (some d) vy).env t=Fx.nolv kk (upd (ZN (ZN s tkd) l).env d vy) t;rw [YM];by_cases e:d=t
     ·subst e;rw [Uh rfl];unfold Fx.nolv;rw [ZE];cases vy with
      |lv k i o g=>exact absurd rfl (hnlv k i o g)
      | _=>rfl
     ·rw [Uf (fun e'=>e (Uo e'))];by_cases hm:t∈l
      ·rw [Uh hm];have hto:=hl t hm;have e1:=hkeep t hto;show XU (Fx.nolv kk (ZN s tkd).env t)=_;rw [e1];unfold Fx.nolv;rw [ZA _ _ (Ne.symm e),JK,Uh hm,JK,Uf (hntk t hto)];cases he:s.env t with
       |lv k i o g=>exact absurd he ((hops t hto).2 k i o g)
       | _=>rfl
      ·rw [Uf hm];unfold Fx.nolv;rw [ZA _ _ (Ne.symm e),JK (ZN s tkd),Uf hm]
    ·have:(put (ZN (ZN s tkd) l) (some d) vy).L=(ZN s tkd).L:=Zev _ _;rw [VI];show upd (ZN s tkd).L kk _=upd (put (ZN (ZN s tkd) l) (some d) vy).L kk _;rw [this]
    ·rw [V9];show (ZN s tkd).G=(ZN (ZN s tkd) l).G;rw [ZbM,ZbM,ZbM]
   ·refine ⟨fun t ht=> ?_,fun key ob' hke=> ?_,?_⟩
    ·have hto:Operand.tmp t∈y.1.op.operands.toList:=by
      unfold Oper.looksAt at ht;rcases List.mem_append.1 ht with ht |ht
      ·rw [MY] at ht;obtain ⟨op,ho1,ho2⟩:=ht;split at ho2
       ·cases ho2;exact ho1
       ·cases ho2
      ·rw [h6] at ht;simp at ht
     exact hkeep t hto
    ·have hke':(if key=kk then none else s.L key)=some ob':=hke;split at hke'
     ·cases hke'
     ·rename_i hne;show upd (ZN s tkd).L kk _ key=some ob';rw [ZA _ _ hne,Zev];exact hke'
    ·intro _;show (ZN s tkd).G=s.G;exact ZbM _ _
 |no=>cases c1
 |lp _ _ _=>cases c1
 |la _=>cases c1
 |lv _ _ _ _=>cases c1
theorem Zq6 {x y:Oper×Nat} {s:St} (hpl:Zar E ops id y.2 y.1 x.1=true) (hy:mov E id y) {vy:SV} {d:Nat} (hd:y.1.dst=some d) {r:β} (Q:Nat->Bool)
  (fy:∀s',AgrT ops y.1 s s'->∀K':St->Option β,ZC E id ops y.2 y.1 s' K'=K' (eff s' (tak E id y) y.1.dst vy)) (hload:∀t q k i off,y.1.op= .load t (.tmp q)->s.env q= .lp k i off->Q k=false):
  ∀s',AgrT ops y.1 {s with L:=fun k=>bif Q k then none else s.L k} s'->∀K':St->Option β,ZC E id ops y.2 y.1 s' K'=K' (eff s' (tak E id y) (some d) vy):=by
 classical
 have hrun:∀K':St->Option β,K' (eff s (tak E id y) (some d) vy)=some r->ZC E id ops y.2 y.1 s K'=some r:=fun K' hK=>by
  rw [fy s (AgrT.refl _ _) K',hd];exact hK
 obtain ⟨v',g1,g2⟩:=KC hy (ZAL (L0:=fun k=>bif Q k then none else s.L k) hpl (fun t q k i off ho' hq=>by
  show (bif Q k then none else s.L k)=s.L k;rw [hload t q k i off ho' hq];rfl) (hrun (fun s1=>if s1.env d=vy then some r else none) (by
   rw [Uh (show (eff s (tak E id y) (some d) vy).env d=vy by rw [YM,Uh rfl])])))
 have hv':v'=vy:=by
  rw [hd] at g1;have e1:(eff ({s with L:=fun k=>bif Q k then none else s.L k}:St) (tak E id (y.1,y.2)) (some d) v').env d=v':=by rw [YM,Uh rfl]
  simp only [e1] at g1;by_cases c:v'=vy
  ·exact c
  ·rw [Uf c] at g1;cases g1
 subst hv';rw [hd] at g2;exact g2
theorem ZAM {n:Nat} {l:List Nat} {d:Nat} {vy:SV} {s:St} (hd:n≠d) (hl:n∉l):JG n (eff s l (some d) vy)=(JG n s).map fun s1=>eff s1 l (some d) vy:=by
 have e1:(eff s l (some d) vy).env n=s.env n:=by rw [YM,Uf (fun e=>hd (Uo e).symm),Uf hl]
 have e2:(eff s l (some d) vy).L=s.L:=VI _ _ _ _;unfold JG;rw [e1,e2];cases s.env n with
 |lv key i off ag=>
  cases i with
  |succ i=>rfl
  |zero=>
  cases off with
  |succ o=>rfl
  |zero=>
  cases ag with
  |hd=>rfl
  |el e k m o=>rfl
  |st m=>
   simp only;cases s.L key with
   |none=>rfl
   |some o=>
    simp only;cases o.frz with
    |true=>rfl
    |false=>
     simp only [Uu];split
     ·rename_i row hrow;cases Nat.beq row.length m with
      |false=>rfl
      |true=>
       simp only [Uw,Fu];congr 1;refine St.ext' (fun t=> ?_) ?_ ?_
       ·show upd (eff s l (some d) vy).env n _ t=_;rw [YM];by_cases c:t=n
        ·subst c;rw [ZE,Uf (fun e=>hd (Uo e).symm),Uf hl];exact (ZE _ _ _).symm
        ·rw [ZA _ _ c,YM];show _=if some d=some t then vy else if t∈l then XU (upd s.env n _ t) else upd s.env n _ t
         rw [ZA _ _ c]
       ·rw [VI]
       ·refine Eq.trans ?_ (V9 _ _ _ _).symm;show (eff s l (some d) vy).G=s.G;rw [V9]
     ·rfl
 | _=>rfl
theorem ZAN {n:Nat} {s s1:St} (h:JG n s=some s1):∃key i o g,s.env n= .lv key i o g/\(∀t,t≠n->s1.env t=s.env t)/\(∀k,k≠key->s1.L k=s.L k)/\s1.G=s.G:=by
 unfold JG at h;split at h
 case h_2=>cases h
 rename_i key m hen;split at h
 case h_2=>cases h
 rename_i o ho;cases hf:o.frz with
 |true=>rw [hf] at h;cases h
 |false=>
  rw [hf] at h;simp only [Uu] at h;split at h
  case h_2=>cases h
  rename_i row hrow;cases hb:Nat.beq row.length m with
  |false=>rw [hb] at h;cases h
  |true=>
   rw [hb] at h;cases h;exact ⟨key,0,0, .st m,hen,fun t ht=>ZA _ _ ht,fun k hk=>ZA _ _ hk,rfl⟩
theorem ZAO {x y:Oper×Nat} {s:St} {K:St->Option β} (hx:YW E id x.2 x.1=true) (hpl:Zar E ops id y.2 y.1 x.1=true) (hy:mov E id y) {vy:SV}
  (fy:∀s',AgrT ops y.1 s s'->∀K':St->Option β,ZC E id ops y.2 y.1 s' K'=K' (eff s' (tak E id y) y.1.dst vy))
  (h:ZC E id ops x.2 x.1 (eff s (tak E id y) y.1.dst vy) K=some r)
  {t0 kk:Nat} {i0 off0:Nat} {ty:Nat} {v0:Operand} (ho:x.1.op= .store ty (.tmp t0) v0) (hk:s.env t0= .lp kk i0 off0) (hacc:∀e∈YP y.1,XR (eff s (tak E id y) y.1.dst vy) kk e=true)
  (h60:Nat.beq (E.hb id x.2) 0=true\/∃n key i o g,v0= .tmp n/\s.env n= .lv key i o g/\∀e∈YP y.1,XR (eff s (tak E id y) y.1.dst vy) key e=true):
  ZC E id ops x.2 x.1 s (fun s1=>ZC E id ops y.2 y.1 s1 K)=some r:=by
 obtain ⟨h1,h2,h3,h4,h5,h6,h7,⟨d,hd,hdx,hdy⟩,h9,_⟩:=Zha hpl;obtain ⟨x1,x2,x3,x4,x5,_⟩:=ZaA hx;have hl:∀t∈tak E id y,Operand.tmp t∈y.1.op.operands.toList:=fun t ht=>by
  have ht':t∈YU (E.tk id y.2) y.1:=ht;rcases h3 with h3 |h3
  ·rw [h3] at ht';unfold Zel at h7;unfold YU at ht';rw [h6] at ht';split at h7 <;> simp_all
  ·unfold ZgL at h3;split at h3
   case h_2=>cases h3
   rename_i n ho';unfold YU at ht';rw [h6,ho'] at ht';rw [ho'];cases htk:E.tk id y.2 with
   |false=>rw [htk] at ht';simp at ht'
   |true=>rw [htk] at ht';simp at ht';simp [Op.operands,ht']
 have hfyd:=fy;rw [hd] at h hacc;rw [hd] at h60;have hopx:x.1.op.operands.toList= [.tmp t0,v0]:=by rw [ho];rfl
 rw [hopx] at hdx h9;have hv0:v0≠ .tmp d:=fun e=>hdx (by simp [e])
 have ht0:t0≠d:=fun e=>hdx (by simp [e])
 have h9':∀t,Operand.tmp t∈y.1.op.operands.toList->t≠t0/\v0≠ .tmp t:=fun t ht=>by
  have:=h9 t ht;simp only [List.mem_cons,List.not_mem_nil,or_false,not_or] at this;exact ⟨fun e=>this.1 (by rw [e]),fun e=>this.2 e.symm⟩
 have hda:(d,false)∈YP y.1:=by unfold YP;rw [hd];simp
 have hoa:∀t,Operand.tmp t∈y.1.op.operands.toList->∃b,(t,b)∈YP y.1:=fun t ht=>by
  unfold YP;split
  ·rename_i q ho';rw [ho'] at ht;simp [Op.operands] at ht;exact ⟨true,by simp [ht]⟩
  ·exact ⟨false,by
    refine Uz _ (MY.2 ⟨_,ht,rfl⟩)⟩
 have hnlv:∀k i o g,vy≠ .lv k i o g:=fun k i o g e=>by
  have:=hacc _ hda;unfold XR at this;simp only at this;rw [YM,Uh rfl,e] at this;cases this
 have hops:∀t,Operand.tmp t∈y.1.op.operands.toList->t≠d/\∀k i o g,s.env t≠ .lv k i o g:=fun t ht=>by
  have htd:t≠d:=fun e=>hdy (by rw [←e];exact ht)
  refine ⟨htd,fun k i o g e=> ?_⟩;obtain ⟨b,hm⟩:=hoa t ht;have:=hacc _ hm;unfold XR at this;simp only at this;have e2:(eff s (tak E id y) (some d) vy).env t= .lv k i o g:=by
   rw [YM,Uf (fun e'=>htd (Uo e').symm),e];split <;> rfl
  rw [e2] at this;cases this
 have hload:∀{kk:Nat},(∀e∈YP y.1,XR (eff s (tak E id y) (some d) vy) kk e=true)->∀t q k i off,y.1.op= .load t (.tmp q)->s.env q= .lp k i off->k≠kk:=fun {kk} hacc t q k i off ho' hq=>by
  have hm:(q,true)∈YP y.1:=by unfold YP;rw [ho'];simp
  have hqd:q≠d:=(hops q (by rw [ho'];simp [Op.operands])).1;have:=hacc _ hm;unfold XR at this;simp only at this;have e2:(eff s (tak E id y) (some d) vy).env q= .lp k i off:=by
   rw [YM,Uf (fun e'=>hqd (Uo e').symm),hq];split <;> rfl
  rw [e2] at this;intro e;rw [e] at this;simp at this
 have hex:∀(s:St) (K':St->Option β),Nat.beq (E.hb id x.2) 0=true->ZC E id ops x.2 x.1 s K'=ZbN E (E.tk id x.2) ty t0 v0 s K':=fun s K' x1=>by
  unfold ZC ZbN;simp only [x4];unfold opR Xk opM;simp only [x2,Uu,x3,x1,Uw,opK,ho,x5];rfl
 by_cases x0:Nat.beq (E.hb id x.2) 0=true
 ·rw [hex _ _ x0] at h ⊢;refine Zq5 hv0 ht0 hl h9' h6 hnlv hops hk ?_ h;have:=Zq6 (r:=r) hpl hy hd (fun k=>Nat.beq k kk) fy (fun t q k i off ho' hq=>by
   cases hb:Nat.beq k kk with
   |false=>rfl
   |true=>exact absurd (Ud hb) (hload hacc t q k i off ho' hq))
  intro s' ha K';refine this s' ⟨ha.1,fun key ob hke=>ha.2.1 key ob ?_,ha.2.2⟩ K';have hke':(bif Nat.beq key kk then none else s.L key)=some ob:=hke;show (if key=kk then none else s.L key)=some ob;cases hb:Nat.beq key kk with
  |true=>rw [hb] at hke';cases hke'
  |false=>
   rw [hb] at hke';rw [Uf (fun e=>by rw [e,MC] at hb;cases hb)];exact hke'
 ·have x6:Nat.beq (E.hb id x.2) 6=true:=x1.resolve_left x0;obtain ⟨n,key,i1,o1,g1,rfl,hn,hacc2⟩:=h60.resolve_left x0;have e6:E.hb id x.2=6:=Ud x6;have hex6:∀(s:St) (K':St->Option β),ZC E id ops x.2 x.1 s K'=bif okE E.nt E.kp none then (JG n s).bind (fun s1=>ZbN E true ty t0 (.tmp n) s1 K') else none:=fun s K'=>by
   unfold ZC;simp only [x4];unfold opR Xk opM;simp only [x2,Uu,x3,e6,show Nat.beq 6 0=false from rfl,opU,ho,x5];cases hok:okE E.nt E.kp none with
   |false=>rfl
   |true=>
    simp only [Uw];congr 1
    funext s1
    unfold ZbN;rw [hok];simp only [Uw,opK,ho];rfl
  rw [hex6] at h ⊢;cases hok:okE E.nt E.kp none with
  |false=>rw [hok] at h;cases h
  |true=>
  rw [hok] at h;simp only [Uw] at h ⊢;have hnl:n∉tak E id y:=fun hm=>(h9' n (hl n hm)).2 rfl
  have hnd:n≠d:=fun e=>hv0 (by rw [e])
  rw [ZAM hnd hnl] at h;cases hu:JG n s with
  |none=>rw [hu] at h;cases h
  |some s1=>
  rw [hu] at h;simp only [Fu,UF] at h ⊢;obtain ⟨key',i2,o2,g2,hn2,f1,f2,f3⟩:=ZAN hu;rw [hn] at hn2;cases hn2;have ht0n:t0≠n:=fun e=>by rw [e,hn] at hk;cases hk
  refine Zq5 hv0 ht0 hl h9' h6 hnlv (fun t ht=>⟨(hops t ht).1,fun k i o g e=>(hops t ht).2 k i o g (by rw [←f1 t (fun e'=>(h9' t ht).2 (by rw [e']))];exact e)⟩) (by rw [f1 t0 ht0n];exact hk) ?_ h;have:=Zq6 (r:=r) hpl hy hd (fun k=>Nat.beq k kk || Nat.beq k key) fy (fun t q k i off ho' hq=>by
   cases hb:Nat.beq k kk with
   |true=>exact absurd (Ud hb) (hload hacc t q k i off ho' hq)
   |false=>
    cases hb2:Nat.beq k key with
    |true=>exact absurd (Ud hb2) (hload hacc2 t q k i off ho' hq)
    |false=>rfl)
  intro s' ha K';have hlook:∀t,t∈y.1.looksAt ops->Operand.tmp t∈y.1.op.operands.toList:=fun t ht=>by
   unfold Oper.looksAt at ht;rcases List.mem_append.1 ht with ht |ht
   ·rw [MY] at ht;obtain ⟨op,ho1,ho2⟩:=ht;split at ho2
    ·cases ho2;exact ho1
    ·cases ho2
   ·rw [h6] at ht;simp at ht
  refine this s' ⟨fun t ht=> ?_,fun k ob hke=>ha.2.1 k ob ?_,fun hg=> ?_⟩ K'
  ·rw [ha.1 t ht];exact f1 t (fun e'=>(h9' t (hlook t ht)).2 (by rw [e']))
  ·have hke':(bif Nat.beq k kk || Nat.beq k key then none else s.L k)=some ob:=hke;show (if k=kk then none else s1.L k)=some ob;cases hb:Nat.beq k kk with
   |true=>rw [hb] at hke';cases hke'
   |false=>
    cases hb2:Nat.beq k key with
    |true=>rw [hb,hb2] at hke';cases hke'
    |false=>
     rw [hb,hb2] at hke';rw [Uf (fun e=>by rw [e,MC] at hb;cases hb),f2 k (fun e=>by rw [e,MC] at hb2;cases hb2)];exact hke'
  ·have hg2:Yl y.1 {s1 with L:=fun k=>if k=kk then none else s1.L k}=true:=by
    unfold Yl at hg ⊢;split at hg
    ·rename_i t q ho';show XQ (s1.env q)=true;rw [f1 q (fun e'=>(h9' q (by rw [ho'];simp [Op.operands])).2 (by rw [e']))];exact hg
    ·cases hg
   exact (ha.2.2 hg2).trans f3
noncomputable def YD (E:Ctx) (id:Nat) (ops:Array Oper):List (Oper×Nat)->St->(St->Option β)->Option β
 | [],s,K=>K s
 |p::rest,s,K=>Ky E id ops p.2 p.1 s fun s'=>YD E id ops rest s' K
theorem Zq7 {K:St->Option β}:∀{l:List Oper} {i:Nat} {s:St},Zen E id ops i l s K=YD E id ops (l.zipIdx i) s K
 | [],i,s=>rfl
 |o::l,i,s=>by
  simp only [Zen,List.zipIdx_cons,YD];congr 1
  funext s'
  exact Zq7
def ZAP (E:Ctx) (id:Nat) (ops:Array Oper) (y x:Oper×Nat):Prop:=
 (YW E id x.2 x.1=true/\(JI E id y.2 x.2 y.1 x.1=true\/Zar E ops id y.2 y.1 x.1=true)/\(Xx E ops=false\/Zlq y.1=true))\/(YW E id x.2 x.1=false/\Part E id ops y x)
theorem ZcZ {x:Oper×Nat} {s:St} {K:St->Option β} (h:Ky E id ops x.2 x.1 s K=some r):ZC E id ops x.2 x.1 s K=some r:=by
 unfold Ky at h;cases hb:Zem E id ops x.2 x.1 s || Xx E ops && Yl x.1 s with
 |true=>rw [hb] at h;cases h
 |false=>rw [hb] at h;exact h
theorem Zq8 {x:Oper×Nat} {s:St} {K:St->Option β} (h:Ky E id ops x.2 x.1 s K=some r):(Xx E ops && Yl x.1 s)=false:=by
 unfold Ky at h;cases hb:Xx E ops && Yl x.1 s with
 |true=>rw [hb,Bool.or_true] at h;cases h
 |false=>rfl
theorem Zhb {x:Oper×Nat} {s:St} {K:St->Option β} (hx:YW E id x.2 x.1=false) (hg:(Xx E ops && Yl x.1 s)=false):Ky E id ops x.2 x.1 s K=ZC E id ops x.2 x.1 s K:=by
 unfold Ky Zem;rw [hx,hg];rfl
theorem Zhc {y:Oper×Nat} (hy:mov E id y):YW E id y.2 y.1=false:=by
 cases hs:YW E id y.2 y.1 with
 |false=>rfl
 |true=>
  exfalso
  obtain ⟨_,_,_,_,_,t,p,v,ho⟩:=ZaA hs;have hm:JH E id y.1 y.2=true:=hy;unfold JH Zaq ZgJ at hm;rw [ho] at hm;simp at hm
theorem ZAQ {y:Oper×Nat} {q:Nat×Nat×Nat} (hy:exT E id y.2 y.1=some q):YW E id y.2 y.1=false:=by
 cases hs:YW E id y.2 y.1 with
 |false=>rfl
 |true=>
  exfalso
  obtain ⟨_,_,_,_,_,t,p,v,ho⟩:=ZaA hs;obtain ⟨n,k,d⟩:=q;obtain ⟨_,_,_,_,_,h6,_⟩:=Zma hy;rw [ho] at h6;cases h6
theorem Zq9 {s:St} {n:List Nat} {d:Option Nat} {v:SV} {k:Nat} {e:Nat×Bool} (hd:d≠some e.1) (h:XR (eff s n d v) k e=true):XR s k e=true:=by
 unfold XR at h ⊢;rw [YM,Uf hd] at h;by_cases hn:e.1∈n
 ·rw [Uh hn] at h;cases he:s.env e.1 <;> rw [he] at h <;> first |rfl |exact h
 ·rw [Uf hn] at h;exact h
theorem Zmf {j:Nat} {o p:Oper} {i:Nat} (hp:ops[i]? =some p) (hij:i < j) (h1:Kx ops o i=false) (h2:JI E id i j p o=false) {e:Nat×Bool} (he:e∈YP p):e∈ZbD E id ops j o:=by
 unfold ZbD;rw [List.mem_flatMap];refine ⟨(p,i),?_,?_⟩
 ·rw [UO];simpa using hp
 ·have:Nat.blt i j=true:=by simp [Nat.blt];omega
  simp only [this,h1,h2,Bool.or_self,UT,Mw,Uw];exact he
theorem Zra {x:Oper×Nat} {L2:List (Oper×Nat)} {K:St->Option β} (hx:YW E id x.2 x.1=true) (hl:ZbC ops x.2=false):∀{L1:List (Oper×Nat)} {s:St},L1.Pairwise (fun p q=>p.2 < q.2)->(∀y∈L1,ops[y.2]? =some y.1/\y.2 < x.2/\Kx ops x.1 y.2=false/\mov E id y/\(JI E id y.2 x.2 y.1 x.1=true\/Zar E ops id y.2 y.1 x.1=true)/\∀s:St,(Xx E ops && Yl y.1 s)=false)->
  YD E id ops (L1 ++ x::L2) s K=some r->
  (∀p i,ops[i]? =some p->i < x.2->Kx ops x.1 i=false->JI E id i x.2 p x.1=false->(∀z∈L1,∀e∈YP p,z.1.dst≠some e.1)->YP p≠ []->∃ty t v k i0 off,x.1.op= .store ty (.tmp t) v/\s.env t= .lp k i0 off/\(∀e∈YP p,XR s k e=true)/\(Nat.beq (E.hb id x.2) 0=true\/∃n key i o g,v= .tmp n/\s.env n= .lv key i o g/\∀e∈YP p,XR s key e=true))/\
  ZC E id ops x.2 x.1 s (fun s'=>YD E id ops (L1 ++ L2) s' K)=some r
 | [],s,_,_,h=>by
  simp only [U5,YD] at h;refine ⟨fun p i hp hi h1 h2 _ hne=> ?_,ZcZ h⟩;unfold Ky at h;cases hb:Zem E id ops x.2 x.1 s with
  |true=>rw [hb,Bool.true_or] at h;cases h
  |false=>
   unfold Zem at hb;rw [hx,hl] at hb;simp only [UV,FJ,Bool.not_eq_false',Ub,Me] at hb;obtain ⟨hb,hb6⟩:=hb;obtain ⟨_,_,_,_,_,ty,p0,v,ho⟩:=ZaA hx;unfold ZpV at hb;rw [ho] at hb;have hnil:ZbD E id ops x.2 x.1≠ []:=fun e=>by
    obtain ⟨e0,he0⟩:=List.exists_mem_of_ne_nil _ hne;have:=Zmf (E:=E) (id:=id) hp hi h1 h2 he0;rw [e] at this;cases this
   have hne':(ZbD E id ops x.2 x.1).isEmpty=false:=by
    cases hq:ZbD E id ops x.2 x.1 with
    |nil=>exact absurd hq hnil
    |cons=>rfl
   split at hb
   ·rename_i ty' t v' heq;cases heq;split at hb
    ·rename_i k i0 off he;refine ⟨_,_,_,_,_,_,ho,he,fun e hm=>MT.1 hb e (Zmf hp hi h1 h2 hm),hb6.imp (fun hz=>hz) fun hb6=> ?_⟩;unfold ZpW at hb6;rw [ho] at hb6;split at hb6
     ·rename_i n heq2;cases heq2;split at hb6
      ·rename_i key i o g hlv;exact ⟨_,_,_,_,_,rfl,hlv,fun e hm=>MT.1 hb6 e (Zmf hp hi h1 h2 hm)⟩
      ·cases hb6
     ·cases hb6
    ·rw [hne'] at hb;cases hb
   ·rw [hne'] at hb;cases hb
 |y::L1,s,hpw,hL,h=>by
  obtain ⟨y1,y2,y3,hy,hpl,hng⟩:=hL y (Un ..);have hpw':=List.pairwise_cons.1 hpw;simp only [U6,YD] at h;rw [Zhb (Zhc hy) (hng s)] at h;obtain ⟨vy,h1,fy⟩:=KC hy h;obtain ⟨hA,h2'⟩:=Zra hx hl hpw'.2 (fun z hz=>hL z (Ui _ hz)) h1;obtain ⟨_,_,_,_,_,ty,p0,v0,ho⟩:=ZaA hx;have hyx:∀t,Operand.tmp t∈x.1.op.operands.toList->y.1.dst≠some t:=fun t ht hd=>by
   rcases hpl with hpl |hpl
   ·obtain ⟨_,_,_,_,_,n,k,d,_,e2,_,e4⟩:=ZqV (ZqX hpl).2;rw [hd] at e2;cases e2;exact e4 ht
   ·obtain ⟨_,_,_,_,_,_,_,⟨d,e1,e2,_⟩,_⟩:=Zha hpl;rw [hd] at e1;cases e1;exact e2 ht
  have hback:∀p:Oper,(∀e∈YP p,y.1.dst≠some e.1)->(∃ty t v k i0 off,x.1.op= .store ty (.tmp t) v/\(eff s (tak E id y) y.1.dst vy).env t= .lp k i0 off/\(∀e∈YP p,XR (eff s (tak E id y) y.1.dst vy) k e=true)/\(Nat.beq (E.hb id x.2) 0=true\/∃n key i o g,v= .tmp n/\(eff s (tak E id y) y.1.dst vy).env n= .lv key i o g/\∀e∈YP p,XR (eff s (tak E id y) y.1.dst vy) key e=true))->
    ∃ty t v k i0 off,x.1.op= .store ty (.tmp t) v/\s.env t= .lp k i0 off/\(∀e∈YP p,XR s k e=true)/\(Nat.beq (E.hb id x.2) 0=true\/∃n key i o g,v= .tmp n/\s.env n= .lv key i o g/\∀e∈YP p,XR s key e=true):=fun p hd ⟨ty,t,v,k,i0,off,e1,e2,e3,e5⟩=>by
   refine ⟨ty,t,v,k,i0,off,e1,?_,fun e he=>Zq9 (hd e he) (e3 e he),e5.imp (fun hz=>hz) fun ⟨n,key,i,o,g,a1,a2,a3⟩=>⟨n,key,i,o,g,a1,?_,fun e he=>Zq9 (hd e he) (a3 e he)⟩⟩
   case refine_2=>
    rw [YM,Uf (hyx n (by rw [e1,a1];simp [Op.operands]))] at a2;split at a2
    ·cases hq:s.env n with
     |val a=>rw [hq] at a2;cases a2
     | _=>rw [hq] at a2;simpa [XU] using a2
    ·exact a2
   rw [YM,Uf (hyx t (by rw [e1];simp [Op.operands]))] at e2;split at e2
   ·cases hq:s.env t with
    |val a=>rw [hq] at e2;cases e2
    | _=>rw [hq] at e2;simpa [XU] using e2
   ·exact e2
  refine ⟨fun p i hp hi g1 g2 g3 g4=>hback p (fun e he=>g3 y (Un ..) e he) (hA p i hp hi g1 g2 (fun z hz=>g3 z (Ui _ hz)) g4),?_⟩;have hsw:ZC E id ops x.2 x.1 s (fun s1=>ZC E id ops y.2 y.1 s1 fun s'=>YD E id ops (L1 ++ L2) s' K)=some r:=by
   rcases hpl with hpl |hpl
   ·refine ZqY hx hpl ?_;rw [fy s (AgrT.refl _ _)];exact h2'
   ·obtain ⟨_,_,_,_,_,_,hkd,⟨d,hd,_,hdy⟩,_,hnw⟩:=Zha hpl;cases hst:JI E id y.2 x.2 y.1 x.1 with
    |true=>
     refine ZqY hx hst ?_;rw [fy s (AgrT.refl _ _)];exact h2'
    |false=>
     obtain ⟨ty,t,v,k,i0,off,e1,e2,e3,e6⟩:=hA y.1 y.2 y1 y2 y3 hst (fun z hz e he=>hnw z.1 z.2 (hL z (Ui _ hz)).1 (hpw'.1 z hz) e he) (by
      unfold YP;rw [hd];simp)
     have e2':s.env t= .lp k i0 off:=by
      rw [YM,Uf (hyx t (by rw [e1];simp [Op.operands]))] at e2;split at e2
      ·cases hq:s.env t with
       |val a=>rw [hq] at e2;cases e2
       | _=>rw [hq] at e2;simpa [XU] using e2
      ·exact e2
     refine ZAO hx hpl hy fy h2' e1 e2' e3 (e6.imp (fun hz=>hz) fun ⟨n,key,i,o,g,a1,a2,a3⟩=>⟨n,key,i,o,g,a1,?_,a3⟩);rw [YM,Uf (hyx n (by rw [e1,a1];simp [Op.operands]))] at a2;split at a2
     ·cases hq:s.env n with
      |val a=>rw [hq] at a2;cases a2
      | _=>rw [hq] at a2;simpa [XU] using a2
     ·exact a2
  have e:(fun s'=>YD E id ops (y::L1 ++ L2) s' K)=fun s1=>ZC E id ops y.2 y.1 s1 fun s'=>YD E id ops (L1 ++ L2) s' K:=by
   funext s1
   simp only [U6,YD];exact Zhb (Zhc hy) (hng s1)
  rw [e];exact hsw
theorem Zmg {o:Oper} {j:Nat} (h:Qn E id j o=true):Nat.beq (E.hb id j) 0=true/\E.th id j=false/\E.tk id j=false/\E.rt id j=none/\o.guard=none/\∃c f,o.op= .call c/\c.callee= .value (.func f)/\E.gs f=true:=by
 unfold Qn at h;simp only [Ub,UI,Ms] at h;refine ⟨h.1.1.1.1,h.1.1.1.2,h.1.1.2,h.1.2,?_⟩;have h:=h.2;split at h
 ·rename_i c h1 h2;split at h
  ·rename_i f hc;exact ⟨h1,c,f,h2,hc,h⟩
  ·cases h
 ·cases h
theorem ZAR {y:Oper×Nat} (hy:Qn E id y.2 y.1=true):YW E id y.2 y.1=false:=by
 cases hs:YW E id y.2 y.1 with
 |false=>rfl
 |true=>
  obtain ⟨_,_,_,_,_,t,p,v,ho⟩:=ZaA hs;obtain ⟨_,_,_,_,_,c,f,ho',_⟩:=Zmg hy;rw [ho] at ho';cases ho'
theorem Zhd {y:Oper×Nat} {s:St} {K:St->Option β} (hy:Qn E id y.2 y.1=true) (h:ZC E id ops y.2 y.1 s K=some r):
  ∃v g',K (put {s with G:=g'} y.1.dst v)=some r/\∀s',(∀t,t∈y.1.looksAt ops->s'.env t=s.env t)->(∀key ob,s.L key=some ob->s'.L key=some ob)->s'.G=s.G->∀K':St->Option β,ZC E id ops y.2 y.1 s' K'=K' (put {s' with G:=g'} y.1.dst v):=by
 obtain ⟨h1,h2,h3,h4,h5,c,f,ho,hc,hg⟩:=Zmg hy;have ex:∀(s:St) (K':St->Option β),ZC E id ops y.2 y.1 s K'=(bif okE E.nt E.kp y.1.dst then VA E false c.args.toList c.argTypes.toList s fun as s'=>Zao E f (E.vr id y.2) as s' fun v s'=>K' (put s' y.1.dst v) else none):=fun s K'=>by
  unfold ZC;simp only [h5];unfold opR Xk opM;simp only [h2,Uu,h4,h1,Uw,opK,ho,hc,h3]
 rw [ex] at h;simp only [ex];cases hok:okE E.nt E.kp y.1.dst with
 |false=>rw [hok] at h;cases h
 |true=>
 rw [hok] at h;simp only [Uw] at h ⊢;obtain ⟨as,e1,e2⟩:=Zl5 h;unfold Zao at e1;rw [hg] at e1;simp only [Uw] at e1;split at e1
 ·cases e1
 rename_i en hen;obtain ⟨r0,hcl,e3⟩:=ZH e1;refine ⟨_,_,e3,fun s' a1 a2 a3 K'=> ?_⟩;rw [e2 (bg:=true) s' ⟨fun t ht=>a1 t (by
  unfold Oper.looksAt;refine Uz _ ?_;rw [MY];refine ⟨.tmp t,?_,rfl⟩;rw [ho];simp only [Op.operands,Call.operands,hc];simp [ht]),a2,fun _=>a3⟩]
 unfold Zao;rw [hg];simp only [Uw,hen,bnd,a3,hcl,UF]
theorem Zrb (x:SV):XQ (XU x)=XQ x:=by
 cases x with
 |val a=>
  cases a <;> try rfl
  rename_i o k xs;cases o <;> rfl
 | _=>rfl
theorem Zmh {y:Oper} {s s1:St} (h:∀n,n∈y.looksAt ops->XQ (s1.env n)=XQ (s.env n)):Yl y s1=Yl y s:=by
 unfold Yl;split
 ·rename_i t n ho;refine h n ?_;unfold Oper.looksAt;refine Uz _ ?_;rw [MY];exact ⟨.tmp n,by rw [ho];simp [Op.operands],rfl⟩
 ·rfl
theorem Zrc {x:Oper×Nat} {s:St} {K:St->Option β} (hx:mov E id x\/Qm E id x.2 x.1=true\/Qn E id x.2 x.1=true) (h:ZC E id ops x.2 x.1 s K=some r):
  ∃s1,K s1=some r/\(∀K':St->Option β,ZC E id ops x.2 x.1 s K'=K' s1)/\∀t,x.1.dst≠some t->XQ (s1.env t)=XQ (s.env t):=by
 rcases hx with hx |hx |hx
 ·obtain ⟨v,h1,h2⟩:=KC (o:=x.1) (i:=x.2) hx h;refine ⟨_,h1,fun K'=>h2 s (AgrT.refl _ _) K',fun t ht=> ?_⟩;rw [YM,Uf ht];split
  ·exact Zrb _
  ·rfl
 ·obtain ⟨hb,hth,hg,t0,ho⟩:=Zg8 hx;have h0:=h;unfold ZC at h;rw [hg] at h;simp only at h;cases hok:okE E.nt E.kp x.1.dst with
  |false=>rw [hok] at h;cases h
  |true=>
   rw [hok] at h;obtain ⟨d,hd,htok,hrt,hL,h2⟩:=Zl9 hb hth ho h;refine ⟨_,h2,fun K'=> ?_,fun t ht=> ?_⟩
   ·unfold ZC;rw [hg];simp only [hok,Uw];unfold opR;rw [hth];simp only [Uu];unfold Xk;rw [hrt];simp only;unfold opM;rw [hb];simp only [Uw,opK,ho,htok,Uk,Uu,newObj];rw [hd];simp only [hL]
   ·rw [hd] at ht ⊢;show XQ (upd s.env d _ t)=_;rw [ZA _ _ (fun e=>ht (by rw [e]))]
 ·obtain ⟨v,g',h1,h2⟩:=Zhd (y:=x) hx h;refine ⟨_,h1,fun K'=>h2 s (fun _ _=>rfl) (fun _ _ h=>h) rfl K',fun t ht=> ?_⟩;cases hd:x.1.dst with
  |none=>rfl
  |some d=>
   rw [hd] at ht;show XQ (upd s.env d _ t)=_;rw [ZA _ _ (fun e=>ht (by rw [e]))]
theorem Zc0 (s:St) (d:Option Nat) (v:SV) (t:Nat):(put s d v).env t=if d=some t then v else s.env t:=by
 cases d with
 |none=>simp [put]
 |some d=>
  by_cases h:d=t
  ·subst h;simp [put,ZE]
  ·simp only [put,MN,h,Mx];exact ZA _ _ (fun e=>h e.symm)
theorem Zhe (s:St) (d:Option Nat) (v:SV):(put s d v).L=s.L:=by cases d <;> rfl
theorem Zrd (s:St) (d:Option Nat) (v:SV):(put s d v).G=s.G:=by cases d <;> rfl
theorem Zre {s:St} {n:List Nat} {d1 d2:Option Nat} {v1 v2:SV} {g:GS} (h:∀d,d1=some d->d2≠some d) (h2:∀d,d∈n->d1≠some d):
  eff (put {s with G:=g} d1 v1) n d2 v2=put {eff s n d2 v2 with G:=g} d1 v1:=by
 refine St.ext' (fun t=> ?_) (by rw [VI,Zhe,Zhe];show s.L=(eff s n d2 v2).L;rw [VI]) (by rw [V9,Zrd,Zrd]);rw [YM,Zc0,Zc0];show _=if d1=some t then v1 else (eff s n d2 v2).env t
 rw [YM];by_cases e1:d1=some t
 ·rw [Uf (h t e1),Uh e1,Uh e1];split
  ·rename_i hm;exact absurd e1 (h2 t hm)
  ·rfl
 ·simp only [Uf e1]
theorem ZAS {x y:Oper×Nat} {s:St} {K:St->Option β} (hy:Qn E id y.2 y.1=true) (hx:mov E id x) (hap:Oper.apart ops y.1 x.1=true) (hl2:Qo ops (tak E id x) y.1=true) (hgx:Yl x.1 s=false)
  (h:ZC E id ops y.2 y.1 s (fun s1=>ZC E id ops x.2 x.1 s1 K)=some r):ZC E id ops x.2 x.1 s (fun s1=>ZC E id ops y.2 y.1 s1 K)=some r:=by
 obtain ⟨a1,a2,a3⟩:=Oper.apart_spec hap;obtain ⟨vy,g',h1,fy⟩:=Zhd hy h;obtain ⟨vx,h2,fx⟩:=KC hx h1;have hld:Yl x.1 (put {s with G:=g'} y.1.dst vy)=false:=by
  rw [Zmh (ops:=ops) (s:=s) fun n hn=> ?_]
  ·exact hgx
  ·rw [Zc0,Uf fun e=>a1 n e hn]
 rw [fx s ⟨fun t ht=>by rw [Zc0,Uf fun e=>a1 t e ht],fun key ob hk=>by rw [Zhe] at hk;exact hk,fun hb=>by rw [hld] at hb;cases hb⟩];rw [fy _ (fun t ht=>by rw [YM,Uf fun e=>a3 t e ht,Uf fun e=>(Zaz hl2 e).1 ht]) (fun key ob hk=>by rw [VI];exact hk) (V9 _ _ _ _)];rw [Zre (fun d hd e=>a2 d hd e) (fun d hd e=>(Zaz hl2 hd).2 e)] at h2;exact h2
theorem ZAT {x y:Oper×Nat} {s:St} {K:St->Option β} (hy:mov E id y) (hx:Qn E id x.2 x.1=true) (hap:Oper.apart ops y.1 x.1=true) (hl1:Qo ops (tak E id y) x.1=true) (hgy:Yl y.1 s=false)
  (h:ZC E id ops y.2 y.1 s (fun s1=>ZC E id ops x.2 x.1 s1 K)=some r):ZC E id ops x.2 x.1 s (fun s1=>ZC E id ops y.2 y.1 s1 K)=some r:=by
 obtain ⟨a1,a2,a3⟩:=Oper.apart_spec hap;obtain ⟨vy,h1,fy⟩:=KC hy h;obtain ⟨vx,g',h2,fx⟩:=Zhd hx h1;rw [fx s (fun t ht=>by rw [YM,Uf fun e=>a1 t e ht,Uf fun e=>(Zaz hl1 e).1 ht]) (fun key ob hk=>by rw [VI] at hk;exact hk) (V9 _ _ _ _).symm];rw [fy _ ⟨fun t ht=>by rw [Zc0,Uf fun e=>a3 t e ht],fun key ob hk=>by rw [Zhe];exact hk,fun hb=>by rw [hgy] at hb;cases hb⟩];rw [←h2];congr 1;exact Zre (fun d hd e=>a2 d e hd) (fun d hd e=>(Zaz hl1 hd).2 e)
def Swp (E:Ctx) (id:Nat) (ops:Array Oper) (y x:Oper×Nat):Prop:=
 (Kw E id y.2 x.2 y.1 x.1=true/\(mov E id x\/Qm E id x.2 x.1=true))\/(mov E id y/\Part E id ops y x/\((mov E id x\/Qm E id x.2 x.1=true)\/Qn E id x.2 x.1=true/\Xx E ops=true))\/
  (Qn E id y.2 y.1=true/\Xx E ops=true/\mov E id x/\Oper.apart ops y.1 x.1=true/\Qo ops (tak E id x) y.1=true)
theorem Zhf {x:Oper×Nat} {L2:List (Oper×Nat)} {K:St->Option β} (hx:mov E id x\/Qm E id x.2 x.1=true\/Qn E id x.2 x.1=true) (hxs:YW E id x.2 x.1=false):∀{L1:List (Oper×Nat)} {s:St},(∀y∈L1,Swp E id ops y x)->
  YD E id ops (L1 ++ x::L2) s K=some r->ZC E id ops x.2 x.1 s (fun s'=>YD E id ops (L1 ++ L2) s' K)=some r/\(Xx E ops && Yl x.1 s)=false
 | [],s,_,h=>by
  simp only [U5,YD] at h;exact ⟨ZcZ h,Zq8 h⟩
 |y::L1,s,hL,h=>by
  simp only [U6,YD] at h;have hgy:=Zq8 h;have Ji:YW E id y.2 y.1=false->(∀d,x.1.dst=some d->d∉y.1.looksAt ops)->ZC E id ops x.2 x.1 s (fun s1=>ZC E id ops y.2 y.1 s1 fun s'=>YD E id ops (L1 ++ L2) s' K)=some r->
    ZC E id ops x.2 x.1 s (fun s'=>YD E id ops (y::L1 ++ L2) s' K)=some r:=fun hn ha3 h0=>by
   obtain ⟨s1,d1,d2,d3⟩:=Zrc hx h0;rw [d2];simp only [U6,YD];rw [Zhb hn]
   ·exact d1
   ·rw [Zmh (ops:=ops) (s:=s) fun n hn'=>d3 n fun e=>ha3 n e hn'];exact hgy
  have hld:∀{s1:St},(∀n,n∈x.1.looksAt ops->XQ (s1.env n)=XQ (s.env n))->(Xx E ops && Yl x.1 s1)=false->(Xx E ops && Yl x.1 s)=false:=fun h1 h2=>by
   rwa [Zmh (ops:=ops) h1] at h2
  rcases hL y (Un ..) with ⟨hpair,hx2⟩ | ⟨hy,⟨ha,hl1,hl2⟩,hx2⟩ | ⟨hy,hgs,hx2,ha,hl2⟩
  ·cases hyT:exT E id y.2 y.1 with
   |none=>simp [Kw,hyT] at hpair
   |some q=>
    obtain ⟨n,k,d⟩:=q;obtain ⟨hok,vs,a,hen,hk,h1⟩:=Zq0 hyT (ZcZ h);obtain ⟨h2,_⟩:=Zhf hx hxs (fun z hz=>hL z (Ui _ hz)) h1;have h3:ZC E id ops x.2 x.1 s (fun s1=>ZC E id ops y.2 y.1 s1 fun s'=>YD E id ops (L1 ++ L2) s' K)=some r:=by
     refine ZAH hpair ?_;rw [Zmc hyT hok hen hk];exact h2
    obtain ⟨_,_,_,_,_,hyo,_⟩:=Zma hyT;have hyl:∀s1:St,Yl y.1 s1=false:=fun s1=>by unfold Yl;rw [hyo]
    have hxl:Yl x.1 s=false:=by
     unfold Kw at hpair;rw [hyT] at hpair;simp only at hpair;split at hpair
     ·rename_i n' k' d' hc;obtain ⟨_,_,_,_,_,hxo,_⟩:=Zmb hc;unfold Yl;rw [hxo]
     ·rw [Ub] at hpair;obtain ⟨_,_,_,t0,hxo⟩:=Zg8 hpair.1;unfold Yl;rw [hxo]
    refine ⟨?_,by rw [hxl,Bool.and_false]⟩;obtain ⟨s1,d1,d2,d3⟩:=Zrc hx h3;rw [d2];simp only [U6,YD];rw [Zhb (ZAQ hyT) (by rw [hyl,Bool.and_false])];exact d1
  ·obtain ⟨vy,h1,fy⟩:=KC hy (ZcZ h);obtain ⟨h2,hg2⟩:=Zhf hx hxs (fun z hz=>hL z (Ui _ hz)) h1;obtain ⟨a1,a2,a3⟩:=Oper.apart_spec ha;have h3:ZC E id ops y.2 y.1 s (fun s1=>ZC E id ops x.2 x.1 s1 fun s'=>YD E id ops (L1 ++ L2) s' K)=some r:=by
    rw [fy s (AgrT.refl _ _)];exact h2
   refine ⟨Ji (Zhc hy) a3 ?_,hld (fun n hn=> ?_) hg2⟩
   ·rcases hx2 with hx2 | ⟨hx2,hgs⟩
    ·by_cases hn:Qm E id x.2 x.1=true
     ·exact ZAA hn hy ha hl1 h3
     ·rcases hx2 with hx2 |hx2
      ·rcases hl2 with hl2 |hl2
       ·exact absurd hl2 hn
       ·exact ZAz hx2 hy ha hl1 hl2 h3
      ·exact absurd hx2 hn
    ·rw [hgs,UV] at hgy;exact ZAT hy hx2 ha hl1 hgy h3
   ·rw [YM,Uf (fun e=>a1 n e hn)];split
    ·exact Zrb _
    ·rfl
  ·obtain ⟨vy,g',h1,fy⟩:=Zhd hy (ZcZ h);obtain ⟨h2,hg2⟩:=Zhf hx hxs (fun z hz=>hL z (Ui _ hz)) h1;obtain ⟨a1,a2,a3⟩:=Oper.apart_spec ha;have h3:ZC E id ops y.2 y.1 s (fun s1=>ZC E id ops x.2 x.1 s1 fun s'=>YD E id ops (L1 ++ L2) s' K)=some r:=by
    rw [fy s (fun _ _=>rfl) (fun _ _ h=>h) rfl];exact h2
   have hgx:=hld (fun n hn=>by rw [Zc0,Uf (fun e=>a1 n e hn)]) hg2;have hgx':=hgx;rw [hgs,UV] at hgx';exact ⟨Ji (ZAR hy) a3 (ZAS hy hx2 ha hl2 hgx' h3),hgx⟩
theorem Zrf (h:ZcQ E id ops=true) {o:Oper} {j:Nat} (ho:ops[j]? =some o):
  (∀e∈o.after,Region.binds .any e=true->e.on < j)/\(ZbC ops j=true\/((((mov E id (o,j)\/Qm E id j o=true)\/YW E id j o=true)\/Qn E id j o=true/\Xx E ops=true)/\∀p i,ops[i]? =some p->i < j->(Kx ops o i=true\/((Kw E id i j p o=true\/(Qn E id i p=true/\Xx E ops=true/\mov E id (o,j)/\Oper.apart ops p o=true/\Qo ops (tak E id (o,j)) p=true))\/(mov E id (p,i)/\ZAP E id ops (p,i) (o,j)))))):=by
 unfold ZcQ at h;rw [MT] at h;have hm:∀{p:Oper} {i:Nat},ops[i]? =some p->(p,i)∈ops.toList.zipIdx:=fun {p i} hp=>by
  rw [UO];simpa using hp
 have h1:=h _ (hm ho);simp only [Ub,Me,UI] at h1;obtain ⟨h4,h1⟩:=h1;refine ⟨fun e he hb=> ?_,?_⟩
 ·have:=Array.all_eq_true_iff_forall_mem.1 h4 e he;rw [hb] at this;exact Zat (by simpa using this)
 ·rcases h1 with h1 | ⟨h1,h5⟩
  ·exact .inl h1
  ·refine .inr ⟨h1,fun p i hp hij=> ?_⟩;rw [MT] at h5;have:=h5 _ (hm hp);simp only [Me,UI,Ub] at this;rcases this with h |h
   ·have:Nat.blt i j=true:=by simp [Nat.blt];omega
    rw [this] at h;cases h
   ·rcases h with h |h | ⟨h6,h⟩
    ·exact .inl h
    ·refine .inr (.inl ?_);rcases h with h |h
     ·exact .inl h
     ·exact .inr ⟨h.1.1.1.1,h.1.1.1.2,h.1.1.2,h.1.2,h.2⟩
    ·refine .inr (.inr ⟨h6,?_⟩);cases hs:YW E id j o with
     |true=>
      rw [hs] at h;simp only [Uw,Ub,Me,UI] at h;exact .inl ⟨hs,h.1,h.2⟩
     |false=>
      rw [hs] at h;simp only [Uu,Ub,Me] at h;exact .inr ⟨hs,h.1.1,h.1.2,h.2⟩
theorem Zrg {listed:Array Bool} {i:Nat} (hc:∀i p,ops[i]? =some p->listed.getD i false=true->∀e∈p.after,Region.binds .any e=true->listed.getD e.on false=true):
  ∀(n:Nat) {o:Oper},Zek ops n o i=true->(∀e∈o.after,Region.binds .any e=true->listed.getD e.on false=true)->listed.getD i false=true
 | 0,o,h,hr=>by
  unfold Zek at h;obtain ⟨e,he,hb⟩:=Array.any_eq_true'.1 h;rw [Ub] at hb;rw [←Ud hb.2];exact hr e he hb.1
 |n + 1,o,h,hr=>by
  unfold Zek at h;obtain ⟨e,he,hb⟩:=Array.any_eq_true'.1 h;rw [Ub,Me] at hb;obtain ⟨hb,h1⟩:=hb;have hl:=hr e he hb;rcases h1 with h1 |h1
  ·rw [←Ud h1];exact hl
  ·split at h1
   ·rename_i p hp;exact Zrg hc n h1 fun e' he' hb'=>hc _ p hp hl e' he' hb'
   ·cases h1
theorem ZAU {listed:Array Bool} {o:Oper} {i:Nat} (h:Kx ops o i=true) (hr:∀e∈o.after,Region.binds .any e=true->listed.getD e.on false=true)
  (hc:∀i p,ops[i]? =some p->listed.getD i false=true->∀e∈p.after,Region.binds .any e=true->listed.getD e.on false=true):listed.getD i false=true:=
 Zrg hc 3 h hr
theorem Zrh {listed:Array Bool} {j:Nat} {o:Oper} (h:ZbC ops j=true) (ho:ops[j]? =some o) (hr:∀e∈o.after,Region.binds .any e=true->listed.getD e.on false=true)
  (hc:∀i p,ops[i]? =some p->listed.getD i false=true->∀e∈p.after,Region.binds .any e=true->listed.getD e.on false=true):∀(m i:Nat),j<=i + m->i < j->listed.getD i false=true
 | 0,i,h1,h2=>by omega
 |m + 1,i,h1,h2=>by
  have h3:=MT.1 (show _ from h) i (by simpa using h2);obtain ⟨⟨p,k⟩,hk,h3⟩:=List.any_eq_true.1 h3;rw [Ub,Ub] at h3;have hik:=Zat h3.1.1;have hkj0:k<=j:=MI h3.1.2;obtain ⟨e,he,hb⟩:=Array.any_eq_true'.1 h3.2;rw [Ub] at hb;have hei:=Ud hb.2;have hp:ops[k]? =some p:=by
   rw [UO] at hk;simpa using hk
  rcases U7 k j with hkj |hkj
  ·have hl:=Zrh h ho hr hc m k (by omega) hkj;have:=hc k p hp hl e he hb.1
   rwa [hei] at this
  ·have hkj':k=j:=by omega
   subst hkj';rw [ho] at hp;cases hp;have:=hr e he hb.1
   rwa [hei] at this
theorem Zri (hT:TOk P E.T) (hC:Xl P GE.ng GE.G0 E.C) (hU:Qs P GE.ng GE.G0 E.cu/\(GE.v0≠none->E.kp=true)) (hcf:ZcQ E id ops=true) {K:St->Option β} {D:Nat->Prop} {Pr0:Nat->Nat->Prop} {w0:World} {Q:Exit->Act->World->Prop}
  (hQ:∀s1 a' w',K s1=some r->At GE D Pr0 w0 E.nt s1 a' w'->Q .normal a' w'):∀(fuel:Nat) (listed:Array Bool) (rem:List (Oper×Nat)) (s:St) (a:Act) (w:World),rem.length<=fuel->listed.size=ops.size->
  (∀i p,ops[i]? =some p->listed.getD i false=true->∀e∈p.after,Region.binds .any e=true->listed.getD e.on false=true)->
  rem.Pairwise (fun p q=>p.2 < q.2)->(∀p,p∈rem↔(ops[p.2]? =some p.1/\listed.getD p.2 true=false))->YD E id ops rem s K=some r->At GE D Pr0 w0 E.nt s a w->wpAny P .any ops Q fuel listed a w
 | 0,listed,rem,s,a,w,hl,_,_,_,hm,h,hat=>by
  have hr:rem= []:=Uv (by omega);subst hr;refine ⟨?_,hQ s a w h hat⟩;cases hrd:Region.ready .any ops listed with
  |nil=>rfl
  |cons j js=>
   have hj:j∈Region.ready .any ops listed:=by rw [hrd];exact Un ..
   obtain ⟨h1,o,h2,_⟩:=mem_ready.1 hj;have:=(hm (o,j)).2 ⟨h2,h1⟩;cases this
 |fuel + 1,listed,rem,s,a,w,hl,hsz,hcl,hpw,hm,h,hat=>by
  refine ⟨fun hrd=> ?_,fun i hi=> ?_⟩
  ·cases rem with
   |nil=>exact hQ s a w h hat
   |cons p rem=>
    exfalso
    obtain ⟨hp1,hp2⟩:=(hm p).1 (Un ..);obtain ⟨hed,_⟩:=Zrf hcf hp1;have:p.2∈Region.ready .any ops listed:=mem_ready.2 ⟨hp2,p.1,hp1,fun e he hb=>by
     have hlt:=hed e he hb;have hpl:p.2 < ops.size:=(Array.getElem?_eq_some_iff.1 hp1).1;have hel:e.on < listed.size:=by omega
     cases hq:listed.getD e.on false with
     |true=>rfl
     |false=>
      exfalso
      have hq':listed.getD e.on true=false:=by simpa [hel] using hq
      obtain ⟨q,hq1⟩:∃q,ops[e.on]? =some q:=⟨_,MG (by omega)⟩
      have hmem:=(hm (q,e.on)).2 ⟨hq1,hq'⟩;rcases List.mem_cons.1 hmem with hmem |hmem
      ·rw [←hmem] at hlt;exact absurd hlt (MR _)
      ·have:=(List.pairwise_cons.1 hpw).1 _ hmem;simp only at this;omega⟩
    rw [hrd] at this;cases this
  ·obtain ⟨h1,o,h2,h3⟩:=mem_ready.1 hi;have hmem:=(hm (o,i)).2 ⟨h2,h1⟩;obtain ⟨L1,L2,rfl⟩:=List.append_of_mem hmem;have hpw':=List.pairwise_append.1 hpw;have hb:ZC E id ops i o s (fun s'=>YD E id ops (L1 ++ L2) s' K)=some r:=by
    have hlastc:ZbC ops i=true->ZC E id ops i o s (fun s'=>YD E id ops (L1 ++ L2) s' K)=some r:=fun hlast=>by
     have hL1:L1= []:=by
      cases hL:L1 with
      |nil=>rfl
      |cons y ys=>
       exfalso
       have hyL:y∈L1:=by rw [hL];exact Un ..
       obtain ⟨y1,y2⟩:=(hm y).1 (Uz _ hyL);have hlt:=hpw'.2.2 y hyL _ (Un ..);have h4:=Zrh hlast h2 h3 hcl i y.2 (by omega) hlt;have hyl:y.2 < listed.size:=by rw [hsz];exact (Array.getElem?_eq_some_iff.1 y1).1
       simp [hyl] at h4 y2;rw [y2] at h4;cases h4
     subst hL1;simp only [U5,YD] at h;exact ZcZ (x:=(o,i)) h
    rcases (Zrf hcf h2).2 with hlast | ⟨hq,hap⟩
    ·exact hlastc hlast
    cases hlst:ZbC ops i with
    |true=>exact hlastc hlst
    |false=>
     have hunf:∀y∈L1,ops[y.2]? =some y.1/\y.2 < i/\Kx ops o y.2=false:=fun y hy=>by
      obtain ⟨y1,y2⟩:=(hm y).1 (Uz _ hy);have hlt:=hpw'.2.2 y hy _ (Un ..);refine ⟨y1,hlt,?_⟩;cases hf:Kx ops o y.2 with
      |false=>rfl
      |true=>
       have h4:=ZAU hf h3 hcl;have hyl:y.2 < listed.size:=by rw [hsz];exact (Array.getElem?_eq_some_iff.1 y1).1
       simp [hyl] at h4 y2;rw [y2] at h4;cases h4
     cases hs:YW E id i o with
     |true=>
      refine (Zra (x:=(o,i)) hs hlst hpw'.1 (fun y hy=> ?_) h).2;obtain ⟨y1,hlt,hf⟩:=hunf y hy;refine ⟨y1,hlt,hf,?_⟩;rcases hap y.1 y.2 y1 hlt with h |h | ⟨h5,h6⟩
      ·rw [hf] at h;cases h
      ·exfalso
       rcases h with h | ⟨_,_,hm,_⟩
       case inr=>have:=Zhc hm;rw [hs] at this;cases this
       obtain ⟨_,_,_,_,_,t,p,v,ho⟩:=ZaA hs;unfold Kw exC Qm at h;rw [ho] at h;split at h
       ·cases h
       ·simp at h
      ·rcases h6 with ⟨_,h6,h7⟩ | ⟨h6,_⟩
       ·refine ⟨h5,h6,fun s=> ?_⟩;rcases h7 with h7 |h7
        ·rw [h7];rfl
        ·have:Yl y.1 s=false:=by
          unfold Zlq at h7;unfold Yl;split
          ·rename_i t n ho;rw [ho] at h7;cases h7
          ·rfl
         rw [this,Bool.and_false]
       ·rw [hs] at h6;cases h6
     |false=>
      have hq2:(mov E id (o,i)\/Qm E id i o=true)\/Qn E id i o=true/\Xx E ops=true:=by
       rcases hq with (hq |hq) |hq
       ·exact .inl hq
       ·rw [hs] at hq;cases hq
       ·exact .inr hq
      refine (Zhf (x:=(o,i)) (by
       rcases hq2 with (hq2 |hq2) |hq2
       ·exact .inl hq2
       ·exact .inr (.inl hq2)
       ·exact .inr (.inr hq2.1)) hs (fun y hy=> ?_) h).1
      obtain ⟨y1,hlt,hf⟩:=hunf y hy;rcases hap y.1 y.2 y1 hlt with h |h | ⟨h5,h6⟩
      ·rw [hf] at h;cases h
      ·rcases h with h |h
       ·refine .inl ⟨h,?_⟩;unfold Kw at h;split at h
        ·cases h
        ·split at h
         ·rename_i hc;rcases hq2 with hq2 |hq2
          ·exact hq2
          ·exfalso
           obtain ⟨_,_,_,_,_,ho,_⟩:=Zmb hc;obtain ⟨_,_,_,_,_,c,f,ho',_⟩:=Zmg hq2.1;rw [ho] at ho';cases ho'
         ·rw [Ub] at h;exact .inr h.1
       ·exact .inr (.inr h)
      ·rcases h6 with ⟨h6,_⟩ | ⟨_,h6⟩
       ·rw [hs] at h6;cases h6
       ·exact .inr (.inl ⟨h5,h6,hq2⟩)
   obtain ⟨s1,g1,g2⟩:=Zg3 (GE:=GE) hT hC hU hb;unfold wpOp;simp only [h2];refine g2 D Pr0 w0 a w hat _ Q fun a' w' hat'=> ?_
   refine Zri hT hC hU hcf hQ fuel _ (L1 ++ L2) s1 a' w' (by simp at hl ⊢;omega) (by simpa using hsz) (fun k p hk hlk e he hbe=> ?_) ?_ (fun p=> ?_) g1 hat'
   ·have hil:i < listed.size:=by rw [hsz];exact (Array.getElem?_eq_some_iff.1 h2).1
    have hset:∀m,listed.getD m false=true->(listed.setIfInBounds i true).getD m false=true:=fun m hm=>by
     by_cases hmi:i=m
     ·subst hmi;simp [hil]
     ·rw [getD_set_ne false hmi];exact hm
    by_cases hki:i=k
    ·subst hki;rw [h2] at hk;cases hk;exact hset _ (h3 e he hbe)
    ·rw [getD_set_ne false hki] at hlk;exact hset _ (hcl k p hk hlk e he hbe)
   ·rw [List.pairwise_append];exact ⟨hpw'.1,(List.pairwise_cons.1 hpw'.2.1).2,fun y hy z hz=>hpw'.2.2 y hy z (Ui _ hz)⟩
   ·have hil:i < listed.size:=by rw [hsz];exact (Array.getElem?_eq_some_iff.1 h2).1
    have hne:p∈L1 ++ L2->p.2≠i:=fun hp e=>by
     rcases List.mem_append.1 hp with hp |hp
     ·have:=hpw'.2.2 p hp _ (Un ..);simp only at this;omega
     ·have:=(List.pairwise_cons.1 hpw'.2.1).1 p hp;simp only at this;omega
    constructor
    ·intro hp;have hn:=hne hp;have:=(hm p).1 (by
      rcases List.mem_append.1 hp with hp |hp
      ·exact Uz _ hp
      ·exact UD _ (Ui _ hp))
     exact ⟨this.1,by rw [getD_set_ne true (fun e=>hn e.symm)];exact this.2⟩
    ·rintro ⟨p1,p2⟩;have hn:i≠p.2:=fun e=>by
      subst e;simp [hil] at p2
     rw [getD_set_ne true hn] at p2;have:=(hm p).2 ⟨p1,p2⟩;rcases List.mem_append.1 this with h |h
     ·exact Uz _ h
     ·rcases List.mem_cons.1 h with h |h
      ·exact absurd (by rw [h]) hn
      ·exact UD _ h
end
end Go.Fx
