/- Regions that draw their order. -/
import Derived.Test.YtdnmbglemaogcaaGreatDoorFzW
set_option linter.all false
namespace Go.Fx
section
variable {P:Program} {GE:Glob} {β:Type} {r:β} {E:Ctx} {id:Nat} {ops:Array Oper}
def AgrT (ops:Array Oper) (o:Oper) (s s':St):Prop:=(∀t,t∈o.looksAt ops->s'.env t=s.env t)/\(∀key ob,s.L key=some ob->s'.L key=some ob)/\(Yj o s=true->s'.G=s.G)
theorem AgrT.agr {o:Oper} {s s':St} (h:AgrT ops o s s'):Agr (Yj o s) o.op.operands.toList s s':=⟨fun t ht=>h.1 t (by
 unfold Oper.looksAt;refine Uw _ ?_;rw [MZ];exact ⟨_,ht,rfl⟩),h.2⟩
theorem AgrT.refl (o:Oper) (s:St):AgrT ops o s s:=⟨fun _ _=>rfl,fun _ _ h=>h,fun _=>rfl⟩
def eff (s:St) (n:List Nat) (d:Option Nat) (v:SV):St:=put (ZO s n) d v
theorem Vs (s:St) (n:List Nat) (d:Option Nat) (v:SV):(eff s n d v).L=s.L:=by
 cases d <;> exact Zeb s n
theorem VP (s:St) (n:List Nat) (d:Option Nat) (v:SV):(eff s n d v).G=s.G:=by
 cases d <;> exact Zbp s n
theorem YL (s:St) (n:List Nat) (d:Option Nat) (v:SV) (t:Nat):(eff s n d v).env t=if d=some t then v else if t∈n then XH (s.env t) else s.env t:=by
 cases d with
 |none=>simp only [eff,put,reduceCtorEq,My];exact Ji s n t
 |some d=>
  by_cases h:d=t
  ·subst h;simp [eff,put,ZF]
  ·simp only [eff,put,MQ,h,My];rw [Zx _ _ (fun e=>h e.symm)];exact Ji s n t
theorem St.ext' {s s':St} (h1:∀t,s.env t=s'.env t) (h2:s.L=s'.L) (h3:s.G=s'.G):s=s':=by
 obtain ⟨e,l,g⟩:=s;obtain ⟨e',l',g'⟩:=s';simp only at h1 h2 h3;obtain rfl:e=e':=funext h1;rw [h2,h3]
theorem Zaa {n:Nat} {l:List Nat} {o:Oper} (h:Qb ops l o=true) (hn:n∈l):n∉o.looksAt ops/\o.dst≠some n:=by
 have h:=MW.1 h n hn;simp only [Ua,UG,List.any_eq_false] at h;refine ⟨fun hm=> ?_,fun hd=> ?_⟩
 ·exact h.1 n hm (Mw n)
 ·rw [hd] at h;have:=h.2;simp at this
theorem Zp4 {o:Oper} {s:St} {n:List Nat} {d:Option Nat} {v:SV} (h:∀d',d=some d'->d'∉o.looksAt ops) (hn:Qb ops n o=true):AgrT ops o s (eff s n d v):=by
 refine ⟨fun t ht=> ?_,fun key ob hk=>by rw [Vs];exact hk,fun _=>VP _ _ _ _⟩;rw [YL,Ui (fun e=>h t e ht),Ui (fun e=>(Zaa hn e).1 ht)]
theorem Zy4 {o:Oper} {s:St} {n:List Nat} {d:Option Nat} {v:SV} (h:∀d',d=some d'->d'∉o.looksAt ops) (hn:Qb ops n o=true):AgrT ops o (eff s n d v) s:=by
 obtain ⟨h1,h2,_⟩:=Zp4 (s:=s) (v:=v) h hn;exact ⟨fun t ht=>(h1 t ht).symm,fun key ob hk=>by rw [Vs] at hk;exact hk,fun _=>(VP _ _ _ _).symm⟩
theorem Zy5 {s:St} {n1 n2:List Nat} {d1 d2:Option Nat} {v1 v2:SV} (h:∀d,d1=some d->d2≠some d) (h1:∀d,d∈n1->d2≠some d) (h2:∀d,d∈n2->d1≠some d):
  eff (eff s n1 d1 v1) n2 d2 v2=eff (eff s n2 d2 v2) n1 d1 v1:=by
 refine St.ext' (fun t=> ?_) (by simp only [Vs]) (by simp only [VP]);simp only [YL];by_cases e1:d1=some t
 ·rw [Ui (h t e1),Ui (fun e=>h2 t e e1),Uj e1,Uj e1]
 ·by_cases e2:d2=some t
  ·rw [Uj e2,Ui e1,Ui (fun e=>h1 t e e2),Uj e2]
  ·simp only [Ui e1,Ui e2];split <;> split <;> rfl
abbrev mov (E:Ctx) (id:Nat) (p:Oper×Nat):Prop:=Jf E id p.1 p.2=true
abbrev tak (E:Ctx) (id:Nat) (p:Oper×Nat):List Nat:=YS (E.tk id p.2) p.1
theorem Kc {o:Oper} {i:Nat} {s:St} {K:St->Option β} (hq:mov E id (o,i)) (h:ZC E id ops i o s K=some r):
  ∃v,K (eff s (tak E id (o,i)) o.dst v)=some r/\∀s',AgrT ops o s s'->∀K':St->Option β,ZC E id ops i o s' K'=K' (eff s' (tak E id (o,i)) o.dst v):=by
 have hm:Jf E id o i=true:=hq;unfold ZC at h;cases hg:o.guard with
 |none=>
  rw [hg] at h;simp only at h;cases hok:okE E.nt E.kp o.dst with
  |false=>rw [hok] at h;cases h
  |true=>
   rw [hok] at h;obtain ⟨v,h1,h2⟩:=Zy3 hm h;refine ⟨v,h1,fun s' ha K'=> ?_⟩;simp only [ZC,hg,hok,Uo];exact h2 s' ha.agr _
 |some jw=>
  have htn:tak E id (o,i)= []:=ZyZ hg;rw [htn];have hm2:=hm;unfold Jf at hm2;simp only [Ua,U9,UG] at hm2;rcases hm2 with hm2 |hm2
  case inr=>
   have:=(Zp1 hm2.1.1.1).1;rw [hg] at this;cases this
  obtain ⟨⟨⟨⟨hp,hmo⟩,hm2⟩,hpm⟩,hth⟩:=hm2;have htk:E.tk id i=false:=by
   rcases hm2 with hm2 |hm2
   ·exact hm2
   ·have:=(Zp0 hm2.1).1;rw [hg] at this;cases this
  obtain ⟨j,want⟩:=jw;rw [hg] at h;simp only at h;split at h
  ·cases h
  ·rename_i t ht;cases hok:okE E.nt E.kp o.dst with
   |false=>rw [hok] at h;cases h
   |true=>
    rw [hok] at h;simp only [Uk,Un] at h;have htl:t∈o.looksAt ops:=by
     unfold Oper.looksAt;refine UD _ ?_;simp [hg,ht]
    split at h
    ·rename_i hen;refine ⟨_,h,fun s' ha K'=> ?_⟩;have e1:s'.env t= .val (.tup []):=(ha.1 t htl).trans hen;simp only [ZC,hg,ht,hok,Uk,Un,e1];rfl
    obtain ⟨b,hb,h⟩:=Zlp h;have hen:=Zln hb;have hself:∀{s':St},s'.env t=s.env t->({s' with env:=upd s'.env t (XC b)}:St)=s':=fun {s'} e=>by
     have:upd s'.env t (XC b)=s'.env:=by rw [←hen,←e];exact ZpT _ _
     rw [this]
    have hrw:∀s',AgrT ops o s s'->∀K':St->Option β,ZC E id ops i o s' K'=bif b==want then opR E id i o s' (fun v s''=>K' (put s'' o.dst v)) else K' (put s' o.dst (.val Y5)):=by
     intro s' ha K';have e1:s'.env t=XC b:=(ha.1 t htl).trans hen;have e2:=hself (ha.1 t htl);have e3:svA (s'.env t)= .lit (.bool b):=by rw [e1];rfl
     have e4:s'.env t= .val (.lit (.bool b)):=e1;simp only [ZC,hg,ht,hok,Uk,Un,e4,svA,Za9,cnd];cases b <;> cases want <;> simp only [Uo,Un] <;> rw [e2] <;> rfl
    have h':(bif b==want then opR E id i o s (fun v s''=>K (put s'' o.dst v)) else K (put s o.dst (.val Y5)))=some r:=by
     rw [←h];have e2:=hself (s':=s) rfl;cases b <;> cases want <;> simp only [Uo,Un] <;> rw [e2] <;> rfl
    cases hbw:b==want with
    |true=>
     rw [hbw] at h';obtain ⟨v,h1,h2⟩:=ZpY hp hpm hth htk hmo h';exact ⟨v,h1,fun s' ha K'=>by rw [hrw s' ha K',hbw];exact h2 s' ha.agr _⟩
    |false=>
     rw [hbw] at h';exact ⟨.val Y5,h',fun s' ha K'=>by rw [hrw s' ha K',hbw];rfl⟩
def Part (E:Ctx) (id:Nat) (ops:Array Oper) (y x:Oper×Nat):Prop:=
 Oper.apart ops y.1 x.1=true/\Qb ops (tak E id y) x.1=true/\(X9 E id x.2 x.1=true\/Qb ops (tak E id x) y.1=true)
theorem Zgx {o:Oper} {j:Nat} (h:X9 E id j o=true):Nat.beq (E.hb id j) 0=true/\E.th id j=false/\o.guard=none/\∃t,o.op= .alloc t:=by
 unfold X9 at h;simp only [Ua,UG] at h;refine ⟨h.1.1,h.1.2,?_⟩;have h:=h.2;split at h
 ·rename_i h1 h2;exact ⟨h1,_,h2⟩
 ·cases h
theorem Zy6 {x y:Oper×Nat} {s:St} {K:St->Option β} (hx:mov E id x) (hy:mov E id y) (hap:Oper.apart ops y.1 x.1=true) (hl1:Qb ops (tak E id y) x.1=true) (hl2:Qb ops (tak E id x) y.1=true)
  (h:ZC E id ops y.2 y.1 s (fun s1=>ZC E id ops x.2 x.1 s1 K)=some r):ZC E id ops x.2 x.1 s (fun s1=>ZC E id ops y.2 y.1 s1 K)=some r:=by
 obtain ⟨a1,a2,a3⟩:=Oper.apart_spec hap;obtain ⟨vy,h1,fy⟩:=Kc hy h;obtain ⟨vx,h2,fx⟩:=Kc hx h1;rw [fx s (Zy4 a1 hl1),fy _ (Zp4 a3 hl2),Zy5 (fun d hd e=>a2 d e hd) (fun d hd e=> ?_) (fun d hd e=> ?_)]
 ·exact h2
 ·exact (Zaa hl2 hd).2 e
 ·exact (Zaa hl1 hd).2 e
theorem Zlv {o:Oper} {i:Nat} {t:Nat} {s:St} {K:SV->St->Option β} (hb:Nat.beq (E.hb id i) 0=true) (hth:E.th id i=false) (ho:o.op= .alloc t) (h:opR E id i o s K=some r):
  ∃d,o.dst=some d/\(E.T t).ok=true/\E.rt id i=none/\s.L d=none/\K (.lp d 0 0) {s with L:=upd s.L d (some ⟨false,(E.T t).size,[(E.T t).zero]⟩)}=some r:=by
 unfold opR at h;rw [hth] at h;simp only [Un] at h;unfold Xd at h;unfold opM at h;rw [hb] at h;simp only [Uo] at h;cases hrt:E.rt id i with
 |none=>
  rw [hrt] at h;simp only [opK,ho] at h;cases hok:(E.T t).ok with
  |false=>rw [hok] at h;cases h
  |true=>
   rw [hok] at h;simp only [Uk,Un,newObj] at h;split at h
   ·cases h
   ·rename_i d hd;split at h
    ·rename_i hL;exact ⟨d,hd,rfl,rfl,hL,h⟩
    ·cases h
 |some A=>
  rw [hrt] at h;simp only [opK,ho] at h;cases hok:(E.T t).ok with
  |false=>rw [hok] at h;cases h
  |true=>
   rw [hok] at h;simp only [Uk,Un,newObj] at h;split at h
   ·cases h
   ·split at h
    ·cases h
    ·cases h
theorem Zy7 {x y:Oper×Nat} {s:St} {K:St->Option β} (hx:X9 E id x.2 x.1=true) (hy:mov E id y) (hap:Oper.apart ops y.1 x.1=true) (hl1:Qb ops (tak E id y) x.1=true)
  (h:ZC E id ops y.2 y.1 s (fun s1=>ZC E id ops x.2 x.1 s1 K)=some r):ZC E id ops x.2 x.1 s (fun s1=>ZC E id ops y.2 y.1 s1 K)=some r:=by
 obtain ⟨a1,a2,a3⟩:=Oper.apart_spec hap;obtain ⟨hb,hth,hg,t,ho⟩:=Zgx hx;obtain ⟨vy,h1,fy⟩:=Kc hy h;unfold ZC at h1;rw [hg] at h1;simp only at h1;cases hok:okE E.nt E.kp x.1.dst with
 |false=>rw [hok] at h1;cases h1
 |true=>
  rw [hok] at h1;obtain ⟨d,hd,htok,hrt,hL,h2⟩:=Zlv hb hth ho h1;rw [Vs] at hL h2;have e:∀K':St->Option β,ZC E id ops x.2 x.1 s K'=K' (put {s with L:=upd s.L d (some ⟨false,(E.T t).size,[(E.T t).zero]⟩)} x.1.dst (.lp d 0 0)):=fun K'=>by
   unfold ZC;rw [hg];simp only [hok,Uo];unfold opR;rw [hth];simp only [Un];unfold Xd;rw [hrt];simp only;unfold opM;rw [hb];simp only [Uo,opK,ho,htok,Uk,Un,newObj];rw [hd];simp only [hL]
  have hag:AgrT ops y.1 s (put {s with L:=upd s.L d (some ⟨false,(E.T t).size,[(E.T t).zero]⟩)} x.1.dst (.lp d 0 0)):=by
   rw [hd];refine ⟨fun t' ht'=> ?_,fun key ob hk=> ?_,fun _=>rfl⟩
   ·exact Zx _ _ fun e1=>by subst e1;exact a3 _ hd ht'
   ·have:key≠d:=fun e1=>by subst e1;rw [hL] at hk;cases hk
    exact (Zx s.L _ this).trans hk
  rw [e,fy _ hag,←h2];congr 1;have hnd:d∉tak E id (y.1,y.2):=fun e'=>(Zaa hl1 e').2 hd
  have hdd:y.1.dst≠some d:=fun e'=>a2 d e' hd
  refine St.ext' (fun t'=> ?_) ?_ ?_
  ·rw [YL,hd];show _=upd _ d _ t';by_cases e1:t'=d
   ·subst e1;rw [Ui hdd,Ui hnd,ZF];exact ZF _ _ _
   ·rw [Zx _ _ e1,YL];have:(put {s with L:=upd s.L d (some ⟨false,(E.T t).size,[(E.T t).zero]⟩)} (some d) (.lp d 0 0)).env t'=s.env t':=Zx _ _ e1;rw [this]
  ·rw [Vs,hd];rfl
  ·rw [VP,hd];show s.G=(eff s _ _ _).G;rw [VP]
theorem Zy8 {α:Type} (f:Nat->α) {n d:Nat} (h:n≠d) (x y:α):upd (upd f d y) n x=upd (upd f n x) d y:=by
 funext i
 by_cases e1:i=n
 ·subst e1;rw [ZF,Zx _ _ h,ZF]
 ·by_cases e2:i=d
  ·subst e2;rw [Zx _ _ e1,ZF,ZF]
  ·rw [Zx _ _ e1,Zx _ _ e2,Zx _ _ e2,Zx _ _ e1]
theorem Zp5 {tk:Bool} {cf:Value->Option AV} {x:Operand} {d:Nat} {b:AV} {s:St} {K:SV->St->Option β} (hne:x≠ .tmp d):
  rd tk cf x (put s (some d) (.val b)) K=rd tk cf x s (fun v s'=>K v (put s' (some d) (.val b))):=by
 cases x with
 |tmp n=>
  have hn:n≠d:=fun e=>hne (by rw [e])
  have e1:(put s (some d) (.val b)).env n=s.env n:=Zx _ _ hn;simp only [rd,e1];cases s.env n with
  |val a=>
   simp only;cases tk with
   |false=>rfl
   |true=>
    simp only [Uo];congr 1;show (⟨upd (upd s.env d (.val b)) n (.val a.clr),s.L,s.G⟩:St)=⟨upd (upd s.env n (.val a.clr)) d (.val b),s.L,s.G⟩
    rw [Zy8 _ hn]
  |no=>rfl
  |lp k i o=>rfl
  |la k=>rfl
  |lv k i o g=>rfl
 |const v=>rfl
 |func f=>rfl
 |global g=>rfl
theorem Zy9 (key:Nat) (f:Nat->SV) (d:Nat) (b:AV):nolv key (upd f d (.val b))=upd (nolv key f) d (.val b):=by
 funext i
 unfold nolv;by_cases e:i=d
 ·subst e;rw [ZF,ZF]
 ·rw [Zx _ _ e,Zx _ _ e]
theorem Zza {dd:TD} {p:SV} {a:AV} {d:Nat} {b:AV} {s:St} {K:SV->St->Option β}:
  X8 E dd p a (put s (some d) (.val b)) K=X8 E dd p a s (fun v s'=>K v (put s' (some d) (.val b))):=by
 cases p with
 |lp key i off=>
  simp only [X8,put,Zy9]
 |val v=>
  cases v <;> simp only [X8,put]
 | _=>rfl
theorem Zzb {key:Nat} {f:Nat->SV} {n:Nat} {a:AV} (h:f n= .val a):nolv key f n= .val a:=by unfold nolv;rw [h]
theorem Zzc {dd:TD} {p:SV} {a:AV} {s:St} {K:SV->St->Option β} (h:X8 E dd p a s K=some r):
  ∃s2,K .no s2=some r/\(∀K':SV->St->Option β,X8 E dd p a s K'=K' .no s2)/\∀n c,s.env n= .val c->s2.env n= .val c:=by
 unfold X8 at h;split at h
 ·rename_i key i off;split at h
  ·rename_i o ho;cases hf:o.frz with
   |true=>rw [hf] at h;cases h
   |false=>
    rw [hf] at h;obtain ⟨x,h1,h2⟩:=Zct h;obtain ⟨cs,h3,h4⟩:=Option.bind_eq_some_iff.1 h1;split at h4
    ·rename_i hle;refine ⟨_,h4,fun K'=> ?_,fun n c hn=>Zzb hn⟩;simp only [X8,ho,hf,Un];rw [h2,h3,UF,Uj hle]
    ·cases h4
  ·cases h
 ·rename_i id off;split at h
  ·rename_i row ho;obtain ⟨cs,h3,h4⟩:=Option.bind_eq_some_iff.1 h;split at h4
   ·rename_i hle;refine ⟨_,h4,fun K'=> ?_,fun n c hn=>hn⟩;simp only [X8,ho];rw [h3,UF,Uj hle]
   ·cases h4
  ·cases h
 ·cases h
theorem Zab {o:Oper} {j:Nat} (h:YU E id j o=true):(Nat.beq (E.hb id j) 0=true\/Nat.beq (E.hb id j) 6=true)/\E.th id j=false/\E.rt id j=none/\o.guard=none/\o.dst=none/\∃t p v,o.op= .store t p v:=by
 unfold YU at h;simp only [Ua,U9,UG,Mr] at h;refine ⟨h.1.1.1,h.1.1.2,h.1.2,?_⟩;have h:=h.2;split at h
 ·rename_i h1 h2 h3;exact ⟨h1,h3,_,_,_,h2⟩
 ·cases h
theorem Zp6 {p o:Oper} {i:Nat} (h:Zga E id i p o=true):Nat.beq (E.hb id i) 0=true/\E.th id i=false/\E.tk id i=false/\E.rt id i=none/\p.guard=none/\
  ∃n k d,p.op= .extract (.tmp n) k/\p.dst=some d/\Operand.tmp n∉o.op.operands.toList/\Operand.tmp d∉o.op.operands.toList:=by
 unfold Zga at h;simp only [Ua,UG,Mr] at h;refine ⟨h.1.1.1.1,h.1.1.1.2,h.1.1.2,h.1.2,?_⟩;have h:=h.2;split at h
 ·rename_i n k d h1 h2 h3;refine ⟨h1,n,k,d,h2,h3,fun hm=> ?_,fun hm=> ?_⟩
  ·have:=MW.1 h _ hm;simp at this
  ·have:=MW.1 h _ hm;simp at this
 ·cases h
theorem Zp7 {tk:Bool} {cf:Value->Option AV} {x:Operand} {n:Nat} {s:St} {K:SV->St->Option β} (hne:x≠ .tmp n) (h:rd tk cf x s K=some r):
  ∃v s',K v s'=some r/\(∀K':SV->St->Option β,rd tk cf x s K'=K' v s')/\s'.env n=s.env n:=by
 cases x with
 |tmp m=>
  have hm:n≠m:=fun e=>hne (by rw [e])
  simp only [rd] at h;split at h
  ·rename_i a ha;cases tk with
   |false=>exact ⟨_,_,h,fun K'=>by simp only [rd,ha,Un],rfl⟩
   |true=>exact ⟨_,_,h,fun K'=>by simp only [rd,ha,Uo],Zx _ _ hm⟩
  ·cases h
  ·rename_i h1 h2;refine ⟨_,_,h,fun K'=> ?_,rfl⟩;simp only [rd]
 |const v=>
  obtain ⟨a,h1,h2⟩:=Option.bind_eq_some_iff.1 (show (cf v).bind (fun a=>K (.val a) s)=some r from h);exact ⟨_,_,h2,fun K'=>by simp only [rd,h1,UF],rfl⟩
 |func f=>exact ⟨_,_,h,fun K'=>rfl,rfl⟩
 |global g=>cases h
theorem Zp8 {p o:Oper} {i j:Nat} (h:Jg E id i j p o=true):Nat.beq (E.hb id j) 0=true/\Zga E id i p o=true:=by
 unfold Jg at h;simpa using h
theorem Zp9 {x y:Oper×Nat} {s:St} {K:St->Option β} (hx:YU E id x.2 x.1=true) (hyj:Jg E id y.2 x.2 y.1 x.1=true)
  (h:ZC E id ops y.2 y.1 s (fun s1=>ZC E id ops x.2 x.1 s1 K)=some r):ZC E id ops x.2 x.1 s (fun s1=>ZC E id ops y.2 y.1 s1 K)=some r:=by
 obtain ⟨_,x2,x3,x4,x5,t,p,v,x6⟩:=Zab hx;obtain ⟨x1,hy⟩:=Zp8 hyj;obtain ⟨y1,y2,y3,y4,y5,n,k,d,y6,y7,y8,y9⟩:=Zp6 hy;have ey:∀(s:St) (K':St->Option β),ZC E id ops y.2 y.1 s K'=bif okE E.nt E.kp (some d) then (match s.env n with
   | .val (.tup vs)=>match vs[k]? with
    |some a=>K' (put s (some d) (.val a.clr))
    |none=>none
   | _=>none) else none:=fun s K'=>by
  unfold ZC;simp only [y5];unfold opR Xd opM;simp only [y2,Un,y4,y1,Uo,opK,y6,y3,y7];rfl
 have ex:∀(s:St) (K':St->Option β),ZC E id ops x.2 x.1 s K'=(bif okE E.nt E.kp none then bif !(E.T t).ok then none else rd (E.tk id x.2) (constA (E.T t)) v s fun v s1=>
   match v with
   | .val a=>rd false (fun _=>none) p s1 fun p s2=>X8 E (E.T t) p a s2 fun v s'=>K' s'
   | _=>none else none):=fun s K'=>by
  unfold ZC;simp only [x4];unfold opR Xd opM;simp only [x2,Un,x3,x1,Uo,opK,x6,x5];rfl
 have hv:v≠ .tmp d/\p≠ .tmp d/\v≠ .tmp n/\p≠ .tmp n:=by
  rw [x6] at y8 y9;simp only [Op.operands] at y8 y9;refine ⟨fun e=>y9 (by simp [e]),fun e=>y9 (by simp [e]),fun e=>y8 (by simp [e]),fun e=>y8 (by simp [e])⟩
 rw [ey] at h;cases hok:okE E.nt E.kp (some d) with
 |false=>rw [hok] at h;cases h
 |true=>
 rw [hok] at h;simp only [Uo] at h;split at h
 case h_2=>cases h
 rename_i vs hen;split at h
 case h_2=>cases h
 rename_i a hk;rw [ex] at h ⊢;cases hok2:okE E.nt E.kp none with
 |false=>rw [hok2] at h;cases h
 |true=>
 rw [hok2] at h;simp only [Uo] at h ⊢;cases htok:(E.T t).ok with
 |false=>rw [htok] at h;cases h
 |true=>
 rw [htok] at h;simp only [Uk,Un] at h ⊢;rw [Zp5 hv.1] at h;obtain ⟨v1,s1,h1,g1,k1⟩:=Zp7 hv.2.2.1 h;rw [g1];cases v1 with
 |val a'=>
  simp only at h1 ⊢;rw [Zp5 hv.2.1] at h1;obtain ⟨v2,s2,h2,g2,k2⟩:=Zp7 hv.2.2.2 h1;rw [g2]
  try simp only at h2
  rw [Zza] at h2;obtain ⟨s3,h3,g3,k3⟩:=Zzc h2;rw [g3,ey,hok];simp only [Uo,k3 n _ (k2.trans (k1.trans hen)),hk];exact h3
 |no=>cases h1
 |lp _ _ _=>cases h1
 |la _=>cases h1
 |lv _ _ _ _=>cases h1
theorem Zlw {o:Oper} {i n k d:Nat} (h:exT E id i o=some (n,k,d)):Nat.beq (E.hb id i) 0=true/\E.th id i=false/\E.tk id i=true/\E.rt id i=none/\o.guard=none/\o.op= .extract (.tmp n) k/\o.dst=some d:=by
 unfold exT at h;cases hc:Nat.beq (E.hb id i) 0 && !E.th id i && E.tk id i && (E.rt id i).isNone with
 |false=>rw [hc] at h;cases h
 |true=>
  rw [hc] at h;simp only [Ua,UG,Mr] at hc;simp only [Uo] at h;split at h
  ·rename_i h1 h2 h3;cases h;exact ⟨hc.1.1.1,hc.1.1.2,hc.1.2,hc.2,h1,h2,h3⟩
  ·cases h
theorem Zlx {o:Oper} {i n k d:Nat} (h:exC E id i o=some (n,k,d)):Nat.beq (E.hb id i) 0=true/\E.th id i=false/\E.tk id i=false/\E.rt id i=none/\o.guard=none/\o.op= .extract (.tmp n) k/\o.dst=some d:=by
 unfold exC at h;cases hc:Nat.beq (E.hb id i) 0 && !E.th id i && !E.tk id i && (E.rt id i).isNone with
 |false=>rw [hc] at h;cases h
 |true=>
  rw [hc] at h;simp only [Ua,UG,Mr] at hc;simp only [Uo] at h;split at h
  ·rename_i h1 h2 h3;cases h;exact ⟨hc.1.1.1,hc.1.1.2,hc.1.2,hc.2,h1,h2,h3⟩
  ·cases h
def exS (s:St) (n k d:Nat) (vs:List AV) (a:AV):St:=put {s with env:=upd s.env n (.val (.tup (vs.modify k AV.clr)))} (some d) (.val a)
theorem Zqa {y:Oper×Nat} {n k d:Nat} (hy:exT E id y.2 y.1=some (n,k,d)) {β:Type} (s:St) (K':St->Option β):ZC E id ops y.2 y.1 s K'=bif okE E.nt E.kp (some d) then (match s.env n with
   | .val (.tup vs)=>match vs[k]? with
    |some a=>K' (exS s n k d vs a)
    |none=>none
   | _=>none) else none:=by
 obtain ⟨y1,y2,y3,y4,y5,y6,y7⟩:=Zlw hy;unfold ZC;simp only [y5];unfold opR Xd opM;simp only [y2,Un,y4,y1,Uo,opK,y6,y3,y7];rfl
theorem Zzd {y:Oper×Nat} {n k d:Nat} (hy:exC E id y.2 y.1=some (n,k,d)) {β:Type} (s:St) (K':St->Option β):ZC E id ops y.2 y.1 s K'=bif okE E.nt E.kp (some d) then (match s.env n with
   | .val (.tup vs)=>match vs[k]? with
    |some a=>K' (put s (some d) (.val a.clr))
    |none=>none
   | _=>none) else none:=by
 obtain ⟨y1,y2,y3,y4,y5,y6,y7⟩:=Zlx hy;unfold ZC;simp only [y5];unfold opR Xd opM;simp only [y2,Un,y4,y1,Uo,opK,y6,y3,y7];rfl
theorem Zqb {y:Oper×Nat} {n k d:Nat} (hy:exT E id y.2 y.1=some (n,k,d)) {s:St} {K:St->Option β} (h:ZC E id ops y.2 y.1 s K=some r):
  okE E.nt E.kp (some d)=true/\∃vs a,s.env n= .val (.tup vs)/\vs[k]? =some a/\K (exS s n k d vs a)=some r:=by
 rw [Zqa hy] at h;cases hok:okE E.nt E.kp (some d) with
 |false=>rw [hok] at h;cases h
 |true=>
  rw [hok] at h;simp only [Uo] at h;split at h
  case h_2=>cases h
  rename_i vs hen;split at h
  case h_2=>cases h
  rename_i a hk;exact ⟨rfl,vs,a,hen,hk,h⟩
theorem Zly {y:Oper×Nat} {n k d:Nat} (hy:exT E id y.2 y.1=some (n,k,d)) {s:St} {K:St->Option β} (hok:okE E.nt E.kp (some d)=true) {vs:List AV} {a:AV} (hen:s.env n= .val (.tup vs)) (hk:vs[k]? =some a):
  ZC E id ops y.2 y.1 s K=K (exS s n k d vs a):=by
 rw [Zqa hy,hok];simp only [Uo,hen,hk]
theorem Zec (s:St) (n k d:Nat) (vs:List AV) (a:AV) (t:Nat):(exS s n k d vs a).env t=if t=d then .val a else if t=n then .val (.tup (vs.modify k AV.clr)) else s.env t:=by
 unfold exS;show upd (upd s.env n _) d _ t=_;by_cases h1:t=d
 ·subst h1;rw [ZF,Uj rfl]
 ·rw [Zx _ _ h1,Ui h1];by_cases h2:t=n
  ·subst h2;rw [ZF,Uj rfl]
  ·rw [Zx _ _ h2,Ui h2]
theorem Zze {x y:Oper×Nat} {s:St} {K:St->Option β} (hp:J6 E id y.2 x.2 y.1 x.1=true)
  (h:ZC E id ops y.2 y.1 s (fun s1=>ZC E id ops x.2 x.1 s1 K)=some r):ZC E id ops x.2 x.1 s (fun s1=>ZC E id ops y.2 y.1 s1 K)=some r:=by
 unfold J6 at hp;cases hy:exT E id y.2 y.1 with
 |none=>rw [hy] at hp;cases hp
 |some q=>
 obtain ⟨n,k,d⟩:=q;rw [hy] at hp;obtain ⟨hok,vs,a,hen,hk,h1⟩:=Zqb hy h;simp only at hp;cases hx:exC E id x.2 x.1 with
 |some q'=>
  obtain ⟨n',k',d'⟩:=q';rw [hx] at hp;simp only [Ua,U9,UG] at hp;have ne:∀{a b:Nat},Nat.beq a b=false->a≠b:=fun {a b} h e=>by rw [e,Mw] at h;cases h
  obtain ⟨hnk,⟨hdd,hdn,hdn'⟩,hdn2⟩:=hp;have hdd:=ne hdd;have hdn:=ne hdn;have hdn':=ne hdn';have hdn2:=ne hdn2;rw [Zzd hx] at h1 ⊢;cases hok':okE E.nt E.kp (some d') with
  |false=>rw [hok'] at h1;cases h1
  |true=>
   rw [hok'] at h1;simp only [Uo] at h1 ⊢;rw [Zec,Ui (Ne.symm hdn')] at h1;have key:∃vs' a',s.env n'= .val (.tup vs')/\vs'[k']? =some a'/\K (put (exS s n k d vs a) (some d') (.val a'.clr))=some r:=by
    by_cases hnn:n'=n
    ·subst hnn;rw [Uj rfl] at h1;simp only at h1;have hkk:k'≠k:=by
      rcases hnk with h |h
      ·exact absurd rfl (ne h)
      ·exact ne h
     rw [Mg] at h1;cases hv:vs[k']? with
     |none=>rw [hv] at h1;cases h1
     |some a'=>
      rw [hv] at h1;simp only [Option.map_eq_map,Fr,Ui (Ne.symm hkk)] at h1;exact ⟨vs,a',hen,hv,h1⟩
    ·rw [Ui hnn] at h1;split at h1
     case h_2=>cases h1
     rename_i vs' hen';split at h1
     case h_2=>cases h1
     rename_i a' hv;exact ⟨vs',a',hen',hv,h1⟩
   obtain ⟨vs',a',e1,e2,e3⟩:=key;rw [e1];simp only [e2];have hen2:(put s (some d') (.val a'.clr)).env n= .val (.tup vs):=(Zx _ _ (Ne.symm hdn)).trans hen;rw [Zly hy hok hen2 hk,←e3];congr 1;refine St.ext' (fun t=> ?_) rfl rfl;rw [Zec];show _=upd (exS s n k d vs a).env d' _ t;by_cases h1:t=d'
   ·subst h1;rw [Ui hdd,Ui hdn,ZF];exact ZF _ _ _
   ·rw [Zx _ _ h1,Zec];have:(put s (some d') (.val a'.clr)).env t=s.env t:=Zx _ _ h1;rw [this]
 |none=>
  rw [hx] at hp;simp only [Ua] at hp;obtain ⟨hnew,hp⟩:=hp;obtain ⟨hb,hth,hg,t,ho⟩:=Zgx hnew;unfold ZC at h1;rw [hg] at h1;simp only at h1;cases hok':okE E.nt E.kp x.1.dst with
  |false=>rw [hok'] at h1;cases h1
  |true=>
  rw [hok'] at h1;obtain ⟨d',hd,htok,hrt,hL,h2⟩:=Zlv hb hth ho h1;rw [hd] at hp;simp only [Ua,UG] at hp;have ne:∀{a b:Nat},Nat.beq a b=false->a≠b:=fun {a b} h e=>by rw [e,Mw] at h;cases h
  have hdd:=ne hp.1;have hdn:=ne hp.2;have hL':s.L d'=none:=hL;have e:∀K':St->Option β,ZC E id ops x.2 x.1 s K'=K' (put {s with L:=upd s.L d' (some ⟨false,(E.T t).size,[(E.T t).zero]⟩)} (some d') (.lp d' 0 0)):=fun K'=>by
   unfold ZC;rw [hg];simp only [hok',Uo];unfold opR;rw [hth];simp only [Un];unfold Xd;rw [hrt];simp only;unfold opM;rw [hb];simp only [Uo,opK,ho,htok,Uk,Un,newObj];rw [hd];simp only [hL']
  rw [e];have hen2:(put {s with L:=upd s.L d' (some ⟨false,(E.T t).size,[(E.T t).zero]⟩)} (some d') (.lp d' 0 0)).env n= .val (.tup vs):=(Zx _ _ (Ne.symm hdn)).trans hen;rw [Zly hy hok hen2 hk,←h2,hd];congr 1;refine St.ext' (fun t'=> ?_) rfl rfl;rw [Zec];show _=upd (exS s n k d vs a).env d' _ t';by_cases h1:t'=d'
  ·subst h1;rw [Ui hdd,Ui hdn,ZF];exact ZF _ _ _
  ·rw [Zx _ _ h1,Zec];have:(put {s with L:=upd s.L d' (some ⟨false,(E.T t).size,[(E.T t).zero]⟩)} (some d') (.lp d' 0 0)).env t'=s.env t':=Zx _ _ h1;rw [this]
theorem Zzf {tk:Bool} {cf:Value->Option AV} {x:Operand} {d:Nat} {b:SV} {s:St} {K:SV->St->Option β} (hne:x≠ .tmp d):
  rd tk cf x (put s (some d) b) K=rd tk cf x s (fun v s'=>K v (put s' (some d) b)):=by
 cases x with
 |tmp n=>
  have hn:n≠d:=fun e=>hne (by rw [e])
  have e1:(put s (some d) b).env n=s.env n:=Zx _ _ hn;simp only [rd,e1];cases s.env n with
  |val a=>
   simp only;cases tk with
   |false=>rfl
   |true=>
    simp only [Uo];congr 1;refine St.ext' (fun t=> ?_) rfl rfl;show upd (upd s.env d b) n (.val a.clr) t=upd (upd s.env n (.val a.clr)) d b t;by_cases c1:t=n
    ·subst c1;rw [ZF,Zx _ _ hn,ZF]
    ·by_cases c2:t=d
     ·subst c2;rw [Zx _ _ c1,ZF,ZF]
     ·rw [Zx _ _ c1,Zx _ _ c2,Zx _ _ c2,Zx _ _ c1]
  |no=>rfl
  |lp k i o=>rfl
  |la k=>rfl
  |lv k i o g=>rfl
 |const v=>rfl
 |func f=>rfl
 |global g=>rfl
theorem Zzg {tk:Bool} {cf:Value->Option AV} {x:Operand} {s:St} {K:SV->St->Option β} (h:rd tk cf x s K=some r):
  ∃v n,K v (ZO s n)=some r/\(∀K':SV->St->Option β,rd tk cf x s K'=K' v (ZO s n))/\∀t,t∈n->x= .tmp t:=by
 cases x with
 |tmp n=>
  simp only [rd] at h;split at h
  ·rename_i a ha;cases tk with
   |false=>exact ⟨_,[],h,fun K'=>by simp only [rd,ha,Un,ZO],fun t e=>by cases e⟩
   |true=>
    have et:ZO s [n]={s with env:=upd s.env n (.val a.clr)}:=by simp only [ZO,Y2,ha]
    refine ⟨.val a,[n],?_,fun K'=> ?_,fun t e=>by rw [Ma] at e;rw [e]⟩
    ·rw [et];exact h
    ·rw [et];simp only [rd,ha,Uo]
  ·cases h
  ·rename_i h1 h2;refine ⟨_,[],h,fun K'=> ?_,fun t e=>by cases e⟩;simp only [rd,ZO]
 |const v=>
  obtain ⟨a,h1,h2⟩:=Option.bind_eq_some_iff.1 (show (cf v).bind (fun a=>K (.val a) s)=some r from h);exact ⟨_,[],h2,fun K'=>by simp only [rd,h1,UF,ZO],fun t e=>by cases e⟩
 |func f=>exact ⟨_,[],h,fun K'=>rfl,fun t e=>by cases e⟩
 |global g=>cases h
section
variable {L0:Nat->Option LObj}
theorem Zgy {cf:Value->Option AV} {x:Operand} {s:St} {K:SV->St->Option β}:rd false cf x {s with L:=L0} K=rd false cf x s (fun v _=>K v {s with L:=L0}):=by
 cases x with
 |tmp n=>
  simp only [rd];cases s.env n <;> rfl
 |const v=>rfl
 |func f=>rfl
 |global g=>rfl
theorem Zzh {x:Operand} {s:St} {K:AV->Option β}:rd0 x {s with L:=L0} K=rd0 x s K:=by
 cases x <;> rfl
theorem Zlz {cf:Nat->Value->Option AV}:∀{xs:List (Nat×Operand)} {s:St} {K:List (Nat×AV)->St->Option β},Y7 false cf xs {s with L:=L0} K=Y7 false cf xs s (fun v _=>K v {s with L:=L0})
 | [],s,K=>rfl
 | (i,x)::xs,s,K=>by
  simp only [Y7];rw [Zgy];have e:∀(K':SV->St->Option β),rd false (cf i) x s K'=rd false (cf i) x s (fun v _=>K' v s):=fun K'=>Zgy (L0:=s.L) (s:=s)
  refine Eq.trans ?_ (e _).symm;congr 1
  funext v _
  cases v with
  |val a=>exact Zlz
  | _=>rfl
theorem Zqc {d:TD} {v:SV} {s:St} {K:SV->St->Option β} (h:∀k i off,v= .lp k i off->L0 k=s.L k):QV E d false v {s with L:=L0} K=QV E d false v s (fun v _=>K v {s with L:=L0}):=by
 cases v with
 |lp k i off=>
  simp only [QV,h k i off rfl,Un]
 |val a=>cases a <;> simp only [QV,Un]
 | _=>rfl
theorem Zqd {vr:Nat} {o:Oper} {s:St} {K:SV->St->Option β} (hk:Zd1 o.op=true) (hl:∀t q k i off,o.op= .load t (.tmp q)->s.env q= .lp k i off->L0 k=s.L k):
  opK E false false vr o {s with L:=L0} K=opK E false false vr o s (fun v _=>K v {s with L:=L0}):=by
 unfold Zd1 at hk;split at hk
 ·rename_i n ho;simp only [opK,ho];exact Zgy
 ·rename_i t n f ho;simp only [opK,ho];split
  ·split
   ·rw [Zgy]
   ·rfl
  ·rfl
 ·rename_i ho;simp only [opK,ho,Zzh]
 ·rename_i ho;simp only [opK,ho];split
  ·exact Zlz
  ·exact Zlz
  ·rfl
 ·rename_i t q ho;simp only [opK,ho];cases (E.T t).ok with
  |false=>rfl
  |true=>
   simp only [Uk,Un,rd];cases hq:s.env q with
   |val a=>exact Zqc fun k i off h=>by cases h
   |no=>rfl
   |lp k i off=>exact Zqc fun k' i' off' h=>by cases h;exact hl t q k i off ho hq
   |la k=>rfl
   |lv k i off g=>rfl
 ·cases hk
end
theorem ZlA {l:List Operand} {n:Nat} (h:Zgc l n=true):Operand.tmp n∉l:=fun hm=>by
 have:=MW.1 h _ hm;simp at this
theorem Zgz {p o:Oper} {i:Nat} (h:K3 E ops id i p o=true):Nat.beq (E.hb id i) 0=true/\E.th id i=false/\(E.tk id i=false\/Zgb p.op=true)/\E.mo id i=false/\E.rt id i=none/\p.guard=none/\Zd1 p.op=true/\
  (∃d,p.dst=some d/\Operand.tmp d∉o.op.operands.toList/\Operand.tmp d∉p.op.operands.toList)/\(∀t,Operand.tmp t∈p.op.operands.toList->Operand.tmp t∉o.op.operands.toList)/\
  ∀q m,ops[m]? =some q->i < m->∀x∈YN p,q.dst≠some x.1:=by
 unfold K3 at h;simp only [Ua,U9,UG,Mr] at h;obtain ⟨⟨⟨⟨⟨⟨⟨⟨⟨h1,h2⟩,h3⟩,h4⟩,h5⟩,h6⟩,h7⟩,h8⟩,h9⟩,h10⟩:=h;refine ⟨h1,h2,h3,h4,h5,h6,h7,?_,fun t ht=> ?_,fun q m hq hm x hx=> ?_⟩
 ·cases hd:p.dst with
  |none=>rw [hd] at h8;cases h8
  |some d=>
   rw [hd] at h8;simp only [Ua] at h8;exact ⟨d,rfl,ZlA h8.1,ZlA h8.2⟩
 ·exact ZlA (MW.1 h9 _ ht)
 ·have hmem:(q,m)∈ops.toList.zipIdx:=by rw [UM];simpa using hq
  have h11:=MW.1 h10 _ hmem;simp only [U9,UG] at h11;rcases h11 with h11 |h11
  ·have:Nat.blt i m=true:=by simp [Nat.blt];omega
   rw [this] at h11;cases h11
  ·intro hd;have:=MW.1 h11 _ hx;rw [hd] at this;simp at this
theorem Zqe {L0:Nat->Option LObj} {tk:Bool} {cf:Value->Option AV} {x:Operand} {s:St} {K:SV->St->Option β}:rd tk cf x {s with L:=L0} K=rd tk cf x s (fun v s'=>K v {s' with L:=L0}):=by
 cases x with
 |tmp n=>
  simp only [rd]
 |const v=>rfl
 |func f=>rfl
 |global g=>rfl
theorem Zzi {y:Oper×Nat} {x:Oper} (hp:K3 E ops id y.2 y.1 x=true) {L0:Nat->Option LObj} {s:St} {K:St->Option β} (hl:∀t q k i off,y.1.op= .load t (.tmp q)->s.env q= .lp k i off->L0 k=s.L k) (h:ZC E id ops y.2 y.1 s K=some r):
  ZC E id ops y.2 y.1 {s with L:=L0} (fun s1=>K {s1 with L:=s.L})=some r:=by
 obtain ⟨h1,h2,h3,h4,h5,h6,h7,_⟩:=Zgz hp;have e:∀(s:St) (K:St->Option β),ZC E id ops y.2 y.1 s K=bif okE E.nt E.kp y.1.dst then opK E (E.tk id y.2) false (E.vr id y.2) y.1 s (fun v s'=>K (put s' y.1.dst v)) else none:=fun s K=>by
  unfold ZC;rw [h6];simp only;unfold opR;rw [h2];simp only [Un];unfold Xd;rw [h5];simp only;unfold opM;rw [h1,h4];rfl
 rw [e] at h ⊢;cases hok:okE E.nt E.kp y.1.dst with
 |false=>rw [hok] at h;cases h
 |true=>
  rw [hok] at h;simp only [Uo] at h ⊢;rcases h3 with h3 |h3
  ·rw [h3] at h ⊢;rw [Zqd h7 hl];have e2:=Zqd (E:=E) (vr:=E.vr id y.2) (L0:=s.L) (K:=fun v s'=>K (put s' y.1.dst v)) h7 (fun t q k i off _ _=>rfl) (s:=s);rw [show ({s with L:=s.L}:St)=s from rfl] at e2;rw [e2] at h;rw [←h];congr 1
   funext v _
   congr 1;cases y.1.dst <;> rfl
  ·unfold Zgb at h3;split at h3
   case h_2=>cases h3
   rename_i n ho;simp only [opK,ho] at h ⊢;rw [Zqe];have e2:=Zqe (L0:=s.L) (tk:=E.tk id y.2) (cf:=constA (E.T y.1.type)) (x:= .tmp n) (s:=s) (K:=fun v s'=>K (put s' y.1.dst v));rw [show ({s with L:=s.L}:St)=s from rfl] at e2;rw [e2] at h;rw [←h];congr 1
   funext v s1
   congr 1;cases y.1.dst <;> rfl
def Zbq (E:Ctx) (τ:Bool) (ty t0:Nat) (v0:Operand) (s:St) (K:St->Option β):Option β:=
 bif okE E.nt E.kp none then bif !(E.T ty).ok then none else rd τ (constA (E.T ty)) v0 s fun v s1=>
  match v with
  | .val a=>rd false (fun _=>none) (.tmp t0) s1 fun p s2=>X8 E (E.T ty) p a s2 fun _ s'=>K s'
  | _=>none else none
theorem Zqf {cf:Value->Option AV} {x:Operand} {tk:Bool}:∀{l:List Nat} {s:St} {K:SV->St->Option β},(∀n∈l,x≠ .tmp n)->rd tk cf x (ZO s l) K=rd tk cf x s (fun v s'=>K v (ZO s' l))
 | [],s,K,_=>rfl
 |n::l,s,K,h=>by
  have hn:=h n (Ug ..);simp only [ZO];rw [Zqf (fun m hm=>h m (Uf _ hm))];cases x with
  |tmp m=>
   have hm:m≠n:=fun e=>hn (by rw [e])
   have e1:(Y2 s n).env m=s.env m:=by rw [Zgu,Ui (fun e=>hm e.symm)]
   simp only [rd,e1];cases s.env m with
   |val a=>
    cases tk with
    |false=>rfl
    |true=>
     simp only [Uo];congr 2;refine St.ext' (fun t=> ?_) ?_ ?_
     ·show upd (Y2 s n).env m _ t=(Y2 {s with env:=upd s.env m (.val a.clr)} n).env t;rw [Zgu];by_cases e2:t=m
      ·subst e2;rw [ZF,Ui (fun e=>hm e.symm)];exact (ZF _ _ _).symm
      ·rw [Zx _ _ e2,Zgu];show _=if n=t then XH (upd s.env m _ t) else upd s.env m _ t
       rw [Zx _ _ e2]
     ·show (Y2 s n).L=_;rw [Zlt,Zlt]
     ·show (Y2 s n).G=_;rw [Zlu,Zlu]
   |no=>rfl
   |lp k i o=>rfl
   |la k=>rfl
   |lv k i o g=>rfl
  |const v=>rfl
  |func f=>rfl
  |global g=>rfl
theorem Zqg {τ:Bool} {ty t0:Nat} {v0:Operand} {y:Oper×Nat} {l:List Nat} {d:Nat} {vy:SV} {s:St} {K:St->Option β} {kk i0 off0:Nat}
  (hv0:v0≠ .tmp d) (ht0:t0≠d) (hl:∀t∈l,Operand.tmp t∈y.1.op.operands.toList) (h9:∀t,Operand.tmp t∈y.1.op.operands.toList->t≠t0/\v0≠ .tmp t) (h6:y.1.guard=none)
  (hnlv:∀k i o g,vy≠ .lv k i o g) (hops:∀t,Operand.tmp t∈y.1.op.operands.toList->t≠d/\∀k i o g,s.env t≠ .lv k i o g) (hk:s.env t0= .lp kk i0 off0)
  (g2:∀s',AgrT ops y.1 {s with L:=fun k=>if k=kk then none else s.L k} s'->∀K':St->Option β,ZC E id ops y.2 y.1 s' K'=K' (eff s' l (some d) vy))
  (h:Zbq E τ ty t0 v0 (eff s l (some d) vy) K=some r):Zbq E τ ty t0 v0 s (fun s1=>ZC E id ops y.2 y.1 s1 K)=some r:=by
 unfold Zbq at h ⊢;cases hok2:okE E.nt E.kp none with
 |false=>rw [hok2] at h;cases h
 |true=>
 rw [hok2] at h;simp only [Uo] at h ⊢;cases htok:(E.T ty).ok with
 |false=>rw [htok] at h;cases h
 |true=>
 rw [htok] at h;simp only [Uk,Un] at h ⊢;rw [show eff s l (some d) vy=put (ZO s l) (some d) vy from rfl,Zzf hv0,Zqf fun n hn=>(h9 n (hl n hn)).2] at h;obtain ⟨v1,tkd,c1,c2,c3⟩:=Zzg h;rw [c2];cases v1 with
 |val a=>
  simp only at c1 ⊢;have et0:∃i off,(ZO s tkd).env t0= .lp kk i off:=⟨i0,off0,by
   rw [Ji];split
   ·rw [hk];rfl
   ·exact hk⟩
  obtain ⟨i1,off1,et0⟩:=et0;have et1:(put (ZO (ZO s tkd) l) (some d) vy).env t0= .lp kk i1 off1:=(Zx _ _ ht0).trans (by
   rw [Ji,Ui (fun hm=>(h9 t0 (hl t0 hm)).1 rfl)];exact et0)
  simp only [rd,et1] at c1;simp only [rd,et0];simp only [X8] at c1 ⊢;have hLt:(put (ZO (ZO s tkd) l) (some d) vy).L kk=(ZO s tkd).L kk:=by
   show (ZO (ZO s tkd) l).L kk=_;rw [Zeb]
  rw [hLt] at c1;split at c1
  case h_2=>cases c1
  rename_i ob hob
  try rw [hob]
  try simp only
  cases hf:ob.frz with
  |true=>rw [hf] at c1;cases c1
  |false=>
   rw [hf] at c1;simp only [Un] at c1 ⊢;obtain ⟨row,r1,r2⟩:=Zct c1;rw [r2];obtain ⟨cs,r3,r4⟩:=Option.bind_eq_some_iff.1 r1;rw [r3,UF];split at r4
   case isFalse=>cases r4
   rename_i hle;have hntk:∀t,Operand.tmp t∈y.1.op.operands.toList->t∉tkd:=fun t hto e=>(h9 t hto).2 (c3 t e)
   have hkeep:∀t,Operand.tmp t∈y.1.op.operands.toList->Fx.nolv kk (ZO s tkd).env t=s.env t:=fun t hto=>by
    unfold Fx.nolv;rw [Ji,Ui (hntk t hto)];cases he:s.env t with
    |lv k i o g=>exact absurd he ((hops t hto).2 k i o g)
    | _=>rfl
   rw [Uj hle,g2]
   ·rw [←r4];congr 1;refine St.ext' (fun t=> ?_) ?_ ?_
    ·show (eff _ l (some d) vy).env t=Fx.nolv kk (upd (ZO (ZO s tkd) l).env d vy) t;rw [YL];by_cases e:d=t
     ·subst e;rw [Uj rfl];unfold Fx.nolv;rw [ZF];cases vy with
      |lv k i o g=>exact absurd rfl (hnlv k i o g)
      | _=>rfl
     ·rw [Ui (fun e'=>e (UB e'))];by_cases hm:t∈l
      ·rw [Uj hm];have hto:=hl t hm;have e1:=hkeep t hto;show XH (Fx.nolv kk (ZO s tkd).env t)=_;rw [e1];unfold Fx.nolv;rw [Zx _ _ (Ne.symm e),Ji,Uj hm,Ji,Ui (hntk t hto)];cases he:s.env t with
       |lv k i o g=>exact absurd he ((hops t hto).2 k i o g)
       | _=>rfl
      ·rw [Ui hm];unfold Fx.nolv;rw [Zx _ _ (Ne.symm e),Ji (ZO s tkd),Ui hm]
    ·have:(put (ZO (ZO s tkd) l) (some d) vy).L=(ZO s tkd).L:=Zeb _ _;rw [Vs];show upd (ZO s tkd).L kk _=upd (put (ZO (ZO s tkd) l) (some d) vy).L kk _;rw [this]
    ·rw [VP];show (ZO s tkd).G=(ZO (ZO s tkd) l).G;rw [Zbp,Zbp,Zbp]
   ·refine ⟨fun t ht=> ?_,fun key ob' hke=> ?_,?_⟩
    ·have hto:Operand.tmp t∈y.1.op.operands.toList:=by
      unfold Oper.looksAt at ht;rcases List.mem_append.1 ht with ht |ht
      ·rw [MZ] at ht;obtain ⟨op,ho1,ho2⟩:=ht;split at ho2
       ·cases ho2;exact ho1
       ·cases ho2
      ·rw [h6] at ht;simp at ht
     exact hkeep t hto
    ·have hke':(if key=kk then none else s.L key)=some ob':=hke;split at hke'
     ·cases hke'
     ·rename_i hne;show upd (ZO s tkd).L kk _ key=some ob';rw [Zx _ _ hne,Zeb];exact hke'
    ·intro _;show (ZO s tkd).G=s.G;exact Zbp _ _
 |no=>cases c1
 |lp _ _ _=>cases c1
 |la _=>cases c1
 |lv _ _ _ _=>cases c1
theorem Zqh {x y:Oper×Nat} {s:St} (hpl:K3 E ops id y.2 y.1 x.1=true) (hy:mov E id y) {vy:SV} {d:Nat} (hd:y.1.dst=some d) {r:β} (Q:Nat->Bool)
  (fy:∀s',AgrT ops y.1 s s'->∀K':St->Option β,ZC E id ops y.2 y.1 s' K'=K' (eff s' (tak E id y) y.1.dst vy)) (hload:∀t q k i off,y.1.op= .load t (.tmp q)->s.env q= .lp k i off->Q k=false):
  ∀s',AgrT ops y.1 {s with L:=fun k=>bif Q k then none else s.L k} s'->∀K':St->Option β,ZC E id ops y.2 y.1 s' K'=K' (eff s' (tak E id y) (some d) vy):=by
 classical
 have hrun:∀K':St->Option β,K' (eff s (tak E id y) (some d) vy)=some r->ZC E id ops y.2 y.1 s K'=some r:=fun K' hK=>by
  rw [fy s (AgrT.refl _ _) K',hd];exact hK
 obtain ⟨v',g1,g2⟩:=Kc hy (Zzi (L0:=fun k=>bif Q k then none else s.L k) hpl (fun t q k i off ho' hq=>by
  show (bif Q k then none else s.L k)=s.L k;rw [hload t q k i off ho' hq];rfl) (hrun (fun s1=>if s1.env d=vy then some r else none) (by
   rw [Uj (show (eff s (tak E id y) (some d) vy).env d=vy by rw [YL,Uj rfl])])))
 have hv':v'=vy:=by
  rw [hd] at g1;have e1:(eff ({s with L:=fun k=>bif Q k then none else s.L k}:St) (tak E id (y.1,y.2)) (some d) v').env d=v':=by rw [YL,Uj rfl]
  simp only [e1] at g1;by_cases c:v'=vy
  ·exact c
  ·rw [Ui c] at g1;cases g1
 subst hv';rw [hd] at g2;exact g2
theorem Zzj {n:Nat} {l:List Nat} {d:Nat} {vy:SV} {s:St} (hd:n≠d) (hl:n∉l):Je n (eff s l (some d) vy)=(Je n s).map fun s1=>eff s1 l (some d) vy:=by
 have e1:(eff s l (some d) vy).env n=s.env n:=by rw [YL,Ui (fun e=>hd (UB e).symm),Ui hl]
 have e2:(eff s l (some d) vy).L=s.L:=Vs _ _ _ _;unfold Je;rw [e1,e2];cases s.env n with
 |lv key i off ag=>
  cases i with
  |succ i=>rfl
  |zero=>
  cases off with
  |succ o=>rfl
  |zero=>
  cases ag with
  |hd=>rfl
  |el e k m o=>rfl
  |st m=>
   simp only;cases s.L key with
   |none=>rfl
   |some o=>
    simp only;cases o.frz with
    |true=>rfl
    |false=>
     simp only [Un];split
     ·rename_i row hrow;cases Nat.beq row.length m with
      |false=>rfl
      |true=>
       simp only [Uo,Fr];congr 1;refine St.ext' (fun t=> ?_) ?_ ?_
       ·show upd (eff s l (some d) vy).env n _ t=_;rw [YL];by_cases c:t=n
        ·subst c;rw [ZF,Ui (fun e=>hd (UB e).symm),Ui hl];exact (ZF _ _ _).symm
        ·rw [Zx _ _ c,YL];show _=if some d=some t then vy else if t∈l then XH (upd s.env n _ t) else upd s.env n _ t
         rw [Zx _ _ c]
       ·rw [Vs]
       ·refine Eq.trans ?_ (VP _ _ _ _).symm;show (eff s l (some d) vy).G=s.G;rw [VP]
     ·rfl
 | _=>rfl
theorem Zzk {n:Nat} {s s1:St} (h:Je n s=some s1):∃key i o g,s.env n= .lv key i o g/\(∀t,t≠n->s1.env t=s.env t)/\(∀k,k≠key->s1.L k=s.L k)/\s1.G=s.G:=by
 unfold Je at h;split at h
 case h_2=>cases h
 rename_i key m hen;split at h
 case h_2=>cases h
 rename_i o ho;cases hf:o.frz with
 |true=>rw [hf] at h;cases h
 |false=>
  rw [hf] at h;simp only [Un] at h;split at h
  case h_2=>cases h
  rename_i row hrow;cases hb:Nat.beq row.length m with
  |false=>rw [hb] at h;cases h
  |true=>
   rw [hb] at h;cases h;exact ⟨key,0,0, .st m,hen,fun t ht=>Zx _ _ ht,fun k hk=>Zx _ _ hk,rfl⟩
theorem Zzl {x y:Oper×Nat} {s:St} {K:St->Option β} (hx:YU E id x.2 x.1=true) (hpl:K3 E ops id y.2 y.1 x.1=true) (hy:mov E id y) {vy:SV}
  (fy:∀s',AgrT ops y.1 s s'->∀K':St->Option β,ZC E id ops y.2 y.1 s' K'=K' (eff s' (tak E id y) y.1.dst vy))
  (h:ZC E id ops x.2 x.1 (eff s (tak E id y) y.1.dst vy) K=some r)
  {t0 kk:Nat} {i0 off0:Nat} {ty:Nat} {v0:Operand} (ho:x.1.op= .store ty (.tmp t0) v0) (hk:s.env t0= .lp kk i0 off0) (hacc:∀e∈YN y.1,XE (eff s (tak E id y) y.1.dst vy) kk e=true)
  (h60:Nat.beq (E.hb id x.2) 0=true\/∃n key i o g,v0= .tmp n/\s.env n= .lv key i o g/\∀e∈YN y.1,XE (eff s (tak E id y) y.1.dst vy) key e=true):
  ZC E id ops x.2 x.1 s (fun s1=>ZC E id ops y.2 y.1 s1 K)=some r:=by
 obtain ⟨h1,h2,h3,h4,h5,h6,h7,⟨d,hd,hdx,hdy⟩,h9,_⟩:=Zgz hpl;obtain ⟨x1,x2,x3,x4,x5,_⟩:=Zab hx;have hl:∀t∈tak E id y,Operand.tmp t∈y.1.op.operands.toList:=fun t ht=>by
  have ht':t∈YS (E.tk id y.2) y.1:=ht;rcases h3 with h3 |h3
  ·rw [h3] at ht';unfold Zd1 at h7;unfold YS at ht';rw [h6] at ht';split at h7 <;> simp_all
  ·unfold Zgb at h3;split at h3
   case h_2=>cases h3
   rename_i n ho';unfold YS at ht';rw [h6,ho'] at ht';rw [ho'];cases htk:E.tk id y.2 with
   |false=>rw [htk] at ht';simp at ht'
   |true=>rw [htk] at ht';simp at ht';simp [Op.operands,ht']
 have hfyd:=fy;rw [hd] at h hacc;rw [hd] at h60;have hopx:x.1.op.operands.toList= [.tmp t0,v0]:=by rw [ho];rfl
 rw [hopx] at hdx h9;have hv0:v0≠ .tmp d:=fun e=>hdx (by simp [e])
 have ht0:t0≠d:=fun e=>hdx (by simp [e])
 have h9':∀t,Operand.tmp t∈y.1.op.operands.toList->t≠t0/\v0≠ .tmp t:=fun t ht=>by
  have:=h9 t ht;simp only [FH,List.not_mem_nil,or_false,not_or] at this;exact ⟨fun e=>this.1 (by rw [e]),fun e=>this.2 e.symm⟩
 have hda:(d,false)∈YN y.1:=by unfold YN;rw [hd];simp
 have hoa:∀t,Operand.tmp t∈y.1.op.operands.toList->∃b,(t,b)∈YN y.1:=fun t ht=>by
  unfold YN;split
  ·rename_i q ho';rw [ho'] at ht;simp [Op.operands] at ht;exact ⟨true,by simp [ht]⟩
  ·exact ⟨false,by
    refine Uw _ (MZ.2 ⟨_,ht,rfl⟩)⟩
 have hnlv:∀k i o g,vy≠ .lv k i o g:=fun k i o g e=>by
  have:=hacc _ hda;unfold XE at this;simp only at this;rw [YL,Uj rfl,e] at this;cases this
 have hops:∀t,Operand.tmp t∈y.1.op.operands.toList->t≠d/\∀k i o g,s.env t≠ .lv k i o g:=fun t ht=>by
  have htd:t≠d:=fun e=>hdy (by rw [←e];exact ht)
  refine ⟨htd,fun k i o g e=> ?_⟩;obtain ⟨b,hm⟩:=hoa t ht;have:=hacc _ hm;unfold XE at this;simp only at this;have e2:(eff s (tak E id y) (some d) vy).env t= .lv k i o g:=by
   rw [YL,Ui (fun e'=>htd (UB e').symm),e];split <;> rfl
  rw [e2] at this;cases this
 have hload:∀{kk:Nat},(∀e∈YN y.1,XE (eff s (tak E id y) (some d) vy) kk e=true)->∀t q k i off,y.1.op= .load t (.tmp q)->s.env q= .lp k i off->k≠kk:=fun {kk} hacc t q k i off ho' hq=>by
  have hm:(q,true)∈YN y.1:=by unfold YN;rw [ho'];simp
  have hqd:q≠d:=(hops q (by rw [ho'];simp [Op.operands])).1;have:=hacc _ hm;unfold XE at this;simp only at this;have e2:(eff s (tak E id y) (some d) vy).env q= .lp k i off:=by
   rw [YL,Ui (fun e'=>hqd (UB e').symm),hq];split <;> rfl
  rw [e2] at this;intro e;rw [e] at this;simp at this
 have hex:∀(s:St) (K':St->Option β),Nat.beq (E.hb id x.2) 0=true->ZC E id ops x.2 x.1 s K'=Zbq E (E.tk id x.2) ty t0 v0 s K':=fun s K' x1=>by
  unfold ZC Zbq;simp only [x4];unfold opR Xd opM;simp only [x2,Un,x3,x1,Uo,opK,ho,x5];rfl
 by_cases x0:Nat.beq (E.hb id x.2) 0=true
 ·rw [hex _ _ x0] at h ⊢;refine Zqg hv0 ht0 hl h9' h6 hnlv hops hk ?_ h;have:=Zqh (r:=r) hpl hy hd (fun k=>Nat.beq k kk) fy (fun t q k i off ho' hq=>by
   cases hb:Nat.beq k kk with
   |false=>rfl
   |true=>exact absurd (Ud hb) (hload hacc t q k i off ho' hq))
  intro s' ha K';refine this s' ⟨ha.1,fun key ob hke=>ha.2.1 key ob ?_,ha.2.2⟩ K';have hke':(bif Nat.beq key kk then none else s.L key)=some ob:=hke;show (if key=kk then none else s.L key)=some ob;cases hb:Nat.beq key kk with
  |true=>rw [hb] at hke';cases hke'
  |false=>
   rw [hb] at hke';rw [Ui (fun e=>by rw [e,Mw] at hb;cases hb)];exact hke'
 ·have x6:Nat.beq (E.hb id x.2) 6=true:=x1.resolve_left x0;obtain ⟨n,key,i1,o1,g1,rfl,hn,hacc2⟩:=h60.resolve_left x0;have e6:E.hb id x.2=6:=Ud x6;have hex6:∀(s:St) (K':St->Option β),ZC E id ops x.2 x.1 s K'=bif okE E.nt E.kp none then (Je n s).bind (fun s1=>Zbq E true ty t0 (.tmp n) s1 K') else none:=fun s K'=>by
   unfold ZC;simp only [x4];unfold opR Xd opM;simp only [x2,Un,x3,e6,show Nat.beq 6 0=false from rfl,opU,ho,x5];cases hok:okE E.nt E.kp none with
   |false=>rfl
   |true=>
    simp only [Uo];congr 1
    funext s1
    unfold Zbq;rw [hok];simp only [Uo,opK,ho];rfl
  rw [hex6] at h ⊢;cases hok:okE E.nt E.kp none with
  |false=>rw [hok] at h;cases h
  |true=>
  rw [hok] at h;simp only [Uo] at h ⊢;have hnl:n∉tak E id y:=fun hm=>(h9' n (hl n hm)).2 rfl
  have hnd:n≠d:=fun e=>hv0 (by rw [e])
  rw [Zzj hnd hnl] at h;cases hu:Je n s with
  |none=>rw [hu] at h;cases h
  |some s1=>
  rw [hu] at h;simp only [Fr,UF] at h ⊢;obtain ⟨key',i2,o2,g2,hn2,f1,f2,f3⟩:=Zzk hu;rw [hn] at hn2;cases hn2;have ht0n:t0≠n:=fun e=>by rw [e,hn] at hk;cases hk
  refine Zqg hv0 ht0 hl h9' h6 hnlv (fun t ht=>⟨(hops t ht).1,fun k i o g e=>(hops t ht).2 k i o g (by rw [←f1 t (fun e'=>(h9' t ht).2 (by rw [e']))];exact e)⟩) (by rw [f1 t0 ht0n];exact hk) ?_ h;have:=Zqh (r:=r) hpl hy hd (fun k=>Nat.beq k kk || Nat.beq k key) fy (fun t q k i off ho' hq=>by
   cases hb:Nat.beq k kk with
   |true=>exact absurd (Ud hb) (hload hacc t q k i off ho' hq)
   |false=>
    cases hb2:Nat.beq k key with
    |true=>exact absurd (Ud hb2) (hload hacc2 t q k i off ho' hq)
    |false=>rfl)
  intro s' ha K';have hlook:∀t,t∈y.1.looksAt ops->Operand.tmp t∈y.1.op.operands.toList:=fun t ht=>by
   unfold Oper.looksAt at ht;rcases List.mem_append.1 ht with ht |ht
   ·rw [MZ] at ht;obtain ⟨op,ho1,ho2⟩:=ht;split at ho2
    ·cases ho2;exact ho1
    ·cases ho2
   ·rw [h6] at ht;simp at ht
  refine this s' ⟨fun t ht=> ?_,fun k ob hke=>ha.2.1 k ob ?_,fun hg=> ?_⟩ K'
  ·rw [ha.1 t ht];exact f1 t (fun e'=>(h9' t (hlook t ht)).2 (by rw [e']))
  ·have hke':(bif Nat.beq k kk || Nat.beq k key then none else s.L k)=some ob:=hke;show (if k=kk then none else s1.L k)=some ob;cases hb:Nat.beq k kk with
   |true=>rw [hb] at hke';cases hke'
   |false=>
    cases hb2:Nat.beq k key with
    |true=>rw [hb,hb2] at hke';cases hke'
    |false=>
     rw [hb,hb2] at hke';rw [Ui (fun e=>by rw [e,Mw] at hb;cases hb),f2 k (fun e=>by rw [e,Mw] at hb2;cases hb2)];exact hke'
  ·have hg2:Yj y.1 {s1 with L:=fun k=>if k=kk then none else s1.L k}=true:=by
    unfold Yj at hg ⊢;split at hg
    ·rename_i t q ho';show XD (s1.env q)=true;rw [f1 q (fun e'=>(h9' q (by rw [ho'];simp [Op.operands])).2 (by rw [e']))];exact hg
    ·cases hg
   exact (ha.2.2 hg2).trans f3
noncomputable def YA (E:Ctx) (id:Nat) (ops:Array Oper):List (Oper×Nat)->St->(St->Option β)->Option β
 | [],s,K=>K s
 |p::rest,s,K=>J8 E id ops p.2 p.1 s fun s'=>YA E id ops rest s' K
theorem Zqi {K:St->Option β}:∀{l:List Oper} {i:Nat} {s:St},Zd3 E id ops i l s K=YA E id ops (l.zipIdx i) s K
 | [],i,s=>rfl
 |o::l,i,s=>by
  simp only [Zd3,List.zipIdx_cons,YA];congr 1
  funext s'
  exact Zqi
def Zzm (E:Ctx) (id:Nat) (ops:Array Oper) (y x:Oper×Nat):Prop:=
 (YU E id x.2 x.1=true/\(Jg E id y.2 x.2 y.1 x.1=true\/K3 E ops id y.2 y.1 x.1=true)/\(Xn E ops=false\/ZkL y.1=true))\/(YU E id x.2 x.1=false/\Part E id ops y x)
theorem Zcu {x:Oper×Nat} {s:St} {K:St->Option β} (h:J8 E id ops x.2 x.1 s K=some r):ZC E id ops x.2 x.1 s K=some r:=by
 unfold J8 at h;cases hb:Zd2 E id ops x.2 x.1 s || Xn E ops && Yj x.1 s with
 |true=>rw [hb] at h;cases h
 |false=>rw [hb] at h;exact h
theorem Zqj {x:Oper×Nat} {s:St} {K:St->Option β} (h:J8 E id ops x.2 x.1 s K=some r):(Xn E ops && Yj x.1 s)=false:=by
 unfold J8 at h;cases hb:Xn E ops && Yj x.1 s with
 |true=>rw [hb,Bool.or_true] at h;cases h
 |false=>rfl
theorem ZgA {x:Oper×Nat} {s:St} {K:St->Option β} (hx:YU E id x.2 x.1=false) (hg:(Xn E ops && Yj x.1 s)=false):J8 E id ops x.2 x.1 s K=ZC E id ops x.2 x.1 s K:=by
 unfold J8 Zd2;rw [hx,hg];rfl
theorem ZgB {y:Oper×Nat} (hy:mov E id y):YU E id y.2 y.1=false:=by
 cases hs:YU E id y.2 y.1 with
 |false=>rfl
 |true=>
  exfalso
  obtain ⟨_,_,_,_,_,t,p,v,ho⟩:=Zab hs;have hm:Jf E id y.1 y.2=true:=hy;unfold Jf K2 Zf9 at hm;rw [ho] at hm;simp at hm
theorem Zzn {y:Oper×Nat} {q:Nat×Nat×Nat} (hy:exT E id y.2 y.1=some q):YU E id y.2 y.1=false:=by
 cases hs:YU E id y.2 y.1 with
 |false=>rfl
 |true=>
  exfalso
  obtain ⟨_,_,_,_,_,t,p,v,ho⟩:=Zab hs;obtain ⟨n,k,d⟩:=q;obtain ⟨_,_,_,_,_,h6,_⟩:=Zlw hy;rw [ho] at h6;cases h6
theorem Zqk {s:St} {n:List Nat} {d:Option Nat} {v:SV} {k:Nat} {e:Nat×Bool} (hd:d≠some e.1) (h:XE (eff s n d v) k e=true):XE s k e=true:=by
 unfold XE at h ⊢;rw [YL,Ui hd] at h;by_cases hn:e.1∈n
 ·rw [Uj hn] at h;cases he:s.env e.1 <;> rw [he] at h <;> first |rfl |exact h
 ·rw [Ui hn] at h;exact h
theorem ZlB {j:Nat} {o p:Oper} {i:Nat} (hp:ops[i]? =some p) (hij:i < j) (h1:J7 ops o i=false) (h2:Jg E id i j p o=false) {e:Nat×Bool} (he:e∈YN p):e∈Zbh E id ops j o:=by
 unfold Zbh;rw [List.mem_flatMap];refine ⟨(p,i),?_,?_⟩
 ·rw [UM];simpa using hp
 ·have:Nat.blt i j=true:=by simp [Nat.blt];omega
  simp only [this,h1,h2,Bool.or_self,UT,MV,Uo];exact he
theorem Zql {x:Oper×Nat} {L2:List (Oper×Nat)} {K:St->Option β} (hx:YU E id x.2 x.1=true) (hl:Zbg ops x.2=false):∀{L1:List (Oper×Nat)} {s:St},L1.Pairwise (fun p q=>p.2 < q.2)->(∀y∈L1,ops[y.2]? =some y.1/\y.2 < x.2/\J7 ops x.1 y.2=false/\mov E id y/\(Jg E id y.2 x.2 y.1 x.1=true\/K3 E ops id y.2 y.1 x.1=true)/\∀s:St,(Xn E ops && Yj y.1 s)=false)->
  YA E id ops (L1 ++ x::L2) s K=some r->
  (∀p i,ops[i]? =some p->i < x.2->J7 ops x.1 i=false->Jg E id i x.2 p x.1=false->(∀z∈L1,∀e∈YN p,z.1.dst≠some e.1)->YN p≠ []->∃ty t v k i0 off,x.1.op= .store ty (.tmp t) v/\s.env t= .lp k i0 off/\(∀e∈YN p,XE s k e=true)/\(Nat.beq (E.hb id x.2) 0=true\/∃n key i o g,v= .tmp n/\s.env n= .lv key i o g/\∀e∈YN p,XE s key e=true))/\
  ZC E id ops x.2 x.1 s (fun s'=>YA E id ops (L1 ++ L2) s' K)=some r
 | [],s,_,_,h=>by
  simp only [Md,YA] at h;refine ⟨fun p i hp hi h1 h2 _ hne=> ?_,Zcu h⟩;unfold J8 at h;cases hb:Zd2 E id ops x.2 x.1 s with
  |true=>rw [hb,Bool.true_or] at h;cases h
  |false=>
   unfold Zd2 at hb;rw [hx,hl] at hb;simp only [UW,FI,Bool.not_eq_false',Ua,U9] at hb;obtain ⟨hb,hb6⟩:=hb;obtain ⟨_,_,_,_,_,ty,p0,v,ho⟩:=Zab hx;unfold Zo6 at hb;rw [ho] at hb;have hnil:Zbh E id ops x.2 x.1≠ []:=fun e=>by
    obtain ⟨e0,he0⟩:=List.exists_mem_of_ne_nil _ hne;have:=ZlB (E:=E) (id:=id) hp hi h1 h2 he0;rw [e] at this;cases this
   have hne':(Zbh E id ops x.2 x.1).isEmpty=false:=by
    cases hq:Zbh E id ops x.2 x.1 with
    |nil=>exact absurd hq hnil
    |cons=>rfl
   split at hb
   ·rename_i ty' t v' heq;cases heq;split at hb
    ·rename_i k i0 off he;refine ⟨_,_,_,_,_,_,ho,he,fun e hm=>MW.1 hb e (ZlB hp hi h1 h2 hm),hb6.imp (fun hz=>hz) fun hb6=> ?_⟩;unfold Zo7 at hb6;rw [ho] at hb6;split at hb6
     ·rename_i n heq2;cases heq2;split at hb6
      ·rename_i key i o g hlv;exact ⟨_,_,_,_,_,rfl,hlv,fun e hm=>MW.1 hb6 e (ZlB hp hi h1 h2 hm)⟩
      ·cases hb6
     ·cases hb6
    ·rw [hne'] at hb;cases hb
   ·rw [hne'] at hb;cases hb
 |y::L1,s,hpw,hL,h=>by
  obtain ⟨y1,y2,y3,hy,hpl,hng⟩:=hL y (Ug ..);have hpw':=List.pairwise_cons.1 hpw;simp only [U0,YA] at h;rw [ZgA (ZgB hy) (hng s)] at h;obtain ⟨vy,h1,fy⟩:=Kc hy h;obtain ⟨hA,h2'⟩:=Zql hx hl hpw'.2 (fun z hz=>hL z (Uf _ hz)) h1;obtain ⟨_,_,_,_,_,ty,p0,v0,ho⟩:=Zab hx;have hyx:∀t,Operand.tmp t∈x.1.op.operands.toList->y.1.dst≠some t:=fun t ht hd=>by
   rcases hpl with hpl |hpl
   ·obtain ⟨_,_,_,_,_,n,k,d,_,e2,_,e4⟩:=Zp6 (Zp8 hpl).2;rw [hd] at e2;cases e2;exact e4 ht
   ·obtain ⟨_,_,_,_,_,_,_,⟨d,e1,e2,_⟩,_⟩:=Zgz hpl;rw [hd] at e1;cases e1;exact e2 ht
  have hback:∀p:Oper,(∀e∈YN p,y.1.dst≠some e.1)->(∃ty t v k i0 off,x.1.op= .store ty (.tmp t) v/\(eff s (tak E id y) y.1.dst vy).env t= .lp k i0 off/\(∀e∈YN p,XE (eff s (tak E id y) y.1.dst vy) k e=true)/\(Nat.beq (E.hb id x.2) 0=true\/∃n key i o g,v= .tmp n/\(eff s (tak E id y) y.1.dst vy).env n= .lv key i o g/\∀e∈YN p,XE (eff s (tak E id y) y.1.dst vy) key e=true))->
    ∃ty t v k i0 off,x.1.op= .store ty (.tmp t) v/\s.env t= .lp k i0 off/\(∀e∈YN p,XE s k e=true)/\(Nat.beq (E.hb id x.2) 0=true\/∃n key i o g,v= .tmp n/\s.env n= .lv key i o g/\∀e∈YN p,XE s key e=true):=fun p hd ⟨ty,t,v,k,i0,off,e1,e2,e3,e5⟩=>by
   refine ⟨ty,t,v,k,i0,off,e1,?_,fun e he=>Zqk (hd e he) (e3 e he),e5.imp (fun hz=>hz) fun ⟨n,key,i,o,g,a1,a2,a3⟩=>⟨n,key,i,o,g,a1,?_,fun e he=>Zqk (hd e he) (a3 e he)⟩⟩
   case refine_2=>
    rw [YL,Ui (hyx n (by rw [e1,a1];simp [Op.operands]))] at a2;split at a2
    ·cases hq:s.env n with
     |val a=>rw [hq] at a2;cases a2
     | _=>rw [hq] at a2;simpa [XH] using a2
    ·exact a2
   rw [YL,Ui (hyx t (by rw [e1];simp [Op.operands]))] at e2;split at e2
   ·cases hq:s.env t with
    |val a=>rw [hq] at e2;cases e2
    | _=>rw [hq] at e2;simpa [XH] using e2
   ·exact e2
  refine ⟨fun p i hp hi g1 g2 g3 g4=>hback p (fun e he=>g3 y (Ug ..) e he) (hA p i hp hi g1 g2 (fun z hz=>g3 z (Uf _ hz)) g4),?_⟩;have hsw:ZC E id ops x.2 x.1 s (fun s1=>ZC E id ops y.2 y.1 s1 fun s'=>YA E id ops (L1 ++ L2) s' K)=some r:=by
   rcases hpl with hpl |hpl
   ·refine Zp9 hx hpl ?_;rw [fy s (AgrT.refl _ _)];exact h2'
   ·obtain ⟨_,_,_,_,_,_,hkd,⟨d,hd,_,hdy⟩,_,hnw⟩:=Zgz hpl;cases hst:Jg E id y.2 x.2 y.1 x.1 with
    |true=>
     refine Zp9 hx hst ?_;rw [fy s (AgrT.refl _ _)];exact h2'
    |false=>
     obtain ⟨ty,t,v,k,i0,off,e1,e2,e3,e6⟩:=hA y.1 y.2 y1 y2 y3 hst (fun z hz e he=>hnw z.1 z.2 (hL z (Uf _ hz)).1 (hpw'.1 z hz) e he) (by
      unfold YN;rw [hd];simp)
     have e2':s.env t= .lp k i0 off:=by
      rw [YL,Ui (hyx t (by rw [e1];simp [Op.operands]))] at e2;split at e2
      ·cases hq:s.env t with
       |val a=>rw [hq] at e2;cases e2
       | _=>rw [hq] at e2;simpa [XH] using e2
      ·exact e2
     refine Zzl hx hpl hy fy h2' e1 e2' e3 (e6.imp (fun hz=>hz) fun ⟨n,key,i,o,g,a1,a2,a3⟩=>⟨n,key,i,o,g,a1,?_,a3⟩);rw [YL,Ui (hyx n (by rw [e1,a1];simp [Op.operands]))] at a2;split at a2
     ·cases hq:s.env n with
      |val a=>rw [hq] at a2;cases a2
      | _=>rw [hq] at a2;simpa [XH] using a2
     ·exact a2
  have e:(fun s'=>YA E id ops (y::L1 ++ L2) s' K)=fun s1=>ZC E id ops y.2 y.1 s1 fun s'=>YA E id ops (L1 ++ L2) s' K:=by
   funext s1
   simp only [U0,YA];exact ZgA (ZgB hy) (hng s1)
  rw [e];exact hsw
theorem ZlC {o:Oper} {j:Nat} (h:Qa E id j o=true):Nat.beq (E.hb id j) 0=true/\E.th id j=false/\E.tk id j=false/\E.rt id j=none/\o.guard=none/\∃c f,o.op= .call c/\c.callee= .value (.func f)/\E.gs f=true:=by
 unfold Qa at h;simp only [Ua,UG,Mr] at h;refine ⟨h.1.1.1.1,h.1.1.1.2,h.1.1.2,h.1.2,?_⟩;have h:=h.2;split at h
 ·rename_i c h1 h2;split at h
  ·rename_i f hc;exact ⟨h1,c,f,h2,hc,h⟩
  ·cases h
 ·cases h
theorem Zzo {y:Oper×Nat} (hy:Qa E id y.2 y.1=true):YU E id y.2 y.1=false:=by
 cases hs:YU E id y.2 y.1 with
 |false=>rfl
 |true=>
  obtain ⟨_,_,_,_,_,t,p,v,ho⟩:=Zab hs;obtain ⟨_,_,_,_,_,c,f,ho',_⟩:=ZlC hy;rw [ho] at ho';cases ho'
theorem ZgC {y:Oper×Nat} {s:St} {K:St->Option β} (hy:Qa E id y.2 y.1=true) (h:ZC E id ops y.2 y.1 s K=some r):
  ∃v g',K (put {s with G:=g'} y.1.dst v)=some r/\∀s',(∀t,t∈y.1.looksAt ops->s'.env t=s.env t)->(∀key ob,s.L key=some ob->s'.L key=some ob)->s'.G=s.G->∀K':St->Option β,ZC E id ops y.2 y.1 s' K'=K' (put {s' with G:=g'} y.1.dst v):=by
 obtain ⟨h1,h2,h3,h4,h5,c,f,ho,hc,hg⟩:=ZlC hy;have ex:∀(s:St) (K':St->Option β),ZC E id ops y.2 y.1 s K'=(bif okE E.nt E.kp y.1.dst then Vk E false c.args.toList c.argTypes.toList s fun as s'=>KZ E f (E.vr id y.2) as s' fun v s'=>K' (put s' y.1.dst v) else none):=fun s K'=>by
  unfold ZC;simp only [h5];unfold opR Xd opM;simp only [h2,Un,h4,h1,Uo,opK,ho,hc,h3]
 rw [ex] at h;simp only [ex];cases hok:okE E.nt E.kp y.1.dst with
 |false=>rw [hok] at h;cases h
 |true=>
 rw [hok] at h;simp only [Uo] at h ⊢;obtain ⟨as,e1,e2⟩:=Zlr h;unfold KZ at e1;rw [hg] at e1;simp only [Uo] at e1;split at e1
 ·cases e1
 rename_i en hen;obtain ⟨r0,hcl,e3⟩:=ZH e1;refine ⟨_,_,e3,fun s' a1 a2 a3 K'=> ?_⟩;rw [e2 (bg:=true) s' ⟨fun t ht=>a1 t (by
  unfold Oper.looksAt;refine Uw _ ?_;rw [MZ];refine ⟨.tmp t,?_,rfl⟩;rw [ho];simp only [Op.operands,Call.operands,hc];simp [ht]),a2,fun _=>a3⟩]
 unfold KZ;rw [hg];simp only [Uo,hen,bnd,a3,hcl,UF]
theorem Zqm (x:SV):XD (XH x)=XD x:=by
 cases x with
 |val a=>
  cases a <;> try rfl
  rename_i o k xs;cases o <;> rfl
 | _=>rfl
theorem ZlD {y:Oper} {s s1:St} (h:∀n,n∈y.looksAt ops->XD (s1.env n)=XD (s.env n)):Yj y s1=Yj y s:=by
 unfold Yj;split
 ·rename_i t n ho;refine h n ?_;unfold Oper.looksAt;refine Uw _ ?_;rw [MZ];exact ⟨.tmp n,by rw [ho];simp [Op.operands],rfl⟩
 ·rfl
theorem Zqn {x:Oper×Nat} {s:St} {K:St->Option β} (hx:mov E id x\/X9 E id x.2 x.1=true\/Qa E id x.2 x.1=true) (h:ZC E id ops x.2 x.1 s K=some r):
  ∃s1,K s1=some r/\(∀K':St->Option β,ZC E id ops x.2 x.1 s K'=K' s1)/\∀t,x.1.dst≠some t->XD (s1.env t)=XD (s.env t):=by
 rcases hx with hx |hx |hx
 ·obtain ⟨v,h1,h2⟩:=Kc (o:=x.1) (i:=x.2) hx h;refine ⟨_,h1,fun K'=>h2 s (AgrT.refl _ _) K',fun t ht=> ?_⟩;rw [YL,Ui ht];split
  ·exact Zqm _
  ·rfl
 ·obtain ⟨hb,hth,hg,t0,ho⟩:=Zgx hx;have h0:=h;unfold ZC at h;rw [hg] at h;simp only at h;cases hok:okE E.nt E.kp x.1.dst with
  |false=>rw [hok] at h;cases h
  |true=>
   rw [hok] at h;obtain ⟨d,hd,htok,hrt,hL,h2⟩:=Zlv hb hth ho h;refine ⟨_,h2,fun K'=> ?_,fun t ht=> ?_⟩
   ·unfold ZC;rw [hg];simp only [hok,Uo];unfold opR;rw [hth];simp only [Un];unfold Xd;rw [hrt];simp only;unfold opM;rw [hb];simp only [Uo,opK,ho,htok,Uk,Un,newObj];rw [hd];simp only [hL]
   ·rw [hd] at ht ⊢;show XD (upd s.env d _ t)=_;rw [Zx _ _ (fun e=>ht (by rw [e]))]
 ·obtain ⟨v,g',h1,h2⟩:=ZgC (y:=x) hx h;refine ⟨_,h1,fun K'=>h2 s (fun _ _=>rfl) (fun _ _ h=>h) rfl K',fun t ht=> ?_⟩;cases hd:x.1.dst with
  |none=>rfl
  |some d=>
   rw [hd] at ht;show XD (upd s.env d _ t)=_;rw [Zx _ _ (fun e=>ht (by rw [e]))]
theorem Zcv (s:St) (d:Option Nat) (v:SV) (t:Nat):(put s d v).env t=if d=some t then v else s.env t:=by
 cases d with
 |none=>simp [put]
 |some d=>
  by_cases h:d=t
  ·subst h;simp [put,ZF]
  ·simp only [put,MQ,h,My];exact Zx _ _ (fun e=>h e.symm)
theorem ZgD (s:St) (d:Option Nat) (v:SV):(put s d v).L=s.L:=by cases d <;> rfl
theorem Zqo (s:St) (d:Option Nat) (v:SV):(put s d v).G=s.G:=by cases d <;> rfl
theorem Zqp {s:St} {n:List Nat} {d1 d2:Option Nat} {v1 v2:SV} {g:GS} (h:∀d,d1=some d->d2≠some d) (h2:∀d,d∈n->d1≠some d):
  eff (put {s with G:=g} d1 v1) n d2 v2=put {eff s n d2 v2 with G:=g} d1 v1:=by
 refine St.ext' (fun t=> ?_) (by rw [Vs,ZgD,ZgD];show s.L=(eff s n d2 v2).L;rw [Vs]) (by rw [VP,Zqo,Zqo]);rw [YL,Zcv,Zcv];show _=if d1=some t then v1 else (eff s n d2 v2).env t
 rw [YL];by_cases e1:d1=some t
 ·rw [Ui (h t e1),Uj e1,Uj e1];split
  ·rename_i hm;exact absurd e1 (h2 t hm)
  ·rfl
 ·simp only [Ui e1]
theorem Zzp {x y:Oper×Nat} {s:St} {K:St->Option β} (hy:Qa E id y.2 y.1=true) (hx:mov E id x) (hap:Oper.apart ops y.1 x.1=true) (hl2:Qb ops (tak E id x) y.1=true) (hgx:Yj x.1 s=false)
  (h:ZC E id ops y.2 y.1 s (fun s1=>ZC E id ops x.2 x.1 s1 K)=some r):ZC E id ops x.2 x.1 s (fun s1=>ZC E id ops y.2 y.1 s1 K)=some r:=by
 obtain ⟨a1,a2,a3⟩:=Oper.apart_spec hap;obtain ⟨vy,g',h1,fy⟩:=ZgC hy h;obtain ⟨vx,h2,fx⟩:=Kc hx h1;have hld:Yj x.1 (put {s with G:=g'} y.1.dst vy)=false:=by
  rw [ZlD (ops:=ops) (s:=s) fun n hn=> ?_]
  ·exact hgx
  ·rw [Zcv,Ui fun e=>a1 n e hn]
 rw [fx s ⟨fun t ht=>by rw [Zcv,Ui fun e=>a1 t e ht],fun key ob hk=>by rw [ZgD] at hk;exact hk,fun hb=>by rw [hld] at hb;cases hb⟩];rw [fy _ (fun t ht=>by rw [YL,Ui fun e=>a3 t e ht,Ui fun e=>(Zaa hl2 e).1 ht]) (fun key ob hk=>by rw [Vs];exact hk) (VP _ _ _ _)];rw [Zqp (fun d hd e=>a2 d hd e) (fun d hd e=>(Zaa hl2 hd).2 e)] at h2;exact h2
theorem Zzq {x y:Oper×Nat} {s:St} {K:St->Option β} (hy:mov E id y) (hx:Qa E id x.2 x.1=true) (hap:Oper.apart ops y.1 x.1=true) (hl1:Qb ops (tak E id y) x.1=true) (hgy:Yj y.1 s=false)
  (h:ZC E id ops y.2 y.1 s (fun s1=>ZC E id ops x.2 x.1 s1 K)=some r):ZC E id ops x.2 x.1 s (fun s1=>ZC E id ops y.2 y.1 s1 K)=some r:=by
 obtain ⟨a1,a2,a3⟩:=Oper.apart_spec hap;obtain ⟨vy,h1,fy⟩:=Kc hy h;obtain ⟨vx,g',h2,fx⟩:=ZgC hx h1;rw [fx s (fun t ht=>by rw [YL,Ui fun e=>a1 t e ht,Ui fun e=>(Zaa hl1 e).1 ht]) (fun key ob hk=>by rw [Vs] at hk;exact hk) (VP _ _ _ _).symm];rw [fy _ ⟨fun t ht=>by rw [Zcv,Ui fun e=>a3 t e ht],fun key ob hk=>by rw [ZgD];exact hk,fun hb=>by rw [hgy] at hb;cases hb⟩];rw [←h2];congr 1;exact Zqp (fun d hd e=>a2 d e hd) (fun d hd e=>(Zaa hl1 hd).2 e)
def Swp (E:Ctx) (id:Nat) (ops:Array Oper) (y x:Oper×Nat):Prop:=
 (J6 E id y.2 x.2 y.1 x.1=true/\(mov E id x\/X9 E id x.2 x.1=true))\/(mov E id y/\Part E id ops y x/\((mov E id x\/X9 E id x.2 x.1=true)\/Qa E id x.2 x.1=true/\Xn E ops=true))\/
  (Qa E id y.2 y.1=true/\Xn E ops=true/\mov E id x/\Oper.apart ops y.1 x.1=true/\Qb ops (tak E id x) y.1=true)
theorem ZgE {x:Oper×Nat} {L2:List (Oper×Nat)} {K:St->Option β} (hx:mov E id x\/X9 E id x.2 x.1=true\/Qa E id x.2 x.1=true) (hxs:YU E id x.2 x.1=false):∀{L1:List (Oper×Nat)} {s:St},(∀y∈L1,Swp E id ops y x)->
  YA E id ops (L1 ++ x::L2) s K=some r->ZC E id ops x.2 x.1 s (fun s'=>YA E id ops (L1 ++ L2) s' K)=some r/\(Xn E ops && Yj x.1 s)=false
 | [],s,_,h=>by
  simp only [Md,YA] at h;exact ⟨Zcu h,Zqj h⟩
 |y::L1,s,hL,h=>by
  simp only [U0,YA] at h;have hgy:=Zqj h;have ZaL:YU E id y.2 y.1=false->(∀d,x.1.dst=some d->d∉y.1.looksAt ops)->ZC E id ops x.2 x.1 s (fun s1=>ZC E id ops y.2 y.1 s1 fun s'=>YA E id ops (L1 ++ L2) s' K)=some r->
    ZC E id ops x.2 x.1 s (fun s'=>YA E id ops (y::L1 ++ L2) s' K)=some r:=fun hn ha3 h0=>by
   obtain ⟨s1,d1,d2,d3⟩:=Zqn hx h0;rw [d2];simp only [U0,YA];rw [ZgA hn]
   ·exact d1
   ·rw [ZlD (ops:=ops) (s:=s) fun n hn'=>d3 n fun e=>ha3 n e hn'];exact hgy
  have hld:∀{s1:St},(∀n,n∈x.1.looksAt ops->XD (s1.env n)=XD (s.env n))->(Xn E ops && Yj x.1 s1)=false->(Xn E ops && Yj x.1 s)=false:=fun h1 h2=>by
   rwa [ZlD (ops:=ops) h1] at h2
  rcases hL y (Ug ..) with ⟨hpair,hx2⟩ | ⟨hy,⟨ha,hl1,hl2⟩,hx2⟩ | ⟨hy,hgs,hx2,ha,hl2⟩
  ·cases hyT:exT E id y.2 y.1 with
   |none=>simp [J6,hyT] at hpair
   |some q=>
    obtain ⟨n,k,d⟩:=q;obtain ⟨hok,vs,a,hen,hk,h1⟩:=Zqb hyT (Zcu h);obtain ⟨h2,_⟩:=ZgE hx hxs (fun z hz=>hL z (Uf _ hz)) h1;have h3:ZC E id ops x.2 x.1 s (fun s1=>ZC E id ops y.2 y.1 s1 fun s'=>YA E id ops (L1 ++ L2) s' K)=some r:=by
     refine Zze hpair ?_;rw [Zly hyT hok hen hk];exact h2
    obtain ⟨_,_,_,_,_,hyo,_⟩:=Zlw hyT;have hyl:∀s1:St,Yj y.1 s1=false:=fun s1=>by unfold Yj;rw [hyo]
    have hxl:Yj x.1 s=false:=by
     unfold J6 at hpair;rw [hyT] at hpair;simp only at hpair;split at hpair
     ·rename_i n' k' d' hc;obtain ⟨_,_,_,_,_,hxo,_⟩:=Zlx hc;unfold Yj;rw [hxo]
     ·rw [Ua] at hpair;obtain ⟨_,_,_,t0,hxo⟩:=Zgx hpair.1;unfold Yj;rw [hxo]
    refine ⟨?_,by rw [hxl,Bool.and_false]⟩;obtain ⟨s1,d1,d2,d3⟩:=Zqn hx h3;rw [d2];simp only [U0,YA];rw [ZgA (Zzn hyT) (by rw [hyl,Bool.and_false])];exact d1
  ·obtain ⟨vy,h1,fy⟩:=Kc hy (Zcu h);obtain ⟨h2,hg2⟩:=ZgE hx hxs (fun z hz=>hL z (Uf _ hz)) h1;obtain ⟨a1,a2,a3⟩:=Oper.apart_spec ha;have h3:ZC E id ops y.2 y.1 s (fun s1=>ZC E id ops x.2 x.1 s1 fun s'=>YA E id ops (L1 ++ L2) s' K)=some r:=by
    rw [fy s (AgrT.refl _ _)];exact h2
   refine ⟨ZaL (ZgB hy) a3 ?_,hld (fun n hn=> ?_) hg2⟩
   ·rcases hx2 with hx2 | ⟨hx2,hgs⟩
    ·by_cases hn:X9 E id x.2 x.1=true
     ·exact Zy7 hn hy ha hl1 h3
     ·rcases hx2 with hx2 |hx2
      ·rcases hl2 with hl2 |hl2
       ·exact absurd hl2 hn
       ·exact Zy6 hx2 hy ha hl1 hl2 h3
      ·exact absurd hx2 hn
    ·rw [hgs,UW] at hgy;exact Zzq hy hx2 ha hl1 hgy h3
   ·rw [YL,Ui (fun e=>a1 n e hn)];split
    ·exact Zqm _
    ·rfl
  ·obtain ⟨vy,g',h1,fy⟩:=ZgC hy (Zcu h);obtain ⟨h2,hg2⟩:=ZgE hx hxs (fun z hz=>hL z (Uf _ hz)) h1;obtain ⟨a1,a2,a3⟩:=Oper.apart_spec ha;have h3:ZC E id ops y.2 y.1 s (fun s1=>ZC E id ops x.2 x.1 s1 fun s'=>YA E id ops (L1 ++ L2) s' K)=some r:=by
    rw [fy s (fun _ _=>rfl) (fun _ _ h=>h) rfl];exact h2
   have hgx:=hld (fun n hn=>by rw [Zcv,Ui (fun e=>a1 n e hn)]) hg2;have hgx':=hgx;rw [hgs,UW] at hgx';exact ⟨ZaL (Zzo hy) a3 (Zzp hy hx2 ha hl2 hgx' h3),hgx⟩
theorem Zqq (h:Zck E id ops=true) {o:Oper} {j:Nat} (ho:ops[j]? =some o):
  (∀e∈o.after,Region.binds .any e=true->e.on < j)/\(Zbg ops j=true\/((((mov E id (o,j)\/X9 E id j o=true)\/YU E id j o=true)\/Qa E id j o=true/\Xn E ops=true)/\∀p i,ops[i]? =some p->i < j->(J7 ops o i=true\/((J6 E id i j p o=true\/(Qa E id i p=true/\Xn E ops=true/\mov E id (o,j)/\Oper.apart ops p o=true/\Qb ops (tak E id (o,j)) p=true))\/(mov E id (p,i)/\Zzm E id ops (p,i) (o,j)))))):=by
 unfold Zck at h;rw [MW] at h;have hm:∀{p:Oper} {i:Nat},ops[i]? =some p->(p,i)∈ops.toList.zipIdx:=fun {p i} hp=>by
  rw [UM];simpa using hp
 have h1:=h _ (hm ho);simp only [Ua,U9,UG] at h1;obtain ⟨h4,h1⟩:=h1;refine ⟨fun e he hb=> ?_,?_⟩
 ·have:=Array.all_eq_true_iff_forall_mem.1 h4 e he;rw [hb] at this;exact K5 (by simpa using this)
 ·rcases h1 with h1 | ⟨h1,h5⟩
  ·exact .inl h1
  ·refine .inr ⟨h1,fun p i hp hij=> ?_⟩;rw [MW] at h5;have:=h5 _ (hm hp);simp only [U9,UG,Ua] at this;rcases this with h |h
   ·have:Nat.blt i j=true:=by simp [Nat.blt];omega
    rw [this] at h;cases h
   ·rcases h with h |h | ⟨h6,h⟩
    ·exact .inl h
    ·refine .inr (.inl ?_);rcases h with h |h
     ·exact .inl h
     ·exact .inr ⟨h.1.1.1.1,h.1.1.1.2,h.1.1.2,h.1.2,h.2⟩
    ·refine .inr (.inr ⟨h6,?_⟩);cases hs:YU E id j o with
     |true=>
      rw [hs] at h;simp only [Uo,Ua,U9,UG] at h;exact .inl ⟨hs,h.1,h.2⟩
     |false=>
      rw [hs] at h;simp only [Un,Ua,U9] at h;exact .inr ⟨hs,h.1.1,h.1.2,h.2⟩
theorem Zqr {listed:Array Bool} {i:Nat} (hc:∀i p,ops[i]? =some p->listed.getD i false=true->∀e∈p.after,Region.binds .any e=true->listed.getD e.on false=true):
  ∀(n:Nat) {o:Oper},Zd0 ops n o i=true->(∀e∈o.after,Region.binds .any e=true->listed.getD e.on false=true)->listed.getD i false=true
 | 0,o,h,hr=>by
  unfold Zd0 at h;obtain ⟨e,he,hb⟩:=Array.any_eq_true'.1 h;rw [Ua] at hb;rw [←Ud hb.2];exact hr e he hb.1
 |n + 1,o,h,hr=>by
  unfold Zd0 at h;obtain ⟨e,he,hb⟩:=Array.any_eq_true'.1 h;rw [Ua,U9] at hb;obtain ⟨hb,h1⟩:=hb;have hl:=hr e he hb;rcases h1 with h1 |h1
  ·rw [←Ud h1];exact hl
  ·split at h1
   ·rename_i p hp;exact Zqr hc n h1 fun e' he' hb'=>hc _ p hp hl e' he' hb'
   ·cases h1
theorem Zzr {listed:Array Bool} {o:Oper} {i:Nat} (h:J7 ops o i=true) (hr:∀e∈o.after,Region.binds .any e=true->listed.getD e.on false=true)
  (hc:∀i p,ops[i]? =some p->listed.getD i false=true->∀e∈p.after,Region.binds .any e=true->listed.getD e.on false=true):listed.getD i false=true:=
 Zqr hc 3 h hr
theorem Zqs {listed:Array Bool} {j:Nat} {o:Oper} (h:Zbg ops j=true) (ho:ops[j]? =some o) (hr:∀e∈o.after,Region.binds .any e=true->listed.getD e.on false=true)
  (hc:∀i p,ops[i]? =some p->listed.getD i false=true->∀e∈p.after,Region.binds .any e=true->listed.getD e.on false=true):∀(m i:Nat),j<=i + m->i < j->listed.getD i false=true
 | 0,i,h1,h2=>by omega
 |m + 1,i,h1,h2=>by
  have h3:=MW.1 (show _ from h) i (by simpa using h2);obtain ⟨⟨p,k⟩,hk,h3⟩:=List.any_eq_true.1 h3;rw [Ua,Ua] at h3;have hik:=K5 h3.1.1;have hkj0:k<=j:=MJ h3.1.2;obtain ⟨e,he,hb⟩:=Array.any_eq_true'.1 h3.2;rw [Ua] at hb;have hei:=Ud hb.2;have hp:ops[k]? =some p:=by
   rw [UM] at hk;simpa using hk
  rcases U1 k j with hkj |hkj
  ·have hl:=Zqs h ho hr hc m k (by omega) hkj;have:=hc k p hp hl e he hb.1
   rwa [hei] at this
  ·have hkj':k=j:=by omega
   subst hkj';rw [ho] at hp;cases hp;have:=hr e he hb.1
   rwa [hei] at this
theorem Zqt (hT:TOk P E.T) (hC:Xr P GE.ng GE.G0 E.C) (hU:Qw P GE.ng GE.G0 E.cu/\(GE.v0≠none->E.kp=true)) (hcf:Zck E id ops=true) {K:St->Option β} {D:Nat->Prop} {Pr0:Nat->Nat->Prop} {w0:World} {Q:Exit->Act->World->Prop}
  (hQ:∀s1 a' w',K s1=some r->At GE D Pr0 w0 E.nt s1 a' w'->Q .normal a' w'):∀(fuel:Nat) (listed:Array Bool) (rem:List (Oper×Nat)) (s:St) (a:Act) (w:World),rem.length<=fuel->listed.size=ops.size->
  (∀i p,ops[i]? =some p->listed.getD i false=true->∀e∈p.after,Region.binds .any e=true->listed.getD e.on false=true)->
  rem.Pairwise (fun p q=>p.2 < q.2)->(∀p,p∈rem↔(ops[p.2]? =some p.1/\listed.getD p.2 true=false))->YA E id ops rem s K=some r->At GE D Pr0 w0 E.nt s a w->wpAny P .any ops Q fuel listed a w
 | 0,listed,rem,s,a,w,hl,_,_,_,hm,h,hat=>by
  have hr:rem= []:=Ur (by omega);subst hr;refine ⟨?_,hQ s a w h hat⟩;cases hrd:Region.ready .any ops listed with
  |nil=>rfl
  |cons j js=>
   have hj:j∈Region.ready .any ops listed:=by rw [hrd];exact Ug ..
   obtain ⟨h1,o,h2,_⟩:=mem_ready.1 hj;have:=(hm (o,j)).2 ⟨h2,h1⟩;cases this
 |fuel + 1,listed,rem,s,a,w,hl,hsz,hcl,hpw,hm,h,hat=>by
  refine ⟨fun hrd=> ?_,fun i hi=> ?_⟩
  ·cases rem with
   |nil=>exact hQ s a w h hat
   |cons p rem=>
    exfalso
    obtain ⟨hp1,hp2⟩:=(hm p).1 (Ug ..);obtain ⟨hed,_⟩:=Zqq hcf hp1;have:p.2∈Region.ready .any ops listed:=mem_ready.2 ⟨hp2,p.1,hp1,fun e he hb=>by
     have hlt:=hed e he hb;have hpl:p.2 < ops.size:=(Array.getElem?_eq_some_iff.1 hp1).1;have hel:e.on < listed.size:=by omega
     cases hq:listed.getD e.on false with
     |true=>rfl
     |false=>
      exfalso
      have hq':listed.getD e.on true=false:=by simpa [hel] using hq
      obtain ⟨q,hq1⟩:∃q,ops[e.on]? =some q:=⟨_,MH (by omega)⟩
      have hmem:=(hm (q,e.on)).2 ⟨hq1,hq'⟩;rcases FH.1 hmem with hmem |hmem
      ·rw [←hmem] at hlt;exact absurd hlt (MM _)
      ·have:=(List.pairwise_cons.1 hpw).1 _ hmem;simp only at this;omega⟩
    rw [hrd] at this;cases this
  ·obtain ⟨h1,o,h2,h3⟩:=mem_ready.1 hi;have hmem:=(hm (o,i)).2 ⟨h2,h1⟩;obtain ⟨L1,L2,rfl⟩:=List.append_of_mem hmem;have hpw':=List.pairwise_append.1 hpw;have hb:ZC E id ops i o s (fun s'=>YA E id ops (L1 ++ L2) s' K)=some r:=by
    have hlastc:Zbg ops i=true->ZC E id ops i o s (fun s'=>YA E id ops (L1 ++ L2) s' K)=some r:=fun hlast=>by
     have hL1:L1= []:=by
      cases hL:L1 with
      |nil=>rfl
      |cons y ys=>
       exfalso
       have hyL:y∈L1:=by rw [hL];exact Ug ..
       obtain ⟨y1,y2⟩:=(hm y).1 (Uw _ hyL);have hlt:=hpw'.2.2 y hyL _ (Ug ..);have h4:=Zqs hlast h2 h3 hcl i y.2 (by omega) hlt;have hyl:y.2 < listed.size:=by rw [hsz];exact (Array.getElem?_eq_some_iff.1 y1).1
       simp [hyl] at h4 y2;rw [y2] at h4;cases h4
     subst hL1;simp only [Md,YA] at h;exact Zcu (x:=(o,i)) h
    rcases (Zqq hcf h2).2 with hlast | ⟨hq,hap⟩
    ·exact hlastc hlast
    cases hlst:Zbg ops i with
    |true=>exact hlastc hlst
    |false=>
     have hunf:∀y∈L1,ops[y.2]? =some y.1/\y.2 < i/\J7 ops o y.2=false:=fun y hy=>by
      obtain ⟨y1,y2⟩:=(hm y).1 (Uw _ hy);have hlt:=hpw'.2.2 y hy _ (Ug ..);refine ⟨y1,hlt,?_⟩;cases hf:J7 ops o y.2 with
      |false=>rfl
      |true=>
       have h4:=Zzr hf h3 hcl;have hyl:y.2 < listed.size:=by rw [hsz];exact (Array.getElem?_eq_some_iff.1 y1).1
       simp [hyl] at h4 y2;rw [y2] at h4;cases h4
     cases hs:YU E id i o with
     |true=>
      refine (Zql (x:=(o,i)) hs hlst hpw'.1 (fun y hy=> ?_) h).2;obtain ⟨y1,hlt,hf⟩:=hunf y hy;refine ⟨y1,hlt,hf,?_⟩;rcases hap y.1 y.2 y1 hlt with h |h | ⟨h5,h6⟩
      ·rw [hf] at h;cases h
      ·exfalso
       rcases h with h | ⟨_,_,hm,_⟩
       case inr=>have:=ZgB hm;rw [hs] at this;cases this
       obtain ⟨_,_,_,_,_,t,p,v,ho⟩:=Zab hs;unfold J6 exC X9 at h;rw [ho] at h;split at h
       ·cases h
       ·simp at h
      ·rcases h6 with ⟨_,h6,h7⟩ | ⟨h6,_⟩
       ·refine ⟨h5,h6,fun s=> ?_⟩;rcases h7 with h7 |h7
        ·rw [h7];rfl
        ·have:Yj y.1 s=false:=by
          unfold ZkL at h7;unfold Yj;split
          ·rename_i t n ho;rw [ho] at h7;cases h7
          ·rfl
         rw [this,Bool.and_false]
       ·rw [hs] at h6;cases h6
     |false=>
      have hq2:(mov E id (o,i)\/X9 E id i o=true)\/Qa E id i o=true/\Xn E ops=true:=by
       rcases hq with (hq |hq) |hq
       ·exact .inl hq
       ·rw [hs] at hq;cases hq
       ·exact .inr hq
      refine (ZgE (x:=(o,i)) (by
       rcases hq2 with (hq2 |hq2) |hq2
       ·exact .inl hq2
       ·exact .inr (.inl hq2)
       ·exact .inr (.inr hq2.1)) hs (fun y hy=> ?_) h).1
      obtain ⟨y1,hlt,hf⟩:=hunf y hy;rcases hap y.1 y.2 y1 hlt with h |h | ⟨h5,h6⟩
      ·rw [hf] at h;cases h
      ·rcases h with h |h
       ·refine .inl ⟨h,?_⟩;unfold J6 at h;split at h
        ·cases h
        ·split at h
         ·rename_i hc;rcases hq2 with hq2 |hq2
          ·exact hq2
          ·exfalso
           obtain ⟨_,_,_,_,_,ho,_⟩:=Zlx hc;obtain ⟨_,_,_,_,_,c,f,ho',_⟩:=ZlC hq2.1;rw [ho] at ho';cases ho'
         ·rw [Ua] at h;exact .inr h.1
       ·exact .inr (.inr h)
      ·rcases h6 with ⟨h6,_⟩ | ⟨_,h6⟩
       ·rw [hs] at h6;cases h6
       ·exact .inr (.inl ⟨h5,h6,hq2⟩)
   obtain ⟨s1,g1,g2⟩:=Zgs (GE:=GE) hT hC hU hb;unfold wpOp;simp only [h2];refine g2 D Pr0 w0 a w hat _ Q fun a' w' hat'=> ?_
   refine Zqt hT hC hU hcf hQ fuel _ (L1 ++ L2) s1 a' w' (by simp at hl ⊢;omega) (by simpa using hsz) (fun k p hk hlk e he hbe=> ?_) ?_ (fun p=> ?_) g1 hat'
   ·have hil:i < listed.size:=by rw [hsz];exact (Array.getElem?_eq_some_iff.1 h2).1
    have hset:∀m,listed.getD m false=true->(listed.setIfInBounds i true).getD m false=true:=fun m hm=>by
     by_cases hmi:i=m
     ·subst hmi;simp [hil]
     ·rw [getD_set_ne false hmi];exact hm
    by_cases hki:i=k
    ·subst hki;rw [h2] at hk;cases hk;exact hset _ (h3 e he hbe)
    ·rw [getD_set_ne false hki] at hlk;exact hset _ (hcl k p hk hlk e he hbe)
   ·rw [List.pairwise_append];exact ⟨hpw'.1,(List.pairwise_cons.1 hpw'.2.1).2,fun y hy z hz=>hpw'.2.2 y hy z (Uf _ hz)⟩
   ·have hil:i < listed.size:=by rw [hsz];exact (Array.getElem?_eq_some_iff.1 h2).1
    have hne:p∈L1 ++ L2->p.2≠i:=fun hp e=>by
     rcases List.mem_append.1 hp with hp |hp
     ·have:=hpw'.2.2 p hp _ (Ug ..);simp only at this;omega
     ·have:=(List.pairwise_cons.1 hpw'.2.1).1 p hp;simp only at this;omega
    constructor
    ·intro hp;have hn:=hne hp;have:=(hm p).1 (by
      rcases List.mem_append.1 hp with hp |hp
      ·exact Uw _ hp
      ·exact UD _ (Uf _ hp))
     exact ⟨this.1,by rw [getD_set_ne true (fun e=>hn e.symm)];exact this.2⟩
    ·rintro ⟨p1,p2⟩;have hn:i≠p.2:=fun e=>by
      subst e;simp [hil] at p2
     rw [getD_set_ne true hn] at p2;have:=(hm p).2 ⟨p1,p2⟩;rcases List.mem_append.1 this with h |h
     ·exact Uw _ h
     ·rcases FH.1 h with h |h
      ·exact absurd (by rw [h]) hn
      ·exact UD _ h
end
end Go.Fx
