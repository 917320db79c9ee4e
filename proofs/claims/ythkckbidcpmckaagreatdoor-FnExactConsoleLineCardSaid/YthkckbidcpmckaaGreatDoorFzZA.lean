/- All calls: the evaluator is right about every function. -/
import Derived.Test.YthkckbidcpmckaaGreatDoorFzZ
set_option linter.all false
namespace Go.Fx
section
variable {P:Program}
theorem ZsG {w:World} {Pr:Nat->Nat->Prop} {γ:List Nat} {base:Nat}:∀{as:List AV} {vs:List Value} {F:List Nat} (k:Nat),RepL w Pr γ base as vs F->F.Nodup->
  ∃lab:Nat->Nat,∀(t:Nat) (a:AV),as[t]? =some a->∃v Ft,vs[t]? =some v/\Rep w Pr γ base a v Ft/\Ft.Nodup/\∀b∈Ft,b∈F/\lab b=k + t
 | [],_,_,k,h,_=>⟨fun _=>0,by simp⟩
 |a::as,_,_,k,h,hn=>by
  cases h with
  | @cons _ v Fa _ vs G h1 h2=>
  have hn':=List.nodup_append.1 hn;obtain ⟨lab,hl⟩:=ZsG (k + 1) h2 hn'.2.1;refine ⟨fun b=>if b∈Fa then k else lab b,fun t c hc=> ?_⟩;cases t with
  |zero=>
   simp at hc;subst hc;exact ⟨v,Fa,rfl,h1,hn'.1,fun b hb=>⟨Uz _ hb,Ul hb⟩⟩
  |succ t=>
   obtain ⟨v',Ft,e1,e2,e3,e4⟩:=hl t c (by simpa using hc);refine ⟨v',Ft,by simpa using e1,e2,e3,fun b hb=> ?_⟩;obtain ⟨g1,g2⟩:=e4 b hb;refine ⟨UD _ g1,?_⟩;show (if b∈Fa then k else lab b)=_;rw [Uf fun hm=>hn'.2.2 b hm b g1 rfl,g2];omega
theorem run_callFunc {f:Nat} {fn:Func} {c:Code} (h1:P.funcs[f]? =some fn) (h2:(fn.name== "runtime.NumGoroutine")=false) (h3:fn.body=some c) (args:Array Value) (w:World):
  (callFunc f args).run P w= .ok (.enter f args) w:=by
 simp only [Mn,ne_eq] at h2;simp [callFunc,h1,h2,h3]
theorem CallPost.le {D:Nat->Prop} {w:World} {Pr:Nat->Nat->Prop} {γ:List Nat} {res res':AV} {g g':GS} {v:Value} {w':World} (h:CallPost D w Pr γ res g v w') (hr:Le res res') (hg:Less g g'):CallPost D w Pr γ res' g' v w':=by
 obtain ⟨ow',Pr',γ',H,h1,h2,h3,h4,h5,h6,h7,h8,h9,h10,h11,h12⟩:=h;obtain ⟨H',hs,h4'⟩:=hr.rep h4;refine ⟨ow',Pr',γ',H',h1,h2,h3,h4',h5.sublist hs,fun b hb=>h6 b (hs.subset hb),fun id r hi=> ?_,by rw [hg.length];exact h8,h9,h10,h11,h12⟩;obtain ⟨r0,e1,e2⟩:=hg.at hi;obtain ⟨b,hb,hm⟩:=h7 id r0 e1;exact ⟨b,hb,hm.le e2⟩
theorem ZsH {ng nt:Nat} {G0:Nat->Option Obj} {w:World} {Pr:Nat->Nat->Prop} {γ:List Nat} {owg:Nat->Option Lab} {vs:List Value} {F:List Nat} {args:List AV} {g:GS} {v0:Option Value}
  (hargs:RepL w Pr γ w.heap.size args vs F) (hnd:F.Nodup) (hdis:∀b∈F,owg b=none)
  (hgob:∀id r,g[id]? =some r->∃b,γ[id]? =some b/\Mem w Pr γ w.heap.size owg b (.g id) (.gb id) false r) (hglen:γ.length=g.length)
  (hprl:∀b i,Pr b i->b < w.heap.size) (hlt:∀b,b∈F\/owg b≠none->b < w.heap.size) (hng:ng<=w.heap.size) (hgl:∀b,b < ng->w.heap[b]? =G0 b) (hngo:∀b,b∈F\/owg b≠none->ng<=b)
  (hv0:∀v,v0=some v->v=vs.headD undef):
  At ⟨ng,G0,γ,v0⟩ (fun b=>b∈F\/owg b≠none) Pr w nt ⟨fun t=>match args[t]? with |some a=> .val a |none=> .no,fun _=>none,g⟩ {tmps:=vs.toArray ++ Array.replicate (nt - vs.toArray.size) undef,defers:= []} w:=by
 obtain ⟨lab,hlab⟩:=ZsG 0 hargs hnd
 let D:Nat->Prop:=fun b=>b∈F\/owg b≠none
 let ow:Nat->Option Lab:=fun b=>if b∈F then some (.t (lab b)) else owg b
 have hkeep:∀b l,owg b=some l->ow b=some l:=fun b l hb=>by
  show (if b∈F then _ else _)=_;rw [Uf fun hm=> ?_]
  ·exact hb
  ·rw [hdis b hm] at hb;cases hb
 have how:∀b l,ow b=some l->D b:=fun b l hb=>by
  have hb':(if b∈F then some (Lab.t (lab b)) else owg b)=some l:=hb;split at hb'
  ·rename_i hm;exact .inl hm
  ·exact .inr (by rw [hb'];simp)
 have hv:∀(t:Nat) (v:Value),vs[t]? =some v->(vs.toArray ++ Array.replicate (nt - vs.toArray.size) undef).getD t undef=v:=fun t v e1=>by
  have hlt:t < vs.length:=(List.getElem?_eq_some_iff.1 e1).1;rw [My,Fk (by simpa using hlt)];simp [e1]
 refine ⟨ow,Pr,fun _=>0,γ,⟨Ext.refl _ _ _,fun _ _ _ _=>Ms,fun _ _ _ h=>h,fun t=> ?_,fun key ob hk=>(by cases hk),fun id r hr=> ?_,hglen,hprl,fun b l hb=>hlt b (how b l hb),fun b l hb _=>how b l hb,hng,hgl,fun b l hb=>hngo b (how b l hb),fun _ _ h=>h⟩,rfl,?_,fun v h0=> ?_⟩
 ·show Slot w Pr γ w.heap.size ow (fun _=>0) (fun _=>none) (.t t) (match args[t]? with |some a=> .val a |none=> .no) _;cases ha:args[t]? with
  |none=>exact trivial
  |some a=>
   obtain ⟨v,Ft,e1,e2,e3,e4⟩:=hlab t a ha;simp only;unfold ZP;rw [hv t v e1];refine ⟨Ft,e2,e3,fun b hb=> ?_⟩;obtain ⟨g1,g2⟩:=e4 b hb;show (if b∈F then _ else _)=_;rw [Ul g1,g2,U0]
 ·obtain ⟨b,hb,⟨⟨cur,e,m1,mz,⟨G,g1,g2,g3⟩,m2⟩,m3⟩⟩:=hgob id r hr;exact ⟨b,hb,⟨⟨cur,e,m1,mz,⟨G,g1,g2,fun x hx=>hkeep x _ (g3 x hx)⟩,m2⟩,hkeep _ _ m3⟩⟩
 ·simp only [M0,Array.size_replicate];omega
 ·rw [hv0 v h0];show (vs.toArray ++ Array.replicate (nt - vs.toArray.size) undef).getD 0 undef=_;cases vs with
  |cons x xs=>exact hv 0 x rfl
  |nil=>simp only [My];cases nt <;> simp [undef]
theorem ZCY {ng:Nat} {G0:Nat->Option Obj} {E:Ctx} {f:Nat} {fn:Func} {Q:RQ} {args:List AV} {g:GS} {r:Q.τ} (hT:TOk P E.T) (hC:Xq P ng G0 E.C) (hU:Qv P ng G0 E.cu) (hm:P.follows .mixedOrders=true) (hfn:P.funcs[f]? =some fn) (hname:(fn.name== "runtime.NumGoroutine")=false) (hnt:E.nt=fn.ntmps)
  (h:ZeA E fn Q args g=some r):Spec P ng G0 f args g (Q.enc r).1 (Q.enc r).2:=by
 intro w Pr γ owg vs F hargs hnd hdis hlabs hgob hglen hprl hlt hng hgl hngo;unfold ZeA at h;cases hb:fn.body with
 |none=>rw [hb] at h;cases h
 |some c=>
 rw [hb] at h;simp only at h;refine ⟨run_callFunc hfn hname hb _ _,calls_of_wp hfn hb ?_⟩
 let GE:Glob:=⟨ng,G0,γ,none⟩
 have hat:=ZsH (nt:=fn.ntmps) (v0:=none) hargs hnd hdis hgob hglen hprl hlt hng hgl hngo (by simp);rw [←hnt] at hat;rw [←hnt];refine wp_mono (ZsF (GE:=GE) hT hC ⟨hU,fun h=>absurd rfl h⟩ hm h hat) fun x a w' hx=> ?_
 obtain ⟨e,s,rfl,h1,ow1,Pr1,B,γ1,hi,hd,hn⟩:=hx;have fin:((Zbv E fn.results.toList s).bind fun x=>Q.get (Zmp x.1,Zez g x) some)=some r->a.defers= []/\∃v,(results fn a.tmps).run P w'= .ok v w'/\CallPost (fun b=>b∈F\/owg b≠none) w Pr γ (Q.enc r).1 (Q.enc r).2 v w':=by
  intro hrs;obtain ⟨⟨as,g2⟩,hrs,hq⟩:=ZG hrs;obtain ⟨x0,⟨hle,hlg⟩,e⟩:=Q.ok _ _ _ hq;cases e;obtain ⟨us,ow',Pr',γ',H,q1,q2⟩:=Zng hT hrs hi;have hrun:(results fn a.tmps).run P w'= .ok (if h:us.toArray.size=1 then us.toArray[0] else .tuple us.toArray) w':=by
   have:(fn.results.mapM (Kx a.tmps)).run P w'= .ok us.toArray w':=by
    rw [Array.mapM_eq_mapM_toList];simp [q1]
   have hdef:results fn a.tmps=(do let vs←fn.results.mapM (Kx a.tmps);pure (if h:vs.size=1 then vs[0] else .tuple vs)):=rfl;rw [hdef,Sem.run_bind,this];rfl
  refine ⟨hd,_,hrun,CallPost.le ?_ hle hlg⟩;obtain ⟨γ2,hrep,k1,k2,k3⟩:∃γ2,RepL w' Pr' γ2 w.heap.size as us H/\(∀id r,(Zez g (as,g2))[id]? =some r->∃b,γ2[id]? =some b/\Mem w' Pr' γ2 w.heap.size ow' b (.g id) (.gb id) false r)/\γ2.length=(Zez g (as,g2)).length/\∀i b:Nat,γ[i]? =some b->γ2[i]? =some b:=by
   unfold Zez;cases ht:g.isEmpty && as.all AV.ng with
   |false=>exact ⟨γ',q2.rep,q2.gob,q2.glen,fun i b hb=>q2.gm i b (hi.gpre i b hb)⟩
   |true=>
    rw [Ub] at ht;have hg0:g= []:=by simpa using ht.1
    refine ⟨[],q2.rep.nog ht.2,fun id r hr=>(by simp at hr),rfl,fun i b hb=> ?_⟩;rw [hg0] at hglen;rw [Us hglen] at hb;simp at hb
  refine ⟨ow',Pr',γ2,H,hi.ext,q2.oldp,q2.inc,?_,q2.nd,q2.pd,k1,k2,k3,q2.prl,q2.owl,q2.owD⟩;have hlen:=hrep.length_eq;cases as with
  |nil=>
   cases hrep;exact .tup .nil
  |cons x xs=>
   cases xs with
   |nil=>
    cases hrep with
    | @cons _ v F1 _ _ G1 r1 r2=>
     cases r2;simpa [Zmp] using r1
   |cons y ys=>
    have hne:¬us.toArray.size=1:=by simp at hlen ⊢;omega
    rw [dif_neg hne];exact .tup hrep
 cases e with
 |ex i=>cases h1
 |nrm=>
  obtain ⟨f1,v,f2,f3⟩:=fin h1;exact ⟨f1,v,f2,f3⟩
 |ret=>
  obtain ⟨f1,v,f2,f3⟩:=fin h1;exact ⟨f1,v,f2,f3⟩
def Znh (args:List AV):St:=
 let s:St:=⟨fun t=>match args[t]? with |some a=> .val a |none=> .no,fun _=>none,[]⟩
 match args with
 | .slc .unq k rows::_=>{s with env:=upd s.env 0 (.la 0),L:=upd s.L 0 (some ⟨false,k,rows⟩)}
 | _=>s
def Zni (s:St):Option AV:=
 match s.env 0 with
 | .la key=>match s.L key with
  |some o=>bif o.frz then none else some (.slc .unq o.k o.rows)
  |none=>none
 | .lv key 0 0 (.st m)=>match s.L key with
  |some o=>match o.rows with
   | [cs]=>bif Nat.beq cs.length m then some (.agg cs) else none
   | _=>none
  |none=>none
 | _=>none
def Znj:List ResultVar->St->Option AV
 | [.tmp t],s=>match s.G,s.env t with
  | [], .val (.lit u)=>(Zni s).map fun a=> .tup [.lit u,a]
  | _,_=>none
 | _,_=>none
noncomputable def ZhG (E:Ctx) (fn:Func) (Q:RQ) (args:List AV):Option Q.τ:=
 match fn.body with
 |none=>none
 |some c=>YQ E c (Znh args) fun e s=>match e with
  | .ex _=>none
  | _=>(Znj fn.results.toList s).bind fun x=>Q.get (x,[]) some
theorem ZCZ {GE:Glob} {D:Nat->Prop} {Pr:Nat->Nat->Prop} {w:World} {nt:Nat} {a:Act} {args:List AV}
  (h:At GE D Pr w nt ⟨fun t=>match args[t]? with |some a=> .val a |none=> .no,fun _=>none,[]⟩ a w):At GE D Pr w nt (Znh args) a w:=by
 unfold Znh;split
 ·rename_i k rows r;obtain ⟨ow,Pr1,B,γ,h1,h2⟩:=h;obtain ⟨ow',B',h3⟩:=h1.thaw (t:=0) (d:=0) (k:=k) (rows:=rows) rfl rfl;exact ⟨ow',Pr1,B',γ,h3,h2⟩
 ·exact h
theorem ZC0 {GE:Glob} {D:Nat->Prop} {Pr0:Nat->Nat->Prop} {w0 w:World} {s:St} {tm:Nat->Value} {ow:Nat->Option Lab} {Pr:Nat->Nat->Prop} {B:Nat->Nat} {γ:List Nat} {x:AV} (h:Zni s=some x)
  (hi:Inv GE D Pr0 w0 s tm w ow Pr B γ):∃F,Rep w Pr γ w0.heap.size x (tm 0) F/\F.Nodup/\∀b∈F,∃key,ow b=some (.o key)\/ow b=some (.bk key):=by
 have hs:=hi.slot 0;unfold Zni at h;split at h
 ·rename_i key hen;rw [hen] at hs;obtain ⟨ob',A,cap,e1,e2,e3⟩:=hs;split at h
  case h_2=>cases h
  rename_i ob hL;rw [hL] at e1;obtain rfl:=Un e1;cases hz:ob.frz with
  |true=>rw [hz] at h;cases h
  |false=>
  rw [hz] at h;cases h;rw [e2];rcases e3 with e3 | ⟨rfl,hn0,hnc,hcm,cur,e,q1,q2⟩
  ·have hr0:ob.rows= []:=Us e3.1;rw [hr0,e3.2];exact ⟨[], .unil,UE,by simp⟩
  ·obtain ⟨⟨⟨cur',e',m1,mz,⟨F,m2,m3,m4⟩,m5⟩,m6⟩,m7,m8⟩:=hi.memObj hL (by intro h0;rw [h0] at hn0;simp at hn0);rw [q1] at m1;cases m1;refine ⟨B key::F, .unq q1 q2 hn0 hnc hcm rfl m7 (vs:=cur.toList.take ob.rows.flatten.length) (by rw [Yb m7]) m2 fun i hp=> ?_,List.nodup_cons.2 ⟨fun hm=> ?_,m3⟩,fun b hb=>⟨key,?_⟩⟩
   ·have:=((m5 i).1 hp).1;rw [hz] at this;cases this
   ·have:=m4 _ hm;rw [m6] at this;cases this
   ·rcases List.mem_cons.1 hb with rfl |hb
    ·exact .inr m6
    ·exact .inl (m4 b hb)
 ·rename_i key m hen;rw [hen] at hs;obtain ⟨ob',cur,e,e1,e2,e3,e4⟩:=hs;split at h
  case h_2=>cases h
  rename_i ob hL;rw [hL] at e1;obtain rfl:=Un e1;split at h
  case h_2=>cases h
  rename_i cs hrows;cases hm:Nat.beq cs.length m with
  |false=>rw [hm] at h;cases h
  |true=>
  rw [hm] at h;cases h;obtain rfl:=Ud hm;obtain ⟨⟨⟨cur',e',m1,mz,⟨F,m2,m3,m4⟩,m5⟩,m6⟩,m7,m8⟩:=hi.memObj hL (by rw [hrows];simp);rw [e2] at m1;cases m1;rw [hrows] at m2;simp only [UM,Fm,UK] at m2;obtain ⟨us,f1,f2,f3⟩:=e4;rw [f1];have:us=cur.toList.take cs.length:=by
   apply UV;intro j;rw [UA];by_cases hj:j < cs.length
   ·rw [Ul hj];have h3:us[j]? =some us[j]:=Ua (by omega);rw [h3];have:=f3 j _ h3;simp only [Nat.zero_mul,U0] at this;rw [←this];simp
   ·rw [Uf hj,UP (by omega)]
  rw [this];exact ⟨F, .agg m2,m3,fun b hb=>⟨key, .inl (m4 b hb)⟩⟩
 ·cases h
theorem ZC1 {ng:Nat} {G0:Nat->Option Obj} {E:Ctx} {f:Nat} {fn:Func} {Q:RQ} {args:List AV} {r:Q.τ} (hT:TOk P E.T) (hC:Xq P ng G0 E.C) (hU:Qv P ng G0 E.cu) (hkp:E.kp=true) (hm:P.follows .mixedOrders=true) (hfn:P.funcs[f]? =some fn) (hname:(fn.name== "runtime.NumGoroutine")=false) (hnt:E.nt=fn.ntmps)
  (h:ZhG E fn Q args=some r):Zhp P ng G0 f args (Q.enc r).1:=by
 intro w Pr vs F hargs hnd hprl hlt hng hgl hngo;unfold ZhG at h;cases hb:fn.body with
 |none=>rw [hb] at h;cases h
 |some c=>
 rw [hb] at h;simp only at h;refine ⟨run_callFunc hfn hname hb _ _,calls_of_wp hfn hb ?_⟩
 let GE:Glob:=⟨ng,G0,[],some (vs.headD undef)⟩
 have hDD:(fun b=>b∈F\/(fun _:Nat=>(none:Option Lab)) b≠none)=(fun b=>b∈F):=by funext b;simp
 have hat:=ZsH (nt:=fn.ntmps) (owg:=fun _=>none) (g:= []) (v0:=some (vs.headD undef)) hargs hnd (fun _ _=>rfl) (by simp) rfl hprl (fun b hb=>hb.elim (hlt b) (fun h=>absurd rfl h)) hng hgl (fun b hb=>hb.elim (hngo b) (fun h=>absurd rfl h)) (by simp);rw [←hnt,hDD] at hat;rw [←hnt];refine wp_mono (ZsF (GE:=GE) hT hC ⟨hU,fun _=>hkp⟩ hm h (ZCZ hat)) fun x a w' hx=> ?_
 obtain ⟨e,s,rfl,h1,ow1,Pr1,B,γ1,hi,hd,hn⟩:=hx;have fin:((Znj fn.results.toList s).bind fun x=>Q.get (x,[]) some)=some r->a.defers= []/\∃v,(results fn a.tmps).run P w'= .ok v w'/\CallPost (fun b=>b∈F) w Pr [] (Q.enc r).1 [] (.tuple #[v,vs.headD undef]) w':=by
  intro hrs;obtain ⟨x,hrs,hq⟩:=ZG hrs;obtain ⟨x0,⟨hle,hlg⟩,e⟩:=Q.ok _ _ _ hq;cases e;unfold Znj at hrs;split at hrs
  case h_2=>cases hrs
  rename_i t hres _;split at hrs
  case h_2=>cases hrs
  rename_i u hG hen;rw [ME] at hrs;obtain ⟨y,hy,rfl⟩:=hrs;obtain ⟨H,r1,r2,r3⟩:=ZC0 hy hi;rw [hn.2 _ rfl] at r1;have hst:=hi.slot t;rw [hen] at hst;obtain ⟨Ft,t1,t2,t3⟩:=hst;obtain ⟨t4,t5,rfl⟩:=ZbA t1;refine ⟨hd,u,?_,CallPost.le ?_ hle (by exact .nil)⟩
  ·have hr:fn.results= #[.tmp t]:=by apply Mu;simpa using hres
   have hdef:results fn a.tmps=(do let vs←fn.results.mapM (Kx a.tmps);pure (if h:vs.size=1 then vs[0] else .tuple vs)):=rfl;rw [hdef,hr,Sem.run_bind];have:((#[ResultVar.tmp t]).mapM (Kx a.tmps)).run P w'= .ok #[ZP a t] w':=by
    rw [Array.mapM_eq_mapM_toList];simp [Kx,ZP]
   rw [this,t4];rfl
  ·have hg1:γ1= []:=Us (by rw [hi.glen,hG];rfl);subst hg1;have hget:∀b l,(if b∈H then some Lab.pd else ow1 b)=some l->∃l',ow1 b=some l':=fun b l hb=>by
    split at hb
    ·rename_i hm;obtain ⟨key,h |h⟩:=r3 b hm
     ·exact ⟨_,h⟩
     ·exact ⟨_,h⟩
    ·exact ⟨_,hb⟩
   refine ⟨fun b=>if b∈H then some .pd else ow1 b,Pr1,[],[] ++ (H ++ []),hi.ext,hi.oldp,hi.inc,?_,by simpa using r2,fun b hb=>Ul (by simpa using hb),by simp,rfl,fun _ _ h=>h,hi.prl,fun b l hb=> ?_,fun b l hb hlt=> ?_⟩
   ·exact .tup (.cons (.lit t5) (.cons r1 .nil))
   ·obtain ⟨l',hl'⟩:=hget b l hb;exact hi.owl b l' hl'
   ·obtain ⟨l',hl'⟩:=hget b l hb;exact hi.owD b l' hl' hlt
 cases e with
 |ex i=>cases h1
 |nrm=>
  obtain ⟨f1,v,f2,f3⟩:=fin h1;exact ⟨f1,v,f2,f3⟩
 |ret=>
  obtain ⟨f1,v,f2,f3⟩:=fin h1;exact ⟨f1,v,f2,f3⟩
def ZbF (P:Program) (ng:Nat) (G0:Nat->Option Obj):List ((Nat×Nat)×Entry)->Prop
 | []=>True
 |p::r=>VH P ng G0 p.1.1 p.2/\ZbF P ng G0 r
theorem Znk {ng:Nat} {G0:Nat->Option Obj}:∀{cs:List ((Nat×Nat)×Entry)},ZbF P ng G0 cs->Xq P ng G0 (Zag cs)
 | [],_=>fun f v en h=>by cases h
 | ((a,c),b)::r,h=>fun f v en he=>by
  simp only [Zag] at he;cases hb:Nat.beq a f && Nat.beq c v with
  |true=>
   rw [hb] at he;cases he;rw [Ub] at hb;rw [←Ud hb.1];exact h.1
  |false=>
   rw [hb] at he;exact Znk h.2 f v en he
def Zc1 (P:Program) (ng:Nat) (G0:Nat->Option Obj):List ((Nat×Nat)×Entry)->Prop
 | []=>True
 |p::r=>Zhq P ng G0 p.1.1 p.2/\Zc1 P ng G0 r
theorem Znl {ng:Nat} {G0:Nat->Option Obj}:∀{cs:List ((Nat×Nat)×Entry)},Zc1 P ng G0 cs->Qv P ng G0 (Zag cs)
 | [],_=>fun f v en h=>by cases h
 | ((a,c),b)::r,h=>fun f v en he=>by
  simp only [Zag] at he;cases hb:Nat.beq a f && Nat.beq c v with
  |true=>
   rw [hb] at he;cases he;rw [Ub] at hb;rw [←Ud hb.1];exact h.1
  |false=>
   rw [hb] at he;exact Znl h.2 f v en he
theorem ZC2 {ng:Nat} {G0:Nat->Option Obj} {T:Nat->TD} {f:Nat} {fn:Func} {en:Entry} {cs us:List ((Nat×Nat)×Entry)} {gs:Nat->Bool} {R:List (Nat×RR)} {h:Hints} {N:Nat} (hT:TOk P T) (hm:P.follows .mixedOrders=true)
  (hfn:P.funcs[f]? =some fn) (hname:(fn.name== "runtime.NumGoroutine")=false) (hcs:ZbF P ng G0 cs) (hus:Zc1 P ng G0 us)
  (hL:∀x,ZeA (Zbw T cs us gs R h fn.ntmps N) fn en.rs (en.ps.enc x).1 (en.ps.enc x).2=en.S x):VH P ng G0 f en:=by
 intro x r hr;exact ZCY (E:=Zbw T cs us gs R h fn.ntmps N) hT (Znk hcs) (Znl hus) hm hfn hname rfl ((hL x).trans hr)
theorem ZC3 {ng:Nat} {G0:Nat->Option Obj} {T:Nat->TD} {f:Nat} {fn:Func} {en:Entry} {cs us:List ((Nat×Nat)×Entry)} {gs:Nat->Bool} {R:List (Nat×RR)} {h:Hints} {N:Nat} (hT:TOk P T) (hm:P.follows .mixedOrders=true)
  (hfn:P.funcs[f]? =some fn) (hname:(fn.name== "runtime.NumGoroutine")=false) (hcs:ZbF P ng G0 cs) (hus:Zc1 P ng G0 us)
  (hL:∀x,ZhG (Zbw T cs us gs R h fn.ntmps N true) fn en.rs (en.ps.enc x).1=en.S x):Zhq P ng G0 f en:=by
 intro x r hr _ _;exact ZC1 (E:=Zbw T cs us gs R h fn.ntmps N true) hT (Znk hcs) (Znl hus) rfl hm hfn hname rfl ((hL x).trans hr)
end
end Go.Fx
