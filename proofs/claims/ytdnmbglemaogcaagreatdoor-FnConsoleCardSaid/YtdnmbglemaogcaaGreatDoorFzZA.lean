/- All calls: the evaluator is right about every function. -/
import Derived.Test.YtdnmbglemaogcaaGreatDoorFzZ
set_option linter.all false
namespace Go.Fx
section
variable {P:Program}
theorem Zqy {w:World} {Pr:Nat->Nat->Prop} {γ:List Nat} {base:Nat}:∀{as:List AV} {vs:List Value} {F:List Nat} (k:Nat),RepL w Pr γ base as vs F->F.Nodup->
  ∃lab:Nat->Nat,∀(t:Nat) (a:AV),as[t]? =some a->∃v Ft,vs[t]? =some v/\Rep w Pr γ base a v Ft/\Ft.Nodup/\∀b∈Ft,b∈F/\lab b=k + t
 | [],_,_,k,h,_=>⟨fun _=>0,by simp⟩
 |a::as,_,_,k,h,hn=>by
  cases h with
  | @cons _ v Fa _ vs G h1 h2=>
  have hn':=List.nodup_append.1 hn;obtain ⟨lab,hl⟩:=Zqy (k + 1) h2 hn'.2.1;refine ⟨fun b=>if b∈Fa then k else lab b,fun t c hc=> ?_⟩;cases t with
  |zero=>
   simp at hc;subst hc;exact ⟨v,Fa,rfl,h1,hn'.1,fun b hb=>⟨Uw _ hb,Uj hb⟩⟩
  |succ t=>
   obtain ⟨v',Ft,e1,e2,e3,e4⟩:=hl t c (by simpa using hc);refine ⟨v',Ft,by simpa using e1,e2,e3,fun b hb=> ?_⟩;obtain ⟨g1,g2⟩:=e4 b hb;refine ⟨UD _ g1,?_⟩;show (if b∈Fa then k else lab b)=_;rw [Ui fun hm=>hn'.2.2 b hm b g1 rfl,g2];omega
theorem run_callFunc {f:Nat} {fn:Func} {c:Code} (h1:P.funcs[f]? =some fn) (h2:(fn.name== "runtime.NumGoroutine")=false) (h3:fn.body=some c) (args:Array Value) (w:World):
  (callFunc f args).run P w= .ok (.enter f args) w:=by
 simp only [MG,ne_eq] at h2;simp [callFunc,h1,h2,h3]
theorem CallPost.le {D:Nat->Prop} {w:World} {Pr:Nat->Nat->Prop} {γ:List Nat} {res res':AV} {g g':GS} {v:Value} {w':World} (h:CallPost D w Pr γ res g v w') (hr:Le res res') (hg:Less g g'):CallPost D w Pr γ res' g' v w':=by
 obtain ⟨ow',Pr',γ',H,h1,h2,h3,h4,h5,h6,h7,h8,h9,h10,h11,h12⟩:=h;obtain ⟨H',hs,h4'⟩:=hr.rep h4;refine ⟨ow',Pr',γ',H',h1,h2,h3,h4',h5.sublist hs,fun b hb=>h6 b (hs.subset hb),fun id r hi=> ?_,by rw [hg.length];exact h8,h9,h10,h11,h12⟩;obtain ⟨r0,e1,e2⟩:=hg.at hi;obtain ⟨b,hb,hm⟩:=h7 id r0 e1;exact ⟨b,hb,hm.le e2⟩
theorem Zzw {ng nt:Nat} {G0:Nat->Option Obj} {w:World} {Pr:Nat->Nat->Prop} {γ:List Nat} {owg:Nat->Option Lab} {vs:List Value} {F:List Nat} {args:List AV} {g:GS} {v0:Option Value}
  (hargs:RepL w Pr γ w.heap.size args vs F) (hnd:F.Nodup) (hdis:∀b∈F,owg b=none)
  (hgob:∀id r,g[id]? =some r->∃b,γ[id]? =some b/\Mem w Pr γ w.heap.size owg b (.g id) (.gb id) false r) (hglen:γ.length=g.length)
  (hprl:∀b i,Pr b i->b < w.heap.size) (hlt:∀b,b∈F\/owg b≠none->b < w.heap.size) (hng:ng<=w.heap.size) (hgl:∀b,b < ng->w.heap[b]? =G0 b) (hngo:∀b,b∈F\/owg b≠none->ng<=b)
  (hv0:∀v,v0=some v->v=vs.headD undef):
  At ⟨ng,G0,γ,v0⟩ (fun b=>b∈F\/owg b≠none) Pr w nt ⟨fun t=>match args[t]? with |some a=> .val a |none=> .no,fun _=>none,g⟩ {tmps:=vs.toArray ++ Array.replicate (nt - vs.toArray.size) undef,defers:= []} w:=by
 obtain ⟨lab,hlab⟩:=Zqy 0 hargs hnd
 let D:Nat->Prop:=fun b=>b∈F\/owg b≠none
 let ow:Nat->Option Lab:=fun b=>if b∈F then some (.t (lab b)) else owg b
 have hkeep:∀b l,owg b=some l->ow b=some l:=fun b l hb=>by
  show (if b∈F then _ else _)=_;rw [Ui fun hm=> ?_]
  ·exact hb
  ·rw [hdis b hm] at hb;cases hb
 have how:∀b l,ow b=some l->D b:=fun b l hb=>by
  have hb':(if b∈F then some (Lab.t (lab b)) else owg b)=some l:=hb;split at hb'
  ·rename_i hm;exact .inl hm
  ·exact .inr (by rw [hb'];simp)
 have hv:∀(t:Nat) (v:Value),vs[t]? =some v->(vs.toArray ++ Array.replicate (nt - vs.toArray.size) undef).getD t undef=v:=fun t v e1=>by
  have hlt:t < vs.length:=(List.getElem?_eq_some_iff.1 e1).1;rw [MC,Fi (by simpa using hlt)];simp [e1]
 refine ⟨ow,Pr,fun _=>0,γ,⟨Ext.refl _ _ _,fun _ _ _ _=>Mp,fun _ _ _ h=>h,fun t=> ?_,fun key ob hk=>(by cases hk),fun id r hr=> ?_,hglen,hprl,fun b l hb=>hlt b (how b l hb),fun b l hb _=>how b l hb,hng,hgl,fun b l hb=>hngo b (how b l hb),fun _ _ h=>h⟩,rfl,?_,fun v h0=> ?_⟩
 ·show Slot w Pr γ w.heap.size ow (fun _=>0) (fun _=>none) (.t t) (match args[t]? with |some a=> .val a |none=> .no) _;cases ha:args[t]? with
  |none=>trivial
  |some a=>
   obtain ⟨v,Ft,e1,e2,e3,e4⟩:=hlab t a ha;simp only;unfold ZQ;rw [hv t v e1];refine ⟨Ft,e2,e3,fun b hb=> ?_⟩;obtain ⟨g1,g2⟩:=e4 b hb;show (if b∈F then _ else _)=_;rw [Uj g1,g2,UZ]
 ·obtain ⟨b,hb,⟨⟨cur,e,m1,mz,⟨G,g1,g2,g3⟩,m2⟩,m3⟩⟩:=hgob id r hr;exact ⟨b,hb,⟨⟨cur,e,m1,mz,⟨G,g1,g2,fun x hx=>hkeep x _ (g3 x hx)⟩,m2⟩,hkeep _ _ m3⟩⟩
 ·simp only [M3,Array.size_replicate];omega
 ·rw [hv0 v h0];show (vs.toArray ++ Array.replicate (nt - vs.toArray.size) undef).getD 0 undef=_;cases vs with
  |cons x xs=>exact hv 0 x rfl
  |nil=>simp only [MC];cases nt <;> simp [undef]
theorem Zzx {ng:Nat} {G0:Nat->Option Obj} {E:Ctx} {f:Nat} {fn:Func} {Q:RQ} {args:List AV} {g:GS} {r:Q.τ} (hT:TOk P E.T) (hC:Xr P ng G0 E.C) (hU:Qw P ng G0 E.cu) (hm:P.follows .mixedOrders=true) (hfn:P.funcs[f]? =some fn) (hname:(fn.name== "runtime.NumGoroutine")=false) (hnt:E.nt=fn.ntmps)
  (h:Zd5 E fn Q args g=some r):Spec P ng G0 f args g (Q.enc r).1 (Q.enc r).2:=by
 intro w Pr γ owg vs F hargs hnd hdis hlabs hgob hglen hprl hlt hng hgl hngo;unfold Zd5 at h;cases hb:fn.body with
 |none=>rw [hb] at h;cases h
 |some c=>
 rw [hb] at h;simp only at h;refine ⟨run_callFunc hfn hname hb _ _,calls_of_wp hfn hb ?_⟩
 let GE:Glob:=⟨ng,G0,γ,none⟩
 have hat:=Zzw (nt:=fn.ntmps) (v0:=none) hargs hnd hdis hgob hglen hprl hlt hng hgl hngo (by simp);rw [←hnt] at hat;rw [←hnt];refine wp_mono (Zzv (GE:=GE) hT hC ⟨hU,fun h=>absurd rfl h⟩ hm h hat) fun x a w' hx=> ?_
 obtain ⟨e,s,rfl,h1,ow1,Pr1,B,γ1,hi,hd,hn⟩:=hx;have fin:((Zbi E fn.results.toList s).bind fun x=>Q.get (ZkN x.1,Zd4 g x) some)=some r->a.defers= []/\∃v,(results fn a.tmps).run P w'= .ok v w'/\CallPost (fun b=>b∈F\/owg b≠none) w Pr γ (Q.enc r).1 (Q.enc r).2 v w':=by
  intro hrs;obtain ⟨⟨as,g2⟩,hrs,hq⟩:=ZH hrs;obtain ⟨x0,⟨hle,hlg⟩,e⟩:=Q.ok _ _ _ hq;cases e;obtain ⟨us,ow',Pr',γ',H,q1,q2⟩:=ZlG hT hrs hi;have hrun:(results fn a.tmps).run P w'= .ok (if h:us.toArray.size=1 then us.toArray[0] else .tuple us.toArray) w':=by
   have:(fn.results.mapM (Zcw a.tmps)).run P w'= .ok us.toArray w':=by
    rw [Array.mapM_eq_mapM_toList];simp [q1]
   have hdef:results fn a.tmps=(do let vs←fn.results.mapM (Zcw a.tmps);pure (if h:vs.size=1 then vs[0] else .tuple vs)):=rfl;rw [hdef,Sem.run_bind,this];rfl
  refine ⟨hd,_,hrun,CallPost.le ?_ hle hlg⟩;obtain ⟨γ2,hrep,k1,k2,k3⟩:∃γ2,RepL w' Pr' γ2 w.heap.size as us H/\(∀id r,(Zd4 g (as,g2))[id]? =some r->∃b,γ2[id]? =some b/\Mem w' Pr' γ2 w.heap.size ow' b (.g id) (.gb id) false r)/\γ2.length=(Zd4 g (as,g2)).length/\∀i b:Nat,γ[i]? =some b->γ2[i]? =some b:=by
   unfold Zd4;cases ht:g.isEmpty && as.all AV.ng with
   |false=>exact ⟨γ',q2.rep,q2.gob,q2.glen,fun i b hb=>q2.gm i b (hi.gpre i b hb)⟩
   |true=>
    rw [Ua] at ht;have hg0:g= []:=by simpa using ht.1
    refine ⟨[],q2.rep.nog ht.2,fun id r hr=>(by simp at hr),rfl,fun i b hb=> ?_⟩;rw [hg0] at hglen;rw [Ur hglen] at hb;simp at hb
  refine ⟨ow',Pr',γ2,H,hi.ext,q2.oldp,q2.inc,?_,q2.nd,q2.pd,k1,k2,k3,q2.prl,q2.owl,q2.owD⟩;have hlen:=hrep.length_eq;cases as with
  |nil=>
   cases hrep;exact .tup .nil
  |cons x xs=>
   cases xs with
   |nil=>
    cases hrep with
    | @cons _ v F1 _ _ G1 r1 r2=>
     cases r2;simpa [ZkN] using r1
   |cons y ys=>
    have hne:¬us.toArray.size=1:=by simp at hlen ⊢;omega
    rw [dif_neg hne];exact .tup hrep
 cases e with
 |ex i=>cases h1
 |nrm=>
  obtain ⟨f1,v,f2,f3⟩:=fin h1;exact ⟨f1,v,f2,f3⟩
 |ret=>
  obtain ⟨f1,v,f2,f3⟩:=fin h1;exact ⟨f1,v,f2,f3⟩
def Zee (P:Program) (ng:Nat) (G0:Nat->Option Obj):List ((Nat×Nat)×Entry)->Prop
 | []=>True
 |p::r=>Vq P ng G0 p.1.1 p.2/\Zee P ng G0 r
theorem Zqz {ng:Nat} {G0:Nat->Option Obj}:∀{cs:List ((Nat×Nat)×Entry)},Zee P ng G0 cs->Xr P ng G0 (K4 cs)
 | [],_=>fun f v en h=>by cases h
 | ((a,c),b)::r,h=>fun f v en he=>by
  simp only [K4] at he;cases hb:Nat.beq a f && Nat.beq c v with
  |true=>
   rw [hb] at he;cases he;rw [Ua] at hb;rw [←Ud hb.1];exact h.1
  |false=>
   rw [hb] at he;exact Zqz h.2 f v en he
def ZgG (P:Program) (ng:Nat) (G0:Nat->Option Obj):List ((Nat×Nat)×Entry)->Prop
 | []=>True
 |p::r=>Zlm P ng G0 p.1.1 p.2/\ZgG P ng G0 r
theorem ZqA {ng:Nat} {G0:Nat->Option Obj}:∀{cs:List ((Nat×Nat)×Entry)},ZgG P ng G0 cs->Qw P ng G0 (K4 cs)
 | [],_=>fun f v en h=>by cases h
 | ((a,c),b)::r,h=>fun f v en he=>by
  simp only [K4] at he;cases hb:Nat.beq a f && Nat.beq c v with
  |true=>
   rw [hb] at he;cases he;rw [Ua] at hb;rw [←Ud hb.1];exact h.1
  |false=>
   rw [hb] at he;exact ZqA h.2 f v en he
theorem Zzy {ng:Nat} {G0:Nat->Option Obj} {T:Nat->TD} {f:Nat} {fn:Func} {en:Entry} {cs us:List ((Nat×Nat)×Entry)} {gs:Nat->Bool} {R:List (Nat×RR)} {h:Hints} {N:Nat} (hT:TOk P T) (hm:P.follows .mixedOrders=true)
  (hfn:P.funcs[f]? =some fn) (hname:(fn.name== "runtime.NumGoroutine")=false) (hcs:Zee P ng G0 cs) (hus:ZgG P ng G0 us)
  (hL:∀x,Zd5 (Zgg T cs us gs R h fn.ntmps N) fn en.rs (en.ps.enc x).1 (en.ps.enc x).2=en.S x):Vq P ng G0 f en:=by
 intro x r hr;exact Zzx (E:=Zgg T cs us gs R h fn.ntmps N) hT (Zqz hcs) (ZqA hus) hm hfn hname rfl ((hL x).trans hr)
end
end Go.Fx
