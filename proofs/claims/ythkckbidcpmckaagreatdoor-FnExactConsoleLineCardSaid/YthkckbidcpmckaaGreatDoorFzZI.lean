/- Part of the proof: see the last text of the claim. -/
import Derived.Test.YthkckbidcpmckaaGreatDoorFzR
import Derived.Shelf.Spec.SlicesInsertGrow
import Derived.Laws.CopyRow
import Derived.Test.YthkckbidcpmckaaGreatDoorFzZC
set_option linter.all false
/- Copies of rows, as one operation. -/
namespace Go.Fx
open Go.Shelf Go.RowKit Go.Lib Go.Proofs
theorem Zaw {P:Program} (w:World) (dT sT ty elem:TypeId) (g o dLen dCap:Nat) (a:Addr) (sLen sCap k:Nat) (cur:Array Value) (t:TypeId) (cs:List Value)
  (hu:P.underlying dT=some (.slice elem)) (hs:(P.info? elem).map (·.size)=some k)
  (hg:w.heap[g]? =some (.cells cur t (0,0))) (hn:cs.length=Nat.min sLen dLen * k)
  (hsrc:∀j v,cs[j]? =some v->w.cell? (a.add j)=some v) (hfit:o + cs.length<=cur.size) (h1:∀v∈cs,v.oneCell'=true):
  (Builtin.copy_ #[dT,sT] ty #[.slice (some ⟨g,o,none⟩) dLen dCap, .slice (some a) sLen sCap]).run P w=
   .ok (goInt (Nat.min sLen dLen)) (w.setRow g (cur.toList.take o ++ cs ++ cur.toList.drop (o + cs.length)).toArray):=by
 have hl:=run_loadCells_list (P:=P) w a cs hsrc;have hst:=run_storeCells_at P g o t cs 0 cur w hg (by simpa using hfit) h1;cases hq:P.info? elem with
 |none=>simp [hq] at hs
 |some i=>
  have hi:i.size=k:=by simpa [hq] using hs
  simp [Builtin.copy_,run_underlying hu,Builtin.lenOf,Builtin.firstCells,sizeOf,typeInfo,hq,hi,←hn,hl,hst]
theorem JL {w:World} {b j:Nat} {cur:Array Value} {e:TypeId} (h:w.heap[b]? =some (.cells cur e (0,0))):w.cell? ⟨b,j,none⟩=cur[j]? :=by simp [World.cell?,h]
end Go.Fx
/- slices.Insert of one element into a slice that nobody else holds. -/
namespace Go.Fx
open Go.RowKit Go.Proofs
section
variable {P:Program} {w w':World} {Pr:Nat->Nat->Prop} {γ:List Nat} {base:Nat}
theorem Znz:∀{cs:List AV} {vs:List Value} {F:List Nat},(∀a∈cs,∃v,a= .lit v)->Reps w Pr γ base cs vs F->F= []/\cs=vs.map AV.lit/\∀v∈vs,Yi v=true
 | [],_,_,_,h=>by cases h;exact ⟨rfl,rfl,fun _ h=>by cases h⟩
 |a::cs,_,_,hf,h=>by
  cases h with
  |cons h1 h2 h3=>
   obtain ⟨v,rfl⟩:=hf a (Uj ..);obtain ⟨rfl,s1,rfl⟩:=ZbA h2;obtain ⟨rfl,e2,s2⟩:=Znz (fun a ha=>hf a (Ug _ ha)) h3;exact ⟨rfl,by rw [Mb,←e2],fun u hu=>by
    rcases List.mem_cons.1 hu with rfl |hu
    ·exact s1
    ·exact s2 u hu⟩
theorem ZhS:∀{vs:List Value},(∀v∈vs,Yi v=true)->Reps w Pr γ base (vs.map AV.lit) vs []
 | [],_=> .nil
 |v::vs,h=>by
  have:=Reps.cons (w:=w) (Pr:=Pr) (γ:=γ) (base:=base) (a:= .lit v) rfl (.lit (h v (Uj ..))) (ZhS fun u hu=>h u (Ug _ hu));exact this
theorem Ztt {v:Value} (h:Yi v=true):v.oneCell'=true:=by cases v <;> simp_all [Yi,Value.oneCell']
theorem Ztu {k:Nat}:∀{xs:List (List AV)} {i:Nat},(∀x∈xs,x.length=k)->(xs.take i).flatten=xs.flatten.take (i * k)
 | [],i,_=>by simp
 |x::xs,0,_=>by simp
 |x::xs,i + 1,h=>by
  rw [List.take_succ_cons,UM,UM,Ztu fun y hy=>h y (Ug _ hy),UX,MK,Nat.add_comm (i * k),←h x (Uj ..),List.take_length_add_append]
theorem Ztv {k:Nat}:∀{xs:List (List AV)} {i:Nat},(∀x∈xs,x.length=k)->(xs.drop i).flatten=xs.flatten.drop (i * k)
 | [],i,_=>by simp
 |x::xs,0,_=>by simp
 |x::xs,i + 1,h=>by
  rw [List.drop_succ_cons,UM,Ztv fun y hy=>h y (Ug _ hy),UX,MK,Nat.add_comm (i * k),←h x (Uj ..),List.drop_length_add_append]
structure InsW (P:Program) (f t e k:Nat) (by':Nat):Prop where
 shift:∀{w:World} {b n c i vb vc:Nat} {cur curv:Array Value} {e' ev:TypeId},w.heap[b]? =some (.cells cur e' (0,0))->w.heap[vb]? =some (.cells curv ev (0,0))->vb≠b->i < n->n + 1<=c->cur.size=c * k->c<=9223372036854775807->k<=curv.size->
  (∀v∈cur.toList.take (n * k),v.oneCell'=true)->(∀v∈curv.toList.take k,v.oneCell'=true)->
  Calls P f #[.slice (some ⟨b,0,none⟩) n c, .int .i64 i, .slice (some ⟨vb,0,none⟩) 1 vc] w fun x w'=>x= .returned (.slice (some ⟨b,0,none⟩) (n + 1) c)/\
   ∃c1 c2:List Value,c1=cur.toList.take ((i + 1) * k) ++ (cur.toList.take (n * k)).drop (i * k) ++ cur.toList.drop ((n + 1) * k)/\c2=c1.take (i * k) ++ curv.toList.take k ++ c1.drop ((i + 1) * k)/\w'=(w.drew.setRow b c1.toArray).setRow b c2.toArray
 grow:∀{w:World} {b n c i vb vc:Nat} {cur curv:Array Value} {e' ev:TypeId},w.heap[b]? =some (.cells cur e' (0,0))->w.heap[vb]? =some (.cells curv ev (0,0))->i < n->n<=c->c < n + 1->cur.size=c * k->(n + 1) * by'<=140737488355328->k<=curv.size->
  (∀v∈cur.toList.take (n * k),v.oneCell'=true)->(∀v∈curv.toList.take k,v.oneCell'=true)->
  Calls P f #[.slice (some ⟨b,0,none⟩) n c, .int .i64 i, .slice (some ⟨vb,0,none⟩) 1 vc] w fun x w'=>
   ∃(G:Nat) (R:List Value) (R1 R2:Array Value),n + 1<=G/\G<=maxLen/\R.length=G * k/\R1=(R.take (i * k) ++ curv.toList.take k ++ R.drop ((i + 1) * k)).toArray/\R2=(R1.toList.take ((i + 1) * k) ++ (cur.toList.take (n * k)).drop (i * k) ++ R1.toList.drop ((n + 1) * k)).toArray/\R.take (i * k)=cur.toList.take (i * k)/\
   x= .returned (.slice (some ⟨w.heap.size,0,none⟩) (n + 1) G)/\w'=(((w.alloc (.cells R.toArray e)).drew.setRow w.heap.size R1).drew).setRow w.heap.size R2
 last:∀{w w':World} {A:Option Addr} {n c vb vc:Nat} {q:Value},(∀ty,(Builtin.append_ #[t,t] ty #[.slice A n c, .slice (some ⟨vb,0,none⟩) 1 vc]).run P w= .ok q w')->n<=c->c<=9223372036854775807->
  Calls P f #[.slice A n c, .int .i64 n, .slice (some ⟨vb,0,none⟩) 1 vc] w fun x w2=>x= .returned q/\w2=w'
def Zax {α:Type} (by':Nat) (l:List α) (i:Int) (v:List α):Option (List α):=
 ifA ((0<=i/\i<=l.length)/\v.length=1/\(l.length + 1) * by'<=140737488355328/\l.length + 1<=1152921504606846976) (some (l.take i.toNat ++ v ++ l.drop i.toNat))
theorem ZDN {α:Type} {by':Nat} {l:List α} {i:Int} {v r:List α} (h:Zax by' l i v=some r):(0<=i/\i<=l.length)/\v.length=1/\(l.length + 1) * by'<=140737488355328/\l.length + 1<=1152921504606846976/\r=l.take i.toNat ++ v ++ l.drop i.toNat:=by
 unfold Zax ifA at h;split at h
 ·rename_i hc;exact ⟨hc.1,hc.2.1,hc.2.2.1,hc.2.2.2,(Un h).symm⟩
 ·cases h
theorem ZDO {k n c i:Nat} {cur vv:List Value} (hi:i < n) (hroom:n + 1<=c) (hc:cur.length=c * k) (hv:vv.length=k) {c1 c2:List Value}
  (h1:c1=cur.take ((i + 1) * k) ++ (cur.take (n * k)).drop (i * k) ++ cur.drop ((n + 1) * k)) (h2:c2=c1.take (i * k) ++ vv ++ c1.drop ((i + 1) * k)):
  c2.length=c * k/\c2.take ((n + 1) * k)=(cur.take (n * k)).take (i * k) ++ vv ++ (cur.take (n * k)).drop (i * k):=by
 have a1:i * k<=n * k:=UL _ (by omega);have a2:(i + 1) * k=i * k + k:=by rw [UX,MK]
 have a3:(n + 1) * k=n * k + k:=by rw [UX,MK]
 have a4:(n + 1) * k<=c * k:=UL _ hroom;have a5:(i + 1) * k<=n * k:=UL _ (by omega);have l1:(cur.take ((i + 1) * k)).length=(i + 1) * k:=by rw [Uc];omega
 have l2:((cur.take (n * k)).drop (i * k)).length=n * k - i * k:=by rw [Uu,Uc];omega
 have e1:c1.take (i * k)=(cur.take (n * k)).take (i * k):=by
  rw [h1,Uw,List.take_append_of_le_length (by omega),FO,FO,U8 (by omega),U8 (by omega)]
 have e2:c1.drop ((i + 1) * k)=(cur.take (n * k)).drop (i * k) ++ cur.drop ((n + 1) * k):=by
  rw [h1,Uw];exact List.drop_left' l1
 have l3:((cur.take (n * k)).take (i * k)).length=i * k:=by rw [Uc,Uc];omega
 rw [e1,e2] at h2;refine ⟨?_,?_⟩
 ·rw [h2];simp only [Uh,l3,hv,l2,Uu];omega
 ·rw [h2,←Uw];exact Fv (by simp only [Uh,l3,hv,l2];omega)
theorem ZDP {k n G i:Nat} {cur vv R:List Value} (hi:i < n) (hG:n + 1<=G) (hn:n * k<=cur.length) (hR:R.length=G * k) (hv:vv.length=k) (ht:R.take (i * k)=cur.take (i * k)) {R1 R2:List Value}
  (h1:R1=R.take (i * k) ++ vv ++ R.drop ((i + 1) * k)) (h2:R2=R1.take ((i + 1) * k) ++ (cur.take (n * k)).drop (i * k) ++ R1.drop ((n + 1) * k)):
  R2.length=G * k/\R2.take ((n + 1) * k)=(cur.take (n * k)).take (i * k) ++ vv ++ (cur.take (n * k)).drop (i * k):=by
 have a1:i * k<=n * k:=UL _ (by omega);have a2:(i + 1) * k=i * k + k:=by rw [UX,MK]
 have a3:(n + 1) * k=n * k + k:=by rw [UX,MK]
 have a4:(n + 1) * k<=G * k:=UL _ hG;have l0:(R.take (i * k)).length=i * k:=by rw [Uc];omega
 have l2:((cur.take (n * k)).drop (i * k)).length=n * k - i * k:=by rw [Uu,Uc];omega
 have l1:R1.length=G * k:=by rw [h1];simp only [Uh,l0,hv,Uu];omega
 have e1:R1.take ((i + 1) * k)=(cur.take (n * k)).take (i * k) ++ vv:=by
  rw [h1,Fv (by simp only [Uh,l0,hv];omega),ht,FO,U8 a1]
 have l3:((cur.take (n * k)).take (i * k)).length=i * k:=by rw [Uc,Uc];omega
 refine ⟨?_,?_⟩
 ·rw [h2];simp only [Uh,Uc,Uu,l1,l2];omega
 ·rw [h2,e1];exact Fv (by simp only [Uh,l3,hv,l2];omega)
theorem Ztw {D:Nat->Prop} {b n cap k:Nat} {cur:Array Value} {e:TypeId} {xs:List (List AV)} {vals:List Value} (hx:Ext D Pr w w') (hb:w'.heap[b]? =some (.cells cur e (0,0))) (hsz:cur.size=cap * k) (h1:n<=cap) (h2:cap<=maxLen) (h0:0 < n)
  (hl:xs.length=n) (hk:∀x∈xs,x.length=k) (ht:cur.toList.take (n * k)=vals) (hf:xs.flatten=vals.map AV.lit) (hs:∀v∈vals,Yi v=true) (hnp:∀i,¬Pr b i) (hD:b < w.heap.size->D b) (hprl:∀c i:Nat,Pr c i->c < w.heap.size):
  CallPost D w Pr [] (.slc .own k xs) [] (.slice (some ⟨b,0,none⟩) n cap) w':=by
 have hbl:b < w'.heap.size:=(Array.getElem?_eq_some_iff.1 hb).1;refine ⟨fun c=>if c=b then some .pd else none,XV Pr b (n * k),[],[b],hx,fun c i hc hd=>⟨fun h=> ?_, .inl⟩,fun _ _ _ h=> .inl h,?_,List.nodup_cons.2 ⟨fun h=>(by cases h),UE⟩,fun c hc=> ?_,(fun _ _ h=>by cases h),rfl,(fun _ _ h=>h),fun c i h=> ?_,fun c l h=> ?_,fun c l h hc=> ?_⟩
 ·rcases h with h | ⟨rfl,_⟩
  ·exact h
  ·exact absurd (hD hc) hd
 ·refine .own hb hsz h1 h2 hl hk ht (by rw [hf];exact ZhS hs) (fun i=>⟨fun h=> ?_,fun h=> .inr ⟨rfl,h⟩⟩) h0;rcases h with h | ⟨_,h⟩
  ·exact absurd h (hnp i)
  ·exact h
 ·rw [Ml] at hc;show (if c=b then _ else _)=_;rw [Ul hc]
 ·rcases h with h | ⟨rfl,_⟩
  ·exact UB (hprl c i h) hx.size
  ·exact hbl
 ·simp only at h;split at h
  ·rename_i e;rw [e];exact hbl
  ·cases h
 ·simp only at h;split at h
  ·rename_i e;subst e;exact hD hc
  ·cases h
theorem ZDQ {D:Nat->Prop} {Pr1 Pr':Nat->Nat->Prop} {ow0 ow':Nat->Option Lab} {res:AV} {q:Value} {H:List Nat} (hs:Step w w' Pr1 Pr' [] [] ow0 ow') (hr:Rep w' Pr' [] w.heap.size res q H) (hn:H.Nodup) (hH:∀b∈H,ow' b=some .pd)
  (h1:∀b i,Pr b i->Pr1 b i) (h2:∀b i,¬D b->Pr1 b i->Pr b i) (h3:∀b l,ow0 b=some l->D b):CallPost D w Pr [] res [] q w':=by
 refine ⟨ow',Pr',[],H,⟨hs.ext.os,hs.ext.tape,hs.ext.output,hs.ext.size,fun b hb hd=>hs.ext.blk b hb fun h=>hd (h3 b _ h),fun b i hb h=>hs.ext.cell b i hb (h1 b i h),hs.ext.shp⟩,fun b i hb hd=> ?_,fun b i hb h=>hs.inc b i hb (h1 b i h),hr,hn,hH,(fun _ _ h=>by cases h),rfl,(fun _ _ h=>h),hs.prl,hs.owl,fun b l h hb=> ?_⟩
 ·have:=hs.same b i hb fun h=>hd (h3 b _ h)
  exact this.trans ⟨h2 b i hd,h1 b i⟩
 ·obtain ⟨l',hl'⟩:=hs.old b l h hb;exact h3 b l' hl'
theorem ZDR {k:Nat} {xs:List (List AV)} {v:Value} {F:List Nat} (h:Rep w Pr γ base (.slc .own k xs) v F) (hl:xs.length=1):∃b cap e cur F',v= .slice (some ⟨b,0,none⟩) 1 cap/\w.heap[b]? =some (.cells cur e (0,0))/\cur.size=cap * k/\1<=cap/\(∀x∈xs,x.length=k)/\Reps w Pr γ base xs.flatten (cur.toList.take k) F'/\F=b::F':=by
 cases h with
 |nil=>cases hl
 |own h1 h2 h3 h4 h5 h6 h7 h8 h9 h10=>
  have hn:=hl.symm.trans h5;subst hn;exact ⟨_,_,_,_,_,rfl,h1,h2,h3,h6,by rw [←h7,MK] at h8;exact h8,rfl⟩
theorem Ztx {ng:Nat} {G0:Nat->Option Obj} {T:Nat->TD} {f t e k by':Nat} {fn:Func} {R:RR} (hT:TOk P T) (ht:T t= .sl e k) (hby:byA (T e)=by') (hW:InsW P f t e k by') (hflat:∀x,∀a∈R.enc x,∃v,a=AV.lit v)
  (hfn:P.funcs[f]? =some fn) (hname:(fn.name== "runtime.NumGoroutine")=false) (hb:fn.body.isSome=true):
  VH P ng G0 f ⟨aV (rCo (rX .unq k R) (rCo rI (Zg (rX .own k R)))),qV (rX .own k R),fun x:List R.τ×Int×List R.τ=>Zax by' x.1 x.2.1 x.2.2⟩:=by
 intro x;change List R.τ×Int×List R.τ at x;intro r hr w Pr γ owg vs F hargs hnd hdis hlabs hgob hglen hprl hlt hng hgl hngo;obtain ⟨l,i0,v⟩:=x;have hr0:Zax by' l i0 v=some r:=hr
 clear hr;obtain ⟨⟨hi0,hi1⟩,hv1,hbig,hm,rfl⟩:=ZDN hr0;have hγ:γ= []:=List.length_eq_zero_iff.1 hglen;subst hγ;obtain ⟨cb,hcb⟩:=Option.isSome_iff_exists.1 hb;refine ⟨run_callFunc hfn hname hcb _ _,?_⟩;obtain ⟨i,rfl⟩:∃i:Nat,i0=i:=⟨i0.toNat,by omega⟩
 have hin:i<=l.length:=by omega
 have hargs':RepL w Pr [] w.heap.size [.slc .unq k (l.map R.enc),I i, .slc .own k (v.map R.enc)] vs F:=hargs;show Calls P f vs.toArray w (ZeF (CallPost _ w Pr [] (.slc .own k ((l.take (i:Int).toNat ++ v ++ l.drop (i:Int).toNat).map R.enc)) []));rw [Ux,UY,UY,List.map_take,List.map_drop];have hlx:(l.map R.enc).length=l.length:=Uy _;have hlv:(v.map R.enc).length=1:=(Uy _).trans hv1;have hfl:∀a∈(l.map R.enc).flatten,∃u,a=AV.lit u:=fun a ha=>by
  obtain ⟨y,hy,ha⟩:=List.mem_flatten.1 ha;obtain ⟨z,_,rfl⟩:=List.mem_map.1 hy;exact hflat z a ha
 have hfv:∀a∈(v.map R.enc).flatten,∃u,a=AV.lit u:=fun a ha=>by
  obtain ⟨y,hy,ha⟩:=List.mem_flatten.1 ha;obtain ⟨z,_,rfl⟩:=List.mem_map.1 hy;exact hflat z a ha
 generalize l.map R.enc=xs at *
 generalize v.map R.enc=ys at *
 generalize l.length=n at *
 cases hargs' with
 | @cons _ v1 F1 _ vs1 G1 a1 a2=>
 cases a2 with
 | @cons _ v2 F2 _ vs2 G2 b1 b2=>
 cases b2 with
 | @cons _ v3 F3 _ vs3 G3 d1 d2=>
 cases d2;obtain ⟨rfl,_,rfl⟩:=ZbA b1;obtain ⟨vb,vc,ev,curv,F3',rfl,hv,hvs,hvc,hvk,hvr,rfl⟩:=ZDR d1 hlv;obtain ⟨rfl,hye,hysc⟩:=Znz hfv hvr;have hkv:k<=curv.size:=by rw [hvs];exact Nat.le_mul_of_pos_left _ hvc
 have hlk:(curv.toList.take k).length=k:=by rw [Uc,Ue];omega
 have hyl:∀u∈curv.toList.take k,u.oneCell'=true:=fun u hu=>Ztt (hysc u hu)
 have hml:n + 1<=maxLen:=by unfold maxLen;omega
 obtain ⟨j,z,hj,hjs,hk0,_⟩:=JD hT ht;have atEnd:∀{A:Option Addr} {cap:Nat} {Pr1:Nat->Nat->Prop},v1= .slice A n cap->n<=cap->cap<=maxLen->i=n->Rep w Pr1 [] w.heap.size (.slc .own k xs) v1 F1->(∀b i,Pr b i->Pr1 b i)->(∀b i,b∉F1->Pr1 b i->Pr b i)->(∀b i,Pr1 b i->b < w.heap.size)->
   Calls P f #[v1, .int .i64 i, .slice (some ⟨vb,0,none⟩) 1 vc] w (ZeF (CallPost (fun b=>b∈F1 ++ ([] ++ ([vb] ++ []))\/owg b≠none) w Pr [] (.slc .own k (xs.take i ++ ys ++ xs.drop i)) [])):=by
  intro A cap Pr1 e1 h1 h2 e2 hrep p1 p2 p3;subst e1 e2;have hvF:vb∉F1:=fun h=>by
   have:=(List.nodup_append.1 hnd).2.2 vb h vb (by simp);exact this rfl
  have hy1:Rep w Pr1 [] w.heap.size (.slc .own k ys) (.slice (some ⟨vb,0,none⟩) 1 vc) [vb]:=
   d1.mono (Ext.refl (fun _=>False) Pr w) (fun b i _ h=>p1 b i h) (fun _ _ h=>h) (Uq _) (fun _ _ h=>h) (fun b hb i=>by
    rw [Ml] at hb;subst hb;exact ⟨p2 b i hvF,p1 b i⟩)
  have happ:Zbn k (byA (T e)) (.slc .own k xs) (.slc .own k ys)=some (.slc .own k (xs ++ ys)):=by
   unfold Zbn;simp only [Own.nu,MC,Mz,Ut,Q7];rw [Ul ⟨by rw [hlx,hlv,hby];exact hbig,by rw [hlx,hlv];exact hm⟩]
  have hF1:F1.Nodup:=(List.nodup_append.1 hnd).1;obtain ⟨q,w',Pr',ow',H,g1,g2,g3,g4,g5⟩:=ZrI (ty:=0) (ow:=fun b=>if b∈F1 ++ [vb] then some .pd else none) hT ht happ hrep hy1
   (List.nodup_append.2 ⟨hF1,List.nodup_cons.2 ⟨fun h=>(by cases h),UE⟩,fun x hx y hy e=>by rw [Ml] at hy;subst hy;subst e;exact hvF hx⟩)
   (fun b hb=>Ul hb) p3 (fun b l h=>by
    try simp only at h
    split at h
    ·rename_i hm;refine hlt b (.inl ?_);rcases List.mem_append.1 hm with hm |hm
     ·exact Uz _ hm
     ·exact UD _ (by simpa using hm)
    ·cases h)
  refine (hW.last (q:=q) (w':=w') (fun ty=>g1) h1 (by unfold maxLen at h2;omega)).mono fun x w2 hx=> ?_
  obtain ⟨rfl,rfl⟩:=hx;have htk:xs.take i ++ ys ++ xs.drop i=xs ++ ys:=by rw [U4 (by omega),Me (by omega),UK]
  rw [htk];exact ZDQ g2 g3 g4 g5 p1 (fun b i hd h=>p2 b i (fun hb=>hd (.inl (Uz _ hb))) h) (fun b l h=>by
   try simp only at h
   split at h
   ·rename_i hm;refine .inl ?_;rcases List.mem_append.1 hm with hm |hm
    ·exact Uz _ hm
    ·exact UD _ (by simpa using hm)
   ·cases h)
 cases a1 with
 |unil=>
  have hn0:n=0:=by simpa using hlx.symm
  subst hn0;have hi00:i=0:=by omega
  exact atEnd (Pr1:=Pr) rfl (Uq _) (Mm _) hi00 .nil (fun _ _ h=>h) (fun _ _ _ h=>h) hprl
 | @unq _ b n' cap e' cur _ vals F1' c1 c2 c3 c4 c5 c6 c7 c8 c9 c10=>
  obtain rfl:n=n':=hlx.symm.trans c6;obtain ⟨rfl,hxe,hxsc⟩:=Znz hfl c9;have hvals:vals.length=n * k:=by
   rw [←c8,Uc,Ue,c2];exact U8 (UL _ c4)
  have hvne:vb≠b:=fun h=>by
   have:=(List.nodup_append.1 hnd).2.2 b (Uj ..) vb (by simp);exact this h.symm
  have hbw:b < w.heap.size:=(Array.getElem?_eq_some_iff.1 c1).1;by_cases hie:i=n
  ·refine atEnd (Pr1:=XV Pr b (n * k)) rfl c4 c5 hie ?_ (fun _ _ h=> .inl h) (fun c j hc h=> ?_) (fun c j h=> ?_)
   ·refine .own c1 c2 c4 c5 c6 c7 c8 ?_ (fun j=>⟨fun h=> ?_,fun h=> .inr ⟨rfl,h⟩⟩) c3
    ·rw [hxe];exact ZhS hxsc
    ·rcases h with h | ⟨_,h⟩
     ·exact absurd h (c10 j)
     ·exact h
   ·rcases h with h | ⟨rfl,_⟩
    ·exact h
    ·exact absurd (Uj ..) hc
   ·rcases h with h | ⟨rfl,_⟩
    ·exact hprl c j h
    ·exact hbw
  ·have hilt:i < n:=by omega
   have hxl:∀u∈cur.toList.take (n * k),u.oneCell'=true:=fun u hu=>Ztt (hxsc u (by rw [←c8];exact hu))
   have hout:(xs.take i ++ ys ++ xs.drop i).flatten=(vals.take (i * k) ++ curv.toList.take k ++ vals.drop (i * k)).map AV.lit:=by
    rw [Mv,Mv,Ztu c7,Ztv c7,hxe,hye,UY,UY,List.map_take,List.map_drop,List.map_take]
   have houtl:(xs.take i ++ ys ++ xs.drop i).length=n + 1:=by simp only [Uh,Uc,Uu,c6,hlv];omega
   have houtk:∀x∈xs.take i ++ ys ++ xs.drop i,x.length=k:=fun x hx=>by
    rcases List.mem_append.1 hx with hx |hx
    ·rcases List.mem_append.1 hx with hx |hx
     ·exact c7 x (MJ hx)
     ·exact hvk x hx
    ·exact c7 x (Mx hx)
   have houts:∀u∈vals.take (i * k) ++ curv.toList.take k ++ vals.drop (i * k),Yi u=true:=fun u hu=>by
    rcases List.mem_append.1 hu with hu |hu
    ·rcases List.mem_append.1 hu with hu |hu
     ·exact hxsc u (MJ hu)
     ·exact hysc u hu
    ·exact hxsc u (Mx hu)
   by_cases hroom:n + 1<=cap
   ·refine (hW.shift c1 hv hvne hilt hroom c2 (by unfold maxLen at c5;omega) hkv hxl hyl).mono fun x w' hx=> ?_
    obtain ⟨rfl,r1,r2,q1,q2,rfl⟩:=hx;obtain ⟨s1,s2⟩:=ZDO hilt hroom (by rw [Ue];exact c2) hlk q1 q2;have hr1:r1.length=cap * k:=by
     have:=UC List.length q2;have b1:(i + 1) * k<=n * k:=UL _ (by omega);have b2:(n + 1) * k<=cap * k:=UL _ hroom;have b3:(i + 1) * k=i * k + k:=by rw [UX,MK]
     have b4:(n + 1) * k=n * k + k:=by rw [UX,MK]
     rw [q1];simp only [Uh,Uc,Uu,Ue,c2];omega
    have g1:(w.drew.setRow b r1.toArray).heap[b]? =some (.cells r1.toArray e' (0,0)):=setRow_heap w.drew b cur _ e' (0,0) c1;have g2:((w.drew.setRow b r1.toArray).setRow b r2.toArray).heap[b]? =some (.cells r2.toArray e' (0,0)):=setRow_heap _ b r1.toArray _ e' (0,0) g1;have x1:Ext (fun c=>c=b) Pr w w.drew:=Ext.drew _ _ _;have x2:Ext (fun c=>c=b) Pr w.drew (w.drew.setRow b r1.toArray):=Ext.row (w:=w.drew) c1 (by rw [UR,hr1,c2]) c10;have x3:Ext (fun c=>c=b) Pr (w.drew.setRow b r1.toArray) ((w.drew.setRow b r1.toArray).setRow b r2.toArray):=Ext.row g1 (by rw [UR,UR,hr1,s1]) c10;have hx:=(x1.trans x2 (fun _ _ h=>h) (fun _ _ _ h=>h)).trans x3 (fun _ _ h=>h) (fun _ _ _ h=>h);refine Ztw (hx.weaken fun c hc=> ?_) g2 (by rw [UR,s1]) hroom c5 (by omega) houtl houtk ?_ hout houts c10 (fun _=> ?_) hprl
    ·subst hc;exact .inl (by simp)
    ·rw [List.toList_toArray,s2,c8]
    ·exact .inl (by simp)
   ·refine (hW.grow c1 hv hilt c4 (by omega) c2 hbig hkv hxl hyl).mono fun x w' hx=> ?_
    obtain ⟨G,r0,r1,r2,q1,q2,q3,q4,q5,q6,rfl,rfl⟩:=hx;have hcl:n * k<=cur.toList.length:=by rw [Ue,c2];exact UL _ c4
    obtain ⟨s1,s2⟩:=ZDP hilt q1 hcl q3 hlk q6 (R1:=r1.toList) (R2:=r2.toList) (by rw [q4]) (by rw [q5]);have hr1:r1.size=G * k:=by
     have b1:(i + 1) * k<=(n + 1) * k:=UL _ (by omega);have b2:(n + 1) * k<=G * k:=UL _ q1;have b3:(i + 1) * k=i * k + k:=by rw [UX,MK]
     rw [q4];simp only [UR,Uh,Uc,Uu,Ue,q3,hlk];omega
    have g0:(w.alloc (.cells r0.toArray e)).drew.heap[w.heap.size]? =some (.cells r0.toArray e (0,0)):=heap_alloc_new w _;have g1:((w.alloc (.cells r0.toArray e)).drew.setRow w.heap.size r1).heap[w.heap.size]? =some (.cells r1 e (0,0)):=setRow_heap _ _ r0.toArray _ e (0,0) g0;have g2:((((w.alloc (.cells r0.toArray e)).drew.setRow w.heap.size r1).drew).setRow w.heap.size r2).heap[w.heap.size]? =some (.cells r2 e (0,0)):=setRow_heap _ _ r1 _ e (0,0) g1;have hnp:∀j,¬Pr w.heap.size j:=fun j h=>absurd (hprl _ j h) (MR _)
    have x1:Ext (fun c=>c=w.heap.size) Pr w (w.alloc (.cells r0.toArray e)):=Ext.alloc _ _ _ _;have x2:Ext (fun c=>c=w.heap.size) Pr (w.alloc (.cells r0.toArray e)) (w.alloc (.cells r0.toArray e)).drew:=Ext.drew _ _ _;have x3:Ext (fun c=>c=w.heap.size) Pr (w.alloc (.cells r0.toArray e)).drew ((w.alloc (.cells r0.toArray e)).drew.setRow w.heap.size r1):=Ext.row g0 (by rw [hr1,UR,q3]) hnp;have x4:Ext (fun c=>c=w.heap.size) Pr ((w.alloc (.cells r0.toArray e)).drew.setRow w.heap.size r1) (((w.alloc (.cells r0.toArray e)).drew.setRow w.heap.size r1).drew):=Ext.drew _ _ _;have x5:Ext (fun c=>c=w.heap.size) Pr (((w.alloc (.cells r0.toArray e)).drew.setRow w.heap.size r1).drew) ((((w.alloc (.cells r0.toArray e)).drew.setRow w.heap.size r1).drew).setRow w.heap.size r2):=Ext.row g1 (by rw [hr1,←Ue,s1]) hnp;have t:=fun {w1 w2 w3:World} (a:Ext (fun c=>c=w.heap.size) Pr w1 w2) (b:Ext (fun c=>c=w.heap.size) Pr w2 w3)=>a.trans b (fun _ _ h=>h) (fun _ _ _ h=>h)
    have hx:=t (t (t (t x1 x2) x3) x4) x5;have hx':Ext (fun c=>c∈ [b] ++ ([] ++ ([vb] ++ []))\/owg c≠none) Pr w ((((w.alloc (.cells r0.toArray e)).drew.setRow w.heap.size r1).drew).setRow w.heap.size r2):=
     ⟨hx.os,hx.tape,hx.output,hx.size,fun c hc _=>hx.blk c hc (by omega),hx.cell,hx.shp⟩
    refine Ztw hx' g2 (by rw [←Ue,s1]) q1 q2 (by omega) houtl houtk ?_ hout houts hnp (fun h=>absurd h (MR _)) hprl;rw [s2,c8]
end
end Go.Fx
