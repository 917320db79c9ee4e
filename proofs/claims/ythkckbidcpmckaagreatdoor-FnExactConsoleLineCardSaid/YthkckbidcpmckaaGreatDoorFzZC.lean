/- A statement's row, out of what the evaluator says of its function. -/
import Derived.Test.YthkckbidcpmckaaGreatDoorFzZB
set_option linter.all false
namespace Go.Fx
open Go.ChangeShapes Go.WideShapes Go.ChangeAt Go.RowKit
def Znn:Sh->List AV->AV
 | .st _ _,cs=> .agg cs
 | _,cs=>cs.headD Xh
def ZeK:List Sh->List AV->Prop
 | [],[]=>True
 |s::ss,a::as=>(∃cs,a=Znn s cs/\XY s cs)/\ZeK ss as
 | _,_=>False
def ZhI (P:Program):List Sh->List TypeId->Bool
 | [],[]=>true
 |s::ss,t::ts=>Qw P s t && ZhI P ss ts
 | _,_=>false
section
variable {P:Program} {H:Type} {enc:TypeId×Value->H} {w:World} {γ:List Nat}
theorem ZhJ {c:AV} {v:Value} {cs:List AV} (hv:v.cells= #[v]) (h:Reps w (old w) γ w.heap.size cs v.cells.toList []):Rep w (old w) γ w.heap.size (cs.headD c) v []:=by
 rw [hv] at h;generalize hF:([]:List Nat)=F0 at h;cases h with
 |cons h1 h2 h3=>
  cases h3;rw [UK] at hF;subst hF;exact h2
theorem ZC9 {s:Sh} {t:TypeId} {v:Value} {d:DataW H} {ps:List MemPlace} {r:Reach} {b:Nat} (hs:Qw P s t=true) (hval:Value.okWide P w r b t v) (hd:DataW.Trod enc P w 0 (fun _=>true) true t v d ps):
  ∃cs,Rep w (old w) γ w.heap.size (Znn s cs) v []/\XY s cs:=by
 obtain ⟨fuel,hf⟩:=hd;obtain ⟨cs,h1,h2,h3⟩:=Znm (γ:=γ) s hs hf;refine ⟨cs,?_,h2⟩;cases s with
 |int k=>
  simp only [Qw] at hs;split at hs
  ·rename_i k' hu;obtain ⟨n,rfl⟩:=okWide_int hu hval;exact ZhJ rfl h1
  ·cases hs
 |bool=>
  simp only [Qw] at hs;split at hs
  ·rename_i hu;obtain ⟨n,rfl⟩:=okWide_bool hu hval;exact ZhJ rfl h1
  ·cases hs
 |str=>
  simp only [Qw] at hs;split at hs
  ·rename_i hu;obtain ⟨n,rfl⟩:=okWide_string hu hval;exact ZhJ rfl h1
  ·cases hs
 |sl k s=>
  simp only [Qw] at hs;split at hs
  ·rename_i e hu;obtain ⟨a,len,cap,rfl⟩:=okWide_slice hu hval;exact ZhJ rfl h1
  ·cases hs
 |st n fs=>
  simp only [Qw] at hs;split at hs
  ·rename_i fields hu;obtain ⟨vs,rfl,_⟩:=okWide_struct hu hval;exact ZgX (by simpa [Value.cells] using h1)
  ·cases hs
theorem ZsN {r:Reach} {b:Nat}:∀{shs:List Sh} {ts:List TypeId} {vs:List Value} {ds:List (DataW H)} {ps:List MemPlace},ZhI P shs ts=true->DataW.TrodAll enc P w 0 (fun _=>true) true ts vs ds ps->
  (∀(j:Nat) t v,ts[j]? =some t->vs[j]? =some v->Value.okWide P w r b t v)->∃as,RepL w (old w) γ w.heap.size as vs []/\ZeK shs as
 | [],[],vs,ds,ps,_,h,_=>by
  obtain ⟨rfl,_⟩:=trodAll_nil h;exact ⟨[], .nil,trivial⟩
 | [],_::_,_,_,_,hs,_,_=>by cases hs
 | _::_,[],_,_,_,hs,_,_=>by cases hs
 |s::ss,t::ts,vs,ds,ps,hs,h,hv=>by
  rw [ZhI,Ub] at hs;obtain ⟨v,vs',d,ds',p,q,rfl,rfl,rfl,h1,h2⟩:=trodAll_cons h;obtain ⟨cs,c1,c2⟩:=ZC9 (γ:=γ) hs.1 (hv 0 t v rfl rfl) h1;obtain ⟨as,a1,a2⟩:=ZsN hs.2 h2 fun j t' v' ht hv'=>hv (j + 1) t' v' (by simpa using ht) (by simpa using hv')
  exact ⟨_::as,RepL.cons (F:= []) (G:= []) c1 a1,⟨cs,rfl,c2⟩,a2⟩
theorem ZsO {w':World} (hl:laidOutB P=true) (hb:Below w.heap.size w w'):∀{ts:List TypeId} {vs:List Value} {ds:List (DataW H)} {ps:List MemPlace},(∀t∈ts,P.readableRec t=true/\t < P.types.size)->DataW.TrodAll enc P w 0 (fun _=>true) true ts vs ds ps->
  (∀x∈ps,x.block < w.heap.size)->∀sp:Nat->Bool,(∀p∈ps,sp p.block=true)->DataW.TrodAll enc P w' 0 sp true ts vs ds ps
 | [],vs,ds,ps,_,h,_,sp,_=>by
  obtain ⟨rfl,rfl,rfl⟩:=trodAll_nil h;exact rfl
 |t::ts,vs,ds,ps,hr,h,hlt,sp,hsp=>by
  obtain ⟨v,vs',d,ds',p,q,rfl,rfl,rfl,h1,h2⟩:=trodAll_cons h;obtain ⟨r1,r2⟩:=hr t (Uj ..);exact ⟨p,q,WideElems.Trod_stays hl r1 r2 h1 (fun x hx=>hb.same (hlt x (Uz _ hx))) fun x hx=>hsp x (Uz _ hx),
   ZsO hl hb (fun t ht=>hr t (Ug _ ht)) h2 (fun x hx=>hlt x (UD _ hx)) sp fun x hx=>hsp x (UD _ hx),rfl⟩
def Xa (s:Sh) (R:RR) (Ok:R.τ->Prop):Prop:=∀cs,XY s cs->∃x,cs=R.enc x/\Ok x
def Zc2 (ss:List Sh) (R:RR) (Ok:R.τ->Prop):Prop:=∀cs,ZbG ss cs->∃x,cs=R.enc x/\Ok x
def Rg (n:Int):Prop:= -9223372036854775808<=n/\n<=9223372036854775807
theorem Xr:Xa (.int .i64) (Zg rI) Rg:=fun cs h=>by
 simp only [XY] at h;obtain ⟨n,rfl,h1,h2⟩:=h;exact ⟨n,rfl,h1,h2⟩
theorem ZsP:Xa .bool (Zg rB) (fun _=>True):=fun cs h=>by
 simp only [XY] at h;obtain ⟨n,rfl⟩:=h;exact ⟨n,rfl,trivial⟩
theorem ZDa:Xa .str (Zg rS) (fun s:ByteArray=>s.size<=maxLen):=fun cs h=>by
 simp only [XY] at h;obtain ⟨n,rfl,h1⟩:=h;exact ⟨n,rfl,h1⟩
theorem ZsQ {s:Sh} {R:RR} {Ok:R.τ->Prop} (h:Xa s R Ok):∀(xs:List (List AV)),(∀x∈xs,XY s x)->∃l:List R.τ,xs=l.map R.enc/\∀y∈l,Ok y
 | [],_=>⟨[],rfl,by simp⟩
 |x::xs,hx=>by
  obtain ⟨y,rfl,h1⟩:=h x (hx x (Uj ..));obtain ⟨l,rfl,h2⟩:=ZsQ h xs fun z hz=>hx z (Ug _ hz)
  exact ⟨y::l,rfl,fun z hz=>(List.mem_cons.1 hz).elim (fun e=>e ▸ h1) (h2 z)⟩
theorem ZbH {s:Sh} {R:RR} {Ok:R.τ->Prop} (k:Nat) (h:Xa s R Ok):Xa (.sl k s) (Zg (rSl k R)) (fun l:List R.τ=>l.length<=maxLen/\∀y∈l,Ok y):=fun cs hv=>by
 simp only [XY] at hv;obtain ⟨xs,rfl,h1,h2⟩:=hv;obtain ⟨l,rfl,h3⟩:=ZsQ h xs h2;exact ⟨l,rfl,by simpa using h1,h3⟩
theorem ZbI {n:Nat} {ss:List Sh} {R:RR} {Ok:R.τ->Prop} (h:Zc2 ss R Ok):Xa (.st n ss) R Ok:=fun cs hv=>by
 simp only [XY] at hv;exact h cs hv
theorem ZbJ {s:Sh} {R:RR} {Ok:R.τ->Prop} (h:Xa s R Ok):Zc2 [s] R Ok:=fun cs hv=>by
 simp only [ZbG] at hv;obtain ⟨a,b,rfl,h1,rfl⟩:=hv;rw [UK];exact h a h1
theorem XC {s:Sh} {ss:List Sh} {A:RA} {R:RR} {Oa:A.τ->Prop} {Or:R.τ->Prop} (h:Xa s (Zg A) Oa) (h':Zc2 ss R Or):Zc2 (s::ss) (rCo A R) (fun x:A.τ×R.τ=>Oa x.1/\Or x.2):=fun cs hv=>by
 simp only [ZbG] at hv;obtain ⟨a,b,rfl,h1,h2⟩:=hv;obtain ⟨x,rfl,o1⟩:=h a h1;obtain ⟨y,rfl,o2⟩:=h' b h2;exact ⟨(x,y),rfl,o1,o2⟩
theorem ZsR {s:Sh} {ss:List Sh} {n:Nat} {Q R:RR} {Oa:Q.τ->Prop} {Or:R.τ->Prop} (h:Xa s Q Oa) (h':Zc2 ss R Or):Zc2 (s::ss) (rAp n Q R) (fun x:Q.τ×R.τ=>Oa x.1/\Or x.2):=fun cs hv=>by
 simp only [ZbG] at hv;obtain ⟨a,b,rfl,h1,h2⟩:=hv;obtain ⟨x,rfl,o1⟩:=h a h1;obtain ⟨y,rfl,o2⟩:=h' b h2;exact ⟨(x,y),rfl,o1,o2⟩
theorem ZbK {s:Sh} {R:RR} {Ok:R.τ->Prop} {σ:Type} {f:R.τ->σ} {g:σ->R.τ} {hg:∀x,g (f x)=x} {Ok':σ->Prop} (h:Xa s R Ok) (ho:∀x,Ok x->Ok' (f x)):Xa s (R.map f g hg) Ok':=fun cs hv=>by
 obtain ⟨x,rfl,h1⟩:=h cs hv;exact ⟨f x,by show _=R.enc (g (f x));rw [hg],ho x h1⟩
def Zno (ss:List Sh) (R:RR) (Ok:R.τ->Prop):Prop:=∀as,ZeK ss as->∃x,as=R.enc x/\Ok x
def ZhK (s:Sh) (A:RA) (Ok:A.τ->Prop):Prop:=∀cs,XY s cs->∃x,Znn s cs=A.enc x/\Ok x
theorem ZDb {n:Nat} {ss:List Sh} {R:RR} {Ok:R.τ->Prop} (h:Xa (.st n ss) R Ok):ZhK (.st n ss) (rAg R) Ok:=fun cs hv=>by
 obtain ⟨x,rfl,h1⟩:=h cs hv;exact ⟨x,rfl,h1⟩
theorem ZDc {s:Sh} {A:RA} {Ok:A.τ->Prop} (hs:s.size=1/\∀n fs,s≠ .st n fs) (h:Xa s (Zg A) Ok):ZhK s A Ok:=fun cs hv=>by
 obtain ⟨x,rfl,h1⟩:=h cs hv;refine ⟨x,?_,h1⟩;cases s with
 |st n fs=>exact absurd rfl (hs.2 n fs)
 | _=>rfl
theorem ZDd {s:Sh} {A:RA} {Ok:A.τ->Prop} (h:ZhK s A Ok):Zno [s] (Zg A) Ok:=fun as hv=>by
 cases as with
 |nil=>exact hv.elim
 |cons a as=>
  cases as with
  |cons _ _=>exact hv.2.elim
  |nil=>
   obtain ⟨⟨cs,rfl,h1⟩,_⟩:=hv;obtain ⟨x,h2,h3⟩:=h cs h1;exact ⟨x,by rw [h2];rfl,h3⟩
theorem ZDe {s:Sh} {ss:List Sh} {A:RA} {R:RR} {Oa:A.τ->Prop} {Or:R.τ->Prop} (h:ZhK s A Oa) (h':Zno ss R Or):Zno (s::ss) (rCo A R) (fun x:A.τ×R.τ=>Oa x.1/\Or x.2):=fun as hv=>by
 cases as with
 |nil=>exact hv.elim
 |cons a as=>
  obtain ⟨⟨cs,rfl,h1⟩,h2⟩:=hv;obtain ⟨x,e1,o1⟩:=h cs h1;obtain ⟨y,rfl,o2⟩:=h' as h2;exact ⟨(x,y),by rw [e1];rfl,o1,o2⟩
end
end Go.Fx
