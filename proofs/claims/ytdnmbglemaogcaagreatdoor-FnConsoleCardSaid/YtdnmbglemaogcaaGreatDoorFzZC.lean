/- A statement's row, out of what the evaluator says of its function. -/
import Derived.Test.YtdnmbglemaogcaaGreatDoorFzZB
set_option linter.all false
namespace Go.Fx
open Go.ChangeShapes Go.WideShapes Go.ChangeAt Go.RowKit
def ZlJ:Sh->List AV->AV
 | .st _ _,cs=> .agg cs
 | _,cs=>cs.headD Y5
def Zef:List Sh->List AV->Prop
 | [],[]=>True
 |s::ss,a::as=>(∃cs,a=ZlJ s cs/\Qx s cs)/\Zef ss as
 | _,_=>False
def ZgI (P:Program):List Sh->List TypeId->Bool
 | [],[]=>true
 |s::ss,t::ts=>Qf P s t && ZgI P ss ts
 | _,_=>false
section
variable {P:Program} {H:Type} {enc:TypeId×Value->H} {w:World} {γ:List Nat}
theorem ZgJ {c:AV} {v:Value} {cs:List AV} (hv:v.cells= #[v]) (h:Reps w (old w) γ w.heap.size cs v.cells.toList []):Rep w (old w) γ w.heap.size (cs.headD c) v []:=by
 rw [hv] at h;generalize hF:([]:List Nat)=F0 at h;cases h with
 |cons h1 h2 h3=>
  cases h3;rw [UO] at hF;subst hF;exact h2
theorem ZzE {s:Sh} {t:TypeId} {v:Value} {d:DataW H} {ps:List MemPlace} {r:Reach} {b:Nat} (hs:Qf P s t=true) (hval:Value.okWide P w r b t v) (hd:DataW.Trod enc P w 0 (fun _=>true) true t v d ps):
  ∃cs,Rep w (old w) γ w.heap.size (ZlJ s cs) v []/\Qx s cs:=by
 obtain ⟨fuel,hf⟩:=hd;obtain ⟨cs,h1,h2,h3⟩:=ZlI (γ:=γ) s hs hf;refine ⟨cs,?_,h2⟩;cases s with
 |int k=>
  simp only [Qf] at hs;split at hs
  ·rename_i k' hu;obtain ⟨n,rfl⟩:=okWide_int hu hval;exact ZgJ rfl h1
  ·cases hs
 |bool=>
  simp only [Qf] at hs;split at hs
  ·rename_i hu;obtain ⟨n,rfl⟩:=okWide_bool hu hval;exact ZgJ rfl h1
  ·cases hs
 |str=>
  simp only [Qf] at hs;split at hs
  ·rename_i hu;obtain ⟨n,rfl⟩:=okWide_string hu hval;exact ZgJ rfl h1
  ·cases hs
 |sl k s=>
  simp only [Qf] at hs;split at hs
  ·rename_i e hu;obtain ⟨a,len,cap,rfl⟩:=okWide_slice hu hval;exact ZgJ rfl h1
  ·cases hs
 |st n fs=>
  simp only [Qf] at hs;split at hs
  ·rename_i fields hu;obtain ⟨vs,rfl,_⟩:=okWide_struct hu hval;exact ZfZ (by simpa [Value.cells] using h1)
  ·cases hs
theorem ZqG {r:Reach} {b:Nat}:∀{shs:List Sh} {ts:List TypeId} {vs:List Value} {ds:List (DataW H)} {ps:List MemPlace},ZgI P shs ts=true->DataW.TrodAll enc P w 0 (fun _=>true) true ts vs ds ps->
  (∀(j:Nat) t v,ts[j]? =some t->vs[j]? =some v->Value.okWide P w r b t v)->∃as,RepL w (old w) γ w.heap.size as vs []/\Zef shs as
 | [],[],vs,ds,ps,_,h,_=>by
  obtain ⟨rfl,_⟩:=trodAll_nil h;exact ⟨[], .nil,trivial⟩
 | [],_::_,_,_,_,hs,_,_=>by cases hs
 | _::_,[],_,_,_,hs,_,_=>by cases hs
 |s::ss,t::ts,vs,ds,ps,hs,h,hv=>by
  rw [ZgI,Ua] at hs;obtain ⟨v,vs',d,ds',p,q,rfl,rfl,rfl,h1,h2⟩:=trodAll_cons h;obtain ⟨cs,c1,c2⟩:=ZzE (γ:=γ) hs.1 (hv 0 t v rfl rfl) h1;obtain ⟨as,a1,a2⟩:=ZqG hs.2 h2 fun j t' v' ht hv'=>hv (j + 1) t' v' (by simpa using ht) (by simpa using hv')
  exact ⟨_::as,RepL.cons (F:= []) (G:= []) c1 a1,⟨cs,rfl,c2⟩,a2⟩
theorem ZqH {w':World} (hl:laidOutB P=true) (hb:Below w.heap.size w w'):∀{ts:List TypeId} {vs:List Value} {ds:List (DataW H)} {ps:List MemPlace},(∀t∈ts,P.readableRec t=true/\t < P.types.size)->DataW.TrodAll enc P w 0 (fun _=>true) true ts vs ds ps->
  (∀x∈ps,x.block < w.heap.size)->∀sp:Nat->Bool,(∀p∈ps,sp p.block=true)->DataW.TrodAll enc P w' 0 sp true ts vs ds ps
 | [],vs,ds,ps,_,h,_,sp,_=>by
  obtain ⟨rfl,rfl,rfl⟩:=trodAll_nil h;exact rfl
 |t::ts,vs,ds,ps,hr,h,hlt,sp,hsp=>by
  obtain ⟨v,vs',d,ds',p,q,rfl,rfl,rfl,h1,h2⟩:=trodAll_cons h;obtain ⟨r1,r2⟩:=hr t (Ug ..);exact ⟨p,q,WideElems.Trod_stays hl r1 r2 h1 (fun x hx=>hb.same (hlt x (Uw _ hx))) fun x hx=>hsp x (Uw _ hx),
   ZqH hl hb (fun t ht=>hr t (Uf _ ht)) h2 (fun x hx=>hlt x (UD _ hx)) sp fun x hx=>hsp x (UD _ hx),rfl⟩
def Zeg (s:Sh) (R:RR) (Ok:R.τ->Prop):Prop:=∀cs,Qx s cs->∃x,cs=R.enc x/\Ok x
def Rg (n:Int):Prop:= -9223372036854775808<=n/\n<=9223372036854775807
theorem ZzF:Zeg (.int .u8) (Zb rY) (fun n:Int=>0<=n/\n<=255):=fun cs h=>by
 simp only [Qx] at h;obtain ⟨n,rfl,h1,h2⟩:=h;exact ⟨n,rfl,h1,h2⟩
theorem ZqI {s:Sh} {R:RR} {Ok:R.τ->Prop} (h:Zeg s R Ok):∀(xs:List (List AV)),(∀x∈xs,Qx s x)->∃l:List R.τ,xs=l.map R.enc/\∀y∈l,Ok y
 | [],_=>⟨[],rfl,by simp⟩
 |x::xs,hx=>by
  obtain ⟨y,rfl,h1⟩:=h x (hx x (Ug ..));obtain ⟨l,rfl,h2⟩:=ZqI h xs fun z hz=>hx z (Uf _ hz)
  exact ⟨y::l,rfl,fun z hz=>(FH.1 hz).elim (fun e=>e ▸ h1) (h2 z)⟩
theorem ZzG {s:Sh} {R:RR} {Ok:R.τ->Prop} (k:Nat) (h:Zeg s R Ok):Zeg (.sl k s) (Zb (rSl k R)) (fun l:List R.τ=>l.length<=maxLen/\∀y∈l,Ok y):=fun cs hv=>by
 simp only [Qx] at hv;obtain ⟨xs,rfl,h1,h2⟩:=hv;obtain ⟨l,rfl,h3⟩:=ZqI h xs h2;exact ⟨l,rfl,by simpa using h1,h3⟩
def ZzH (ss:List Sh) (R:RR) (Ok:R.τ->Prop):Prop:=∀as,Zef ss as->∃x,as=R.enc x/\Ok x
def ZqJ (s:Sh) (A:RA) (Ok:A.τ->Prop):Prop:=∀cs,Qx s cs->∃x,ZlJ s cs=A.enc x/\Ok x
theorem ZzI {s:Sh} {A:RA} {Ok:A.τ->Prop} (hs:s.size=1/\∀n fs,s≠ .st n fs) (h:Zeg s (Zb A) Ok):ZqJ s A Ok:=fun cs hv=>by
 obtain ⟨x,rfl,h1⟩:=h cs hv;refine ⟨x,?_,h1⟩;cases s with
 |st n fs=>exact absurd rfl (hs.2 n fs)
 | _=>rfl
theorem ZzJ {s:Sh} {A:RA} {Ok:A.τ->Prop} (h:ZqJ s A Ok):ZzH [s] (Zb A) Ok:=fun as hv=>by
 cases as with
 |nil=>exact hv.elim
 |cons a as=>
  cases as with
  |cons _ _=>exact hv.2.elim
  |nil=>
   obtain ⟨⟨cs,rfl,h1⟩,_⟩:=hv;obtain ⟨x,h2,h3⟩:=h cs h1;exact ⟨x,by rw [h2];rfl,h3⟩
end
end Go.Fx
