/- A statement's row, out of what the evaluator says of its function. -/
import Derived.Test.YtnpgbpkogmniaaaGreatDoorFzZB
set_option linter.all false
namespace Go.Fx
open Go.ChangeShapes Go.WideShapes Go.ChangeAt Go.RowKit
def Zms:Sh->List AV->AV
 | .st _ _,cs=> .agg cs
 | _,cs=>cs.headD Xd
def Zez:List Sh->List AV->Prop
 | [],[]=>True
 |s::ss,a::as=>(∃cs,a=Zms s cs/\VJ s cs)/\Zez ss as
 | _,_=>False
def Zhj (P:Program):List Sh->List TypeId->Bool
 | [],[]=>true
 |s::ss,t::ts=>Qt P s t && Zhj P ss ts
 | _,_=>false
section
variable {P:Program} {H:Type} {enc:TypeId×Value->H} {w:World} {γ:List Nat}
theorem Zhk {c:AV} {v:Value} {cs:List AV} (hv:v.cells= #[v]) (h:Reps w (old w) γ w.heap.size cs v.cells.toList []):Rep w (old w) γ w.heap.size (cs.headD c) v []:=by
 rw [hv] at h;generalize hF:([]:List Nat)=F0 at h;cases h with
 |cons h1 h2 h3=>
  cases h3;rw [UJ] at hF;subst hF;exact h2
theorem ZA9 {s:Sh} {t:TypeId} {v:Value} {d:DataW H} {ps:List MemPlace} {r:Reach} {b:Nat} (hs:Qt P s t=true) (hval:Value.okWide P w r b t v) (hd:DataW.Trod enc P w 0 (fun _=>true) true t v d ps):
  ∃cs,Rep w (old w) γ w.heap.size (Zms s cs) v []/\VJ s cs:=by
 obtain ⟨fuel,hf⟩:=hd;obtain ⟨cs,h1,h2,h3⟩:=Zmr (γ:=γ) s hs hf;refine ⟨cs,?_,h2⟩;cases s with
 |int k=>
  simp only [Qt] at hs;split at hs
  ·rename_i k' hu;obtain ⟨n,rfl⟩:=okWide_int hu hval;exact Zhk rfl h1
  ·cases hs
 |bool=>
  simp only [Qt] at hs;split at hs
  ·rename_i hu;obtain ⟨n,rfl⟩:=okWide_bool hu hval;exact Zhk rfl h1
  ·cases hs
 |str=>
  simp only [Qt] at hs;split at hs
  ·rename_i hu;obtain ⟨n,rfl⟩:=okWide_string hu hval;exact Zhk rfl h1
  ·cases hs
 |sl k s=>
  simp only [Qt] at hs;split at hs
  ·rename_i e hu;obtain ⟨a,len,cap,rfl⟩:=okWide_slice hu hval;exact Zhk rfl h1
  ·cases hs
 |st n fs=>
  simp only [Qt] at hs;split at hs
  ·rename_i fields hu;obtain ⟨vs,rfl,_⟩:=okWide_struct hu hval;exact Zgz (by simpa [Value.cells] using h1)
  ·cases hs
theorem Zrv {r:Reach} {b:Nat}:∀{shs:List Sh} {ts:List TypeId} {vs:List Value} {ds:List (DataW H)} {ps:List MemPlace},Zhj P shs ts=true->DataW.TrodAll enc P w 0 (fun _=>true) true ts vs ds ps->
  (∀(j:Nat) t v,ts[j]? =some t->vs[j]? =some v->Value.okWide P w r b t v)->∃as,RepL w (old w) γ w.heap.size as vs []/\Zez shs as
 | [],[],vs,ds,ps,_,h,_=>by
  obtain ⟨rfl,_⟩:=trodAll_nil h;exact ⟨[], .nil,trivial⟩
 | [],_::_,_,_,_,hs,_,_=>by cases hs
 | _::_,[],_,_,_,hs,_,_=>by cases hs
 |s::ss,t::ts,vs,ds,ps,hs,h,hv=>by
  rw [Zhj,Ub] at hs;obtain ⟨v,vs',d,ds',p,q,rfl,rfl,rfl,h1,h2⟩:=trodAll_cons h;obtain ⟨cs,c1,c2⟩:=ZA9 (γ:=γ) hs.1 (hv 0 t v rfl rfl) h1;obtain ⟨as,a1,a2⟩:=Zrv hs.2 h2 fun j t' v' ht hv'=>hv (j + 1) t' v' (by simpa using ht) (by simpa using hv')
  exact ⟨_::as,RepL.cons (F:= []) (G:= []) c1 a1,⟨cs,rfl,c2⟩,a2⟩
theorem Zrw {w':World} (hl:laidOutB P=true) (hb:Below w.heap.size w w'):∀{ts:List TypeId} {vs:List Value} {ds:List (DataW H)} {ps:List MemPlace},(∀t∈ts,P.readableRec t=true/\t < P.types.size)->DataW.TrodAll enc P w 0 (fun _=>true) true ts vs ds ps->
  (∀x∈ps,x.block < w.heap.size)->∀sp:Nat->Bool,(∀p∈ps,sp p.block=true)->DataW.TrodAll enc P w' 0 sp true ts vs ds ps
 | [],vs,ds,ps,_,h,_,sp,_=>by
  obtain ⟨rfl,rfl,rfl⟩:=trodAll_nil h;exact rfl
 |t::ts,vs,ds,ps,hr,h,hlt,sp,hsp=>by
  obtain ⟨v,vs',d,ds',p,q,rfl,rfl,rfl,h1,h2⟩:=trodAll_cons h;obtain ⟨r1,r2⟩:=hr t (Un ..);exact ⟨p,q,WideElems.Trod_stays hl r1 r2 h1 (fun x hx=>hb.same (hlt x (Uz _ hx))) fun x hx=>hsp x (Uz _ hx),
   Zrw hl hb (fun t ht=>hr t (Ui _ ht)) h2 (fun x hx=>hlt x (UD _ hx)) sp fun x hx=>hsp x (UD _ hx),rfl⟩
def Zrx (s:Sh) (R:RR) (Ok:R.τ->Prop):Prop:=∀cs,VJ s cs->∃x,cs=R.enc x/\Ok x
def Rg (n:Int):Prop:= -9223372036854775808<=n/\n<=9223372036854775807
theorem ZBa:Zrx .str (Zb rS) (fun s:ByteArray=>s.size<=maxLen):=fun cs h=>by
 simp only [VJ] at h;obtain ⟨n,rfl,h1⟩:=h;exact ⟨n,rfl,h1⟩
def ZBb (ss:List Sh) (R:RR) (Ok:R.τ->Prop):Prop:=∀as,Zez ss as->∃x,as=R.enc x/\Ok x
def Zry (s:Sh) (A:RA) (Ok:A.τ->Prop):Prop:=∀cs,VJ s cs->∃x,Zms s cs=A.enc x/\Ok x
theorem ZBc {s:Sh} {A:RA} {Ok:A.τ->Prop} (hs:s.size=1/\∀n fs,s≠ .st n fs) (h:Zrx s (Zb A) Ok):Zry s A Ok:=fun cs hv=>by
 obtain ⟨x,rfl,h1⟩:=h cs hv;refine ⟨x,?_,h1⟩;cases s with
 |st n fs=>exact absurd rfl (hs.2 n fs)
 | _=>rfl
theorem ZBd {s:Sh} {A:RA} {Ok:A.τ->Prop} (h:Zry s A Ok):ZBb [s] (Zb A) Ok:=fun as hv=>by
 cases as with
 |nil=>exact hv.elim
 |cons a as=>
  cases as with
  |cons _ _=>exact hv.2.elim
  |nil=>
   obtain ⟨⟨cs,rfl,h1⟩,_⟩:=hv;obtain ⟨x,h2,h3⟩:=h cs h1;exact ⟨x,by rw [h2];rfl,h3⟩
end
end Go.Fx
