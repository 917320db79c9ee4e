/- From the readings that a statement speaks of to the evaluator's values. -/
import Derived.Test.YthkckbidcpmckaaGreatDoorFzZA
import Derived.ProofKit
set_option linter.all false
namespace Go.Fx
inductive Sh where
 |int (k:IntKind)
 |bool
 |str
 |sl (k:Nat) (s:Sh)
 |st (n:Nat) (fs:List Sh)
def Sh.size:Sh->Nat
 | .st n _=>n
 | _=>1
mutual
def Qw (P:Program):Sh->TypeId->Bool
 | .int k,t=>match P.underlying t with |some (.int k')=>decide (k=k') | _=>false
 | .bool,t=>match P.underlying t with |some .bool=>true | _=>false
 | .str,t=>match P.underlying t with |some .string=>true | _=>false
 | .sl k s,t=>match P.underlying t with |some (.slice e)=>Nat.beq (P.cellsOf e) k && Nat.blt 0 k && Nat.beq s.size k && Qw P s e | _=>false
 | .st n fs,t=>match P.underlying t with |some (.struct fields)=>Nat.beq (P.cellsOf t) n && ZhH P n fs fields.toList 0 | _=>false
def ZhH (P:Program) (n:Nat):List Sh->List Field->Nat->Bool
 | [],[],off=>Nat.beq off n
 |s::ss,f::fs,off=>Nat.beq f.offset off && Nat.beq (P.cellsOf f.type) s.size && Qw P s f.type && ZhH P n ss fs (off + s.size)
 | _,_,_=>false
end
mutual
def XY:Sh->List AV->Prop
 | .int k,cs=>∃n,cs= [.lit (.int k n)]/\k.min<=n/\n<=k.max
 | .bool,cs=>∃b,cs= [Bl b]
 | .str,cs=>∃s:ByteArray,cs= [Sg s]/\s.size<=maxLen
 | .sl k s,cs=>∃xs:List (List AV),cs= [.slc .shr k xs]/\xs.length<=maxLen/\∀x∈xs,XY s x
 | .st _ fs,cs=>ZbG fs cs
def ZbG:List Sh->List AV->Prop
 | [],cs=>cs= []
 |s::ss,cs=>∃a b,cs=a ++ b/\XY s a/\ZbG ss b
end
section
variable {P:Program} {H:Type} {enc:TypeId×Value->H} {w:World} {γ:List Nat}
def old (w:World):Nat->Nat->Prop:=fun b _=>b < w.heap.size
theorem ZsI {α β:Type} {f:α->Option β} {l:List α} {r:List β} (h:l.mapM f=some r) {i:Nat} {x:α} (hx:l[i]? =some x):∃y,r[i]? =some y/\f x=some y:=by
 have:=Fx.mapM_some_get h i;rw [hx] at this;simp only [UG] at this;have hi:i < r.length:=by rw [Fx.mapM_some_length h];exact (List.getElem?_eq_some_iff.1 hx).1
 rw [Ua hi] at this;exact ⟨_,Ua hi,this⟩
theorem ZsJ {k:Nat} {VS:List AV->Prop}:∀(l:List (List Value)),(∀vs∈l,∃cs,Reps w (old w) γ w.heap.size cs vs []/\VS cs/\cs.length=k)->
  ∃xs:List (List AV),xs.length=l.length/\(∀x∈xs,VS x/\x.length=k)/\Reps w (old w) γ w.heap.size xs.flatten l.flatten []
 | [],_=>⟨[],rfl,by simp, .nil⟩
 |vs::l,h=>by
  obtain ⟨cs,h1,h2,h3⟩:=h vs (Uj ..);obtain ⟨xs,h4,h5,h6⟩:=ZsJ l fun v hv=>h v (Ug _ hv)
  refine ⟨cs::xs,by simp [h4],fun x hx=> ?_,h1.append h6⟩;rcases List.mem_cons.1 hx with rfl |hx
  ·exact ⟨h2,h3⟩
  ·exact h5 x hx
theorem ZsK {k:Nat}:∀{l:List (List Value)},(∀x∈l,x.length=k)->∀{j:Nat} {v:Value},l.flatten[j]? =some v->∃i o c,j=i * k + o/\o < k/\l[i]? =some c/\c[o]? =some v
 | [],_,j,v,h=>by simp at h
 |x::l,hx,j,v,h=>by
  have hxl:=hx x (Uj ..);rw [UM] at h;rcases U2 j x.length with hj |hj
  ·rw [UZ hj] at h;exact ⟨0,j,x,by simp,by omega,rfl,h⟩
  ·rw [Mi hj] at h;obtain ⟨i,o,c,e1,e2,e3,e4⟩:=ZsK (fun y hy=>hx y (Ug _ hy)) h;exact ⟨i + 1,o,c,by rw [UX];omega,e2,by simpa using e3,e4⟩
theorem ZC4 {k:IntKind} {t fuel:Nat} {vs:List Value} {d:DataW H} {ps:List MemPlace} (hu:P.underlying t=some (.int k)) (h:DataW.trod enc P w 0 (fun _=>true) true (fuel + 1) t vs=some (d,ps)):
  ∃n,vs= [.int k n]/\k.min<=n/\n<=k.max:=by
 unfold DataW.trod at h;rw [hu] at h;rcases vs with _ | ⟨v,_ | ⟨v2,vs⟩⟩
 ·simp at h
 ·cases v <;> simp at h
  rename_i k' n;obtain ⟨⟨h1,h2⟩,_⟩:=h;subst h1;simp [Lit.wf] at h2;exact ⟨n,rfl,h2.1,h2.2⟩
 ·cases v <;> simp at h
theorem ZC5 {t fuel:Nat} {vs:List Value} {d:DataW H} {ps:List MemPlace} (hu:P.underlying t=some .bool) (h:DataW.trod enc P w 0 (fun _=>true) true (fuel + 1) t vs=some (d,ps)):∃b,vs= [.bool b]:=by
 unfold DataW.trod at h;rw [hu] at h;rcases vs with _ | ⟨v,_ | ⟨v2,vs⟩⟩
 ·simp at h
 ·cases v <;> simp at h
  exact ⟨_,rfl⟩
 ·cases v <;> simp at h
theorem ZC6 {t fuel:Nat} {vs:List Value} {d:DataW H} {ps:List MemPlace} (hu:P.underlying t=some .string) (h:DataW.trod enc P w 0 (fun _=>true) true (fuel + 1) t vs=some (d,ps)):∃s:ByteArray,vs= [.string s]/\s.size<=maxLen:=by
 unfold DataW.trod at h;rw [hu] at h;rcases vs with _ | ⟨v,_ | ⟨v2,vs⟩⟩
 ·simp at h
 ·cases v <;> simp at h
  exact ⟨_,rfl,h.1⟩
 ·cases v <;> simp at h
theorem ZC7 {t e fuel:Nat} {vs:List Value} {d:DataW H} {ps:List MemPlace} (hu:P.underlying t=some (.slice e)) (h:DataW.trod enc P w 0 (fun _=>true) true (fuel + 1) t vs=some (d,ps)):
  vs= [.slice none 0 0]\/∃a len cap,vs= [.slice (some a) len cap]/\len<=cap/\cap<=maxLen/\∀i,i < len->∃us x,w.cells? 0 (a.add (i * P.cellsOf e)) (P.cellsOf e)=some us/\DataW.trod enc P w 0 (fun _=>true) true fuel e us=some x:=by
 unfold DataW.trod at h;rw [hu] at h;rcases vs with _ | ⟨v,_ | ⟨v2,vs⟩⟩
 ·simp at h
 ·cases v <;> try (simp at h;done)
  rename_i A len cap;cases A with
  |none=>
   cases len with
   |zero=>
    cases cap with
    |zero=>exact .inl rfl
    |succ c=>simp at h
   |succ l=>simp at h
  |some a=>
   right;simp only [Mm,FQ] at h;split at h
   ·rename_i hc;refine ⟨a,len,cap,rfl,hc.1,hc.2,fun i hi=> ?_⟩;obtain ⟨elems,he,_⟩:=ZG h;obtain ⟨y,_,hy⟩:=ZsI he (i:=i) (x:=i) (by simp [hi]);obtain ⟨us,hu1,hu2⟩:=ZG hy;exact ⟨us,y,hu1,hu2⟩
   ·cases h
 ·cases v <;> simp at h
theorem ZC8 {t fuel:Nat} {fs:Array Field} {vs:List Value} {d:DataW H} {ps:List MemPlace} (hu:P.underlying t=some (.struct fs)) (h:DataW.trod enc P w 0 (fun _=>true) true (fuel + 1) t vs=some (d,ps)):
  vs.length=P.cellsOf t/\∀(i:Nat) (f:Field),fs.toList[i]? =some f->∃x,DataW.trod enc P w 0 (fun _=>true) true fuel f.type ((vs.drop f.offset).take (P.cellsOf f.type))=some x:=by
 have key:(if vs.length=P.cellsOf t then (fs.toList.mapM fun f=>DataW.trod enc P w 0 (fun _=>true) true fuel f.type ((vs.drop f.offset).take (P.cellsOf f.type))).map fun xs=>(DataW.agg (xs.map (·.1)),xs.flatMap (·.2)) else none)=some (d,ps):=by
  unfold DataW.trod at h;rw [hu] at h;rcases vs with _ | ⟨v,_ | ⟨v2,vs⟩⟩
  ·exact h
  ·cases v <;> exact h
  ·cases v <;> exact h
 split at key
 ·rename_i hl;refine ⟨hl,fun i f hf=> ?_⟩;rw [ME] at key;obtain ⟨xs,h1,_⟩:=key;obtain ⟨y,_,hy⟩:=ZsI h1 hf;exact ⟨y,hy⟩
 ·cases key
theorem ZsL {a:Addr} {n:Nat} {us:List Value} (h:w.cells? 0 a n=some us) (hn:0 < n):a.spot=none/\a.block < w.heap.size/\us.length=n/\∀j v,us[j]? =some v->w.cell? ⟨a.block,a.off + j,none⟩=some v:=by
 obtain ⟨_,h1,h2⟩:=World.cells?_some h;have h0:=h2 0 hn;have hsp:a.spot=none:=by
  cases hs:a.spot with
  |none=>rfl
  |some x=>
   exfalso
   have hu:us[0]? =some us[0]:=Ua (by omega);rw [hu] at h0;have hz:(a.add 0).spot.isSome=true:=by simp [Addr.add,hs]
   unfold World.cell? at h0;split at h0
   ·rw [Ul hz] at h0;cases h0
   ·cases h0
 refine ⟨hsp,?_,h1,fun j v hj=> ?_⟩
 ·have hu:us[0]? =some us[0]:=Ua (by omega);rw [hu,Qt hsp] at h0;unfold World.cell? at h0;split at h0
  ·rename_i hc;exact YL hc
  ·cases h0
 ·have hjl:j < us.length:=(List.getElem?_eq_some_iff.1 hj).1;have:=h2 j (by omega);rw [Qt hsp,hj] at this;exact this
mutual
theorem Znm:∀(s:Sh) {t:TypeId} {fuel:Nat} {vs:List Value} {d:DataW H} {ps:List MemPlace},Qw P s t=true->DataW.trod enc P w 0 (fun _=>true) true fuel t vs=some (d,ps)->
  ∃cs,Reps w (old w) γ w.heap.size cs vs []/\XY s cs/\cs.length=s.size
 |s,t,0,vs,d,ps,_,h=>by simp [DataW.trod] at h
 | .int k,t,fuel + 1,vs,d,ps,hs,h=>by
  simp only [Qw] at hs;split at hs
  ·rename_i k' hu;have hk:k=k':=by simpa using hs
   subst hk;obtain ⟨n,rfl,h1,h2⟩:=ZC4 hu h;exact ⟨[.lit (.int k n)],Reps.cons (F:= []) (G:= []) rfl (.lit rfl) .nil,⟨n,rfl,h1,h2⟩,rfl⟩
  ·cases hs
 | .bool,t,fuel + 1,vs,d,ps,hs,h=>by
  simp only [Qw] at hs;split at hs
  ·rename_i hu;obtain ⟨b,rfl⟩:=ZC5 hu h;exact ⟨[Bl b],Reps.cons (F:= []) (G:= []) rfl (.lit rfl) .nil,⟨b,rfl⟩,rfl⟩
  ·cases hs
 | .str,t,fuel + 1,vs,d,ps,hs,h=>by
  simp only [Qw] at hs;split at hs
  ·rename_i hu;obtain ⟨b,rfl,h1⟩:=ZC6 hu h;exact ⟨[Sg b],Reps.cons (F:= []) (G:= []) rfl (.lit rfl) .nil,⟨b,rfl,h1⟩,rfl⟩
  ·cases hs
 | .sl k s,t,fuel + 1,vs,d,ps,hs,h=>by
  simp only [Qw] at hs;split at hs
  case h_2=>cases hs
  rename_i e hu;simp only [Ub] at hs;obtain ⟨⟨⟨s1,s2⟩,s3⟩,s4⟩:=hs;have hk:=Ud s1;have hk0:=Zah s2;have hsz:=Ud s3;rcases ZC7 hu h with rfl | ⟨a,len,cap,rfl,h1,h2,h3⟩
  ·refine ⟨[.slc .shr k []],Reps.cons (F:= []) (G:= []) rfl (.shr (vs:= []) rfl (Uq _) (Mm _) (by simp) .nil (.inl rfl)) .nil,⟨[],rfl,Mm _,by simp⟩,rfl⟩
  ·-- the elements' cells
   have hex:∀i,i < len->∃us:List Value,w.cells? 0 (a.add (i * k)) k=some us/\∃cs,Reps w (old w) γ w.heap.size cs us []/\XY s cs/\cs.length=s.size:=fun i hi=>by
    obtain ⟨us,x,u1,u2⟩:=h3 i hi;rw [hk] at u1;exact ⟨us,u1,Znm s s4 u2⟩
   have hlist:∃l:List (List Value),l.length=len/\∀i us,l[i]? =some us->w.cells? 0 (a.add (i * k)) k=some us/\∃cs,Reps w (old w) γ w.heap.size cs us []/\XY s cs/\cs.length=k:=by
    have:∀m,m<=len->∃l:List (List Value),l.length=m/\∀i us,l[i]? =some us->w.cells? 0 (a.add (i * k)) k=some us/\∃cs,Reps w (old w) γ w.heap.size cs us []/\XY s cs/\cs.length=k:=by
     intro m
     induction m with
     |zero=>exact fun _=>⟨[],rfl,by simp⟩
     |succ m ih=>
      intro hm;obtain ⟨l,l1,l2⟩:=ih (by omega);obtain ⟨us,u1,cs,c1,c2,c3⟩:=hex m (by omega);refine ⟨l ++ [us],by simp [l1],fun i vs hi=> ?_⟩;rcases U2 i l.length with hlt |hge
      ·rw [UZ hlt] at hi;exact l2 i vs hi
      ·rw [Mi hge] at hi;have h0:i - l.length=0:=by
        rcases MW (i - l.length) with h |h
        ·exact h
        ·rw [UP (by simp;omega)] at hi;cases hi
       rw [h0] at hi;simp at hi;subst hi;have:i=m:=by omega
       subst this;exact ⟨u1,cs,c1,c2,by rw [c3,hsz]⟩
    exact this len (Uq _)
   obtain ⟨l,l1,l2⟩:=hlist;obtain ⟨xs,x1,x2,x3⟩:=ZsJ (VS:=XY s) (k:=k) l (fun us hus=>by
    obtain ⟨i,hi⟩:=List.mem_iff_getElem?.1 hus;exact (l2 i us hi).2)
   have hll:∀us∈l,us.length=k:=fun us hus=>by
    obtain ⟨i,hi⟩:=List.mem_iff_getElem?.1 hus;exact (World.cells?_some (l2 i us hi).1).2.1
   refine ⟨[.slc .shr k xs],Reps.cons (F:= []) (G:= []) rfl (.shr (x1.trans l1) h1 h2 (fun x hx=>(x2 x hx).2) x3.drop ?_) .nil,⟨xs,rfl,by omega,fun x hx=>(x2 x hx).1⟩,rfl⟩;rcases MW len with h0 |hpos
   ·exact .inl h0
   ·right;obtain ⟨us0,hus0⟩:∃us,l[0]? =some us:=⟨_,Ua (by omega)⟩
    obtain ⟨hsp,hbl,_,_⟩:=ZsL (l2 0 us0 hus0).1 hk0;have hsa:a.spot=none:=by simpa [Addr.add] using hsp
    rw [Qt hsa] at hbl;refine ⟨a,rfl,hsa,fun j v hj=> ?_,fun j hj=>hbl,hbl⟩;obtain ⟨i,o,c,e1,e2,e3,e4⟩:=ZsK hll hj;obtain ⟨_,_,_,hc⟩:=ZsL (l2 i c e3).1 hk0;have:=hc o v e4;rw [Qt hsa] at this;simp only at this;rw [e1,←MB];exact this
 | .st n fs,t,fuel + 1,vs,d,ps,hs,h=>by
  simp only [Qw] at hs;split at hs
  case h_2=>cases hs
  rename_i fields hu;rw [Ub] at hs;obtain ⟨h1,h2⟩:=ZC8 hu h;have hn:=Ud hs.1;obtain ⟨cs,c1,c2,c3⟩:=ZsM fs (off:=0) hs.2 (vs:=vs) (by omega) h2;exact ⟨cs,by simpa using c1,c2,by rw [c3];simp [Sh.size]⟩
theorem ZsM:∀(ss:List Sh) {fs:List Field} {n off fuel:Nat} {vs:List Value},ZhH P n ss fs off=true->vs.length=n->
  (∀(i:Nat) (f:Field),fs[i]? =some f->∃x,DataW.trod enc P w 0 (fun _=>true) true fuel f.type ((vs.drop f.offset).take (P.cellsOf f.type))=some x)->
  ∃cs,Reps w (old w) γ w.heap.size cs (vs.drop off) []/\ZbG ss cs/\cs.length=n - off
 | [],[],n,off,fuel,vs,hs,hl,h=>by
  have hoff:=Ud (show Nat.beq off n=true from hs);subst hoff;exact ⟨[],by rw [Me (by omega)];exact .nil,rfl,by simp⟩
 | [],_::_,n,off,fuel,vs,hs,hl,h=>by cases hs
 | _::_,[],n,off,fuel,vs,hs,hl,h=>by cases hs
 |s::ss,f::fs,n,off,fuel,vs,hs,hl,h=>by
  simp only [ZhH,Ub] at hs;obtain ⟨⟨⟨s1,s2⟩,s3⟩,s4⟩:=hs;obtain ⟨⟨d,ps⟩,hx⟩:=h 0 f rfl;have e1:=Ud s1;have e2:=Ud s2;rw [e1,e2] at hx;obtain ⟨cs,c1,c2,c3⟩:=Znm s s3 hx;obtain ⟨cs',d1,d2,d3⟩:=ZsM ss (off:=off + s.size) s4 hl fun i g hg=>h (i + 1) g (by simpa using hg)
  have hlen:=c1.length_eq;rw [Uc,Uu,c3] at hlen;refine ⟨cs ++ cs',?_,⟨cs,cs',rfl,c2,d2⟩,by rw [Uh,c3,d3];omega⟩;have:=c1.append d1;rw [←MD,Up] at this;exact this
end
end
end Go.Fx
