/- Calls that change what they are handed. -/
import Derived.Test.YthkckbidcpmckaaGreatDoorFzT2
set_option linter.all false
namespace Go.Fx
def Zhp (P:Program) (ng:Nat) (G0:Nat->Option Obj) (f:Nat) (args:List AV) (res:AV):Prop:=
 ∀(w:World) (Pr:Nat->Nat->Prop) (vs:List Value) (F:List Nat),
  RepL w Pr [] w.heap.size args vs F->F.Nodup->(∀b i,Pr b i->b < w.heap.size)->(∀b∈F,b < w.heap.size)->ng<=w.heap.size->(∀b,b < ng->w.heap[b]? =G0 b)->(∀b∈F,ng<=b)->
  (callFunc f vs.toArray).run P w= .ok (.enter f vs.toArray) w/\Calls P f vs.toArray w (ZeF fun v w'=>CallPost (fun b=>b∈F) w Pr [] res [] (.tuple #[v,vs.headD undef]) w')
def Zhq (P:Program) (ng:Nat) (G0:Nat->Option Obj) (f:Nat) (en:Entry):Prop:=
 ∀x r,en.S x=some r->(en.ps.enc x).2= []->(en.rs.enc r).2= []->Zhp P ng G0 f (en.ps.enc x).1 (en.rs.enc r).1
def Qv (P:Program) (ng:Nat) (G0:Nat->Option Obj) (C:Nat->Nat->Option Entry):Prop:=∀f v en,C f v=some en->Zhq P ng G0 f en
section
variable {P:Program} {GE:Glob} {nt:Nat} {T:Nat->TD} {β:Type} {K:SV->St->Option β} {r:β} {o:Oper} {s:St}
variable {D:Nat->Prop} {Pr0:Nat->Nat->Prop} {w0:World} {tm:Nat->Value} {w w':World} {ow:Nat->Option Lab} {Pr:Nat->Nat->Prop} {B:Nat->Nat} {γ:List Nat}
theorem Inv.giveObj {key:Nat} {ob:LObj} {rows:List (List AV)} {cur:Array Value} {e:TypeId} {F:List Nat}
  (h:Inv GE D Pr0 w0 s tm w ow Pr B γ) (hk:s.L key=some ob) (hne0:ob.rows≠ []) (hw:w.heap[B key]? =some (.cells cur e (0,0))) (hr:Reps w Pr γ w0.heap.size rows.flatten (cur.toList.take rows.flatten.length) F) (hn:F.Nodup)
  (hF:∀b∈F,ow b=some (.o key)\/ow b=some .pd) (hl:rows.length=ob.rows.length) (hrk:∀r∈rows,r.length=ob.k):
  Inv GE D Pr0 w0 {s with L:=upd s.L key (some {ob with rows:=rows})} tm w (Yr ow F (.o key)) Pr B γ:=by
 obtain ⟨⟨⟨cur0,e0,m1,mz,_,m2⟩,m3⟩,m4,m5⟩:=h.memObj hk hne0;rw [hw] at m1;cases m1;have hlab:∀{b:Nat} {l':Lab},ow b=some l'->l'≠ .pd->Yr ow F (.o key) b=some l':=fun h2 h1=>ZmI hF h1 h2
 refine ⟨h.ext,h.oldp,h.inc,fun t=> ?_,fun key' ob' hk'=> ?_,fun id r hr=> ?_,h.glen,h.prl,fun b l hb=> ?_,fun b l hb=> ?_,h.ngs,h.gl,fun b l hb=> ?_,h.gpre⟩
 ·have hst:=h.slot t;show Slot _ _ _ _ _ _ _ _ (s.env t) _;cases hen:s.env t with
  |no=>exact trivial
  |val c=>
   rw [hen] at hst;obtain ⟨G,g1,g2,g3⟩:=hst;exact ⟨G,g1,g2,fun b hb=>hlab (g3 b hb) (by simp)⟩
  |lp key' i off=>
   rw [hen] at hst;obtain ⟨o1,e1,e2⟩:=hst;by_cases hkk:key'=key
   ·subst hkk;rw [hk] at e1;cases e1;exact ⟨_,ZE _ _ _,e2⟩
   ·exact ⟨o1,(ZA _ _ hkk).trans e1,e2⟩
  |la key'=>
   rw [hen] at hst;obtain ⟨o1,A,cap,e1,e2,e3⟩:=hst;by_cases hkk:key'=key
   ·subst hkk;rw [hk] at e1;cases e1;exact ⟨_,A,cap,ZE _ _ _,by rw [hl];exact e2,by rw [hl];exact e3⟩
   ·exact ⟨o1,A,cap,(ZA _ _ hkk).trans e1,e2,e3⟩
  |lv key' i off ag=>
   rw [hen] at hst;obtain ⟨o1,cu,ty,e1,e2,e3,e4⟩:=hst;by_cases hkk:key'=key
   ·subst hkk;rw [hk] at e1;cases e1;exact ⟨_,cu,ty,ZE _ _ _,e2,hlab e3 (by simp),e4⟩
   ·exact ⟨o1,cu,ty,(ZA _ _ hkk).trans e1,e2,hlab e3 (by simp),e4⟩
 ·by_cases hkk:key'=key
  ·subst hkk;have hk2:upd s.L key' (some {ob with rows:=rows}) key'=some ob':=hk';rw [ZE] at hk2;cases hk2;have hfl:rows.flatten.length=ob.rows.flatten.length:=by rw [Yb hrk,Yb m4,hl]
   exact ⟨.inr ⟨⟨cur,e,hw,by rw [hfl];exact mz,⟨F,hr,hn,fun b hb=>Ul hb⟩,fun i=>by rw [hfl];exact m2 i⟩,hlab m3 (by simp)⟩,hrk,by rw [hl];exact m5⟩
  ·have hk2:s.L key'=some ob':=(ZA s.L _ hkk).symm.trans hk';obtain ⟨hmm,m4⟩:=h.obj key' ob' hk2;refine ⟨hmm.imp (fun x=>x) fun hmm=> ?_,m4⟩;obtain ⟨⟨cur',e',m1,mz,⟨G,g1,g2,g3⟩,m2⟩,m3⟩:=hmm;exact ⟨⟨cur',e',m1,mz,⟨G,g1,g2,fun b hb=>hlab (g3 b hb) (by simp)⟩,m2⟩,hlab m3 (by simp)⟩
 ·obtain ⟨b,hb,⟨⟨cur',e',m1,mz,⟨G,g1,g2,g3⟩,m2⟩,m3⟩⟩:=h.gob id r hr;exact ⟨b,hb,⟨⟨cur',e',m1,mz,⟨G,g1,g2,fun b hb=>hlab (g3 b hb) (by simp)⟩,m2⟩,hlab m3 (by simp)⟩⟩
 ·obtain ⟨l2,h2⟩:=Kt hF hb;exact h.owl b l2 h2
 ·obtain ⟨l2,h2⟩:=Kt hF hb;exact h.owD b l2 h2
 ·obtain ⟨l2,h2⟩:=Kt hF hb;exact h.ngo b l2 h2
theorem Inv.changed {key n:Nat} {ob:LObj} {rows:List (List AV)} {F:List Nat} {u:Value} {v:Value}
  (h:Inv GE D Pr0 w0 s tm w ow Pr B γ) (hnl:∀t i off ag,s.env t≠ .lv key i off ag) (hk:s.L key=some ob) (hz:ob.frz=false) (hn:s.env n= .la key)
  (hF:∀b∈F,ow b=some (.o key)\/ow b=some (.bk key)) (hp:CallPost (fun b=>b∈F) w Pr [] (.tup [.lit u, .slc .unq ob.k rows]) [] (.tuple #[v,tm n]) w'):
  v=u/\Yi u=true/\∃Pr' ow',Inv GE D Pr0 w0 {s with L:=upd s.L key (some {ob with rows:=rows})} tm w' ow' Pr' B γ:=by
 obtain ⟨ow1,Pr',γ',H,h1,h2,h3,h4,h5,h6,_,h8,_,h10,h11,h12⟩:=hp;have hg:γ'= []:=Us (by simpa using h8);subst hg;generalize hvv:Value.tuple #[v,tm n]=vv at h4;cases h4 with
 | @tup _ us _ h4=>
 cases h4 with
 | @cons _ v1 Fa _ us1 Ga ra h4=>
 cases h4 with
 | @cons _ v2 H2 _ us2 Gb rb h4=>
 cases h4;have hvv2: #[v,tm n]= [v1,v2].toArray:=by injection hvv
 have hv1:v=v1:=by
  have:=UC (fun a:Array Value=>a[0]?) hvv2;simpa using this
 have hv2:tm n=v2:=by
  have:=UC (fun a:Array Value=>a[1]?) hvv2;simpa using this
 subst hv1;subst hv2;obtain ⟨rfl,hsc,rfl⟩:=ZbA ra;rw [U9,UK] at h5 h6;refine ⟨rfl,hsc,Pr',?_⟩;have hs:=h.slot n;rw [hn] at hs;obtain ⟨ob',A,cap,e1,e2,e3⟩:=hs;rw [hk] at e1;cases e1;have hDD:∀b,b∈F->∃l,ow b=some l:=fun b hb=>(hF b hb).elim (fun h=>⟨_,h⟩) (fun h=>⟨_,h⟩)
 have hnD:∀b l,ow b=some l->l≠ .o key->l≠ .bk key->b∉F:=fun b l hb hl1 hl2 hm=>by
  rcases hF b hm with h |h
  ·rw [h] at hb;exact hl1 (Un hb).symm
  ·rw [h] at hb;exact hl2 (Un hb).symm
 obtain ⟨H3,hH3,hb3,hblk⟩:∃H3,(∀b∈H3,b∈H2)/\(∀b∈H3,b≠B key)/\((rows= []/\ob.rows= [])\/(rows≠ []/\∃cur e,w'.heap[B key]? =some (.cells cur e (0,0))/\rows.flatten.length<=cur.size/\Reps w' Pr' [] w.heap.size rows.flatten (cur.toList.take rows.flatten.length) H3/\H3.Nodup/\∀i,¬Pr' (B key) i))/\
   rows.length=ob.rows.length/\∀r∈rows,r.length=ob.k:=by
  generalize hv:tm n=vn at rb e2;cases rb with
  |unil=>
   have:ob.rows.length=0:=by injection e2 with _ h2 _;exact h2.symm
   exact ⟨[],by simp,by simp, .inl ⟨rfl,Us this⟩,by rw [this];rfl,by simp⟩
  | @unq _ b n' cap' e cur _ vs F1 q1 q2 q0 q3 q4 q5 q6 q7 q8 q9=>
   injection e2 with a1 a2 a3;subst a1;rcases e3 with e3 |e3
   ·omega
   ·have hbk:b=B key:=by
     have:=e3.1;injection this with this;injection this
    subst hbk;have hfl:rows.flatten.length=n' * ob.k:=by rw [Yb q6,q5]
    refine ⟨F1,fun b hb=>Ug _ hb,fun b hb e=>(List.nodup_cons.1 h5).1 (e ▸ hb), .inr ⟨?_,cur,e,q1,?_,?_,(List.nodup_cons.1 h5).2,q9⟩,q5.trans a2,q6⟩
    ·intro h0;rw [h0] at q5;simp at q5;omega
    ·rw [hfl,q2];exact UL _ q3
    ·rw [hfl,q7];exact q8
 obtain ⟨hblk,hrl,hrk⟩:=hblk;have hH3F:∀b∈H3,b < w.heap.size->b∈F:=fun b hb hlt=>h12 b _ (h6 b (hH3 b hb)) hlt
 have hkeep:∀b l,ow b=some l->l≠ .o key->l≠ .bk key->(if b∈H3 then some (.o key) else ow b)=some l:=fun b l hb hl1 hl2=>by
  rw [Uf fun hm=>hnD b l hb hl1 hl2 (hH3F b hm (h.owl b l hb))];exact hb
 have hget:∀b l,(if b∈H3 then some (Lab.o key) else ow b)=some l->(b∈H3/\¬b < w.heap.size)\/∃l',ow b=some l':=fun b l hb=>by
  split at hb
  ·rename_i hm;by_cases hlt:b < w.heap.size
   ·exact .inr (hDD b (hH3F b hm hlt))
   ·exact .inl ⟨hm,hlt⟩
  ·exact .inr ⟨_,hb⟩
 have hDo:∀b,b < w0.heap.size->b∈F->D b:=fun b hb hd=>by
  obtain ⟨l,hl⟩:=hDD b hd;exact h.owD b l hl hb
 refine ⟨fun b=>if b∈H3 then some (.o key) else ow b,h.ext.trans h1 hDo h.inc,fun b i hb hd=>(h2 b i (UB hb h.ext.size) fun hm=>hd (hDo b hb hm)).trans (h.oldp b i hb hd),fun b i hb hpb=>h3 b i (UB hb h.ext.size) (h.inc b i hb hpb),fun t=> ?_,fun key' ob' hk'=> ?_,fun id rr hr=> ?_,h.glen,h10,fun b l hb=> ?_,fun b l hb hlt=> ?_,Mk h.ngs h1.size,fun b hb=> ?_,fun b l hb=> ?_,h.gpre⟩
 ·have hst:=h.slot t;show Slot _ _ _ _ _ _ _ _ (s.env t) _;cases he:s.env t with
  |no=>exact trivial
  |val c=>
   rw [he] at hst;obtain ⟨G,g1,g2,g3⟩:=hst;exact ⟨G,g1.mono h1 h3 (fun _ _ h=>h) (Uq _) (fun b hb=>hnD b _ (g3 b hb) (by simp) (by simp)) fun b hb i=>h2 b i (h.owl b _ (g3 b hb)) (hnD b _ (g3 b hb) (by simp) (by simp)),g2,fun b hb=>hkeep b _ (g3 b hb) (by simp) (by simp)⟩
  |lp key' i off=>
   rw [he] at hst;obtain ⟨o1,f1,f2⟩:=hst;by_cases hkk:key'=key
   ·subst hkk;rw [hk] at f1;cases f1;exact ⟨_,ZE _ _ _,f2⟩
   ·exact ⟨o1,(ZA _ _ hkk).trans f1,f2⟩
  |la key'=>
   rw [he] at hst;obtain ⟨o1,A',cap',f1,f2,f3⟩:=hst;by_cases hkk:key'=key
   ·subst hkk;rw [hk] at f1;cases f1;exact ⟨_,A',cap',ZE _ _ _,by rw [hrl];exact f2,by rw [hrl];exact f3.ext h1⟩
   ·exact ⟨o1,A',cap',(ZA _ _ hkk).trans f1,f2,f3.ext h1⟩
  |lv key' i off ag=>
   rw [he] at hst;obtain ⟨o1,cu,ty,f1,f2,f3,f4⟩:=hst;have hkk:key'≠key:=fun e0=>by subst e0;exact hnl t i off ag he
   have hn1:Lab.bk key'≠ .bk key:=by simpa using hkk
   exact ⟨o1,cu,ty,(ZA _ _ hkk).trans f1,(h1.blk _ (YL f2) (hnD _ _ f3 (by simp) hn1)).trans f2,hkeep _ _ f3 (by simp) hn1,f4⟩
 ·by_cases hkk:key'=key
  ·subst hkk;have hk2:upd s.L key' (some {ob with rows:=rows}) key'=some ob':=hk';rw [ZE] at hk2;cases hk2;obtain ⟨_,_,m5⟩:=h.obj key' ob hk;refine ⟨?_,hrk,by rw [hrl];exact m5⟩;rcases hblk with ⟨hb0,_⟩ | ⟨hb0,cur,e,q1,q2,q3,q4,q5⟩
   ·exact .inl hb0
   ·right;have hne0:ob.rows≠ []:=by
     intro h0;rw [h0] at hrl;exact hb0 (Us hrl)
    have hown:=(h.memObj hk hne0).1.own;refine ⟨⟨cur,e,q1,q2,⟨H3,(Reps.drop' q3).mono (Ext.refl (fun _=>False) Pr' w') (fun _ _ _ h=>h) (fun i b h=>by simp at h) (Uq _) (by simp) fun _ _ _=>Ms,q4,fun b hb=>Ul hb⟩,fun i=>⟨fun hp=>absurd hp (q5 i),fun ⟨hh,_⟩=>by rw [hz] at hh;cases hh⟩⟩,?_⟩;rw [Uf fun hm=>hb3 _ hm rfl];exact hown
  ·have hk2:s.L key'=some ob':=(ZA s.L _ hkk).symm.trans hk';have hn1:Lab.bk key'≠ .bk key:=by simpa using hkk
   have hn2:Lab.o key'≠ .o key:=by simpa using hkk
   obtain ⟨hmm,m4⟩:=h.obj key' ob' hk2;refine ⟨hmm.imp (fun x=>x) fun hmm=> ?_,m4⟩;obtain ⟨⟨cur,e,m1,mz,⟨G,g1,g2,g3⟩,m2⟩,m3⟩:=hmm;have hb:=h.owl _ _ m3;have hnn:=hnD _ _ m3 (by simp) hn1;exact ⟨⟨cur,e,(h1.blk _ hb hnn).trans m1,mz,⟨G,g1.mono h1 h3 (fun _ _ h=>h) (Uq _) (fun b hb=>hnD b _ (g3 b hb) hn2 (by simp)) fun b hb i=>h2 b i (h.owl b _ (g3 b hb)) (hnD b _ (g3 b hb) hn2 (by simp)),g2,fun b hb=>hkeep b _ (g3 b hb) hn2 (by simp)⟩,fun i=>(h2 _ i hb hnn).trans (m2 i)⟩,hkeep _ _ m3 (by simp) hn1⟩
 ·obtain ⟨b,hbg,⟨⟨cur,e,m1,mz,⟨G,g1,g2,g3⟩,m2⟩,m3⟩⟩:=h.gob id rr hr;have hb:=h.owl _ _ m3;have hnn:=hnD _ _ m3 (by simp) (by simp);exact ⟨b,hbg,⟨⟨cur,e,(h1.blk _ hb hnn).trans m1,mz,⟨G,g1.mono h1 h3 (fun _ _ h=>h) (Uq _) (fun b hb=>hnD b _ (g3 b hb) (by simp) (by simp)) fun b hb i=>h2 b i (h.owl b _ (g3 b hb)) (hnD b _ (g3 b hb) (by simp) (by simp)),g2,fun b hb=>hkeep b _ (g3 b hb) (by simp) (by simp)⟩,fun i=>(h2 _ i hb hnn).trans (m2 i)⟩,hkeep _ _ m3 (by simp) (by simp)⟩⟩
 ·rcases hget b l hb with ⟨hm,_⟩ | ⟨l',hl'⟩
  ·exact h11 b _ (h6 b (hH3 b hm))
  ·exact UB (h.owl b l' hl') h1.size
 ·rcases hget b l hb with ⟨hm,hge⟩ | ⟨l',hl'⟩
  ·exact absurd (UB hlt h.ext.size) hge
  ·exact h.owD b l' hl' hlt
 ·rw [h1.blk b (UB hb h.ngs) fun hm=> ?_]
  ·exact h.gl b hb
  ·obtain ⟨l,hl⟩:=hDD b hm;have:=h.ngo b l hl;omega
 ·rcases hget b l hb with ⟨hm,hge⟩ | ⟨l',hl'⟩
  ·exact Mk h.ngs (by omega)
  ·exact h.ngo b l' hl'
theorem ZBY {k:Nat} {xs:List (List AV)} (hx:∀x∈xs,x.length=k) {i:Nat} {c:List AV} (hi:xs[i]? =some c):
  ∃p q,xs.flatten=p ++ (c ++ q)/\p.length=i * k/\∀d,(xs.set i d).flatten=p ++ (d ++ q):=by
 have hlt:i < xs.length:=(List.getElem?_eq_some_iff.1 hi).1;obtain ⟨p,q,e,hl,hf⟩:=Zak hx hi;refine ⟨p,q,e,hl,fun d=> ?_⟩;have hs:xs.set i d=xs.modify i (fun _=>d):=by
  apply UV;intro j;rw [Mg,U6];by_cases hj:i=j
  ·subst hj;simp [hlt]
  ·simp only [Uf hj];cases xs[j]? <;> rfl
 rw [hs,hf]
theorem ZBZ {α:Type} {l vs:List α} {X:Nat} (h:∀(j:Nat) (u:α),vs[j]? =some u->l[X + j]? =some u) (hX:X<=l.length):l.take X ++ (vs ++ l.drop (X + vs.length))=l:=by
 apply UV;intro i;simp only [List.getElem?_append,Uc,UA,US,U8 hX];by_cases h1:i < X
 ·simp [h1]
 ·simp only [h1,Mw];by_cases h2:i - X < vs.length
  ·rw [Ul h2];have h3:vs[i - X]? =some vs[i - X]:=Ua h2;rw [h3,←h _ _ h3];congr 1;omega
  ·rw [Uf h2];congr 1;omega
theorem ZB0 {d:TD} {M:List AV} {us:List Value} {F:List Nat} {av:AV} {v:Value} {cur:Array Value} {p:Nat} (hr:Reps w Pr γ 0 M us F) (ha:mkA d M=some av) (hv:∀base,∃F1,Rep w Pr γ base av v F1) (hlv:Zbx cur p d.ag v):
  ∀(j:Nat) (u:Value),v.cells.toList[j]? =some u->cur[p + j]? =some u:=by
 intro j u hj;unfold mkA at ha;unfold TD.ag at hlv;cases hd:d.isAgg with
 |true=>
  rw [hd] at hlv;obtain ⟨us',rfl,_,hu⟩:=hlv;exact hu j u (by simpa [Value.cells] using hj)
 |false=>
  rw [hd] at hlv ha;simp only [Ur] at hlv ha;cases hr with
  |nil=>cases ha
  |cons h1 h2 h3=>
   cases ha;obtain ⟨F1,h4⟩:=hv 0;have:=(h4.oneCell h1).2;rw [this] at hj;cases j with
   |zero=>
    have hj':v=u:=by simpa using hj
    subst hj';simpa [Zbx] using hlv
   |succ j=>simp at hj
theorem ZrT {γ':Type} {x:AV×GS} {K:Value->AV->Option γ'} {z:γ'} (h:Zg4 x K=some z):∃u a,x=(.tup [.lit u,a],[])/\K u a=some z:=by
 unfold Zg4 at h;split at h
 ·exact ⟨_,_,rfl,h⟩
 ·cases h
theorem ZB1 {E:Ctx} {f vr t:Nat} {x y:Operand} {c:Call} (hC:Qv P GE.ng GE.G0 E.cu) (ho:o.op= .call c) (hc:c.callee= .value (.func f)) (hx:c.args.toList= [x,y])
  (h:Zmg E f vr x y t s K=some r):∃sv s2,K sv s2=some r/\ZU P GE nt o s sv s2:=by
 unfold Zmg at h;obtain ⟨b,h,hb⟩:=YX (GE:=GE) h;split at h
 ·cases h
 rename_i en hen;cases hbn:b.ng with
 |false=>rw [hbn] at h;cases h
 |true=>
 rw [hbn] at h;simp only [Ui,Ur] at h;have hargs:∀a:Act,c.args.map a.eval=(c.args.toList.map a.eval).toArray:=fun a=>by apply Mu;simp
 have hrun:∀{a:Act} {w:World},(execOp a.eval o).run P w=(callFunc f [a.eval x,a.eval y].toArray).run P w:=by
  intro a w;simp [execOp,ho,resolve,hc,hargs,hx,Act.eval,Deferred.ofValue,invoke]
 cases x with
 |const v=>cases h
 |func g=>cases h
 |global g=>cases h
 |tmp n=>
 simp only at h;split at h
 ·rename_i key hen0;split at h
  case h_2=>cases h
  rename_i ob hL;cases hz:ob.frz with
  |true=>rw [hz] at h;cases h
  |false=>
  rw [hz] at h;simp only [Ur] at h;obtain ⟨r0,hcl,h⟩:=ZG h;obtain ⟨x0,⟨hle,hlg⟩,hS⟩:=en.ps.ok _ _ _ hcl;have hg0:(en.ps.enc x0).2= []:=Us hlg.length;obtain ⟨u,a0,hres,h⟩:=ZrT h;split at h
  case h_2=>cases h
  rename_i k rows;cases hk:Nat.beq k ob.k with
  |false=>rw [hk] at h;cases h
  |true=>
  rw [hk] at h;obtain rfl:=Ud hk;have hsp:=hC f vr en hen x0 r0 hS hg0 (by rw [hres]);rw [hres] at hsp;refine ⟨_,_,h,fun D Pr0 w0 a w ⟨ow,Pr,B,γ,hi0,hd,hn⟩ hokd next Q hnext=> ?_⟩;have hi:=hi0.nolv key;obtain ⟨Fb,hby⟩:=hb.ok hi0;have hs:=hi0.slot n;rw [hen0] at hs;obtain ⟨ob',A,cap,e1,e2,e3⟩:=hs;rw [hL] at e1;cases e1;have hrx:∃F,Rep w Pr γ w.heap.size (.slc .unq ob.k ob.rows) (ZP a n) F/\F.Nodup/\∀b∈F,ow b=some (.o key)\/ow b=some (.bk key):=by
   rw [e2];rcases e3 with e3 | ⟨rfl,hn0,hnc,hcm,cur,e,q1,q2⟩
   ·have hr0:ob.rows= []:=Us e3.1;rw [hr0,e3.2];exact ⟨[], .unil,UE,by simp⟩
   ·obtain ⟨⟨⟨cur',e',m1,mz,⟨F,m2,m3,m4⟩,m5⟩,m6⟩,m7,m8⟩:=hi0.memObj hL (by intro h0;rw [h0] at hn0;simp at hn0);rw [q1] at m1;cases m1;refine ⟨B key::F, .unq q1 q2 hn0 hnc hcm rfl m7 (vs:=cur.toList.take ob.rows.flatten.length) (by rw [Yb m7]) (Reps.drop' m2) fun i hp=> ?_,List.nodup_cons.2 ⟨fun hm=> ?_,m3⟩,fun b hb=> ?_⟩
    ·have:=((m5 i).1 hp).1;rw [hz] at this;cases this
    ·have:=m4 _ hm;rw [m6] at this;cases this
    ·rcases List.mem_cons.1 hb with rfl |hb
     ·exact .inr m6
     ·exact .inl (m4 b hb)
  obtain ⟨F,hrx,hnd,hFl⟩:=hrx;have hall:RepL w Pr γ w.heap.size [.slc .unq ob.k ob.rows,b.clr] [ZP a n,a.eval y] (F ++ ([] ++ [])):= .cons hrx (.cons hby.drop .nil);have hall':=hall.nog (γ':= []) (by rw [MA,MA,ZlX,hbn];rfl);rw [UK,UK] at hall';obtain ⟨F2,hsub,hall2⟩:=hle.repl hall';have hF2:∀b∈F2,ow b=some (.o key)\/ow b=some (.bk key):=fun b hb=>hFl b (hsub.subset hb)
  have how:∀b∈F2,∃l,ow b=some l:=fun b hb=>(hF2 b hb).elim (fun h=>⟨_,h⟩) (fun h=>⟨_,h⟩)
  obtain ⟨hent,hcalls⟩:=hsp w Pr _ F2 hall2 (hnd.sublist hsub) hi0.prl (fun b hb=>by obtain ⟨l,hl⟩:=how b hb;exact hi0.owl b l hl) hi0.ngs hi0.gl (fun b hb=>by obtain ⟨l,hl⟩:=how b hb;exact hi0.ngo b l hl);unfold Oper.wp;rw [hrun];have hval:a.eval (.tmp n)=ZP a n:=rfl;rw [hval,hent,Oper.upon_enter];refine hcalls.mono fun e w' he=> ?_
  cases e with
  |returned v=>
   have hp:CallPost _ w Pr [] (.tup [.lit u, .slc .unq ob.k rows]) [] (.tuple #[v,ZP a n]) w':=he;obtain ⟨hv,hsc,Pr',ow',hi2⟩:=hi.changed (n:=n) (fun t i off ag=>ZmK _ _ _ _ _ _) hL hz (by show Fx.nolv key s.env n=_;unfold Fx.nolv;rw [hen0]) hF2 hp;subst hv;dsimp only at hi2;rw [hz] at hi2;exact hnext _ _ (Z2 hi2 hd hn hokd ⟨[], .lit hsc,UE,by simp⟩)
  |panicked _=>exact he.elim
  |outgrown=>exact he.elim
 ·rename_i key i off ag hen0;cases hag:Zbq ag (E.T t).ag with
  |false=>rw [hag] at h;cases h
  |true=>
  rw [hag] at h;simp only [Ui,Ur] at h;split at h
  case h_2=>cases h
  rename_i ob hL;cases hz:ob.frz with
  |true=>rw [hz] at h;cases h
  |false=>
  rw [hz] at h;simp only [Ur] at h;unfold ZZ at h;split at h
  case h_2=>cases h
  rename_i row0 hrow0;obtain ⟨px,hrle,h⟩:=(E.ro key).ok _ _ _ h;generalize (E.ro key).enc px=row at hrle h;simp only [Qn] at h;obtain ⟨av,hav,h⟩:=ZG h;cases hanv:av.ng with
  |false=>rw [hanv] at h;cases h
  |true=>
  rw [hanv] at h;simp only [Ui,Ur] at h;obtain ⟨r0,hcl,h⟩:=ZG h;obtain ⟨x0,⟨hle,hlg⟩,hS⟩:=en.ps.ok _ _ _ hcl;have hg0:(en.ps.enc x0).2= []:=Us hlg.length;obtain ⟨u,a0,hres,h⟩:=ZrT h;obtain ⟨cs,hcs,h⟩:=ZG h;cases hble:Nat.ble (off + (E.T t).size) row.length with
  |false=>rw [hble] at h;cases h
  |true=>
  rw [hble] at h;have hble':off + (E.T t).size<=row.length:=MI hble;have hsp:=hC f vr en hen x0 r0 hS hg0 (by rw [hres]);rw [hres] at hsp;refine ⟨_,_,h,fun D Pr0 w0 a w ⟨ow,Pr,B,γ,hi0,hd,hn⟩ hokd next Q hnext=> ?_⟩;obtain ⟨Fy,hby⟩:=hb.ok hi0;have hlt:i < ob.rows.length:=(List.getElem?_eq_some_iff.1 hrow0).1;have hw:=hi0.weakRow hL hrow0 hrle;obtain ⟨obw,eobw⟩:∃o:LObj,o={ob with rows:=ob.rows.set i row}:=⟨_,rfl⟩
  rw [←eobw] at hw;have hLw:upd s.L key (some obw) key=some obw:=ZE _ _ _;have hkw:obw.k=ob.k:=by rw [eobw]
  have hrow:obw.rows[i]? =some row:=by rw [eobw];simp [hlt]
  have hne0:=VG hrow;obtain ⟨⟨⟨cur,e,m1,mz,⟨F,m2,m3,m4⟩,m5⟩,m6⟩,m7,m8⟩:=hw.memObj hLw hne0;obtain ⟨p,q,q1,q2,q3⟩:=ZBY m7 hrow;have hrl:=m7 row (Uk hrow);obtain ⟨S,hS⟩:∃S,S=(E.T t).size:=⟨_,rfl⟩
  rw [←hS] at hcs hble' hav;have hA:obw.rows.flatten=(p ++ row.take off) ++ ((row.drop off).take S ++ (row.drop (off + S) ++ q)):=by
   rw [q1];have e1:(row.drop off).take S ++ row.drop (off + S)=row.drop off:=by rw [←MD,Up]
   have e2:row.take off ++ ((row.drop off).take S ++ row.drop (off + S))=row:=by rw [e1,Up]
   have:p ++ ((row.take off ++ ((row.drop off).take S ++ row.drop (off + S))) ++ q)=p ++ (row ++ q):=by rw [e2]
   rw [←this];simp only [Uw]
  have hpl:(p ++ row.take off).length=i * obw.k + off:=by rw [Uh,Uc,q2];omega
  have hMl:((row.drop off).take S).length=S:=by
   rw [Uc,Uu];exact U8 (by omega)
  have hmm:obw.rows.flatten.length=p.length + (row.length + q.length):=by rw [q1];simp only [Uh]
  have m2x:=m2;generalize hL0:cur.toList.take obw.rows.flatten.length=l0 at m2x;have hl0:l0.length=obw.rows.flatten.length:=by
   rw [←hL0,Uc];exact U8 (by simpa using mz)
  rw [hA] at m2x;obtain ⟨FA,F',rfl,sA,sR⟩:=m2x.split;obtain ⟨FM,FZ,rfl,sM,sZ⟩:=sR.split;have hsn:=hw.slot n;have hen1:({s with L:=upd s.L key (some obw)}:St).env n= .lv key i off ag:=hen0;rw [hen1] at hsn;obtain ⟨ob1,cu,ty,f1,f2,f3,f4⟩:=hsn;have f1':upd s.L key (some obw) key=some ob1:=f1;rw [hLw] at f1';cases f1';rw [m1] at f2;cases f2;rw [ZmU hag] at f4;have hcM:∀(j:Nat) (u:Value),((l0.drop (p ++ row.take off).length).take ((row.drop off).take S).length)[j]? =some u->cur[i * obw.k + off + j]? =some u:=fun j u hj=>by
   have:=Qu hj;rw [US,hpl,←hL0] at this;simpa using Qu this
  obtain ⟨G1,G2,hG,hrepv⟩:=ZmT sM hcM f4 hav;subst hG;have nd1:=List.nodup_append.1 m3;have nd2:=List.nodup_append.1 nd1.2.1;have nd3:=List.nodup_append.1 nd2.1;have hclr:Reps w Pr γ w0.heap.size (obw.rows.set i (row.take off ++ (clrs ((row.drop off).take S) ++ row.drop (off + S)))).flatten l0 (FA ++ FZ):=by
   rw [q3];have h7:=sA.append (sM.clr.append sZ);rw [Up,Up,U9] at h7;simpa only [Uw] using h7
  have hlen1:∀x∈obw.rows.set i (row.take off ++ (clrs ((row.drop off).take S) ++ row.drop (off + S))),x.length=obw.k:=fun x hx=>by
   rcases Mc hx with hm |rfl
   ·exact m7 x hm
   ·rw [Uh,Uh,Xy,hMl,Uc,Uu];omega
  have hfl1:(obw.rows.set i (row.take off ++ (clrs ((row.drop off).take S) ++ row.drop (off + S)))).flatten.length=obw.rows.flatten.length:=by
   rw [Yb hlen1,Yb m7,UU]
  have hinv:=hw.takeObj (M:=G1 ++ G2) hLw m1 (rows:=obw.rows.set i (row.take off ++ (clrs ((row.drop off).take S) ++ row.drop (off + S)))) (F:=FA ++ FZ) (by rw [hfl1,hL0];exact hclr) (List.nodup_append.2 ⟨nd1.1,nd2.2.1,fun x hx y hy=>nd1.2.2 x hx y (by simp [hy])⟩)
   (fun b hb=>m4 b (by rcases List.mem_append.1 hb with hb |hb <;> simp [hb])) (fun b hb=>m4 b (by rcases List.mem_append.1 hb with hb |hb <;> simp [hb]))
   (fun b hb hf=>by
    rcases List.mem_append.1 hf with hf |hf
    ·exact nd1.2.2 b hf b (Uz _ hb) rfl
    ·exact nd2.2.2 b hb b hf rfl) (by simp) hlen1
  have hall:RepL w Pr γ w.heap.size [av,b.clr] [ZP a n,a.eval y] (G1 ++ ([] ++ [])):= .cons (Rep.drop' hrepv) (.cons hby.drop .nil);have hall':=hall.nog (γ':= []) (by rw [MA,MA,ZlX,hbn,hanv];rfl);rw [UK,UK] at hall';obtain ⟨F2,hsub,hall2⟩:=hle.repl hall';have hpd:∀b∈F2,Yr ow (G1 ++ G2) .pd b=some .pd:=fun b hb=>Ul (Uz _ (hsub.subset hb))
  obtain ⟨hent,hcalls⟩:=hsp w Pr _ F2 hall2 (nd3.1.sublist hsub) hinv.prl (fun b hb=>hinv.owl b _ (hpd b hb)) hinv.ngs hinv.gl (fun b hb=>hinv.ngo b _ (hpd b hb));unfold Oper.wp;rw [hrun];have hval:a.eval (.tmp n)=ZP a n:=rfl;rw [hval,hent,Oper.upon_enter];refine hcalls.mono fun e' w' he=> ?_
  cases e' with
  |returned v=>
   have hp:CallPost (fun b=>b∈F2) w Pr [] (.tup [.lit u,a0]) [] (.tuple #[v,ZP a n]) w':=he;have hDe:(fun b=>b∈F2)=(fun b=>b∈F2\/(none:Option Lab)≠none):=by funext b;simp
   rw [hDe] at hp;obtain ⟨Pr',ow',H,z1,z2,z3,z4⟩:=ZrK (γ:=γ) hp hpd hinv.owl w0.heap.size;have hi3:=hinv.step z1 rfl;generalize hvv:Value.tuple #[v,ZP a n]=vv at z2;cases z2 with
   | @tup _ us _ z2=>
   cases z2 with
   | @cons _ v1 Fa _ us1 Ga ra z2=>
   cases z2 with
   | @cons _ v2 H2 _ us2 Gb rb z2=>
   cases z2;have hvv2: #[v,ZP a n]= [v1,v2].toArray:=by injection hvv
   have hv1:v=v1:=by
    have:=UC (fun a:Array Value=>a[0]?) hvv2;simpa using this
   have hv2:ZP a n=v2:=by
    have:=UC (fun a:Array Value=>a[1]?) hvv2;simpa using this
   subst hv1;rw [←hv2] at rb;obtain ⟨rfl,hsc,rfl⟩:=ZbA ra;rw [U9,UK] at z3 z4;obtain ⟨c1,c2,c3⟩:=rb.cellsN hcs;have hL3:upd (upd s.L key (some obw)) key (some {obw with rows:=obw.rows.set i (row.take off ++ (clrs ((row.drop off).take S) ++ row.drop (off + S)))}) key=some {obw with rows:=obw.rows.set i (row.take off ++ (clrs ((row.drop off).take S) ++ row.drop (off + S)))}:=ZE _ _ _;have hne3:(obw.rows.set i (row.take off ++ (clrs ((row.drop off).take S) ++ row.drop (off + S))))≠ []:=by
    intro h0;have:=UC List.length h0;rw [UU] at this;exact hne0 (Us this)
   obtain ⟨⟨⟨cur3,e3,n1,nz,⟨F3,n2,n3,n4⟩,n5⟩,n6⟩,n7,n8⟩:=hi3.memObj hL3 hne3;have hs3:=hi3.slot n;rw [show ({s with L:=upd (upd s.L key (some obw)) key (some {obw with rows:=obw.rows.set i (row.take off ++ (clrs ((row.drop off).take S) ++ row.drop (off + S)))})}:St).env n= .lv key i off ag from hen0] at hs3;obtain ⟨ob3,cu3,ty3,g1,g2,g3,g4⟩:=hs3;have g1':upd (upd s.L key (some obw)) key (some {obw with rows:=obw.rows.set i (row.take off ++ (clrs ((row.drop off).take S) ++ row.drop (off + S)))}) key=some ob3:=g1;rw [hL3] at g1';cases g1';rw [n1] at g2;cases g2;rw [ZmU hag] at g4;have hcell:=ZB0 (Reps.drop' sM) hav (fun base=>⟨G1,Rep.drop' hrepv⟩) g4;have hrow1:(obw.rows.set i (row.take off ++ (clrs ((row.drop off).take S) ++ row.drop (off + S))))[i]? =some (row.take off ++ (clrs ((row.drop off).take S) ++ row.drop (off + S))):=by
    rw [U6,Ul rfl,Ul (by rw [eobw,UU];exact hlt)]
   have hA1:(obw.rows.set i (row.take off ++ (clrs ((row.drop off).take S) ++ row.drop (off + S)))).flatten=(p ++ row.take off) ++ (clrs ((row.drop off).take S) ++ (row.drop (off + S) ++ q)):=by
    rw [q3];simp only [Uw]
   have hA2:(obw.rows.set i (ZL row off cs)).flatten=(p ++ row.take off) ++ (cs ++ (row.drop (off + S) ++ q)):=by
    rw [q3];unfold ZL;rw [c3];simp only [Uw]
   have n2x:=n2;generalize hl3:cur3.toList.take (obw.rows.set i (row.take off ++ (clrs ((row.drop off).take S) ++ row.drop (off + S)))).flatten.length=l3 at n2x;have hl3l:l3.length=obw.rows.flatten.length:=by
    rw [←hl3,Uc,←hfl1];exact U8 (by simpa using nz)
   rw [show ({obw with rows:=obw.rows.set i (row.take off ++ (clrs ((row.drop off).take S) ++ row.drop (off + S)))}:LObj).rows.flatten=_ from hA1] at n2x;obtain ⟨FA3,FM3,FZ3,rfl,y1⟩:=n2x.splice c2 (by rw [c3,Xy,hMl]);have hvl:(ZP a n).cells.toList.length=S:=by rw [Ue];exact c1
   have hXl:(p ++ row.take off).length + S<=obw.rows.flatten.length:=by rw [hmm,Uh,Uc];omega
   have hself:l3.take (p ++ row.take off).length ++ ((ZP a n).cells.toList ++ l3.drop ((p ++ row.take off).length + (ZP a n).cells.toList.length))=l3:=by
    refine ZBZ (fun j u hj=> ?_) (by omega);have hj2:j < S:=by rw [←hvl];exact (List.getElem?_eq_some_iff.1 hj).1
    have h5:=hcell j u hj;rw [←hl3,UA,Ul (by rw [show (obw.rows.set i (row.take off ++ (clrs ((row.drop off).take S) ++ row.drop (off + S)))).flatten.length=obw.rows.flatten.length from hfl1];omega),hpl];simpa using h5
   rw [hself] at y1;have hlen2:∀x∈obw.rows.set i (ZL row off cs),x.length=obw.k:=fun x hx=>by
    rcases Mc hx with hm |rfl
    ·exact m7 x hm
    ·simp only [ZL,Uh,Uc,Uu];omega
   have hfl2:(obw.rows.set i (ZL row off cs)).flatten.length=(obw.rows.set i (row.take off ++ (clrs ((row.drop off).take S) ++ row.drop (off + S)))).flatten.length:=by
    rw [Yb hlen2,Yb hlen1,UU,UU]
   have nd5:=List.nodup_append.1 n3;have nd6:=List.nodup_append.1 nd5.2.1;have hgv:=hi3.giveObj (rows:=obw.rows.set i (ZL row off cs)) (F:=FA3 ++ (H2 ++ FZ3)) hL3 hne3 n1 (by rw [hfl2,hl3,hA2];exact y1) (List.nodup_append.2 ⟨nd5.1,List.nodup_append.2 ⟨z3,nd6.2.1,fun x hx y hy e0=>by
     subst e0;have h1:=n4 x (by simp [hy]);rw [z4 x hx] at h1;cases h1⟩,fun x hx y hy e0=>by
     subst e0;rcases List.mem_append.1 hy with hy |hy
     ·have h1:=n4 x (by simp [hx]);rw [z4 x hy] at h1;cases h1
     ·exact nd5.2.2 x hx x (by simp [hy]) rfl⟩) (fun b hb=>by
     rcases List.mem_append.1 hb with hb |hb
     ·exact .inl (n4 b (by simp [hb]))
     ·rcases List.mem_append.1 hb with hb |hb
      ·exact .inr (z4 b hb)
      ·exact .inl (n4 b (by simp [hb]))) (by simp) hlen2
   have hst:({s with L:=upd (upd (upd s.L key (some obw)) key (some {obw with rows:=obw.rows.set i (row.take off ++ (clrs ((row.drop off).take S) ++ row.drop (off + S)))})) key (some {obw with rows:=obw.rows.set i (ZL row off cs)})}:St)={s with L:=upd s.L key (some {ob with rows:=ob.rows.set i (ZL row off cs)})}:=by
    rw [Ku,Ku,eobw];simp only [MQ]
   obtain ⟨owz,hgv2⟩:∃owz,Inv GE D Pr0 w0 {s with L:=upd s.L key (some {ob with rows:=ob.rows.set i (ZL row off cs)})} (ZP a) w' owz Pr' B γ:=⟨_,by rw [←hst];exact hgv⟩
   rw [hz] at hgv2;exact hnext _ _ (Z2 hgv2 hd hn hokd ⟨[], .lit hsc,UE,by simp⟩)
  |panicked _=>exact he.elim
  |outgrown=>exact he.elim
 ·cases h
theorem ZB2 {D:Nat->Prop} {w w':World} {Pr:Nat->Nat->Prop} {γ:List Nat} {a:AV} {g':GS} {v y:Value} (hp:CallPost D w Pr γ (.tup [.tup [],a]) g' (.tuple #[v,y]) w'):
  v= .tuple #[]/\CallPost D w Pr γ (.tup [.lit (.bool true),a]) g' (.tuple #[.bool true,y]) w':=by
 obtain ⟨ow1,Pr',γ',H,h1,h2,h3,h4,h5⟩:=hp;generalize hvv:Value.tuple #[v,y]=vv at h4;cases h4 with
 | @tup _ us _ h4=>
 cases h4 with
 | @cons _ v1 Fa _ us1 Ga ra h4=>
 cases h4 with
 | @cons _ v2 H2 _ us2 Gb rb h4=>
 cases h4;have hvv2: #[v,y]= [v1,v2].toArray:=by injection hvv
 have hv1:v=v1:=by
  have:=UC (fun a:Array Value=>a[0]?) hvv2;simpa using this
 have hv2:y=v2:=by
  have:=UC (fun a:Array Value=>a[1]?) hvv2;simpa using this
 subst hv1;subst hv2;cases ra with
 |tup ra=>
 cases ra;exact ⟨rfl,ow1,Pr',γ',_,h1,h2,h3, .tup (.cons (.lit rfl) (.cons rb .nil)),h5⟩
theorem ZB3 {E:Ctx} {f vr g:Nat} {x:Operand} {c:Call} (hC:Qv P GE.ng GE.G0 E.cu) (ho:o.op= .call c) (hc:c.callee= .value (.func f)) (hx:c.args.toList= [x, .func g])
  (h:Zmh E f vr g x s K=some r):∃sv s2,K sv s2=some r/\ZU P GE nt o s sv s2:=by
 unfold Zmh at h;split at h
 ·cases h
 rename_i en hen;have hargs:∀a:Act,c.args.map a.eval=(c.args.toList.map a.eval).toArray:=fun a=>by apply Mu;simp
 have hrun:∀{a:Act} {w:World},(execOp a.eval o).run P w=(callFunc f [a.eval x,a.eval (.func g)].toArray).run P w:=by
  intro a w;simp [execOp,ho,resolve,hc,hargs,hx,Act.eval,Deferred.ofValue,invoke]
 cases x with
 |const v=>cases h
 |func g=>cases h
 |global g=>cases h
 |tmp n=>
 simp only at h;split at h
 case h_2=>cases h
 ·rename_i key hen0;split at h
  case h_2=>cases h
  rename_i ob hL;cases hz:ob.frz with
  |true=>rw [hz] at h;cases h
  |false=>
  rw [hz] at h;simp only [Ur] at h;obtain ⟨r0,hcl,h⟩:=ZG h;obtain ⟨x0,⟨hle,hlg⟩,hS⟩:=en.ps.ok _ _ _ hcl;have hg0:(en.ps.enc x0).2= []:=Us hlg.length;split at h
  case h_2=>cases h
  rename_i k rows hres;cases hk:Nat.beq k ob.k with
  |false=>rw [hk] at h;cases h
  |true=>
  rw [hk] at h;obtain rfl:=Ud hk;have hsp:=hC f vr en hen x0 r0 hS hg0 (by rw [hres]);rw [hres] at hsp;refine ⟨_,_,h,fun D Pr0 w0 a w ⟨ow,Pr,B,γ,hi0,hd,hn⟩ hokd next Q hnext=> ?_⟩;have hi:=hi0.nolv key;have hs:=hi0.slot n;rw [hen0] at hs;obtain ⟨ob',A,cap,e1,e2,e3⟩:=hs;rw [hL] at e1;cases e1;have hrx:∃F,Rep w Pr γ w.heap.size (.slc .unq ob.k ob.rows) (ZP a n) F/\F.Nodup/\∀b∈F,ow b=some (.o key)\/ow b=some (.bk key):=by
   rw [e2];rcases e3 with e3 | ⟨rfl,hn0,hnc,hcm,cur,e,q1,q2⟩
   ·have hr0:ob.rows= []:=Us e3.1;rw [hr0,e3.2];exact ⟨[], .unil,UE,by simp⟩
   ·obtain ⟨⟨⟨cur',e',m1,mz,⟨F,m2,m3,m4⟩,m5⟩,m6⟩,m7,m8⟩:=hi0.memObj hL (by intro h0;rw [h0] at hn0;simp at hn0);rw [q1] at m1;cases m1;refine ⟨B key::F, .unq q1 q2 hn0 hnc hcm rfl m7 (vs:=cur.toList.take ob.rows.flatten.length) (by rw [Yb m7]) (Reps.drop' m2) fun i hp=> ?_,List.nodup_cons.2 ⟨fun hm=> ?_,m3⟩,fun b hb=> ?_⟩
    ·have:=((m5 i).1 hp).1;rw [hz] at this;cases this
    ·have:=m4 _ hm;rw [m6] at this;cases this
    ·rcases List.mem_cons.1 hb with rfl |hb
     ·exact .inr m6
     ·exact .inl (m4 b hb)
  obtain ⟨F,hrx,hnd,hFl⟩:=hrx;have hall:RepL w Pr γ w.heap.size [.slc .unq ob.k ob.rows, .fn g []] [ZP a n,a.eval (.func g)] (F ++ ([] ++ [])):= .cons hrx (.cons (.fn .nil) .nil);have hall':=hall.nog (γ':= []) (by rfl);rw [UK,UK] at hall';obtain ⟨F2,hsub,hall2⟩:=hle.repl hall';have hF2:∀b∈F2,ow b=some (.o key)\/ow b=some (.bk key):=fun b hb=>hFl b (hsub.subset hb)
  have how:∀b∈F2,∃l,ow b=some l:=fun b hb=>(hF2 b hb).elim (fun h=>⟨_,h⟩) (fun h=>⟨_,h⟩)
  obtain ⟨hent,hcalls⟩:=hsp w Pr _ F2 hall2 (hnd.sublist hsub) hi0.prl (fun b hb=>by obtain ⟨l,hl⟩:=how b hb;exact hi0.owl b l hl) hi0.ngs hi0.gl (fun b hb=>by obtain ⟨l,hl⟩:=how b hb;exact hi0.ngo b l hl);unfold Oper.wp;rw [hrun];have hval:a.eval (.tmp n)=ZP a n:=rfl;rw [hval,hent,Oper.upon_enter];refine hcalls.mono fun e w' he=> ?_
  cases e with
  |returned v=>
   have hp0:CallPost _ w Pr [] (.tup [.tup [], .slc .unq ob.k rows]) [] (.tuple #[v,ZP a n]) w':=he;obtain ⟨hv,hp⟩:=ZB2 hp0;obtain ⟨_,hsc,Pr',ow',hi2⟩:=hi.changed (n:=n) (fun t i off ag=>ZmK _ _ _ _ _ _) hL hz (by show Fx.nolv key s.env n=_;unfold Fx.nolv;rw [hen0]) hF2 hp;subst hv;dsimp only at hi2;rw [hz] at hi2;exact hnext _ _ (Z2 hi2 hd hn hokd ⟨[], .tup .nil,UE,by simp⟩)
  |panicked _=>exact he.elim
  |outgrown=>exact he.elim
theorem ZB4 {t n:Nat} {cf:Value->Option AV} (hcf:CfOk cf) (ho:o.op= .box t (.tmp n))
  (h:rd true cf (.tmp n) s (fun v s1=>match v with
   | .val (.agg cs)=>bif Nat.beq cs.length (T t).size then newObj o.dst ⟨false,(T t).size,[cs]⟩ s1 fun d s'=>K (.lp d 0 0) {s' with env:=upd s'.env n (.lv d 0 0 (.st (T t).size))} else none
   | _=>none)=some r):∃sv s1,K sv s1=some r/\ZU P GE nt o s sv s1:=by
 obtain ⟨sv,s1,h,hr⟩:=Xj (GE:=GE) hcf h;split at h
 case h_2=>cases h
 rename_i cs;cases hcl:Nat.beq cs.length (T t).size with
 |false=>rw [hcl] at h;cases h
 |true=>
 rw [hcl] at h;have hcl:=Ud hcl;simp only [Ut] at h;unfold newObj at h;split at h
 ·cases h
 ·rename_i d hd;split at h
  ·rename_i hL;refine ⟨_,_,h,fun D Pr0 w0 a w ⟨ow,Pr,B,γ,hi,hdf,hn⟩ hok next Q hnext=> ?_⟩;obtain ⟨ow1,h1,_,F,f1,f2,f3,f4⟩:=hr.ok hi;have hval:a.eval (.tmp n)=ZP a n:=rfl;rw [hval] at f1;generalize hv:ZP a n=v at f1;cases f1 with
   | @agg _ vs _ f1=>
   have hvl:=f1.length_eq;have h5:=h1.newObj (ob:=⟨false,(T t).size,[cs]⟩) (e:=t) (vs:=vs.toArray) (F:=F) hL rfl (by simpa using f1) f2 f3 (by simpa using hcl) (by simp [maxLen]);have h6:=h5.forget (d:=n) (sv:= .lv d 0 0 (.st (T t).size)) ⟨_,vs.toArray,t,ZE _ _ _,by rw [ZE];exact heap_alloc_new w _,by rw [ZE];exact Ul rfl,vs,hv,hvl.trans hcl,fun j u hj=>by simpa using hj⟩;refine Ya ?_ (hnext _ _ (Z2 h6 hdf hn hok ⟨_,ZE _ _ _,rfl⟩));have hev:a.eval (.tmp n)= .agg vs.toArray:=hv;simp [execOp,ho,hev,Instr.box,newVar,newRow,ZE,Value.cells]
  ·cases h
end
end Go.Fx
