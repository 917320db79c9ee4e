/- The relation between the evaluator's state and the machine's: who owns which block of memory; and how it is kept while values are read, stored and handed on. -/
import Derived.Test.YthkckbidcpmckaaGreatDoorFzA
set_option linter.all false
namespace Go.Fx
theorem ZE {α:Type} (f:Nat->α) (n:Nat) (v:α):upd f n v n=v:=by simp [upd]
theorem ZA {α:Type} (f:Nat->α) {n i:Nat} (v:α) (h:i≠n):upd f n v i=f i:=by
 have:Nat.beq i n=false:=by
  cases hb:Nat.beq i n with
  |false=>rfl
  |true=>exact absurd (Ud hb) h
 simp [upd,this]
inductive Lab where
 |t (n:Nat) |o (key:Nat) |bk (key:Nat) |g (id:Nat) |gb (id:Nat) |pd
 deriving DecidableEq
section defs
variable (w:World) (Pr:Nat->Nat->Prop) (γ:List Nat) (base:Nat) (ow:Nat->Option Lab)
def Holds (l:Lab) (a:AV) (v:Value):Prop:=∃F,Rep w Pr γ base a v F/\F.Nodup/\∀b∈F,ow b=some l
def LaOk (w:World) (b k n:Nat) (A:Option Addr) (cap:Nat):Prop:=
 (n=0/\cap=0)\/(A=some ⟨b,0,none⟩/\0 < n/\n<=cap/\cap<=maxLen/\∃(cur:Array Value) (e:TypeId),w.heap[b]? =some (.cells cur e (0,0))/\cur.size=cap * k)
def Zbx (cur:Array Value) (p:Nat) (ag:Ag) (v:Value):Prop:=
 match ag with
 | .el _ k n o=>∃(A:Addr) (len cap:Nat),cur[p]? =some (.slice (some A) len cap)/\n < len/\v= .pointer (some ⟨A.block,A.off + n * k + o,none⟩)
 | .hd=>cur[p]? =some v
 | .st m=>∃us:List Value,v= .agg us.toArray/\us.length=m/\∀(j:Nat) (u:Value),us[j]? =some u->cur[p + j]? =some u
def Slot (B:Nat->Nat) (L:Nat->Option LObj) (l:Lab):SV->Value->Prop
 | .no,_=>True
 | .val a,v=>Holds w Pr γ base ow l a v
 | .lp key i off,v=>∃ob,L key=some ob/\v= .pointer (some ⟨B key,i * ob.k + off,none⟩)
 | .la key,v=>∃ob A cap,L key=some ob/\v= .slice A ob.rows.length cap/\LaOk w (B key) ob.k ob.rows.length A cap
 | .lv key i off ag,v=>∃ob cur e,L key=some ob/\w.heap[B key]? =some (.cells cur e (0,0))/\ow (B key)=some (.bk key)/\Zbx cur (i * ob.k + off) ag v
structure Mem (b:Nat) (lc lb:Lab) (frz:Bool) (cells:List AV):Prop where
 mem:∃cur e,w.heap[b]? =some (.cells cur e (0,0))/\cells.length<=cur.size/\(∃F,Reps w Pr γ base cells (cur.toList.take cells.length) F/\F.Nodup/\∀x∈F,ow x=some lc)/\∀i,Pr b i↔(frz=true/\i < cells.length)
 own:ow b=some lb
end defs
structure Glob where
 ng:Nat
 G0:Nat->Option Obj
 γ0:List Nat
 v0:Option Value:=none
structure Inv (GE:Glob) (D:Nat->Prop) (Pr0:Nat->Nat->Prop) (w0:World) (s:St) (tm:Nat->Value) (w:World) (ow:Nat->Option Lab) (Pr:Nat->Nat->Prop) (B:Nat->Nat) (γ:List Nat):Prop where
 ext:Ext D Pr0 w0 w
 oldp:∀b i,b < w0.heap.size->¬D b->(Pr b i↔Pr0 b i)
 inc:∀b i,b < w0.heap.size->Pr0 b i->Pr b i
 slot:∀t,Slot w Pr γ w0.heap.size ow B s.L (.t t) (s.env t) (tm t)
 obj:∀key ob,s.L key=some ob->(ob.rows= []\/Mem w Pr γ w0.heap.size ow (B key) (.o key) (.bk key) ob.frz ob.rows.flatten)/\(∀r∈ob.rows,r.length=ob.k)/\ob.rows.length<=maxLen
 gob:∀id r,s.G[id]? =some r->∃b,γ[id]? =some b/\Mem w Pr γ w0.heap.size ow b (.g id) (.gb id) false r
 glen:γ.length=s.G.length
 prl:∀b i,Pr b i->b < w.heap.size
 owl:∀b l,ow b=some l->b < w.heap.size
 owD:∀b l,ow b=some l->b < w0.heap.size->D b
 ngs:GE.ng<=w.heap.size
 gl:∀b,b < GE.ng->w.heap[b]? =GE.G0 b
 ngo:∀b l,ow b=some l->GE.ng<=b
 gpre:∀i b:Nat,GE.γ0[i]? =some b->γ[i]? =some b
section
variable {w w':World} {Pr Pr':Nat->Nat->Prop} {γ γ':List Nat} {base:Nat} {ow ow':Nat->Option Lab} {B:Nat->Nat} {L:Nat->Option LObj}
 {D:Nat->Prop} {Pr0:Nat->Nat->Prop} {w0:World} {s:St} {tm:Nat->Value} {GE:Glob}
structure Step (w w':World) (Pr Pr':Nat->Nat->Prop) (γ γ':List Nat) (ow ow':Nat->Option Lab):Prop where
 ext:Ext (fun b=>ow b=some .pd) Pr w w'
 inc:∀b i,b < w.heap.size->Pr b i->Pr' b i
 same:∀b i,b < w.heap.size->ow b≠some .pd->(Pr' b i↔Pr b i)
 prl:∀b i,Pr' b i->b < w'.heap.size
 lab:∀b l,l≠ .pd->ow b=some l->ow' b=some l
 owl:∀b l,ow' b=some l->b < w'.heap.size
 old:∀b l,ow' b=some l->b < w.heap.size->∃l',ow b=some l'
 ge:∀i b:Nat,γ[i]? =some b->γ'[i]? =some b
theorem LaOk.ext {b k n:Nat} {A:Option Addr} {cap:Nat} {D':Nat->Prop} {Pq:Nat->Nat->Prop} (he:Ext D' Pq w w') (h:LaOk w b k n A cap):LaOk w' b k n A cap:=by
 rcases h with h | ⟨h1,h2,h3,h4,cur,e,h5,h6⟩
 ·exact .inl h
 ·obtain ⟨cur',h7,h8⟩:=he.shp _ _ _ h5;exact .inr ⟨h1,h2,h3,h4,cur',e,h7,h8.trans h6⟩
theorem Holds.step {l:Lab} {a:AV} {v:Value} (hs:Step w w' Pr Pr' γ γ' ow ow') (hl:l≠ .pd) (hlt:∀b,ow b=some l->b < w.heap.size) (h:Holds w Pr γ base ow l a v):Holds w' Pr' γ' base ow' l a v:=by
 obtain ⟨F,h1,h2,h3⟩:=h;have hnp:∀b∈F,¬ow b=some .pd:=fun b hb=>by rw [h3 b hb];simpa using hl
 exact ⟨F,h1.mono hs.ext hs.inc hs.ge (Uq _) hnp fun b hb i=>hs.same b i (hlt b (h3 b hb)) (hnp b hb),h2,fun b hb=>hs.lab b l hl (h3 b hb)⟩
theorem Mem.step {b:Nat} {lc lb:Lab} {frz:Bool} {cells:List AV} (hs:Step w w' Pr Pr' γ γ' ow ow') (hlc:lc≠ .pd) (hlb:lb≠ .pd) (hlt:∀b l,ow b=some l->b < w.heap.size)
  (h:Mem w Pr γ base ow b lc lb frz cells):Mem w' Pr' γ' base ow' b lc lb frz cells:=by
 obtain ⟨⟨cur,e,h1,hz,⟨F,h2,h3,h4⟩,h5⟩,h6⟩:=h;have hnp:ow b≠some .pd:=by rw [h6];simpa using hlb
 have hb:=hlt b lb h6;have hnf:∀c∈F,¬ow c=some .pd:=fun c hc=>by rw [h4 c hc];simpa using hlc
 exact ⟨⟨cur,e,by rw [hs.ext.blk b hb hnp];exact h1,hz,⟨F,h2.mono hs.ext hs.inc hs.ge (Uq _) hnf fun c hc i=>hs.same c i (hlt c lc (h4 c hc)) (hnf c hc),h3,fun c hc=>hs.lab c lc hlc (h4 c hc)⟩,
  fun i=>(hs.same b i hb hnp).trans (h5 i)⟩,hs.lab b lb hlb h6⟩
theorem Slot.step {l:Lab} {sv:SV} {v:Value} (hs:Step w w' Pr Pr' γ γ' ow ow') (hl:l≠ .pd) (hlt:∀b,ow b=some l->b < w.heap.size) (h:Slot w Pr γ base ow B L l sv v):Slot w' Pr' γ' base ow' B L l sv v:=by
 cases sv with
 |no=>exact trivial
 |val a=>exact Holds.step hs hl hlt h
 |lp key i off=>exact h
 |la key=>
  obtain ⟨ob,A,cap,h1,h2,h3⟩:=h;exact ⟨ob,A,cap,h1,h2,h3.ext hs.ext⟩
 |lv key i off ag=>
  obtain ⟨ob,cur,e,h1,h2,h3,h4⟩:=h;exact ⟨ob,cur,e,h1,(hs.ext.blk _ (YL h2) (by rw [h3];simp)).trans h2,hs.lab _ _ (by simp) h3,h4⟩
theorem Inv.step (h:Inv GE D Pr0 w0 s tm w ow Pr B γ) (hs:Step w w' Pr Pr' γ γ' ow ow') (hg:γ'.length=γ.length):Inv GE D Pr0 w0 s tm w' ow' Pr' B γ' where
 ext:=h.ext.trans hs.ext (fun b hb hp=>h.owD b _ hp hb) (h.inc)
 oldp b i hb hd:=by
  have hn:ow b≠some .pd:=fun hp=>hd (h.owD b _ hp hb)
  exact (hs.same b i (UB hb h.ext.size) hn).trans (h.oldp b i hb hd)
 inc b i hb hp:=hs.inc b i (UB hb h.ext.size) (h.inc b i hb hp)
 slot t:=(h.slot t).step hs (by simp) (fun b hb=>h.owl b _ hb)
 obj key ob hk:=by
  obtain ⟨h1,h2⟩:=h.obj key ob hk;exact ⟨h1.imp id fun h1=>h1.step hs (by simp) (by simp) h.owl,h2⟩
 gob id r hr:=by
  obtain ⟨b,h1,h2⟩:=h.gob id r hr;exact ⟨b,hs.ge _ _ h1,h2.step hs (by simp) (by simp) h.owl⟩
 glen:=hg.trans h.glen
 prl:=hs.prl
 owl:=hs.owl
 owD b l hb hlt:=by
  obtain ⟨l',hl'⟩:=hs.old b l hb (UB hlt h.ext.size);exact h.owD b l' hl' hlt
 ngs:=Mk h.ngs hs.ext.size
 gl b hb:=by
  rw [hs.ext.blk b (UB hb h.ngs) fun hp=>absurd (h.ngo b _ hp) (by omega)];exact h.gl b hb
 ngo b l hb:=by
  rcases U2 b w.heap.size with hlt |hge
  ·obtain ⟨l',hl'⟩:=hs.old b l hb hlt;exact h.ngo b l' hl'
  ·exact Mk h.ngs hge
 gpre i b hb:=hs.ge i b (h.gpre i b hb)
theorem Inv.take {n:Nat} {a:AV} (h:Inv GE D Pr0 w0 s tm w ow Pr B γ) (hn:s.env n= .val a):
  ∃ow1 F,Inv GE D Pr0 w0 {s with env:=upd s.env n (.val a.clr)} tm w ow1 Pr B γ/\Rep w Pr γ w0.heap.size a (tm n) F/\F.Nodup/\(∀b∈F,ow1 b=some .pd)/\(∀b∈F,ow b≠some .pd)/\(∀b,ow b=some .pd->ow1 b=some .pd):=by
 have hsl:=h.slot n;rw [hn] at hsl;obtain ⟨F,h1,h2,h3⟩:=hsl;refine ⟨fun b=>if ow b=some (.t n) then some .pd else ow b,F,?_,h1,h2,fun b hb=>Ul (h3 b hb),fun b hb=>by rw [h3 b hb];simp,fun b hb=>by simp [hb]⟩;have hne:∀b l,l≠ .t n->ow b=some l->(if ow b=some (.t n) then some .pd else ow b)=some l:=fun b l hl hb=>by
  rw [Uf (by rw [hb];simpa using hl)];exact hb
 refine ⟨h.ext,h.oldp,h.inc,fun t=> ?_,fun key ob hk=> ?_,fun id r hr=> ?_,h.glen,h.prl,fun b l hb=> ?_,fun b l hb=> ?_,h.ngs,h.gl,fun b l hb=> ?_,h.gpre⟩
 ·by_cases ht:t=n
  ·subst ht;show Slot _ _ _ _ _ _ _ _ (upd s.env t _ t) _;have:upd s.env t (SV.val a.clr) t=SV.val a.clr:=by simp [upd]
   rw [this];exact ⟨[],h1.clr,UE,fun b hb=>by cases hb⟩
  ·have:upd s.env n (SV.val a.clr) t=s.env t:=by exact ZA _ _ ht
   show Slot _ _ _ _ _ _ _ _ (upd s.env n _ t) _;rw [this];have hst:=h.slot t;cases he:s.env t with
   |no=>exact trivial
   |val c=>
    rw [he] at hst;obtain ⟨G,g1,g2,g3⟩:=hst;exact ⟨G,g1,g2,fun b hb=>hne b _ (by simpa using ht) (g3 b hb)⟩
   |lp key i off=>rw [he] at hst;exact hst
   |la key=>rw [he] at hst;exact hst
   |lv key i off ag=>
    rw [he] at hst;obtain ⟨ob,cur,e,h1,h2,h3,h4⟩:=hst;exact ⟨ob,cur,e,h1,h2,hne _ _ (by simp) h3,h4⟩
 ·obtain ⟨hm,m4⟩:=h.obj key ob hk;refine ⟨hm.imp id fun hm=> ?_,m4⟩;obtain ⟨⟨cur,e,m1,mz,⟨G,g1,g2,g3⟩,m2⟩,m3⟩:=hm;exact ⟨⟨cur,e,m1,mz,⟨G,g1,g2,fun b hb=>hne b _ (by simp) (g3 b hb)⟩,m2⟩,hne _ _ (by simp) m3⟩
 ·obtain ⟨b,hb,⟨⟨cur,e,m1,mz,⟨G,g1,g2,g3⟩,m2⟩,m3⟩⟩:=h.gob id r hr;exact ⟨b,hb,⟨⟨cur,e,m1,mz,⟨G,g1,g2,fun b hb=>hne b _ (by simp) (g3 b hb)⟩,m2⟩,hne _ _ (by simp) m3⟩⟩
 ·by_cases hh:ow b=some (.t n)
  ·exact h.owl b _ hh
  ·rw [Uf hh] at hb;exact h.owl b _ hb
 ·by_cases hh:ow b=some (.t n)
  ·exact h.owD b _ hh
  ·rw [Uf hh] at hb;exact h.owD b _ hb
 ·by_cases hh:ow b=some (.t n)
  ·exact h.ngo b _ hh
  ·rw [Uf hh] at hb;exact h.ngo b _ hb
def Yr (ow:Nat->Option Lab) (F:List Nat) (l:Lab):Nat->Option Lab:=fun b=>if b∈F then some l else ow b
theorem Zby {F:List Nat} {l:Lab} (hF:∀b∈F,ow b=some .pd) {b:Nat} {l':Lab} (hl:l'≠ .pd) (hb:ow b=some l'):Yr ow F l b=some l':=by
 unfold Yr;rw [Uf fun hm=> ?_]
 ·exact hb
 ·rw [hF b hm] at hb;exact hl (Un hb).symm
theorem ZeB {F:List Nat} {l:Lab} (hF:∀b∈F,ow b=some .pd) {b:Nat} {l':Lab} (hb:Yr ow F l b=some l'):∃l2,ow b=some l2:=by
 unfold Yr at hb;split at hb
 ·rename_i h;exact ⟨_,hF b h⟩
 ·exact ⟨_,hb⟩
theorem Inv.put {d:Nat} {a:AV} {v:Value} {F:List Nat} (h:Inv GE D Pr0 w0 s tm w ow Pr B γ) (hr:Rep w Pr γ w0.heap.size a v F) (hd:F.Nodup) (hF:∀b∈F,ow b=some .pd):
  Inv GE D Pr0 w0 {s with env:=upd s.env d (.val a)} (upd tm d v) w (Yr ow F (.t d)) Pr B γ:=by
 refine ⟨h.ext,h.oldp,h.inc,fun t=> ?_,fun key ob hk=> ?_,fun id r hr=> ?_,h.glen,h.prl,fun b l hb=> ?_,fun b l hb=> ?_,h.ngs,h.gl,fun b l hb=> ?_,h.gpre⟩
 ·show Slot _ _ _ _ _ _ _ _ (upd s.env d _ t) (upd tm d v t);by_cases ht:t=d
  ·subst ht;have e1:upd s.env t (SV.val a) t=SV.val a:=by simp [upd]
   have e2:upd tm t v t=v:=by simp [upd]
   rw [e1,e2];exact ⟨F,hr,hd,fun b hb=>Ul hb⟩
  ·have e1:upd s.env d (SV.val a) t=s.env t:=by exact ZA _ _ ht
   have e2:upd tm d v t=tm t:=by exact ZA _ _ ht
   rw [e1,e2];have hst:=h.slot t;cases he:s.env t with
   |no=>exact trivial
   |val c=>
    rw [he] at hst;obtain ⟨G,g1,g2,g3⟩:=hst;exact ⟨G,g1,g2,fun b hb=>Zby hF (by simp) (g3 b hb)⟩
   |lp key i off=>rw [he] at hst;exact hst
   |la key=>rw [he] at hst;exact hst
   |lv key i off ag=>
    rw [he] at hst;obtain ⟨ob,cur,e,h1,h2,h3,h4⟩:=hst;exact ⟨ob,cur,e,h1,h2,Zby hF (by simp) h3,h4⟩
 ·obtain ⟨hm,m4⟩:=h.obj key ob hk;refine ⟨hm.imp id fun hm=> ?_,m4⟩;obtain ⟨⟨cur,e,m1,mz,⟨G,g1,g2,g3⟩,m2⟩,m3⟩:=hm;exact ⟨⟨cur,e,m1,mz,⟨G,g1,g2,fun b hb=>Zby hF (by simp) (g3 b hb)⟩,m2⟩,Zby hF (by simp) m3⟩
 ·obtain ⟨b,hb,⟨⟨cur,e,m1,mz,⟨G,g1,g2,g3⟩,m2⟩,m3⟩⟩:=h.gob id r hr;exact ⟨b,hb,⟨⟨cur,e,m1,mz,⟨G,g1,g2,fun b hb=>Zby hF (by simp) (g3 b hb)⟩,m2⟩,Zby hF (by simp) m3⟩⟩
 ·obtain ⟨l2,h2⟩:=ZeB hF hb;exact h.owl b l2 h2
 ·obtain ⟨l2,h2⟩:=ZeB hF hb;exact h.owD b l2 h2
 ·obtain ⟨l2,h2⟩:=ZeB hF hb;exact h.ngo b l2 h2
theorem Inv.putP {d:Nat} {sv:SV} {v:Value} (h:Inv GE D Pr0 w0 s tm w ow Pr B γ) (hs:Slot w Pr γ w0.heap.size ow B s.L (.t d) sv v):
  Inv GE D Pr0 w0 {s with env:=upd s.env d sv} (upd tm d v) w ow Pr B γ:=by
 refine ⟨h.ext,h.oldp,h.inc,fun t=> ?_,h.obj,h.gob,h.glen,h.prl,h.owl,h.owD,h.ngs,h.gl,h.ngo,h.gpre⟩;show Slot _ _ _ _ _ _ _ _ (upd s.env d _ t) (upd tm d v t);by_cases ht:t=d
 ·subst ht;have e1:upd s.env t sv t=sv:=by simp [upd]
  have e2:upd tm t v t=v:=by simp [upd]
  rw [e1,e2];exact hs
 ·have e1:upd s.env d sv t=s.env t:=by exact ZA _ _ ht
  have e2:upd tm d v t=tm t:=by exact ZA _ _ ht
  rw [e1,e2];exact h.slot t
theorem Inv.forget {d:Nat} {sv:SV} (h:Inv GE D Pr0 w0 s tm w ow Pr B γ) (hs:Slot w Pr γ w0.heap.size ow B s.L (.t d) sv (tm d)):
  Inv GE D Pr0 w0 {s with env:=upd s.env d sv} tm w ow Pr B γ:=by
 have:=h.putP hs;have e:upd tm d (tm d)=tm:=by
  funext t
  by_cases ht:t=d
  ·subst ht;exact ZE _ _ _
  ·exact ZA _ _ ht
 rwa [e] at this
theorem Ext.alloc (D:Nat->Prop) (Pr:Nat->Nat->Prop) (w:World) (o:Obj):Ext D Pr w (w.alloc o) where
 os:=rfl
 tape:=rfl
 output:=rfl
 size:=by simp
 blk b hb _:=heap_alloc_old w o b hb
 cell b i hb _:=by rw [World.cell?_alloc_lt];exact hb
 shp b cur e hb:=⟨cur,by rw [heap_alloc_old w o b (YL hb)];exact hb,rfl⟩
theorem Ext.drew (D:Nat->Prop) (Pr:Nat->Nat->Prop) (w:World):Ext D Pr w w.drew:=
 ⟨rfl,rfl,rfl,Uq _,fun _ _ _=>rfl,fun _ _ _ _=>rfl,fun _ cur _ h=>⟨cur,h,rfl⟩⟩
theorem Ext.draws (D:Nat->Prop) (Pr:Nat->Nat->Prop) (w:World) (n:Nat):Ext D Pr w {w with drawn:=n}:=
 ⟨rfl,rfl,rfl,Uq _,fun _ _ _=>rfl,fun _ _ _ _=>rfl,fun _ cur _ h=>⟨cur,h,rfl⟩⟩
def XV (Pr:Nat->Nat->Prop) (b m:Nat):Nat->Nat->Prop:=fun c i=>Pr c i\/(c=b/\i < m)
theorem Step.alloc (hP:∀b i:Nat,Pr b i->b < w.heap.size) (hw:∀(b:Nat) (l:Lab),ow b=some l->b < w.heap.size) (o:Obj) (m:Nat):
  Step w (w.alloc o) Pr (XV Pr w.heap.size m) γ γ ow (fun b=>if b=w.heap.size then some .pd else ow b) where
 ext:=Ext.alloc _ _ _ _
 inc b i _ h:= .inl h
 same b i hb _:=⟨fun h=>h.elim id fun ⟨e,_⟩=>absurd e (by omega), .inl⟩
 prl b i h:=by
  rw [World.size_alloc];rcases h with h | ⟨rfl,_⟩
  ·exact Nat.lt_succ_of_lt (hP b i h)
  ·omega
 lab b l _ hb:=by
  have:=hw b l hb;show (if b=w.heap.size then _ else _)=_;rw [Uf (by omega)];exact hb
 owl b l hb:=by
  rw [World.size_alloc];by_cases h:b=w.heap.size
  ·omega
  ·have hb':ow b=some l:=by have:=hb;simpa [h] using this
   have:=hw b l hb';omega
 old b l hb hlt:=⟨l,by simpa [show b≠w.heap.size by omega] using hb⟩
 ge _ _ h:=h
theorem Step.draws (hP:∀b i:Nat,Pr b i->b < w.heap.size) (hw:∀(b:Nat) (l:Lab),ow b=some l->b < w.heap.size) (n:Nat):Step w {w with drawn:=n} Pr Pr γ γ ow ow:=
 ⟨Ext.draws _ _ _ _,fun _ _ _ h=>h,fun _ _ _ _=>Ms,hP,fun _ _ _ h=>h,hw,fun _ l h _=>⟨l,h⟩,fun _ _ h=>h⟩
theorem Step.drew (hP:∀b i:Nat,Pr b i->b < w.heap.size) (hw:∀(b:Nat) (l:Lab),ow b=some l->b < w.heap.size):Step w w.drew Pr Pr γ γ ow ow:=
 ⟨Ext.drew _ _ _,fun _ _ _ h=>h,fun _ _ _ _=>Ms,hP,fun _ _ _ h=>h,hw,fun _ l h _=>⟨l,h⟩,fun _ _ h=>h⟩
theorem Step.trans {w2:World} {Pr2:Nat->Nat->Prop} {γ2:List Nat} {ow2:Nat->Option Lab} (h:Step w w' Pr Pr' γ γ' ow ow') (h':Step w' w2 Pr' Pr2 γ' γ2 ow' ow2)
  (hp:∀b,b < w.heap.size->ow' b=some .pd->ow b=some .pd):Step w w2 Pr Pr2 γ γ2 ow ow2 where
 ext:=h.ext.trans h'.ext hp h.inc
 inc b i hb hi:=h'.inc b i (UB hb h.ext.size) (h.inc b i hb hi)
 same b i hb hn:=(h'.same b i (UB hb h.ext.size) fun hh=>hn (hp b hb hh)).trans (h.same b i hb hn)
 prl:=h'.prl
 lab b l hl hb:=h'.lab b l hl (h.lab b l hl hb)
 owl:=h'.owl
 old b l hb hlt:=by
  obtain ⟨l1,h1⟩:=h'.old b l hb (UB hlt h.ext.size);exact h.old b l1 h1 hlt
 ge i b hb:=h'.ge i b (h.ge i b hb)
theorem Inv.newObj {d:Nat} {ob:LObj} {e:TypeId} {vs:Array Value} {F:List Nat} (h:Inv GE D Pr0 w0 s tm w ow Pr B γ) (hL:s.L d=none) (hfz:ob.frz=false)
  (hr:Reps w Pr γ w0.heap.size ob.rows.flatten vs.toList F) (hd:F.Nodup) (hF:∀b∈F,ow b=some .pd) (hk:∀r∈ob.rows,r.length=ob.k) (hm:ob.rows.length<=maxLen):
  Inv GE D Pr0 w0 {s with L:=upd s.L d (some ob)} tm (w.alloc (.cells vs e)) (fun b=>if b=w.heap.size then some (.bk d) else Yr ow F (.o d) b) Pr (upd B d w.heap.size) γ:=by
 have hst:Step w (w.alloc (.cells vs e)) Pr Pr γ γ ow (fun b=>if b=w.heap.size then some (.bk d) else Yr ow F (.o d) b):=by
  refine ⟨Ext.alloc _ _ _ _,fun _ _ _ h=>h,fun _ _ _ _=>Ms,fun b i hp=> ?_,fun b l hl hb=> ?_,fun b l hb=> ?_,fun b l hb hlt=> ?_,fun _ _ h=>h⟩
  ·rw [World.size_alloc];exact Nat.lt_succ_of_lt (h.prl b i hp)
  ·have:=h.owl b l hb;show (if b=w.heap.size then _ else _)=_;rw [Uf (by omega)];exact Zby hF hl hb
  ·rw [World.size_alloc];by_cases hb':b=w.heap.size
   ·omega
   ·have hb2:Yr ow F (.o d) b=some l:=by simpa [hb'] using hb
    obtain ⟨l2,h2⟩:=ZeB hF hb2;have:=h.owl b l2 h2;omega
  ·have hb2:Yr ow F (.o d) b=some l:=by simpa [show b≠w.heap.size by omega] using hb
   exact ZeB hF hb2
 have h1:=h.step hst rfl;have hBne:∀key ob',s.L key=some ob'->upd B d w.heap.size key=B key:=fun key ob' hk'=>by
  have:key≠d:=fun e=>by subst e;rw [hL] at hk';cases hk'
  exact ZA _ _ this
 have hLne:∀key ob',s.L key=some ob'->upd s.L d (some ob) key=some ob':=fun key ob' hk'=>by
  have:key≠d:=fun e=>by subst e;rw [hL] at hk';cases hk'
  rw [ZA _ _ this];exact hk'
 refine ⟨h1.ext,h1.oldp,h1.inc,fun t=> ?_,fun key ob' hk'=> ?_,h1.gob,h1.glen,h1.prl,h1.owl,h1.owD,h1.ngs,h1.gl,h1.ngo,h1.gpre⟩
 ·have hst:=h1.slot t;show Slot _ _ _ _ _ _ _ _ (s.env t) _;cases he:s.env t with
  |no=>exact trivial
  |val c=>rw [he] at hst;exact hst
  |lp key i off=>
   rw [he] at hst;obtain ⟨o1,e1,e2⟩:=hst;exact ⟨o1,hLne _ _ e1,by rw [hBne _ _ e1];exact e2⟩
  |la key=>
   rw [he] at hst;obtain ⟨o1,A,cap,e1,e2⟩:=hst;exact ⟨o1,A,cap,hLne _ _ e1,by rw [hBne _ _ e1];exact e2⟩
  |lv key i off ag=>
   rw [he] at hst;obtain ⟨o1,cur,e,e1,e2⟩:=hst;exact ⟨o1,cur,e,hLne _ _ e1,by rw [hBne _ _ e1];exact e2⟩
 ·by_cases hkd:key=d
  ·subst hkd;have e1:upd s.L key (some ob) key=some ob:=by simp [upd]
   have hk2:upd s.L key (some ob) key=some ob':=hk';rw [e1] at hk2;obtain rfl:=Un hk2;have eB:upd B key w.heap.size key=w.heap.size:=by simp [upd]
   rw [eB];have hcl:=hr.length_eq;rw [Ue] at hcl;refine ⟨.inr ⟨⟨vs,e,heap_alloc_new w _,by omega,⟨F,?_,hd,fun x hx=> ?_⟩,fun i=> ?_⟩,Ul rfl⟩,hk,hm⟩
   ·rw [U4 (by rw [Ue];omega)];exact hr.mono (Ext.alloc (fun _=>False) _ _ _) hst.inc hst.ge (Uq _) (by simp) fun _ _ _=>Ms
   ·have:=h.owl x _ (hF x hx);show (if x=w.heap.size then _ else _)=_;rw [Uf (by omega)];exact Ul hx
   ·rw [hfz];exact ⟨fun hp=>absurd (h.prl _ _ hp) (by omega),fun ⟨hh,_⟩=>by cases hh⟩
  ·have hk2:s.L key=some ob':=(ZA s.L (some ob) hkd).symm.trans hk';rw [hBne _ _ hk2];exact h1.obj key ob' hk2
end
end Go.Fx
