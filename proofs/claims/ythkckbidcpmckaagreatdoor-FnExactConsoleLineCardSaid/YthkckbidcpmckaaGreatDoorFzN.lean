/- Stores: each as one operation of a region. -/
import Derived.Test.YthkckbidcpmckaaGreatDoorFzM
set_option linter.all false
namespace Go.Fx
section
variable {P:Program} {GE:Glob} {nt:Nat} {T:Nat->TD} {β:Type} {K:SV->St->Option β} {r:β} {o:Oper} {s:St}
theorem Reps.splice {w:World} {Pr:Nat->Nat->Prop} {γ:List Nat} {base:Nat} {A M Z N:List AV} {us vs:List Value} {F G:List Nat} (h:Reps w Pr γ base (A ++ (M ++ Z)) us F) (h':Reps w Pr γ base N vs G) (hl:N.length=M.length):
  ∃FA FM FZ,F=FA ++ (FM ++ FZ)/\Reps w Pr γ base (A ++ (N ++ Z)) (us.take A.length ++ (vs ++ us.drop (A.length + vs.length))) (FA ++ (G ++ FZ)):=by
 obtain ⟨FA,F',rfl,h1,h2⟩:=h.split;obtain ⟨FM,FZ,rfl,_,h3⟩:=h2.split;refine ⟨FA,FM,FZ,rfl,?_⟩;have:=h1.append (h'.append h3);rw [MD,←hl,←h'.length_eq] at this;exact this
theorem Ext.row {w:World} {b:Nat} {cur cur':Array Value} {e:TypeId} {Pr:Nat->Nat->Prop} (hw:w.heap[b]? =some (.cells cur e (0,0))) (hsz:cur'.size=cur.size) (hp:∀i,¬Pr b i):Ext (fun c=>c=b) Pr w (w.setRow b cur') where
 os:=rfl
 tape:=rfl
 output:=rfl
 size:=by simp
 blk c hc hn:=setRow_other w b c cur' hn
 cell c i hc hpc:=by
  refine cell_setRow_other w b cur' _ fun e=> ?_
  simp only at e;subst e;exact hp i hpc
 shp c cu ty hc:=by
  by_cases h:c=b
  ·subst h;rw [hw] at hc;cases hc;exact ⟨cur',setRow_heap w c cur cur' e (0,0) hw,hsz⟩
  ·exact ⟨cu,by rw [setRow_other w b c cur' h];exact hc,rfl⟩
section
variable {D:Nat->Prop} {Pr0:Nat->Nat->Prop} {w0:World} {tm:Nat->Value} {w:World} {ow:Nat->Option Lab} {Pr:Nat->Nat->Prop} {B:Nat->Nat} {γ:List Nat} {base:Nat}
theorem ZmI {F:List Nat} {l:Lab} (hF:∀b∈F,ow b=some l\/ow b=some .pd) {b:Nat} {l':Lab} (hl:l'≠ .pd) (hb:ow b=some l'):Yr ow F l b=some l':=by
 unfold Yr;split
 ·rename_i hm;rcases hF b hm with h |h
  ·rw [h] at hb;exact hb
  ·rw [h] at hb;exact absurd (Un hb).symm hl
 ·exact hb
theorem Kt {F:List Nat} {l:Lab} (hF:∀b∈F,ow b=some l\/ow b=some .pd) {b:Nat} {l':Lab} (hb:Yr ow F l b=some l'):∃l2,ow b=some l2:=by
 unfold Yr at hb;split at hb
 ·rename_i h;rcases hF b h with h |h
  ·exact ⟨_,h⟩
  ·exact ⟨_,h⟩
 ·exact ⟨_,hb⟩
theorem Holds.row {w':World} {b:Nat} {ow':Nat->Option Lab} {l:Lab} {a:AV} {v:Value} (he:Ext (fun c=>c=b) Pr w w') (hnb:ow b≠some l) (ho:∀c,ow c=some l->ow' c=some l) (h:Holds w Pr γ base ow l a v):Holds w' Pr γ base ow' l a v:=by
 obtain ⟨F,h1,h2,h3⟩:=h;exact ⟨F,h1.mono he (fun _ _ _ h=>h) (fun _ _ h=>h) (Uq _) (fun c hc e=>hnb (e ▸ h3 c hc)) fun _ _ _=>Ms,h2,fun c hc=>ho c (h3 c hc)⟩
theorem Mem.row {w':World} {b c:Nat} {ow':Nat->Option Lab} {lc lb:Lab} {frz:Bool} {cells:List AV} (he:Ext (fun c=>c=b) Pr w w') (hnb:ow b≠some lc) (hne:c≠b) (hlt:c < w.heap.size) (ho:∀c,ow c=some lc->ow' c=some lc) (ho':ow' c=some lb)
  (h:Mem w Pr γ base ow c lc lb frz cells):Mem w' Pr γ base ow' c lc lb frz cells:=by
 obtain ⟨⟨cur,e,h1,hz,⟨F,h2,h3,h4⟩,h5⟩,h6⟩:=h;exact ⟨⟨cur,e,(he.blk c hlt hne).trans h1,hz,⟨F,h2.mono he (fun _ _ _ h=>h) (fun _ _ h=>h) (Uq _) (fun c hc e=>hnb (e ▸ h4 c hc)) fun _ _ _=>Ms,h3,fun c hc=>ho c (h4 c hc)⟩,h5⟩,ho'⟩
theorem Inv.writeObj {key:Nat} {ob:LObj} {rows:List (List AV)} {cur cur':Array Value} {e:TypeId} {F:List Nat}
  (h:Inv GE D Pr0 w0 s tm w ow Pr B γ) (hnl:∀t i off ag,s.env t≠ .lv key i off ag) (hk:s.L key=some ob) (hne0:ob.rows≠ []) (hz:ob.frz=false) (hw:w.heap[B key]? =some (.cells cur e (0,0))) (hsz:cur'.size=cur.size) (hr:Reps w Pr γ w0.heap.size rows.flatten (cur'.toList.take rows.flatten.length) F) (hn:F.Nodup)
  (hF:∀b∈F,ow b=some (.o key)\/ow b=some .pd) (hl:rows.length=ob.rows.length) (hrk:∀r∈rows,r.length=ob.k):
  Inv GE D Pr0 w0 {s with L:=upd s.L key (some {ob with rows:=rows})} tm (w.setRow (B key) cur') (Yr ow F (.o key)) Pr B γ:=by
 obtain ⟨⟨⟨cur0,e0,m1,mz,_,m2⟩,m3⟩,m4,m5⟩:=h.memObj hk hne0;rw [hw] at m1;cases m1;have hp:∀i,¬Pr (B key) i:=fun i hp=>by
  have:=((m2 i).1 hp).1;rw [hz] at this;cases this
 have he:=Ext.row (Pr:=Pr) hw hsz hp;have hlab:∀{b:Nat} {l':Lab},ow b=some l'->l'≠ .pd->Yr ow F (.o key) b=some l':=fun h2 h1=>ZmI hF h1 h2
 have hBne:∀b l,l≠ .bk key->ow b=some l->b≠B key:=fun b l hl hb e=>by
  subst e;rw [m3] at hb;exact hl (Un hb).symm
 refine ⟨h.ext.trans he (fun b hb e=> ?_) h.inc,h.oldp,h.inc,fun t=> ?_,fun key' ob' hk'=> ?_,fun id r hr=> ?_,h.glen,fun b i hpb=> ?_,fun b l hb=> ?_,fun b l hb=> ?_,?_,fun b hb=> ?_,fun b l hb=> ?_,h.gpre⟩
 ·subst e;exact h.owD _ _ m3 hb
 ·have hst:=h.slot t;show Slot _ _ _ _ _ _ _ _ (s.env t) _;cases hen:s.env t with
  |no=>exact trivial
  |val c=>
   rw [hen] at hst;exact Holds.row he (by rw [m3];simp) (fun c hc=>hlab hc (by simp)) hst
  |lp key' i off=>
   rw [hen] at hst;obtain ⟨o1,e1,e2⟩:=hst;by_cases hkk:key'=key
   ·subst hkk;rw [hk] at e1;cases e1;exact ⟨_,ZE _ _ _,e2⟩
   ·exact ⟨o1,(ZA _ _ hkk).trans e1,e2⟩
  |la key'=>
   rw [hen] at hst;obtain ⟨o1,A,cap,e1,e2,e3⟩:=hst;by_cases hkk:key'=key
   ·subst hkk;rw [hk] at e1;cases e1;exact ⟨_,A,cap,ZE _ _ _,by rw [hl];exact e2,by rw [hl];exact e3.ext he⟩
   ·exact ⟨o1,A,cap,(ZA _ _ hkk).trans e1,e2,e3.ext he⟩
  |lv key' i off ag=>
   rw [hen] at hst;obtain ⟨o1,cu,ty,e1,e2,e3,e4⟩:=hst;have hkk:key'≠key:=fun e=>by subst e;exact hnl t i off ag hen
   exact ⟨o1,cu,ty,(ZA _ _ hkk).trans e1,(he.blk _ (YL e2) (hBne _ _ (by simpa using hkk) e3)).trans e2,hlab e3 (by simp),e4⟩
 ·by_cases hkk:key'=key
  ·subst hkk;have hk2:upd s.L key' (some {ob with rows:=rows}) key'=some ob':=hk';rw [ZE] at hk2;cases hk2;have hfl:rows.flatten.length=ob.rows.flatten.length:=by rw [Yb hrk,Yb m4,hl]
   have hnF:∀b∈F,¬b=B key':=fun b hb e0=>by
    subst e0;rcases hF _ hb with h0 |h0 <;> rw [m3] at h0 <;> cases h0
   refine ⟨.inr ⟨⟨cur',e,setRow_heap w _ cur cur' e (0,0) hw,by rw [hsz,hfl];exact mz,⟨F,hr.mono he (fun _ _ _ h=>h) (fun _ _ h=>h) (Uq _) hnF fun _ _ _=>Ms,hn,fun b hb=>Ul hb⟩,fun i=>by rw [hfl];exact m2 i⟩,hlab m3 (by simp)⟩,hrk,by rw [hl];exact m5⟩
  ·have hk2:s.L key'=some ob':=(ZA s.L _ hkk).symm.trans hk';obtain ⟨h1,h2⟩:=h.obj key' ob' hk2;refine ⟨h1.imp id fun h1=> ?_,h2⟩;have hown:=h1.own;exact h1.row he (by rw [m3];simp) (hBne _ _ (by simpa using hkk) hown) (h.owl _ _ hown) (fun c hc=>hlab hc (by simp)) (hlab hown (by simp))
 ·obtain ⟨b,hb,h1⟩:=h.gob id r hr;have hown:=h1.own;exact ⟨b,hb,h1.row he (by rw [m3];simp) (hBne _ _ (by simp) hown) (h.owl _ _ hown) (fun c hc=>hlab hc (by simp)) (hlab hown (by simp))⟩
 ·rw [setRow_size];exact h.prl b i hpb
 ·obtain ⟨l2,h2⟩:=Kt hF hb;rw [setRow_size];exact h.owl b l2 h2
 ·obtain ⟨l2,h2⟩:=Kt hF hb;exact h.owD b l2 h2
 ·rw [setRow_size];exact h.ngs
 ·rw [he.blk b (UB hb h.ngs) fun e=> ?_]
  ·exact h.gl b hb
  ·subst e;have:=h.ngo _ _ m3;omega
 ·obtain ⟨l2,h2⟩:=Kt hF hb;exact h.ngo b l2 h2
theorem Inv.writeG {id b0:Nat} {row:List AV} {f:List AV->List AV} {cur cur':Array Value} {e:TypeId} {F:List Nat}
  (h:Inv GE D Pr0 w0 s tm w ow Pr B γ) (hk:s.G[id]? =some row) (hg:γ[id]? =some b0) (hw:w.heap[b0]? =some (.cells cur e (0,0))) (hsz:cur'.size=cur.size) (hrl:(f row).length=row.length) (hr:Reps w Pr γ w0.heap.size (f row) (cur'.toList.take (f row).length) F) (hn:F.Nodup)
  (hF:∀b∈F,ow b=some (.g id)\/ow b=some .pd):
  Inv GE D Pr0 w0 {s with G:=X9 s.G id f} tm (w.setRow b0 cur') (Yr ow F (.g id)) Pr B γ:=by
 obtain ⟨b1,hb1,⟨⟨cur0,e0,m1,mz,_,m2⟩,m3⟩⟩:=h.gob id row hk;rw [hg] at hb1;cases hb1;rw [hw] at m1;cases m1;have hp:∀i,¬Pr b0 i:=fun i hp=>by cases ((m2 i).1 hp).1
 have he:=Ext.row (Pr:=Pr) hw hsz hp;have hlab:∀{b:Nat} {l':Lab},ow b=some l'->l'≠ .pd->Yr ow F (.g id) b=some l':=fun h2 h1=>ZmI hF h1 h2
 have hBne:∀b l,l≠ .gb id->ow b=some l->b≠b0:=fun b l hl hb e=>by
  subst e;rw [m3] at hb;exact hl (Un hb).symm
 refine ⟨h.ext.trans he (fun b hb e=> ?_) h.inc,h.oldp,h.inc,fun t=> ?_,fun key' ob' hk'=> ?_,fun id' r hr'=> ?_,?_,fun b i hpb=> ?_,fun b l hb=> ?_,fun b l hb=> ?_,?_,fun b hb=> ?_,fun b l hb=> ?_,h.gpre⟩
 ·subst e;exact h.owD _ _ m3 hb
 ·have hst:=h.slot t;show Slot _ _ _ _ _ _ _ _ (s.env t) _;cases hen:s.env t with
  |no=>exact trivial
  |val c=>
   rw [hen] at hst;exact Holds.row he (by rw [m3];simp) (fun c hc=>hlab hc (by simp)) hst
  |lp key' i off=>rw [hen] at hst;exact hst
  |la key'=>
   rw [hen] at hst;obtain ⟨o1,A,cap,e1,e2,e3⟩:=hst;exact ⟨o1,A,cap,e1,e2,e3.ext he⟩
  |lv key' i off ag=>
   rw [hen] at hst;obtain ⟨o1,cu,ty,e1,e2,e3,e4⟩:=hst;exact ⟨o1,cu,ty,e1,(he.blk _ (YL e2) (hBne _ _ (by simp) e3)).trans e2,hlab e3 (by simp),e4⟩
 ·obtain ⟨h1,h2⟩:=h.obj key' ob' hk';refine ⟨h1.imp (fun x=>x) fun h1=> ?_,h2⟩;have hown:=h1.own;exact h1.row he (by rw [m3];simp) (hBne _ _ (by simp) hown) (h.owl _ _ hown) (fun c hc=>hlab hc (by simp)) (hlab hown (by simp))
 ·have hr2:(s.G.modify id f)[id']? =some r:=hr';rw [Mg] at hr2;by_cases hid:id=id'
  ·subst hid;rw [hk] at hr2;simp at hr2;subst hr2;have hnF:∀b∈F,¬b=b0:=fun b hb e0=>by
    subst e0;rcases hF _ hb with h0 |h0 <;> rw [m3] at h0 <;> cases h0
   exact ⟨b0,hg,⟨cur',e,setRow_heap w _ cur cur' e (0,0) hw,by rw [hsz,hrl];exact mz,⟨F,hr.mono he (fun _ _ _ h=>h) (fun _ _ h=>h) (Uq _) hnF fun _ _ _=>Ms,hn,fun b hb=>Ul hb⟩,fun i=>by rw [hrl];exact m2 i⟩,hlab m3 (by simp)⟩
  ·have hr3:s.G[id']? =some r:=by
    cases hq:s.G[id']? with
    |none=>rw [hq] at hr2;cases hr2
    |some y=>
     rw [hq] at hr2;simpa [Uf hid] using hr2
   obtain ⟨b,hb,h1⟩:=h.gob id' r hr3;have hown:=h1.own;exact ⟨b,hb,h1.row he (by rw [m3];simp) (hBne _ _ (by simpa using fun e=>hid e.symm) hown) (h.owl _ _ hown) (fun c hc=>hlab hc (by simp)) (hlab hown (by simp))⟩
 ·rw [h.glen];simp [X9]
 ·rw [setRow_size];exact h.prl b i hpb
 ·obtain ⟨l2,h2⟩:=Kt hF hb;rw [setRow_size];exact h.owl b l2 h2
 ·obtain ⟨l2,h2⟩:=Kt hF hb;exact h.owD b l2 h2
 ·rw [setRow_size];exact h.ngs
 ·rw [he.blk b (UB hb h.ngs) fun e=> ?_]
  ·exact h.gl b hb
  ·subst e;have:=h.ngo _ _ m3;omega
 ·obtain ⟨l2,h2⟩:=Kt hF hb;exact h.ngo b l2 h2
end
theorem ZmJ (hT:TOk P T) {w:World} {Pr:Nat->Nat->Prop} {γ:List Nat} {base t b off:Nat} {cs:List AV} {v:Value} {F:List Nat} {a:AV} {cur:Array Value} {e:TypeId} (hok:(T t).ok=true) (hw:w.heap[b]? =some (.cells cur e (0,0)))
  (hr:Rep w Pr γ base a v F) (h:cellsN (T t).size a=some cs) (hle:off + (T t).size<=cur.size):
  (Instr.storeAt t (.pointer (some ⟨b,off,none⟩)) v).run P w= .ok () (w.setRow b (cur.toList.take off ++ (v.cells.toList ++ cur.toList.drop (off + v.cells.toList.length))).toArray):=by
 obtain ⟨_,i,h2,h3⟩:=ZmH hT hok;obtain ⟨h4,h5,h6⟩:=hr.cellsN h;have:=run_storeCells_at P b off e v.cells.toList 0 cur w hw (by simp;omega) h5.oneCell;simp only [MZ,Uw] at this;simp [Instr.storeAt,Instr.sureAddr,storeVar,sizeOf,typeInfo,h2,h3,h4] at this ⊢;exact this
theorem Ku {α:Type} (f:Nat->α) (n:Nat) (u v:α):upd (upd f n u) n v=upd f n v:=by
 funext i
 by_cases hi:i=n
 ·subst hi;rw [ZE,ZE]
 ·rw [ZA _ _ hi,ZA _ _ hi,ZA _ _ hi]
theorem set_set {rows:List (List AV)} {i:Nat} {row:List AV} (hlt:i < rows.length) (f:List AV->List AV):X9 (rows.set i row) i f=rows.set i (f row):=by
 apply UV;intro j;unfold X9;rw [Mg,U6,U6];by_cases hj:i=j
 ·subst hj;simp [hlt]
 ·simp only [Uf hj];cases rows[j]? <;> rfl
theorem Inv.weakRow {D:Nat->Prop} {Pr0:Nat->Nat->Prop} {w0:World} {tm:Nat->Value} {w:World} {ow:Nat->Option Lab} {Pr:Nat->Nat->Prop} {B:Nat->Nat} {γ:List Nat} {key i:Nat} {ob:LObj} {row0 row:List AV}
  (h:Inv GE D Pr0 w0 s tm w ow Pr B γ) (hk:s.L key=some ob) (hi:ob.rows[i]? =some row0) (hle:Les row0 row):
  Inv GE D Pr0 w0 {s with L:=upd s.L key (some {ob with rows:=ob.rows.set i row})} tm w ow Pr B γ:=by
 obtain ⟨⟨⟨cur,e,m1,mz,⟨F,m2,m3,m4⟩,m5⟩,m6⟩,m7,m8⟩:=h.memObj hk (VG hi);obtain ⟨F',hsub,_,m7',m2'⟩:=Zal m7 m2 hi hle;have hfl:(ob.rows.set i row).flatten.length=ob.rows.flatten.length:=by rw [Yb m7',Yb m7,UU]
 have:=h.takeObj (M:= []) hk m1 (by rw [hfl];exact m2') (m3.sublist hsub) (fun b hb=>m4 b (hsub.subset hb)) (by simp) (by simp) (by simp) m7';have e2:Yr ow [] .pd=ow:=by funext b;simp [Yr]
 rwa [e2] at this
theorem Inv.nolv {D:Nat->Prop} {Pr0:Nat->Nat->Prop} {w0:World} {tm:Nat->Value} {w:World} {ow:Nat->Option Lab} {Pr:Nat->Nat->Prop} {B:Nat->Nat} {γ:List Nat}
  (h:Inv GE D Pr0 w0 s tm w ow Pr B γ) (key:Nat):Inv GE D Pr0 w0 {s with env:=Fx.nolv key s.env} tm w ow Pr B γ:=by
 refine ⟨h.ext,h.oldp,h.inc,fun t=> ?_,h.obj,h.gob,h.glen,h.prl,h.owl,h.owD,h.ngs,h.gl,h.ngo,h.gpre⟩;have hst:=h.slot t;show Slot _ _ _ _ _ _ _ _ (Fx.nolv key s.env t) _;unfold Fx.nolv;cases he:s.env t with
 |lv k i off ag=>
  cases hk:Nat.beq k key with
  |true=>simp only [hk,Ut];exact trivial
  |false=>simp only [hk,Ur];rw [he] at hst;exact hst
 |no=>exact trivial
 |val c=>rw [he] at hst;exact hst
 |lp key i off=>rw [he] at hst;exact hst
 |la key=>rw [he] at hst;exact hst
theorem ZmK (f:Nat->SV) (t key i off:Nat) (ag:Ag):Fx.nolv key f t≠ .lv key i off ag:=by
 unfold Fx.nolv;cases f t with
 |lv k i' off' ag'=>
  simp only;cases hk:Nat.beq k key with
  |true=>simp
  |false=>
   simp only [Ur,ne_eq,SV.lv.injEq,not_and];intro e;subst e;rw [MC] at hk;cases hk
 | _=>simp
theorem ZmL {α:Type} {l vs:List α} {X m:Nat} (h:X + vs.length<=m) (hm:m<=l.length):
  (l.take X ++ (vs ++ l.drop (X + vs.length))).take m=(l.take m).take X ++ (vs ++ (l.take m).drop (X + vs.length)):=by
 apply UV;intro i;simp only [UA,List.getElem?_append,Uc,US]
 grind
theorem ZBo {E:Ctx} (hT:TOk P T) {t:Nat} {x v:Operand} {tk:Bool} {cf:Value->Option AV} (hcf:CfOk cf) (ho:o.op= .store t x v) (hok:(T t).ok=true)
  (h:rd tk cf v s (fun v s1=>match v with
   | .val a=>rd false (fun _=>none) x s1 fun p s2=>Qo E (T t) p a s2 K
   | _=>none)=some r):∃sv s1,K sv s1=some r/\ZU P GE nt o s sv s1:=by
 obtain ⟨sv,s1,h,hr⟩:=Xj (GE:=GE) hcf h;split at h
 case h_2=>cases h
 rename_i av;obtain ⟨sp,s2,h,hp⟩:=Xj (GE:=GE) CfOk.none h;unfold Qo at h;split at h
 ·rename_i key i off;split at h
  ·rename_i ob hL;cases hz:ob.frz with
   |true=>rw [hz] at h;cases h
   |false=>
   rw [hz] at h;simp only [Ur] at h;unfold ZZ at h;split at h
   ·rename_i row0 hrow0;obtain ⟨px,hles,h⟩:=(E.ro key).ok _ _ _ h;generalize (E.ro key).enc px=row at hles h;obtain ⟨cs,hcs,h⟩:=ZG h;split at h
    ·rename_i hle;refine ⟨_,_,h,fun D Pr0 w0 a w ⟨ow,Pr,B,γ,hi,hd,hn⟩ hokd next Q hnext=> ?_⟩;obtain ⟨ow1,h1,_,F,f1,f2,f3,f4⟩:=hr.ok hi;obtain ⟨ow2,h2,hpd,h3⟩:=hp.ok h1;obtain ⟨ob',h4,h5⟩:=h3;rw [hL] at h4;cases h4;have hlt:i < ob.rows.length:=(List.getElem?_eq_some_iff.1 hrow0).1;have hw:=(h2.weakRow hL hrow0 hles).nolv key;obtain ⟨obw,eobw⟩:∃o:LObj,o={ob with rows:=ob.rows.set i row}:=⟨_,rfl⟩
     have hLw:upd s2.L key (some obw) key=some obw:=ZE _ _ _;have hkw:obw.k=ob.k:=by rw [eobw]
     have hzw:obw.frz=false:=by rw [eobw];exact hz
     have hrow:obw.rows[i]? =some row:=by rw [eobw];simp [hlt]
     have hst:({env:=Fx.nolv key s2.env,G:=s2.G,L:=upd (upd s2.L key (some obw)) key (some {obw with rows:=X9 obw.rows i fun r=>ZL r off cs})}:St)={s2 with env:=Fx.nolv key s2.env,L:=upd s2.L key (some {ob with rows:=ob.rows.set i (ZL row off cs)})}:=by
      rw [Ku,eobw];simp only [set_set hlt]
     rw [←eobw] at hw;obtain ⟨⟨⟨cur,e,m1,mz,⟨F',m2,m3,m4⟩,m5⟩,m6⟩,m7,m8⟩:=hw.memObj hLw (VG hrow);obtain ⟨p,q,q1,q2,q3⟩:=Zak m7 hrow;obtain ⟨c1,c2,c3⟩:=f1.cellsN hcs;have hrl:=m7 row (Uk hrow);have hA:obw.rows.flatten=(p ++ row.take off) ++ ((row.drop off).take (T t).size ++ (row.drop (off + (T t).size) ++ q)):=by
      rw [q1];have e1:(row.drop off).take (T t).size ++ row.drop (off + (T t).size)=row.drop off:=by rw [←MD,Up]
      have e2:row.take off ++ ((row.drop off).take (T t).size ++ row.drop (off + (T t).size))=row:=by rw [e1,Up]
      have:p ++ ((row.take off ++ ((row.drop off).take (T t).size ++ row.drop (off + (T t).size))) ++ q)=p ++ (row ++ q):=by rw [e2]
      rw [←this];simp only [Uw]
     have hcl2:p.length + (row.length + q.length)=obw.rows.flatten.length:=by
      rw [q1];simp only [Uh]
     have m2x:=m2;generalize hmm:obw.rows.flatten.length=mm at m2x mz hcl2;rw [hA] at m2x;obtain ⟨FA,FM,FZ,rfl,s1⟩:=m2x.splice c2 (by rw [Uc,Uu];omega);have hpl:(p ++ row.take off).length=i * obw.k + off:=by rw [Uh,Uc,q2];omega
     rw [hpl] at s1;have hrun:=ZmJ (b:=B key) (off:=i * obw.k + off) hT hok m1 f1 hcs (by omega);have nd1:=List.nodup_append.1 m3;have nd2:=List.nodup_append.1 nd1.2.1;have hpdF:∀b∈F,ow2 b=some .pd:=fun b hb=>hpd b (f3 b hb)
     have hnd:(FA ++ (F ++ FZ)).Nodup:=List.nodup_append.2 ⟨nd1.1,List.nodup_append.2 ⟨f2,nd2.2.1,fun x hx y hy e=>by
       subst e;have:=m4 x (by simp [hy]);rw [hpdF x hx] at this;cases this⟩,fun x hx y hy e=>by
       subst e;rcases List.mem_append.1 hy with hy |hy
       ·have:=m4 x (by simp [hx]);rw [hpdF x hy] at this;cases this
       ·exact nd1.2.2 x hx x (by simp [hy]) rfl⟩
     have hsa:∀x∈X9 obw.rows i (fun r=>ZL r off cs),x.length=obw.k:=ZBm m7 fun x hx=>by
      rw [hrow] at hx;cases hx;simp only [ZL,Uh,Uc,Uu];omega
     have hfl2:(X9 obw.rows i fun r=>ZL r off cs).flatten.length=mm:=by
      rw [Yb hsa,ZrB,←Yb m7,hmm]
     have hvl:(a.eval v).cells.toList.length=(T t).size:=by rw [Ue];exact c1
     have hinv:=hw.writeObj (rows:=X9 obw.rows i fun r=>ZL r off cs) (cur':=(cur.toList.take (i * obw.k + off) ++ ((a.eval v).cells.toList ++ cur.toList.drop (i * obw.k + off + (a.eval v).cells.toList.length))).toArray) (fun t i off ag=>ZmK _ _ _ _ _ _) hLw (VG hrow) hzw m1 (by
       simp only [UR,Uh,Uc,Uu,Ue];omega) (F:=FA ++ (F ++ FZ)) (by
       rw [hfl2];rw [ZmL (by rw [hvl];omega) (by rw [Ue];exact mz)];show Reps _ _ _ _ (obw.rows.modify i fun r=>ZL r off cs).flatten _ _;rw [q3];unfold ZL;rw [c3];simpa only [Uw] using s1) hnd (fun b hb=>by
       rcases List.mem_append.1 hb with hb |hb
       ·exact .inl (m4 b (by simp [hb]))
       ·rcases List.mem_append.1 hb with hb |hb
        ·exact .inr (hpdF b hb)
        ·exact .inl (m4 b (by simp [hb]))) (ZrB _ _ _) hsa
     have hinv2:=hinv;dsimp only at hinv2;rw [hst,hz] at hinv2;rw [←hkw] at h5;exact Zmx (by simp [execOp,ho,h5,hrun]) (hnext _ _ (Z2 hinv2 hd hn hokd trivial))
    ·cases h
   ·cases h
  ·cases h
 ·rename_i id off;split at h
  ·rename_i row hrow;obtain ⟨cs,hcs,h⟩:=ZG h;split at h
   ·rename_i hle;refine ⟨_,_,h,fun D Pr0 w0 a w ⟨ow,Pr,B,γ,hi,hd,hn⟩ hokd next Q hnext=> ?_⟩;obtain ⟨ow1,h1,_,F,f1,f2,f3,f4⟩:=hr.ok hi;obtain ⟨ow2,h2,hpd,F0,h3,_⟩:=hp.ok h1;generalize hv:a.eval x=pv at h3;cases h3 with
    | @gp _ _ b hb=>
    obtain ⟨b',hb',⟨⟨cur,e,m1,mz,⟨F',m2,m3,m4⟩,m5⟩,m6⟩⟩:=h2.gob id row hrow;rw [hb] at hb';cases hb';obtain ⟨c1,c2,c3⟩:=f1.cellsN hcs;have hA:row=row.take off ++ ((row.drop off).take (T t).size ++ row.drop (off + (T t).size)):=by
     rw [←MD,Up,Up]
    have hrow':=hrow;have m2x:=m2;generalize hmm:row.length=mm at m2x mz hle;rw [hA] at m2x;obtain ⟨FA,FM,FZ,rfl,s1⟩:=m2x.splice c2 (by rw [Uc,Uu];omega);have hpl:(row.take off).length=off:=by rw [Uc];omega
    rw [hpl] at s1;have hrun:=ZmJ (b:=b) (off:=off) hT hok m1 f1 hcs (by omega);have nd1:=List.nodup_append.1 m3;have nd2:=List.nodup_append.1 nd1.2.1;have hpdF:∀b∈F,ow2 b=some .pd:=fun b hb=>hpd b (f3 b hb)
    have hnd:(FA ++ (F ++ FZ)).Nodup:=List.nodup_append.2 ⟨nd1.1,List.nodup_append.2 ⟨f2,nd2.2.1,fun x hx y hy e=>by
      subst e;have:=m4 x (by simp [hy]);rw [hpdF x hx] at this;cases this⟩,fun x hx y hy e=>by
      subst e;rcases List.mem_append.1 hy with hy |hy
      ·have:=m4 x (by simp [hx]);rw [hpdF x hy] at this;cases this
      ·exact nd1.2.2 x hx x (by simp [hy]) rfl⟩
    have hvl:(a.eval v).cells.toList.length=(T t).size:=by rw [Ue];exact c1
    have hsl:(ZL row off cs).length=mm:=by
     simp only [ZL,Uh,Uc,Uu];omega
    have hinv:=h2.writeG (f:=fun r=>ZL r off cs) (cur':=(cur.toList.take off ++ ((a.eval v).cells.toList ++ cur.toList.drop (off + (a.eval v).cells.toList.length))).toArray) hrow' hb m1 (by
      simp only [UR,Uh,Uc,Uu,Ue];omega) (F:=FA ++ (F ++ FZ)) (hsl.trans hmm.symm) (by
      show Reps _ _ _ _ (ZL row off cs) (List.take (ZL row off cs).length _) _;rw [hsl,ZmL (by rw [hvl];omega) (by rw [Ue];exact mz)];unfold ZL;rw [c3];simpa only [Uw] using s1) hnd (fun b hb=>by
      rcases List.mem_append.1 hb with hb |hb
      ·exact .inl (m4 b (by simp [hb]))
      ·rcases List.mem_append.1 hb with hb |hb
       ·exact .inr (hpdF b hb)
       ·exact .inl (m4 b (by simp [hb])))
    exact Zmx (by simp [execOp,ho,hv,hrun]) (hnext _ _ (Z2 hinv hd hn hokd trivial))
   ·cases h
  ·cases h
 ·cases h
end
end Go.Fx
