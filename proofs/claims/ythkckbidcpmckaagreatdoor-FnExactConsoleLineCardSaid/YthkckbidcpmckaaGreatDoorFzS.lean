/- Calls: each as one operation of a region. -/
import Derived.Test.YthkckbidcpmckaaGreatDoorFzR
import Derived.Calls
set_option linter.all false
namespace Go.Fx
def ZeF (Q:Value->World->Prop):Ending->World->Prop
 | .returned v,w=>Q v w
 | _,_=>False
def CallPost (D:Nat->Prop) (w:World) (Pr:Nat->Nat->Prop) (γ:List Nat) (res:AV) (g':GS) (v:Value) (w':World):Prop:=
 ∃ow' Pr' γ' H,Ext D Pr w w'/\(∀b i,b < w.heap.size->¬D b->(Pr' b i↔Pr b i))/\(∀b i,b < w.heap.size->Pr b i->Pr' b i)/\
  Rep w' Pr' γ' w.heap.size res v H/\H.Nodup/\(∀b∈H,ow' b=some .pd)/\
  (∀id r,g'[id]? =some r->∃b,γ'[id]? =some b/\Mem w' Pr' γ' w.heap.size ow' b (.g id) (.gb id) false r)/\γ'.length=g'.length/\(∀i b:Nat,γ[i]? =some b->γ'[i]? =some b)/\
  (∀b i,Pr' b i->b < w'.heap.size)/\(∀b l,ow' b=some l->b < w'.heap.size)/\(∀b l,ow' b=some l->b < w.heap.size->D b)
def Spec (P:Program) (ng:Nat) (G0:Nat->Option Obj) (f:Nat) (args:List AV) (g:GS) (res:AV) (g':GS):Prop:=
 ∀(w:World) (Pr:Nat->Nat->Prop) (γ:List Nat) (owg:Nat->Option Lab) (vs:List Value) (F:List Nat),
  RepL w Pr γ w.heap.size args vs F->F.Nodup->(∀b∈F,owg b=none)->(∀b l,owg b=some l->∃id,l= .g id\/l= .gb id)->
  (∀id r,g[id]? =some r->∃b,γ[id]? =some b/\Mem w Pr γ w.heap.size owg b (.g id) (.gb id) false r)->γ.length=g.length->
  (∀b i,Pr b i->b < w.heap.size)->(∀b,b∈F\/owg b≠none->b < w.heap.size)->ng<=w.heap.size->(∀b,b < ng->w.heap[b]? =G0 b)->(∀b,b∈F\/owg b≠none->ng<=b)->
  (callFunc f vs.toArray).run P w= .ok (.enter f vs.toArray) w/\Calls P f vs.toArray w (ZeF (CallPost (fun b=>b∈F\/owg b≠none) w Pr γ res g'))
def VH (P:Program) (ng:Nat) (G0:Nat->Option Obj) (f:Nat) (en:Entry):Prop:=
 ∀x r,en.S x=some r->Spec P ng G0 f (en.ps.enc x).1 (en.ps.enc x).2 (en.rs.enc r).1 (en.rs.enc r).2
def Xq (P:Program) (ng:Nat) (G0:Nat->Option Obj) (C:Nat->Nat->Option Entry):Prop:=∀f v en,C f v=some en->VH P ng G0 f en
section
variable {P:Program} {GE:Glob} {nt:Nat} {T:Nat->TD} {β:Type} {K:SV->St->Option β} {r:β} {o:Oper} {s:St}
variable {D:Nat->Prop} {Pr0:Nat->Nat->Prop} {w0:World} {tm:Nat->Value} {w w':World} {ow:Nat->Option Lab} {Pr:Nat->Nat->Prop} {B:Nat->Nat} {γ:List Nat} {base:Nat}
theorem Ext.weaken {D D':Nat->Prop} (h:Ext D Pr w w') (hd:∀b,D b->D' b):Ext D' Pr w w':=
 ⟨h.os,h.tape,h.output,h.size,fun b hb hn=>h.blk b hb fun h=>hn (hd b h),h.cell,h.shp⟩
mutual
theorem Rep.nog {γ':List Nat} {a:AV} {v:Value} {F:List Nat}:a.ng=true->Rep w Pr γ base a v F->Rep w Pr γ' base a v F
 | _, .lit h=> .lit h
 | _, .agg h=> .agg (Reps.nog h)
 |hn, .tup h=>by cases hn
 | _, .fn h=> .fn (Reps.nog h)
 | _, .rp h1 h2 h3 h4 h=> .rp h1 h2 h3 h4 (Reps.nog h)
 |hn, .gp h=>by cases hn
 | _, .nilq h=> .nilq h
 | _, .opq=> .opq
 | _, .unil=> .unil
 | _, .unq h1 h2 h0 h3 h4 h5 h6 h7 h h8=> .unq h1 h2 h0 h3 h4 h5 h6 h7 (Reps.nog h) h8
 | _, .shr h2 h3 h4 h5 h h6=> .shr h2 h3 h4 h5 (Reps.nog h) h6
 | _, .nil=> .nil
 | _, .own h1 h2 h3 h4 h5 h6 h7 h h8 hpos=> .own h1 h2 h3 h4 h5 h6 h7 (Reps.nog h) h8 hpos
theorem Reps.nog {γ':List Nat} {cs:List AV} {vs:List Value} {F:List Nat}:Reps w Pr γ base cs vs F->Reps w Pr γ' base cs vs F
 | .nil=> .nil
 | .cons h1 h h'=> .cons h1 (Rep.nog (by rename_i a _ _ _ _ _;cases a <;> first |rfl |cases h1) h) (Reps.nog h')
end
theorem RepL.nog {γ':List Nat} {cs:List AV} {vs:List Value} {F:List Nat} (hn:cs.all AV.ng=true) (h:RepL w Pr γ base cs vs F):RepL w Pr γ' base cs vs F:=by
 induction cs generalizing vs F with
 |nil=>cases h;exact .nil
 |cons a as ih=>
  cases h with
  |cons h1 h2=>
   rw [MA,Ub] at hn;exact .cons (h1.nog hn.1) (ih hn.2 h2)
theorem Reps.toL {cs:List AV} {vs:List Value} {F:List Nat} (h:Reps w Pr γ base cs vs F):RepL w Pr γ base cs vs F:=by
 induction cs generalizing vs F with
 |nil=>cases h;exact .nil
 |cons a as ih=>cases h with |cons _ h1 h2=>exact .cons h1 (ih h2)
theorem Les.ng {as bs:List AV} (h:Les as bs) (hn:as.all AV.ng=true):bs.all AV.ng=true:=by
 induction h with
 |nil=>rfl
 |cons h1 _ ih=>
  rw [MA,Ub] at hn ⊢;exact ⟨h1.ng hn.1,ih hn.2⟩
theorem Mem.le {b:Nat} {lc lb:Lab} {frz:Bool} {cells cells':List AV} (h:Mem w Pr γ base ow b lc lb frz cells) (hl:Les cells cells'):Mem w Pr γ base ow b lc lb frz cells':=by
 obtain ⟨⟨cur,e,h1,hz,⟨F,h2,h3,h4⟩,h5⟩,h6⟩:=h;obtain ⟨F',hs,h2'⟩:=hl.reps h2;exact ⟨⟨cur,e,h1,by rw [hl.length];exact hz,⟨F',by rw [hl.length];exact h2',h3.sublist hs,fun x hx=>h4 x (hs.subset hx)⟩,fun i=>by rw [hl.length];exact h5 i⟩,h6⟩
theorem Less.at {xs ys:List (List AV)} (h:Less xs ys):∀{i:Nat} {y:List AV},ys[i]? =some y->∃x,xs[i]? =some x/\Les x y:=by
 induction h with
 |nil=>intro i y h;simp at h
 |cons h1 _ ih=>
  intro i y h;cases i with
  |zero=>
   simp at h;subst h;exact ⟨_,rfl,h1⟩
  |succ i=>
   obtain ⟨x,h2,h3⟩:=ih (Mq ▸ h);exact ⟨x,by simpa using h2,h3⟩
def Zam (tk:Bool) (a:AV):AV:=bif tk then a else a.clr
theorem ZrJ {base':Nat} {tk:Bool} {cs:List AV} {vs:List Value} {F:List Nat} (h:RepL w Pr γ base cs vs F):∃F',RepL w Pr γ base' (cs.map (Zam tk)) vs F'/\(F'=F\/F'= []):=by
 cases tk with
 |true=>
  have:cs.map (Zam true)=cs:=by
   have:Zam true=id:=rfl;rw [this,FC]
  exact ⟨F,by rw [this];exact h.drop', .inl rfl⟩
 |false=>
  have:cs.map (Zam false)=clrs cs:=by rw [ZgV];rfl
  exact ⟨[],by rw [this];exact h.drop, .inr rfl⟩
theorem ZmR {E:Ctx} {tk:Bool}:∀{xs:List Operand} {ts:List Nat} {s:St} {K:List AV->St->Option β},VB E tk xs ts s K=some r->
  ∃as s1,K (as.map (Zam tk)) s1=some r/\RdsOk GE s s1 xs as
 | [],ts,s,K,h=>⟨[],s,h, .nil⟩
 |x::xs,ts,s,K,h=>by
  simp only [VB] at h;obtain ⟨sv,s1,h,hr⟩:=Xj (GE:=GE) (CfOk.constA _) h;split at h
  case h_2=>cases h
  rename_i a;obtain ⟨as,s2,h,h1⟩:=ZmR h;exact ⟨a::as,s2,h, .cons hr h1⟩
theorem ZrK {F:List Nat} {res:AV} {v:Value} (hp:CallPost (fun b=>b∈F\/(none:Option Lab)≠none) w Pr [] res [] v w') (hF:∀b∈F,ow b=some .pd) (howl:∀b l,ow b=some l->b < w.heap.size) (base':Nat):
  ∃Pr' ow' H,Step w w' Pr Pr' γ γ ow ow'/\Rep w' Pr' γ base' res v H/\H.Nodup/\∀b∈H,ow' b=some .pd:=by
 obtain ⟨ow1,Pr',γ',H,h1,h2,h3,h4,h5,h6,_,h8,_,h10,h11,h12⟩:=hp;have hg:γ'= []:=Us (by simpa using h8);subst hg;have hD:∀b,(b∈F\/(none:Option Lab)≠none)->ow b=some .pd:=fun b hb=>hb.elim (hF b) (fun h=>absurd rfl h)
 refine ⟨Pr',fun b=>if b∈H then some .pd else ow b,H,⟨h1.weaken hD,h3,fun b i hb hn=>h2 b i hb fun hd=>hn (hD b hd),h10,fun b l hl hb=> ?_,fun b l hb=> ?_,fun b l hb hlt=> ?_,fun _ _ h=>h⟩,?_,h5,fun b hb=>Ul hb⟩
 ·show (if b∈H then _ else _)=_;split
  ·rename_i hm;have:=hD b (h12 b _ (h6 b hm) (howl b l hb));rw [hb] at this;exact absurd (Un this) hl
  ·exact hb
 ·have hb':(if b∈H then some Lab.pd else ow b)=some l:=hb;split at hb'
  ·rename_i hm;exact h11 b _ (h6 b hm)
  ·exact UB (howl b l hb') h1.size
 ·have hb':(if b∈H then some Lab.pd else ow b)=some l:=hb;split at hb'
  ·rename_i hm;exact ⟨_,hD b (h12 b _ (h6 b hm) hlt)⟩
  ·exact ⟨_,hb'⟩
 ·exact (h4.drop' (base':=base')).mono (Ext.refl (fun _=>False) Pr' w') (fun _ _ _ h=>h) (fun i b h=>by simp at h) (Uq _) (by simp) fun _ _ _=>Ms
theorem ZrL {E:Ctx} {tk:Bool} {f vr:Nat} {xs:List Operand} {extra:List AV} {s1:St} {as:List AV} (hC:Xq P GE.ng GE.G0 E.C)
  (hrd:RdsOk GE s s1 xs as) (h:Zbo E f vr (as.map (Zam tk) ++ extra) s1 K=some r)
  (hrun:∀{D:Nat->Prop} {Pr0:Nat->Nat->Prop} {w0:World} {a:Act} {w:World} {ow:Nat->Option Lab} {Pr:Nat->Nat->Prop} {B:Nat->Nat} {γ:List Nat},
   Inv GE D Pr0 w0 s (ZP a) w ow Pr B γ->∃us,RepL w Pr γ w.heap.size extra us []/\(execOp a.eval o).run P w=(callFunc f (xs.map a.eval ++ us).toArray).run P w):∃sv s2,K sv s2=some r/\ZU P GE nt o s sv s2:=by
 unfold Zbo at h;split at h
 ·cases h
 rename_i en hen;cases hng:(as.map (Zam tk) ++ extra).all AV.ng with
 |false=>rw [hng] at h;cases h
 |true=>
 rw [hng] at h;simp only [Ut] at h;obtain ⟨r0,hc,h⟩:=ZG h;obtain ⟨x0,⟨hle,hlg⟩,hS⟩:=en.ps.ok _ _ _ hc;have hsp:=hC f vr en hen x0 r0 hS;have hg0:(en.ps.enc x0).2= []:=Us hlg.length;rw [hg0] at hsp;rw [en.rs.spl_eq] at h;split at h
 case h_2=>cases h
 rename_i hg1;rw [hg1] at hsp;refine ⟨_,_,h,fun D Pr0 w0 a w ⟨ow,Pr,B,γ,hi,hd,hn⟩ hok next Q hnext=> ?_⟩;obtain ⟨us,hus,hex⟩:=hrun hi;obtain ⟨ow1,h1,h2,F,f1,f2,f3,f4⟩:=hrd.ok hi;obtain ⟨F',hargs,hF'⟩:=ZrJ (base':=w.heap.size) (tk:=tk) f1;have hall:=(hargs.append hus).nog (γ':= []) hng;rw [UK] at hall;have hnd:F'.Nodup:=by rcases hF' with rfl |rfl;exact f2;exact UE
 have hpd:∀b∈F',ow1 b=some .pd:=by rcases hF' with rfl |rfl;exact f3;simp
 obtain ⟨F2,hsub,hall2⟩:=hle.repl hall;have hnd2:=hnd.sublist hsub;have hpd2:∀b∈F2,ow1 b=some .pd:=fun b hb=>hpd b (hsub.subset hb)
 obtain ⟨hent,hcalls⟩:=hsp w Pr [] (fun _=>none) _ F2 hall2 hnd2 (by simp) (by simp) (by simp) rfl h1.prl (fun b hb=>h1.owl b _ (hpd2 b (by simpa using hb))) h1.ngs h1.gl (fun b hb=>h1.ngo b _ (hpd2 b (by simpa using hb)));unfold Oper.wp;rw [hex,hent,Oper.upon_enter];refine hcalls.mono fun e w' he=> ?_
 cases e with
 |returned v=>
  have hp:CallPost _ w Pr [] (en.rs.enc r0).1 [] v w':=he;obtain ⟨Pr',ow',H,q1,q2,q3,q4⟩:=ZrK (γ:=γ) hp hpd2 h1.owl w0.heap.size;exact hnext _ _ (Z2 (h1.step q1 rfl) hd hn hok ⟨H,q2,q3,q4⟩)
 |panicked _=>exact he.elim
 |outgrown=>exact he.elim
def Vb:Option Lab->Option Lab
 |some (.g i)=>some (.g i)
 |some (.gb i)=>some (.gb i)
 | _=>none
theorem Zhm {x:Option Lab} {l:Lab} (h:Vb x=some l):x=some l/\∃id,l= .g id\/l= .gb id:=by
 unfold Vb at h;split at h
 ·cases h;exact ⟨rfl,_, .inl rfl⟩
 ·cases h;exact ⟨rfl,_, .inr rfl⟩
 ·cases h
def after (ow ow':Nat->Option Lab) (F:List Nat) (b:Nat):Option Lab:=
 match ow' b with
 |some .pd=>some .pd
 |some (.g i)=>some (.g i)
 |some (.gb i)=>some (.gb i)
 | _=>if b∈F then none else match ow b with
  |some (.g _)=>none
  |some (.gb _)=>none
  |l=>l
theorem ZmS {ow':Nat->Option Lab} {F:List Nat} {b:Nat} {l:Lab} (h:after ow ow' F b=some l):ow' b=some l\/(ow b=some l/\b∉F):=by
 unfold after at h;split at h
 ·rename_i e;cases h;exact .inl e
 ·rename_i e;cases h;exact .inl e
 ·rename_i e;cases h;exact .inl e
 ·split at h
  ·cases h
  ·rename_i hF;split at h
   ·cases h
   ·cases h
   ·exact .inr ⟨h,hF⟩
theorem ZBE {ow':Nat->Option Lab} {F:List Nat} {b:Nat} {l:Lab} (h:ow b=some l) (hn:ow' b=none) (hF:b∉F) (h1:∀i,l≠ .g i) (h2:∀i,l≠ .gb i):after ow ow' F b=some l:=by
 unfold after;rw [hn];simp only;rw [Uf hF,h];cases l <;> first |rfl |exact absurd rfl (h1 _) |exact absurd rfl (h2 _)
theorem Inv.afterCall {F:List Nat} {res:AV} {g':GS} {v:Value} (h:Inv GE D Pr0 w0 s tm w ow Pr B γ) (hF:∀b∈F,ow b=some .pd)
  (hp:CallPost (fun b=>b∈F\/Vb (ow b)≠none) w Pr γ res g' v w'):
  ∃Pr' ow' γ' H,Inv GE D Pr0 w0 {s with G:=g'} tm w' ow' Pr' B γ'/\Rep w' Pr' γ' w0.heap.size res v H/\H.Nodup/\∀b∈H,ow' b=some .pd:=by
 obtain ⟨ow1,Pr',γ',H,h1,h2,h3,h4,h5,h6,h7,h8,h9,h10,h11,h12⟩:=hp;have hD:∀b,(b∈F\/Vb (ow b)≠none)->∃l,ow b=some l:=fun b hb=>by
  rcases hb with hb |hb
  ·exact ⟨_,hF b hb⟩
  ·cases hk:Vb (ow b) with
   |none=>exact absurd hk hb
   |some l=>exact ⟨l,(Zhm hk).1⟩
 have hnD:∀b l,ow b=some l->l≠ .pd->(∀i,l≠ .g i)->(∀i,l≠ .gb i)->¬(b∈F\/Vb (ow b)≠none):=fun b l hb hl hg hgb hd=>by
  rcases hd with hd |hd
  ·have:=hF b hd;rw [hb] at this;exact hl (Un this)
  ·cases hk:Vb (ow b) with
   |none=>exact hd hk
   |some l'=>
    obtain ⟨e1,id,e2⟩:=Zhm hk;rw [hb] at e1;cases e1;rcases e2 with rfl |rfl
    ·exact hg _ rfl
    ·exact hgb _ rfl
 have hkeep:∀b l,ow b=some l->l≠ .pd->(∀i,l≠ .g i)->(∀i,l≠ .gb i)->after ow ow1 F b=some l:=fun b l hb hl hg hgb=>by
  have hnd:=hnD b l hb hl hg hgb;refine ZBE hb ?_ (fun hm=>hnd (.inl hm)) hg hgb;cases h1':ow1 b with
  |none=>rfl
  |some l'=>exact absurd (h12 b l' h1' (h.owl b l hb)) hnd
 have hG:∀b i,ow1 b=some (.g i)->after ow ow1 F b=some (.g i):=fun b i hb=>by unfold after;rw [hb]
 have hGb:∀b i,ow1 b=some (.gb i)->after ow ow1 F b=some (.gb i):=fun b i hb=>by unfold after;rw [hb]
 have hH:∀b∈H,after ow ow1 F b=some .pd:=fun b hb=>by unfold after;rw [h6 b hb]
 have hhold:∀{l:Lab} {a:AV} {u:Value},l≠ .pd->(∀i,l≠ .g i)->(∀i,l≠ .gb i)->Holds w Pr γ w0.heap.size ow l a u->Holds w' Pr' γ' w0.heap.size (after ow ow1 F) l a u:=fun hl hg hgb ⟨Fh,g1,g2,g3⟩=>
  ⟨Fh,g1.mono h1 h3 h9 (Uq _) (fun b hb=>hnD b _ (g3 b hb) hl hg hgb) fun b hb i=>h2 b i (h.owl b _ (g3 b hb)) (hnD b _ (g3 b hb) hl hg hgb),g2,fun b hb=>hkeep b _ (g3 b hb) hl hg hgb⟩
 refine ⟨Pr',after ow ow1 F,γ',H,⟨h.ext.trans h1 (fun b hb hd=> ?_) h.inc,fun b i hb hd=> ?_,fun b i hb hpb=>h3 b i (UB hb h.ext.size) (h.inc b i hb hpb),fun t=> ?_,fun key ob hk=> ?_,fun id rr hr=> ?_,?_,h10,fun b l hb=> ?_,fun b l hb hlt=> ?_,Mk h.ngs h1.size,fun b hb=> ?_,fun b l hb=> ?_,fun i b hb=>h9 i b (h.gpre i b hb)⟩,?_,h5,hH⟩
 ·obtain ⟨l,hl⟩:=hD b hd;exact h.owD b l hl hb
 ·have hn:¬(b∈F\/Vb (ow b)≠none):=fun hd'=>by
   obtain ⟨l,hl⟩:=hD b hd';exact hd (h.owD b l hl hb)
  exact (h2 b i (UB hb h.ext.size) hn).trans (h.oldp b i hb hd)
 ·have hst:=h.slot t;show Slot _ _ _ _ _ _ _ _ (s.env t) _;cases he:s.env t with
  |no=>exact trivial
  |val c=>rw [he] at hst;exact hhold (by simp) (by simp) (by simp) hst
  |lp key' i off=>rw [he] at hst;exact hst
  |la key'=>
   rw [he] at hst;obtain ⟨o1,A,cap,e1,e2,e3⟩:=hst;exact ⟨o1,A,cap,e1,e2,e3.ext h1⟩
  |lv key' i off ag=>
   rw [he] at hst;obtain ⟨o1,cu,ty,e1,e2,e3,e4⟩:=hst;exact ⟨o1,cu,ty,e1,(h1.blk _ (YL e2) (hnD _ _ e3 (by simp) (by simp) (by simp))).trans e2,hkeep _ _ e3 (by simp) (by simp) (by simp),e4⟩
 ·obtain ⟨hmm,m4⟩:=h.obj key ob hk;refine ⟨hmm.imp (fun x=>x) fun hmm=> ?_,m4⟩;obtain ⟨⟨cur,e,m1,mz,⟨Fh,g1,g2,g3⟩,m2⟩,m3⟩:=hmm;have hb:=h.owl _ _ m3;have hn:=hnD _ _ m3 (by simp) (by simp) (by simp);exact ⟨⟨cur,e,(h1.blk _ hb hn).trans m1,mz,⟨Fh,g1.mono h1 h3 h9 (Uq _) (fun b hb=>hnD b _ (g3 b hb) (by simp) (by simp) (by simp)) fun b hb i=>h2 b i (h.owl b _ (g3 b hb)) (hnD b _ (g3 b hb) (by simp) (by simp) (by simp)),g2,fun b hb=>hkeep b _ (g3 b hb) (by simp) (by simp) (by simp)⟩,fun i=>(h2 _ i hb hn).trans (m2 i)⟩,hkeep _ _ m3 (by simp) (by simp) (by simp)⟩
 ·obtain ⟨b,hb,⟨⟨cur,e,m1,mz,⟨Fh,g1,g2,g3⟩,m2⟩,m3⟩⟩:=h7 id rr hr;exact ⟨b,hb,⟨⟨cur,e,m1,mz,⟨Fh,g1.drop',g2,fun b hb=>hG b _ (g3 b hb)⟩,m2⟩,hGb _ _ m3⟩⟩
 ·simp [h8]
 ·rcases ZmS hb with hb | ⟨hb,_⟩
  ·exact h11 b l hb
  ·exact UB (h.owl b l hb) h1.size
 ·rcases ZmS hb with hb | ⟨hb,_⟩
  ·obtain ⟨l',hl'⟩:=hD b (h12 b l hb (UB hlt h.ext.size));exact h.owD b l' hl' hlt
  ·exact h.owD b l hb hlt
 ·rw [h1.blk b (UB hb h.ngs) fun hd=> ?_]
  ·exact h.gl b hb
  ·obtain ⟨l,hl⟩:=hD b hd;have:=h.ngo b l hl;omega
 ·rcases ZmS hb with hb | ⟨hb,_⟩
  ·rcases U2 b w.heap.size with hlt |hge
   ·obtain ⟨l',hl'⟩:=hD b (h12 b l hb hlt);exact h.ngo b l' hl'
   ·exact Mk h.ngs hge
  ·exact h.ngo b l hb
 ·exact h4.drop'
theorem ZBF {E:Ctx} {tk:Bool} {f vr:Nat} {xs:List Operand} {s1:St} {as:List AV} (hC:Xq P GE.ng GE.G0 E.C)
  (hrd:RdsOk GE s s1 xs as) (h:(match E.C f vr with
   |none=>none
   |some en=>bnd (en.ps.get (as.map (Zam tk),s1.G) en.S) fun r=>K (.val (en.rs.enc r).1) {s1 with G:=(en.rs.enc r).2})=some r)
  (hrun:∀{a:Act} {w:World},(execOp a.eval o).run P w=(callFunc f (xs.map a.eval).toArray).run P w):∃sv s2,K sv s2=some r/\ZU P GE nt o s sv s2:=by
 split at h
 ·cases h
 rename_i en hen;obtain ⟨r0,hc,h⟩:=ZG h;obtain ⟨x0,⟨hle,hlg⟩,hS⟩:=en.ps.ok _ _ _ hc;have hsp:=hC f vr en hen x0 r0 hS;refine ⟨_,_,h,fun D Pr0 w0 a w ⟨ow,Pr,B,γ,hi,hd,hn⟩ hok next Q hnext=> ?_⟩;obtain ⟨ow1,h1,h2,F,f1,f2,f3,f4⟩:=hrd.ok hi;obtain ⟨F0,hargs0,hF0⟩:=ZrJ (base':=w.heap.size) (tk:=tk) f1;obtain ⟨F',hsub,hargs⟩:=hle.repl hargs0;have hnd:F'.Nodup:=List.Nodup.sublist hsub (by rcases hF0 with rfl |rfl;exact f2;exact UE);have hpd:∀b∈F',ow1 b=some .pd:=fun b hb=>by
  have hb':=hsub.subset hb;rcases hF0 with rfl |rfl
  ·exact f3 b hb'
  ·cases hb'
 have how:∀b,(b∈F'\/Vb (ow1 b)≠none)->∃l,ow1 b=some l:=fun b hb=>by
  rcases hb with hb |hb
  ·exact ⟨_,hpd b hb⟩
  ·cases hk:Vb (ow1 b) with
   |none=>exact absurd hk hb
   |some l=>exact ⟨l,(Zhm hk).1⟩
 obtain ⟨hent,hcalls⟩:=hsp w Pr γ (fun b=>Vb (ow1 b)) _ F' hargs hnd (fun b hb=>by simp [hpd b hb,Vb]) (fun b l hb=>(Zhm hb).2) (fun id rr hr=>by
   obtain ⟨rr0,hr0,hlr⟩:=hlg.at hr;obtain ⟨b,hb,hm⟩:=h1.gob id rr0 hr0;obtain ⟨⟨cur,e,m1,mz,⟨Fh,g1,g2,g3⟩,m2⟩,m3⟩:=hm.le hlr;exact ⟨b,hb,⟨⟨cur,e,m1,mz,⟨Fh,g1.mono (Ext.refl (fun _=>False) Pr w) (fun _ _ _ h=>h) (fun _ _ h=>h) h1.ext.size (by simp) fun _ _ _=>Ms,g2,fun x hx=>by rw [g3 x hx];rfl⟩,m2⟩,by rw [m3];rfl⟩⟩) (by rw [h1.glen];exact hlg.length.symm) h1.prl
   (fun b hb=>by obtain ⟨l,hl⟩:=how b hb;exact h1.owl b l hl) h1.ngs h1.gl (fun b hb=>by obtain ⟨l,hl⟩:=how b hb;exact h1.ngo b l hl)
 unfold Oper.wp;rw [hrun,hent,Oper.upon_enter];refine hcalls.mono fun e w' he=> ?_
 cases e with
 |returned v=>
  have hp:CallPost (fun b=>b∈F'\/Vb (ow1 b)≠none) w Pr γ (en.rs.enc r0).1 (en.rs.enc r0).2 v w':=he;obtain ⟨Pr',ow',γ',H,q1,q2,q3,q4⟩:=h1.afterCall hpd hp;exact hnext _ _ (Z2 q1 hd hn hok ⟨H,q2,q3,q4⟩)
 |panicked _=>exact he.elim
 |outgrown=>exact he.elim
theorem ZBG {E:Ctx} {tk:Bool} {f vr:Nat} {c:Call} (hC:Xq P GE.ng GE.G0 E.C) (ho:o.op= .call c) (hc:c.callee= .value (.func f))
  (h:VB E tk c.args.toList c.argTypes.toList s (fun as s'=>Zac E f vr as s' K)=some r):∃sv s2,K sv s2=some r/\ZU P GE nt o s sv s2:=by
 obtain ⟨as,s1,h,hrd⟩:=ZmR (GE:=GE) h;have hargs:∀a:Act,c.args.map a.eval=(c.args.toList.map a.eval).toArray:=fun a=>by apply Mu;simp
 have hrun:∀{a:Act} {w:World},(execOp a.eval o).run P w=(callFunc f (c.args.toList.map a.eval).toArray).run P w:=by
  intro a w;simp [execOp,ho,resolve,hc,hargs,Act.eval,Deferred.ofValue,invoke]
 unfold Zac at h;cases hg:E.gs f with
 |true=>
  rw [hg] at h;exact ZBF hC hrd h hrun
 |false=>
  rw [hg] at h;simp only [Ur] at h;refine ZrL (extra:= []) hC hrd (by simpa using h) fun _=>⟨[], .nil,?_⟩
  rw [hrun,UK]
theorem ZBH {E:Ctx} {tk:Bool} {n vr:Nat} {c:Call} (hC:Xq P GE.ng GE.G0 E.C) (ho:o.op= .call c) (hc:c.callee= .value (.tmp n))
  (h:(match s.env n with
   | .val a=>(Zmc a).bind fun fc=>VB E tk c.args.toList c.argTypes.toList s fun as s'=>Zbo E fc.1 vr (as ++ clrs fc.2) s' K
   | _=>none)=some r):∃sv s2,K sv s2=some r/\ZU P GE nt o s sv s2:=by
 split at h
 case h_2=>cases h
 rename_i av hen;obtain ⟨⟨f,caps⟩,hf,h⟩:=ZG h;simp only at h;obtain ⟨as,s1,h,hrd⟩:=ZmR (GE:=GE) h;refine ZrL hC hrd h fun {D Pr0 w0 a w ow Pr B γ} hi=> ?_
 have hs:=hi.slot n;rw [hen] at hs;obtain ⟨F,h1,_,_⟩:=hs;have hav:av= .fn f caps:=by
  unfold Zmc at hf;split at hf
  ·cases hf;rfl
  ·cases hf
 subst hav;generalize hv:ZP a n=v at h1;cases h1 with
 | @fn _ _ vs _ h2=>
  refine ⟨vs,h2.toL.drop,?_⟩;have hv':a.eval (.tmp n)= .func (.func f) #[] vs.toArray:=hv;have hargs:c.args.map a.eval=(c.args.toList.map a.eval).toArray:=by apply Mu;simp
  simp [execOp,ho,resolve,hc,hargs,hv',Deferred.ofValue,invoke]
end
end Go.Fx
