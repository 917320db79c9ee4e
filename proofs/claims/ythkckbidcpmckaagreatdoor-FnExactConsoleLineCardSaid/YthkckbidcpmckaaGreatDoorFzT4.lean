/- An element of a slice that lies in a variable is written; what is nobody else's becomes one's own. -/
import Derived.Test.YthkckbidcpmckaaGreatDoorFzT3
set_option linter.all false
namespace Go.Fx
theorem Zhr (cs:List AV):Q6 cs=cs.map AV.frz:=by
 induction cs with
 |nil=>rfl
 |cons a as ih=>simp [Q6,ih]
theorem ZrU (cs:List (List AV)):ZY cs=cs.map Q6:=by
 induction cs with
 |nil=>rfl
 |cons a as ih=>simp [ZY,ih]
theorem ZB5 (a:AV):a.frz.one=a.one:=by
 cases a <;> try rfl
 rename_i o k xs;cases o <;> rfl
theorem ZB6 (xs:List (List AV)):(ZY xs).flatten=Q6 xs.flatten:=by
 induction xs with
 |nil=>rfl
 |cons x xs ih=>rw [ZY,UM,UM,ih,Zhr,Zhr,Zhr,UY]
theorem ZB7 {k:Nat} {xs:List (List AV)} (h:∀x∈xs,x.length=k):∀x∈ZY xs,x.length=k:=by
 intro x hx;rw [ZrU] at hx;obtain ⟨y,hy,rfl⟩:=List.mem_map.1 hx;rw [Zhr,Uy];exact h y hy
theorem ZB8 (xs:List (List AV)):(ZY xs).length=xs.length:=by rw [ZrU,Uy]
section
variable {w:World} {γ:List Nat} {base:Nat}
structure PrUp (w:World) (Pr Pr':Nat->Nat->Prop) (F:List Nat):Prop where
 up:∀b i,Pr b i->Pr' b i
 out:∀b i,b∉F->(Pr' b i↔Pr b i)
 lt:∀b i,Pr' b i->Pr b i\/b < w.heap.size
theorem PrUp.refl (w:World) (Pr:Nat->Nat->Prop) (F:List Nat):PrUp w Pr Pr F:=⟨fun _ _ h=>h,fun _ _ _=>Ms,fun _ _ h=> .inl h⟩
theorem PrUp.trans {Pr Pr1 Pr2:Nat->Nat->Prop} {F G H:List Nat} (h:PrUp w Pr Pr1 F) (h':PrUp w Pr1 Pr2 G) (hF:∀b∈F,b∈H) (hG:∀b∈G,b∈H):PrUp w Pr Pr2 H:=
 ⟨fun b i hp=>h'.up b i (h.up b i hp),fun b i hb=>(h'.out b i fun hm=>hb (hG b hm)).trans (h.out b i fun hm=>hb (hF b hm)),fun b i hp=>(h'.lt b i hp).elim (h.lt b i) .inr⟩
theorem Rep.up {Pr Pr':Nat->Nat->Prop} {F G:List Nat} {a:AV} {v:Value} (hu:PrUp w Pr Pr' G) (hd:∀b∈F,b∉G) (h:Rep w Pr γ base a v F):Rep w Pr' γ base a v F:=
 h.mono (Ext.refl (fun _=>False) Pr w) (fun b i _ hp=>hu.up b i hp) (fun _ _ h=>h) (Uq _) (fun _ _ h=>h) fun b hb i=>hu.out b i (hd b hb)
theorem Reps.up {Pr Pr':Nat->Nat->Prop} {F G:List Nat} {a:List AV} {v:List Value} (hu:PrUp w Pr Pr' G) (hd:∀b∈F,b∉G) (h:Reps w Pr γ base a v F):Reps w Pr' γ base a v F:=
 h.mono (Ext.refl (fun _=>False) Pr w) (fun b i _ hp=>hu.up b i hp) (fun _ _ h=>h) (Uq _) (fun _ _ h=>h) fun b hb i=>hu.out b i (hd b hb)
theorem RepL.up {Pr Pr':Nat->Nat->Prop} {F G:List Nat} {a:List AV} {v:List Value} (hu:PrUp w Pr Pr' G) (hd:∀b∈F,b∉G) (h:RepL w Pr γ base a v F):RepL w Pr' γ base a v F:=
 h.mono (Ext.refl (fun _=>False) Pr w) (fun b i _ hp=>hu.up b i hp) (fun _ _ h=>h) (Uq _) (fun _ _ h=>h) fun b hb i=>hu.out b i (hd b hb)
theorem Rep.at1 {Pr Pr1:Nat->Nat->Prop} {F:List Nat} {a:AV} {v:Value} (h1:∀b i,Pr b i->Pr1 b i) (h2:∀b∈F,∀i,Pr1 b i↔Pr b i) (h:Rep w Pr γ base a v F):∃Pr',PrUp w Pr1 Pr' F/\Rep w Pr' γ base a v F:=
 ⟨Pr1, .refl ..,h.mono (Ext.refl (fun _=>False) Pr w) (fun b i _ hp=>h1 b i hp) (fun _ _ h=>h) (Uq _) (fun _ _ h=>h) h2⟩
mutual
theorem Rep.frz {Pr:Nat->Nat->Prop} {a:AV} {v:Value} {F:List Nat}:Rep w Pr γ base a v F->F.Nodup->∀Pr1:Nat->Nat->Prop,(∀b i,Pr b i->Pr1 b i)->(∀b∈F,∀i,Pr1 b i↔Pr b i)->∃Pr',PrUp w Pr1 Pr' F/\Rep w Pr' γ base a.frz v F
 | .lit h,_,_,p1,p2=>(Rep.lit h).at1 p1 p2
 | .agg h,hd,q,p1,p2=>by obtain ⟨Pr',h1,h2⟩:=Reps.frz h hd q p1 p2;exact ⟨Pr',h1, .agg h2⟩
 | .tup h,hd,q,p1,p2=>by obtain ⟨Pr',h1,h2⟩:=RepL.frz h hd q p1 p2;exact ⟨Pr',h1, .tup h2⟩
 | .fn h,_,_,p1,p2=>(Rep.fn h).at1 p1 p2
 | .rp h1 h2 h3 h4 h,_,_,p1,p2=>(Rep.rp h1 h2 h3 h4 h).at1 p1 p2
 | .gp h,_,_,p1,p2=>(Rep.gp h).at1 p1 p2
 | .opq,_,_,p1,p2=>Rep.at1 (a:= .opq) p1 p2 .opq
 | .nilq h,_,_,p1,p2=>(Rep.nilq h).at1 p1 p2
 | .shr h2 h3 h4 h5 h h6,_,_,p1,p2=>(Rep.shr h2 h3 h4 h5 h h6).at1 p1 p2
 | .nil,_,_,p1,p2=>Rep.at1 p1 p2 .nil
 | .own h1 h2 h3 h4 h5 h6 h7 h h8 h9,_,_,p1,p2=>(Rep.own h1 h2 h3 h4 h5 h6 h7 h h8 h9).at1 p1 p2
 | .unil,_,q,p1,p2=>⟨q, .refl .., .nil⟩
 | .unq (b:=b) (n:=n) (k:=k) (cur:=cur) (xs:=xs) (F:=F1) h1 h2 h0 h3 h4 h5 h6 h7 h h8,hd,q,p1,p2=>by
  have hbF:b∉F1:=(List.nodup_cons.1 hd).1;obtain ⟨Pr1,u1,r1⟩:=Reps.frz h (List.nodup_cons.1 hd).2 q p1 fun c hc=>p2 c (Ug _ hc)
  have u2:PrUp w Pr1 (XV Pr1 b (n * k)) [b]:=
   ⟨fun _ _ h=> .inl h,fun c i hc=>⟨fun h=>h.elim id fun h=>absurd (Ml.2 h.1) hc, .inl⟩,fun c i h=>h.elim .inl fun h=> .inr (h.1 ▸ YL h1)⟩
  refine ⟨_,u1.trans u2 (fun c hc=>Ug _ hc) (fun c hc=>by rw [Ml] at hc;rw [hc];exact Uj ..),?_⟩;have r2:=r1.up u2 (fun c hc hm=>hbF (by rw [Ml] at hm;exact hm ▸ hc));rw [←ZB6] at r2;exact .own h1 h2 h3 h4 ((ZB8 _).trans h5) (ZB7 h6) h7 r2 (fun i=>⟨fun hp=>hp.elim (fun hp=>absurd ((p2 b (Uj ..) i).1 ((u1.out b i hbF).1 hp)) (h8 i)) (·.2),fun hi=> .inr ⟨rfl,hi⟩⟩) h0
theorem Reps.frz {Pr:Nat->Nat->Prop} {cs:List AV} {vs:List Value} {F:List Nat}:Reps w Pr γ base cs vs F->F.Nodup->∀Pr1:Nat->Nat->Prop,(∀b i,Pr b i->Pr1 b i)->(∀b∈F,∀i,Pr1 b i↔Pr b i)->∃Pr',PrUp w Pr1 Pr' F/\Reps w Pr' γ base (Q6 cs) vs F
 | .nil,_,q,_,_=>⟨q, .refl .., .nil⟩
 | .cons (F:=F1) (G:=F2) h1 h h',hd,q,p1,p2=>by
  have nd:=List.nodup_append.1 hd;obtain ⟨Pr1,u1,r1⟩:=Rep.frz h nd.1 q p1 fun b hb=>p2 b (Uz _ hb)
  have hdj:∀b∈F2,b∉F1:=fun b hb hm=>nd.2.2 b hm b hb rfl
  obtain ⟨Pr2,u2,r2⟩:=Reps.frz h' nd.2.1 Pr1 (fun b i hp=>u1.up b i (p1 b i hp)) fun b hb i=>(u1.out b i (hdj b hb)).trans (p2 b (UD _ hb) i)
  exact ⟨Pr2,u1.trans u2 (fun b hb=>Uz _ hb) (fun b hb=>UD _ hb), .cons (by rw [ZB5];exact h1) (r1.up u2 fun b hb hm=>nd.2.2 b hb b hm rfl) r2⟩
theorem RepL.frz {Pr:Nat->Nat->Prop} {cs:List AV} {vs:List Value} {F:List Nat}:RepL w Pr γ base cs vs F->F.Nodup->∀Pr1:Nat->Nat->Prop,(∀b i,Pr b i->Pr1 b i)->(∀b∈F,∀i,Pr1 b i↔Pr b i)->∃Pr',PrUp w Pr1 Pr' F/\RepL w Pr' γ base (Q6 cs) vs F
 | .nil,_,q,_,_=>⟨q, .refl .., .nil⟩
 | .cons (F:=F1) (G:=F2) h h',hd,q,p1,p2=>by
  have nd:=List.nodup_append.1 hd;obtain ⟨Pr1,u1,r1⟩:=Rep.frz h nd.1 q p1 fun b hb=>p2 b (Uz _ hb)
  have hdj:∀b∈F2,b∉F1:=fun b hb hm=>nd.2.2 b hm b hb rfl
  obtain ⟨Pr2,u2,r2⟩:=RepL.frz h' nd.2.1 Pr1 (fun b i hp=>u1.up b i (p1 b i hp)) fun b hb i=>(u1.out b i (hdj b hb)).trans (p2 b (UD _ hb) i)
  exact ⟨Pr2,u1.trans u2 (fun b hb=>Uz _ hb) (fun b hb=>UD _ hb), .cons (r1.up u2 fun b hb hm=>nd.2.2 b hb b hm rfl) r2⟩
end
theorem ZB9 {Pr:Nat->Nat->Prop} {k m o:Nat} {xs:List (List AV)} {vs us:List Value} {F G:List Nat} {row cs:List AV} (hx:∀x∈xs,x.length=k) (hr:Reps w Pr γ base xs.flatten vs F) (hm:xs[m]? =some row)
  (hle:o + cs.length<=row.length) (hv:Reps w Pr γ base cs us G):
  ∃FA FM FZ,F=FA ++ (FM ++ FZ)/\Reps w Pr γ base (xs.set m (ZL row o cs)).flatten (vs.take (m * k + o) ++ (us ++ vs.drop (m * k + o + us.length))) (FA ++ (G ++ FZ))/\(∀x∈xs.set m (ZL row o cs),x.length=k)/\
   (xs.set m (ZL row o cs)).flatten.length=xs.flatten.length:=by
 have hlt:m < xs.length:=(List.getElem?_eq_some_iff.1 hm).1;obtain ⟨p,q,q1,q2,q3⟩:=Zak hx hm;have hrl:=hx row (Uk hm);have hset:xs.set m (ZL row o cs)=xs.modify m (fun _=>ZL row o cs):=by
  apply UV;intro j;rw [Mg,U6];by_cases hj:m=j
  ·subst hj;simp [hlt]
  ·simp only [Uf hj];cases xs[j]? <;> rfl
 have hA:xs.flatten=(p ++ row.take o) ++ ((row.drop o).take cs.length ++ (row.drop (o + cs.length) ++ q)):=by
  rw [q1];have e1:(row.drop o).take cs.length ++ row.drop (o + cs.length)=row.drop o:=by rw [←MD,Up]
  have e2:row.take o ++ ((row.drop o).take cs.length ++ row.drop (o + cs.length))=row:=by rw [e1,Up]
  have:p ++ ((row.take o ++ ((row.drop o).take cs.length ++ row.drop (o + cs.length))) ++ q)=p ++ (row ++ q):=by rw [e2]
  rw [←this];simp only [Uw]
 have hall:∀x∈xs.set m (ZL row o cs),x.length=k:=by
  intro x hxm;rcases Mc hxm with h |rfl
  ·exact hx x h
  ·simp only [ZL,Uh,Uc,Uu];omega
 rw [hA] at hr;obtain ⟨FA,FM,FZ,e,s1⟩:=hr.splice hv (by rw [Uc,Uu];omega);have hpl:(p ++ row.take o).length=m * k + o:=by rw [Uh,Uc,q2];omega
 rw [hpl] at s1;refine ⟨FA,FM,FZ,e,?_,hall,by rw [Yb hall,Yb hx,UU]⟩;rw [hset,q3];unfold ZL;simpa only [Uw] using s1
end
section
variable {P:Program} {GE:Glob} {nt:Nat} {β:Type} {K:SV->St->Option β} {r:β} {o:Oper} {s:St}
 {D:Nat->Prop} {Pr0:Nat->Nat->Prop} {w0:World} {tm:Nat->Value} {w:World} {ow:Nat->Option Lab} {Pr:Nat->Nat->Prop} {B:Nat->Nat} {γ:List Nat}
theorem Inv.frz {d:Nat} {a:AV} (h:Inv GE D Pr0 w0 s tm w ow Pr B γ) (hd:s.env d= .val a):∃ow' Pr',Inv GE D Pr0 w0 {s with env:=upd s.env d (.val a.frz)} tm w ow' Pr' B γ:=by
 obtain ⟨ow1,F,h1,h2,h3,h4,_,_⟩:=h.take hd;obtain ⟨Pr',u,r⟩:=h2.frz h3 Pr (fun _ _ h=>h) (fun _ _ _=>Ms);have hst:Step w w Pr Pr' γ γ ow1 ow1:=
  ⟨Ext.refl _ _ _,fun b i _ h=>u.up b i h,fun c i _ hc=>u.out c i fun hm=>hc (h4 c hm),fun c i h=>(u.lt c i h).elim (h1.prl c i) id,fun _ _ _ h=>h,h1.owl,fun _ l h _=>⟨l,h⟩,fun _ _ h=>h⟩
 have h5:=(h1.step hst rfl).put (d:=d) r h3 h4;have e1:upd (upd s.env d (.val a.clr)) d (.val a.frz)=upd s.env d (.val a.frz):=Ku _ _ _ _;have e2:upd tm d (tm d)=tm:=by
  funext t
  by_cases ht:t=d
  ·subst ht;exact ZE _ _ _
  ·exact ZA _ _ ht
 simp only [e1,e2] at h5;exact ⟨_,_,h5⟩
theorem ZCa {sv:SV} {s1:St} {K:SV->St->Option β} (h:(match sv with | .val a=>K (.val a.frz) s1 | _=>none)=some r) (hop:ZU P GE nt o s sv s1):∃sv s1,K sv s1=some r/\ZU P GE nt o s sv s1:=by
 split at h
 case h_2=>cases h
 rename_i a;refine ⟨_,_,h,fun D Pr0 w0 ac w hat hok next Q hnext=>hop D Pr0 w0 ac w hat hok next Q fun a' w' ha=>hnext a' w' ?_⟩;cases hd:o.dst with
 |none=>rw [hd] at ha;exact ha
 |some d=>
  rw [hd] at ha;obtain ⟨ow,Pr,B,γ,hi,hdf,hn⟩:=ha;obtain ⟨ow',Pr',hi2⟩:=hi.frz (d:=d) (a:=a) (by show upd s1.env d _ d=_;exact ZE _ _ _);have e:upd (put s1 (some d) (.val a)).env d (.val a.frz)=upd s1.env d (.val a.frz):=Ku _ _ _ _;rw [e] at hi2;exact ⟨ow',Pr',B,γ,hi2,hdf,hn⟩
theorem Inv.writeElem {key b:Nat} {ob:LObj} {rows:List (List AV)} {curb curb':Array Value} {e:TypeId}
  (h:Inv GE D Pr0 w0 s tm w ow Pr B γ) (hk:s.L key=some ob) (hne0:ob.rows≠ []) (hob:ow b=some (.o key)) (hwb:w.heap[b]? =some (.cells curb e (0,0))) (hsz:curb'.size=curb.size) (hp:∀i,¬Pr b i)
  (hl:rows.length=ob.rows.length) (hrk:∀r∈rows,r.length=ob.k)
  (hr:∀cur ty,w.heap[B key]? =some (.cells cur ty (0,0))->∃F,Reps (w.setRow b curb') Pr γ w0.heap.size rows.flatten (cur.toList.take rows.flatten.length) F/\F.Nodup/\∀x∈F,ow x=some (.o key)):
  Inv GE D Pr0 w0 {s with L:=upd s.L key (some {ob with rows:=rows})} tm (w.setRow b curb') ow Pr B γ:=by
 have he:=Ext.row (Pr:=Pr) hwb hsz hp;have hBne:∀c l,l≠ .o key->ow c=some l->c≠b:=fun c l hl hc e=>by
  subst e;rw [hob] at hc;exact hl (Un hc).symm
 refine ⟨h.ext.trans he (fun c hb e=> ?_) h.inc,h.oldp,h.inc,fun t=> ?_,fun key' ob' hk'=> ?_,fun id r hr=> ?_,h.glen,fun c i hpb=> ?_,fun c l hb=> ?_,h.owD,?_,fun c hb=> ?_,h.ngo,h.gpre⟩
 ·subst e;exact h.owD _ _ hob hb
 ·have hst:=h.slot t;show Slot _ _ _ _ _ _ _ _ (s.env t) _;cases hen:s.env t with
  |no=>exact trivial
  |val c=>
   rw [hen] at hst;exact Holds.row he (by rw [hob];simp) (fun c hc=>hc) hst
  |lp key' i off=>
   rw [hen] at hst;obtain ⟨o1,e1,e2⟩:=hst;by_cases hkk:key'=key
   ·subst hkk;rw [hk] at e1;cases e1;exact ⟨_,ZE _ _ _,e2⟩
   ·exact ⟨o1,(ZA _ _ hkk).trans e1,e2⟩
  |la key'=>
   rw [hen] at hst;obtain ⟨o1,A,cap,e1,e2,e3⟩:=hst;by_cases hkk:key'=key
   ·subst hkk;rw [hk] at e1;cases e1;exact ⟨_,A,cap,ZE _ _ _,by rw [hl];exact e2,by rw [hl];exact e3.ext he⟩
   ·exact ⟨o1,A,cap,(ZA _ _ hkk).trans e1,e2,e3.ext he⟩
  |lv key' i off ag=>
   rw [hen] at hst;obtain ⟨o1,cu,ty,e1,e2,e3,e4⟩:=hst;have e5:=(he.blk _ (YL e2) (hBne _ _ (by simp) e3)).trans e2;by_cases hkk:key'=key
   ·subst hkk;rw [hk] at e1;cases e1;exact ⟨_,cu,ty,ZE _ _ _,e5,e3,e4⟩
   ·exact ⟨o1,cu,ty,(ZA _ _ hkk).trans e1,e5,e3,e4⟩
 ·by_cases hkk:key'=key
  ·subst hkk;have hk2:upd s.L key' (some {ob with rows:=rows}) key'=some ob':=hk';rw [ZE] at hk2;cases hk2;obtain ⟨⟨⟨cur,e1,m1,mz,_,m2⟩,m3⟩,m4,m5⟩:=h.memObj hk hne0;have hfl:rows.flatten.length=ob.rows.flatten.length:=by rw [Yb hrk,Yb m4,hl]
   obtain ⟨F,r1,r2,r3⟩:=hr cur e1 m1;exact ⟨.inr ⟨⟨cur,e1,(he.blk _ (YL m1) (hBne _ _ (by simp) m3)).trans m1,by rw [hfl];exact mz,⟨F,r1,r2,r3⟩,fun i=>by rw [hfl];exact m2 i⟩,m3⟩,hrk,by rw [hl];exact m5⟩
  ·have hk2:s.L key'=some ob':=(ZA s.L _ hkk).symm.trans hk';obtain ⟨h1,h2⟩:=h.obj key' ob' hk2;refine ⟨h1.imp (fun x=>x) fun h1=> ?_,h2⟩;have hown:=h1.own;exact h1.row he (by rw [hob];simpa using fun e=>hkk e.symm) (hBne _ _ (by simp) hown) (h.owl _ _ hown) (fun c hc=>hc) hown
 ·obtain ⟨c,hb,h1⟩:=h.gob id r hr;have hown:=h1.own;exact ⟨c,hb,h1.row he (by rw [hob];simp) (hBne _ _ (by simp) hown) (h.owl _ _ hown) (fun c hc=>hc) hown⟩
 ·rw [setRow_size];exact h.prl c i hpb
 ·rw [setRow_size];exact h.owl c l hb
 ·rw [setRow_size];exact h.ngs
 ·rw [he.blk c (UB hb h.ngs) fun e=> ?_]
  ·exact h.gl c hb
  ·subst e;have:=h.ngo _ _ hob;omega
theorem ZCb {E:Ctx} (hT:TOk P E.T) {n t:Nat} {x:Operand} (ho:o.op= .store t (.tmp n) x) (hok:(E.T t).ok=true) {key i off e k m o2:Nat} (hen:s.env n= .lv key i off (.el e k m o2))
  {av:AV} (h:Zme E (E.T t) key i off e k m o2 av s K=some r) (hav:Rd0Ok GE s x av):∃sv s1,K sv s1=some r/\ZU P GE nt o s sv s1:=by
 unfold Zme at h;cases hl:av.lits with
 |false=>rw [hl] at h;cases h
 |true=>
 rw [hl] at h;simp only [Ui,Ur] at h;split at h
 case h_2=>cases h
 rename_i ob hL;cases hz:ob.frz with
 |true=>rw [hz] at h;cases h
 |false=>
 rw [hz] at h;simp only [Ur] at h;unfold ZZ at h;split at h
 case h_2=>cases h
 rename_i row0 hrow0;obtain ⟨px,hles,h⟩:=(E.ro key).ok _ _ _ h;generalize (E.ro key).enc px=row at hles h;unfold hdK at h;split at h
 case h_2=>cases h
 rename_i c0 cr hdrop;dsimp only at h;split at h
 case h_2=>cases h
 rename_i k' xs;cases hkk:Nat.beq k k' with
 |false=>rw [hkk] at h;cases h
 |true=>
 obtain rfl:=Ud hkk;rw [hkk] at h;simp only [Ut] at h;split at h
 case h_2=>cases h
 rename_i q0 hq0;obtain ⟨pq,hlesq,h⟩:=(E.R e).ok _ _ _ h;generalize (E.R e).enc pq=q at hlesq h;obtain ⟨cs,hcs,h⟩:=ZG h;split at h
 case isFalse=>cases h
 rename_i hle;refine ⟨_,_,h,fun D Pr0 w0 a w ⟨ow,Pr,B,γ,hi,hd,hn⟩ hokd next Q hnext=> ?_⟩;obtain ⟨_,hv⟩:=hav.ok hi;have hlt:i < ob.rows.length:=(List.getElem?_eq_some_iff.1 hrow0).1;have hw:=hi.weakRow hL hrow0 hles;obtain ⟨obw,eobw⟩:∃o:LObj,o={ob with rows:=ob.rows.set i row}:=⟨_,rfl⟩
 have hLw:upd s.L key (some obw) key=some obw:=ZE _ _ _;have hkw:obw.k=ob.k:=by rw [eobw]
 have hrow:obw.rows[i]? =some row:=by rw [eobw];simp [hlt]
 rw [←eobw] at hw;have hs:=hw.slot n;rw [hen] at hs;obtain ⟨ob',cu,ty,f1,f2,f3,ad,len,cap,g1,g2,g3⟩:=hs;have f1':some obw=some ob':=hLw.symm.trans f1;cases f1';obtain ⟨⟨⟨cur,ty',m1,mz,⟨F',m2,m3,m4⟩,m5⟩,m6⟩,m7,m8⟩:=hw.memObj hLw (VG hrow);rw [f2] at m1;obtain ⟨rfl,rfl⟩:cu=cur/\ty=ty':=by simpa using m1
 obtain ⟨p,q',q1,q2,q3⟩:=Zak m7 hrow;have hrl:=m7 row (Uk hrow);have hoff:off < row.length:=by
  rcases U2 off row.length with ho |ho
  ·exact ho
  ·rw [Me ho] at hdrop;cases hdrop
 have hrowe:row=row.take off ++ (.slc .unq k xs::cr):=by rw [←hdrop,Up]
 have hflat:obw.rows.flatten=(p ++ row.take off) ++ ([.slc .unq k xs] ++ (cr ++ q')):=by
  rw [q1]
  conv=>lhs;rw [hrowe]
  simp only [Uw,U5,U9]
 have hpl:(p ++ row.take off).length=i * obw.k + off:=by rw [Uh,Uc,q2];omega
 have m2x:=m2;generalize hmm:obw.rows.flatten.length=mm at m2x mz;rw [hflat] at m2x;obtain ⟨FA,F2,rfl,hA,hB⟩:=m2x.split;obtain ⟨F1,FZ,rfl,hC,hZ⟩:=hB.split;rw [hpl] at hA hC hZ;have hpos:i * obw.k + off < mm:=by
  rw [←hmm,hflat];simp only [Uh,UJ,UQ] at hpl ⊢;omega
 have hcell:(cu.toList.take mm)[i * obw.k + off]? =some (.slice (some ad) len cap):=by
  rw [UA,Ul hpos];simpa using g1
 have hC1:(List.drop (i * obw.k + off) (cu.toList.take mm)).take [AV.slc .unq k xs].length= [.slice (some ad) len cap]:=by
  have hlt2:=(List.getElem?_eq_some_iff.1 hcell).1;rw [UF hlt2];have:=(List.getElem?_eq_some_iff.1 hcell).2;simp [this]
 rw [hC1] at hC;cases hC with
 | @cons _ _ Fc _ _ Fn hone hC2 hnil=>
 cases hnil;rw [UK] at m3 m4;have nd1:=List.nodup_append.1 m3;have nd2:=List.nodup_append.1 nd1.2.1;cases hC2 with
 |unil=>omega
 | @unq _ b _ _ eb curb _ vs Fx c1 c2 c3 c4 c5 c6 c7 c8 c9 c10=>
 have hbo:ow b=some (.o key):=m4 b (by simp);have hbF:b∉Fx:=(List.nodup_cons.1 nd2.1).1;obtain ⟨Fq,_,hq,c7',c9'⟩:=Zal c7 c9 hq0 hlesq;obtain ⟨d1,d2,d3⟩:=hv.cellsN hcs;have hqm:m < xs.length:=(List.getElem?_eq_some_iff.1 hq0).1;have hqlen:q.length=k:=c7' q (Uk hq);have hvl:(a.eval x).cells.toList.length=(E.T t).size:=by rw [Ue];exact d1
 have hmk:m * k + k<=len * k:=by
  have:(m + 1) * k<=len * k:=UL _ (by omega);rw [UX] at this;omega
 have hck:len * k<=cap * k:=UL _ c4;have hd2:Reps w Pr γ w0.heap.size cs (a.eval x).cells.toList []:=by
  have:=ZrS (Pr':=Pr) (γ':=γ) (base':=w0.heap.size) hl hv;exact (this.cellsN hcs).2.1
 obtain ⟨GA,GM,GZ,eG,s1,s2,s3⟩:=ZB9 (o:=o2) c7' c9' hq (by omega) hd2;have hset:(xs.set m q).set m (ZL q o2 cs)=xs.set m (ZL q o2 cs):=by rw [MQ]
 rw [hset] at s1 s2 s3;have hrun:=ZmJ (b:=b) (off:=m * k + o2) hT hok c1 hv hcs (by omega)
 let curb':Array Value:=(curb.toList.take (m * k + o2) ++ ((a.eval x).cells.toList ++ curb.toList.drop (m * k + o2 + (a.eval x).cells.toList.length))).toArray
 have hsz:curb'.size=curb.size:=by
  show (List.toArray _).size=_;simp only [UR,Uh,Uc,Uu,Ue];have:(a.eval x).cells.toList.length=(a.eval x).cells.size:=Ue;omega
 have he:=Ext.row (Pr:=Pr) c1 hsz c10;have hmono:∀{cs':List AV} {vs':List Value} {F':List Nat},Reps w Pr γ w0.heap.size cs' vs' F'->b∉F'->Reps (w.setRow b curb') Pr γ w0.heap.size cs' vs' F':=fun h hb=>
  h.mono he (fun _ _ _ h=>h) (fun _ _ h=>h) (Uq _) (fun c hc e=>hb (e ▸ hc)) fun _ _ _=>Ms
 have hGsub:(GA ++ ([] ++ GZ)).Sublist Fx:=by
  subst eG;have h0:(GA ++ ([] ++ GZ)).Sublist (GA ++ (GM ++ GZ)):=(MM _).append ((FH _).append (MM _));exact h0.trans ‹_›
 have hbA:b∉FA:=fun hm=>nd1.2.2 b hm b (by simp) rfl
 have hbZ:b∉FZ:=fun hm=>nd2.2.2 b (Uj ..) b hm rfl
 have hnew:Rep (w.setRow b curb') Pr γ w0.heap.size (.slc .unq k (xs.set m (ZL q o2 cs))) (.slice (some ⟨b,0,none⟩) len cap) (b::(GA ++ ([] ++ GZ))):=by
  refine .unq (setRow_heap w b curb curb' eb (0,0) c1) (hsz.trans c2) c3 c4 c5 (by rw [UU];exact c6) s2 ?_ (hmono s1 fun hm=>hbF (hGsub.subset hm)) c10;have hl1:vs.length=len * k:=by rw [←c8,Uc,Ue,c2];omega
  show ((List.toArray _).toList).take (len * k)=_;rw [←c8];simp only [Uw];rw [ZmL (by omega) (by rw [Ue,c2];omega)]
 have hsetAt:ZL row off [.slc .unq k (xs.set m (ZL q o2 cs))]=row.take off ++ (.slc .unq k (xs.set m (ZL q o2 cs))::cr):=by
  unfold ZL;have:row.drop (off + 1)=cr:=by rw [←MD,hdrop];rfl
  simp only [UJ,UQ,U0,this,Uw,U5,U9]
 have hrows:obw.rows.set i (ZL row off [.slc .unq k (xs.set m (ZL q o2 cs))])=obw.rows.modify i (fun _=>ZL row off [.slc .unq k (xs.set m (ZL q o2 cs))]):=by
  apply UV;intro j;rw [Mg,U6];by_cases hj:i=j
  ·subst hj;simp [(List.getElem?_eq_some_iff.1 hrow).1]
  ·simp only [Uf hj];cases obw.rows[j]? <;> rfl
 have hfl2:(obw.rows.set i (ZL row off [.slc .unq k (xs.set m (ZL q o2 cs))])).flatten=(p ++ row.take off) ++ ([.slc .unq k (xs.set m (ZL q o2 cs))] ++ (cr ++ q')):=by
  rw [hrows,q3,hsetAt];simp only [Uw,U5,U9]
 have hrk:∀r∈obw.rows.set i (ZL row off [.slc .unq k (xs.set m (ZL q o2 cs))]),r.length=obw.k:=by
  intro r0 hr0;rcases Mc hr0 with h |rfl
  ·exact m7 r0 h
  ·rw [hsetAt,←hrl]
   conv=>rhs;rw [hrowe]
   simp
 have hlen2:(obw.rows.set i (ZL row off [.slc .unq k (xs.set m (ZL q o2 cs))])).flatten.length=mm:=by
  rw [Yb hrk,UU,←Yb m7,hmm]
 have hinv:=hw.writeElem (b:=b) (curb':=curb') (rows:=obw.rows.set i (ZL row off [.slc .unq k (xs.set m (ZL q o2 cs))])) hLw (VG hrow) hbo c1 hsz c10 (UU ..) hrk fun cur1 ty1 hc1=>by
  have f2':=f2;rw [hc1] at f2';obtain ⟨rfl,rfl⟩:cur1=cu/\ty1=ty:=by simpa using f2'
  rw [hlen2,hfl2];refine ⟨FA ++ ((b::(GA ++ ([] ++ GZ))) ++ FZ),?_,?_,?_⟩
  ·have hz2:=hmono hZ hbZ;have ha2:=hmono hA hbA;have hmid:Reps (w.setRow b curb') Pr γ w0.heap.size [.slc .unq k (xs.set m (ZL q o2 cs))] [.slice (some ⟨b,0,none⟩) len cap] (b::(GA ++ ([] ++ GZ))):=by
    have:=Reps.cons (F:=b::(GA ++ ([] ++ GZ))) rfl hnew .nil
    rwa [UK] at this
   have hall:=ha2.append (hmid.append hz2);have hsp:(List.take mm cur1.toList)=(List.take mm cur1.toList).take (i * obw.k + off) ++ ([.slice (some ⟨b,0,none⟩) len cap] ++ ((List.take mm cur1.toList).drop (i * obw.k + off)).drop [AV.slc .unq k xs].length):=by
    rw [←hC1,Up,Up]
   rw [hsp];exact hall
  ·refine List.nodup_append.2 ⟨nd1.1,List.nodup_append.2 ⟨List.nodup_cons.2 ⟨fun hm=>hbF (hGsub.subset hm),(List.nodup_cons.1 nd2.1).2.sublist hGsub⟩,nd2.2.1,fun x hx y hy e=> ?_⟩,fun x hx y hy e=> ?_⟩
   ·subst e;refine nd2.2.2 x ?_ x hy rfl;rcases List.mem_cons.1 hx with rfl |hx
    ·exact Uj ..
    ·exact Ug _ (hGsub.subset hx)
   ·subst e;refine nd1.2.2 x hx x ?_ rfl;rcases List.mem_append.1 hy with hy |hy
    ·rcases List.mem_cons.1 hy with rfl |hy
     ·simp
     ·have:=hGsub.subset hy;simp [this]
    ·simp [hy]
  ·intro x hx;refine m4 x ?_;rcases List.mem_append.1 hx with hx |hx
   ·simp [hx]
   ·rcases List.mem_append.1 hx with hx |hx
    ·rcases List.mem_cons.1 hx with rfl |hx
     ·simp
     ·have:=hGsub.subset hx;simp [this]
    ·simp [hx]
 have hst:({env:=s.env,G:=s.G,L:=upd (upd s.L key (some obw)) key (some {obw with rows:=obw.rows.set i (ZL row off [.slc .unq k (xs.set m (ZL q o2 cs))])})}:St)={s with L:=upd s.L key (some {ob with rows:=ob.rows.set i (ZL row off [.slc .unq k (xs.set m (ZL q o2 cs))])})}:=by
  rw [Ku,eobw];simp only [MQ]
 have hinv2:=hinv;dsimp only at hinv2;rw [hst,hz] at hinv2;have e0:a.eval (.tmp n)= .pointer (some ⟨b,m * k + o2,none⟩):=by
  have:a.eval (.tmp n)= .pointer (some ⟨b,0 + m * k + o2,none⟩):=g3;rw [this,U0]
 exact Zmx (by simp [execOp,ho,e0,hrun,curb']) (hnext _ _ (Z2 hinv2 hd hn hokd trivial))
theorem ZCc {w:World} {Pr:Nat->Nat->Prop} {γ:List Nat} {base k i off m:Nat} {rows:List (List AV)} {vs:List Value} {F:List Nat} {row:List AV} (hx:∀x∈rows,x.length=k) (hr:Reps w Pr γ base rows.flatten vs F) (hi:rows[i]? =some row) (hle:off + m<=row.length):
  ∃FA FM FZ us,F=FA ++ (FM ++ FZ)/\Reps w Pr γ base ((row.drop off).take m) us FM/\(∀(j:Nat) (u:Value),us[j]? =some u->vs[i * k + off + j]? =some u)/\
   Reps w Pr γ base (rows.set i (ZL row off (clrs ((row.drop off).take m)))).flatten vs (FA ++ FZ)/\∀x∈rows.set i (ZL row off (clrs ((row.drop off).take m))),x.length=k:=by
 obtain ⟨p,q,q1,q2,q3⟩:=Zak hx hi;have hrl:=hx row (Uk hi);have hpm:((row.drop off).take m).length=m:=by rw [Uc,Uu];omega
 have hA:rows.flatten=(p ++ row.take off) ++ ((row.drop off).take m ++ (row.drop (off + m) ++ q)):=by
  rw [q1];have e1:(row.drop off).take m ++ row.drop (off + m)=row.drop off:=by rw [←MD,Up]
  have e2:row.take off ++ ((row.drop off).take m ++ row.drop (off + m))=row:=by rw [e1,Up]
  have:p ++ ((row.take off ++ ((row.drop off).take m ++ row.drop (off + m))) ++ q)=p ++ (row ++ q):=by rw [e2]
  rw [←this];simp only [Uw]
 rw [hA] at hr;obtain ⟨FA,F2,rfl,hA1,hB⟩:=hr.split;obtain ⟨FM,FZ,rfl,hM,hZ⟩:=hB.split;have hpl:(p ++ row.take off).length=i * k + off:=by rw [Uh,Uc,q2];omega
 have hset:rows.set i (ZL row off (clrs ((row.drop off).take m)))=rows.modify i (fun _=>ZL row off (clrs ((row.drop off).take m))):=by
  apply UV;intro j;rw [Mg,U6];by_cases hj:i=j
  ·subst hj;simp [(List.getElem?_eq_some_iff.1 hi).1]
  ·simp only [Uf hj];cases rows[j]? <;> rfl
 refine ⟨FA,FM,FZ,_,rfl,hM,fun j u hj=> ?_,?_,fun x hxm=> ?_⟩
 ·rw [hpl] at hj;have hj2:=Qu hj;rw [US] at hj2;exact hj2
 ·rw [hset,q3];have h3:=hA1.append ((hM.clr).append hZ);rw [Up,Up] at h3;simp only [U9] at h3;have e:p ++ (ZL row off (clrs ((row.drop off).take m)) ++ q)=p ++ row.take off ++ (clrs ((row.drop off).take m) ++ (row.drop (off + m) ++ q)):=by
   unfold ZL;rw [Xy,hpm];simp only [Uw]
  rw [e];exact h3
 ·rcases Mc hxm with h |rfl
  ·exact hx x h
  ·simp only [ZL,Uh,Uc,Uu,Xy];omega
theorem ZCd {E:Ctx} (hT:TOk P E.T) {n t:Nat} (ho:o.op= .load t (.tmp n)) (hok:(E.T t).ok=true) {key i off:Nat} (hen:s.env n= .lp key i off) {K:AV->St->Option β}
  (h:Zmf E (E.T t) key i off s K=some r):∃a s1,K a s1=some r/\ZU P GE nt o s (.val a) s1:=by
 unfold Zmf at h;split at h
 case h_2=>cases h
 rename_i ob hL;unfold ZZ at h;split at h
 case h_2=>cases h
 rename_i row0 hrow0;obtain ⟨px,hles,h⟩:=(E.ro key).ok _ _ _ h;generalize (E.ro key).enc px=row at hles h;split at h
 case isFalse=>cases h
 rename_i hle;rw [Qn] at h;obtain ⟨av,hav,h⟩:=ZG h;refine ⟨_,_,h,fun D Pr0 w0 a w ⟨ow,Pr,B,γ,hi,hd,hn⟩ hokd next Q hnext=> ?_⟩;have hs:=hi.slot n;rw [hen] at hs;obtain ⟨ob',h4,h5⟩:=hs;rw [hL] at h4;cases h4;obtain ⟨⟨⟨cur,e,m1,mz,⟨F,m2,m3,m4⟩,m5⟩,m6⟩,m7,m8⟩:=hi.memObj hL (VG hrow0);obtain ⟨F',hsub,hrow,m7',m2'⟩:=Zal m7 m2 hrow0 hles;obtain ⟨FA,FM,FZ,us,rfl,r1,r2,r3,r4⟩:=ZCc m7' m2' hrow hle;obtain ⟨v,Fc,Fd,e1,rfl,e3⟩:=ZbB hT (ad:=⟨B key,i * ob.k + off,none⟩) hok rfl (fun j u hj=>by
  rw [X8 m1];simpa using Qu (r2 j u hj)) r1 hav
 rw [MQ] at r3 r4;have m3':=m3.sublist hsub;have m4':∀b∈FA ++ (Fc ++ Fd ++ FZ),ow b=some (.o key):=fun b hb=>m4 b (hsub.subset hb)
 have nd1:=List.nodup_append.1 m3';have nd2:=List.nodup_append.1 nd1.2.1;have nd3:=List.nodup_append.1 nd2.1;have h13:(FA ++ FZ).Nodup:=List.nodup_append.2 ⟨nd1.1,nd2.2.1,fun x hx y hy=>nd1.2.2 x hx y (by simp [hy])⟩;have hfl:(ob.rows.set i (ZL row off (clrs ((row.drop off).take (E.T t).size)))).flatten.length=ob.rows.flatten.length:=by
  rw [Yb r4,Yb m7,UU]
 have hinv:=hi.takeObj (M:=Fc) hL m1 (by rw [hfl];exact r3) h13 (fun b hb=>m4' b (by
   rcases List.mem_append.1 hb with hb |hb
   ·simp [hb]
   ·simp [hb])) (fun b hb=>m4' b (by simp [hb])) (fun b hb hf=>by
   rcases List.mem_append.1 hf with hf |hf
   ·exact nd1.2.2 b hf b (by simp [hb]) rfl
   ·exact nd2.2.2 b (by simp [hb]) b hf rfl) (by simp) r4
 have h5':a.eval (.tmp n)= .pointer (some ⟨B key,i * ob.k + off,none⟩):=h5;refine Ya (w1:=w) (v:=v) (by simp [execOp,ho,h5',e1]) (hnext _ _ (Z2 hinv hd hn hokd ⟨Fc,e3,nd3.1,fun b hb=> ?_⟩));exact Ul hb
end
end Go.Fx
