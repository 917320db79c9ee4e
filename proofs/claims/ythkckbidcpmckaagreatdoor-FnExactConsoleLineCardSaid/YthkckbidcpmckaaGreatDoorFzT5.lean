/- Appends onto a slice that nobody else holds. -/
import Derived.Test.YthkckbidcpmckaaGreatDoorFzT4
set_option linter.all false
namespace Go.Fx
section
variable {P:Program} {GE:Glob} {nt:Nat} {T:Nat->TD} {β:Type} {K:SV->St->Option β} {r:β} {o:Oper} {s:St}
theorem ZCe (hT:TOk P T) {t ty e k:Nat} (ht:T t= .sl e k) {w:World} {Pr:Nat->Nat->Prop} {γ:List Nat} {base:Nat} {ow:Nat->Option Lab} {x y c:AV} {u v:Value} {F G:List Nat} (h:Zet k (byA (T e)) x y=some c)
  (hx:Rep w Pr γ base x u F) (hy:Rep w Pr γ base y v G) (hn:(F ++ G).Nodup) (hF:∀b∈F ++ G,ow b=some .pd) (hprl:∀b i:Nat,Pr b i->b < w.heap.size) (howl:∀(b:Nat) (l:Lab),ow b=some l->b < w.heap.size):
  ∃q w' Pr' ow' H,(Builtin.append_ #[t,t] ty #[u,v]).run P w= .ok q w'/\Step w w' Pr Pr' γ γ ow ow'/\Rep w' Pr' γ base c q H/\H.Nodup/\∀b∈H,ow' b=some .pd:=by
 obtain ⟨j,z,hj,hs,hk0,hby,hz,hzo,hek⟩:=JD hT ht;have hu:=VF hT ht;unfold Zet at h;split at h
 case h_2=>cases h
 rename_i k1 xs o2 k2 ys;cases hk:o2.nu && (Nat.beq k k1 && Nat.beq k k2) with
 |false=>rw [hk] at h;cases h
 |true=>
 rw [hk] at h;rw [Ub,Ub] at hk;obtain ⟨hnu,hk⟩:=hk;obtain rfl:=Ud hk.1;obtain rfl:=Ud hk.2;simp only [Ut] at h;split at h
 case isFalse=>cases h
 rename_i hle;cases h;obtain ⟨A',m,c',news,G',rfl,y1,y2,y3,y4,y5,y6,y7⟩:=hy.slice_of hnu;clear hy;rw [←ZmQ o2 ys] at hle;generalize Q7 o2 ys=ys at hle y1 y3 y4 ⊢;have hG':G'.Nodup:=y6 (List.nodup_append.1 hn).2.1;have hnl:news.length=m * k:=by rw [y4.length_eq,Yb y3,y1]
 have h1:=y4.oneCell;have hfirst:∀W:World,W.heap=w.heap->(Builtin.firstCells k m (.slice A' m c')).run P W= .ok news.toArray W:=fun W hW=>by
  rcases y7 with rfl | ⟨ad,rfl,a1,a2⟩
  ·have:news= []:=Us (by simpa using hnl);subst this;cases A' <;> simp [Builtin.firstCells,loadCells,loadCellsFrom]
  ·refine run_firstCells_some W k m ad m c' news hnl fun j v hj=> ?_
   rw [Qt a1];have:=a2 j v hj;simpa [World.cell?,hW] using this
 obtain ⟨hle1,hle2⟩:=hle;have hbig:∀{N:Nat},N=xs.length + ys.length->N * j.bytes<=140737488355328:=fun {N} hN=>by
  have:N * j.bytes<=N * byA (T e):=Fp _ (ZmC hT ht hj);rw [hN] at this ⊢;omega
 have grow:∀(olds:List Value) (n old:Nat) (Fx:List Nat),0 < n + m->n + m<=1152921504606846976->olds.length=n * k->n=xs.length->(∀x∈xs,x.length=k)->Reps w Pr γ base xs.flatten olds Fx->(Fx ++ G').Nodup->(∀b∈Fx ++ G',ow b=some .pd)->
   ∃Pr' ow' H,Step w (w.drew.alloc (.cells (olds.toArray ++ news.toArray ++ Builtin.zeroCells z.cells (grownCap w (n + m) old e - (n + m))) e)) Pr Pr' γ γ ow ow'/\
    Rep (w.drew.alloc (.cells (olds.toArray ++ news.toArray ++ Builtin.zeroCells z.cells (grownCap w (n + m) old e - (n + m))) e)) Pr' γ base (.slc .unq k (xs ++ ys)) (.slice (some ⟨w.heap.size,0,none⟩) (n + m) (grownCap w (n + m) old e)) H/\H.Nodup/\∀b∈H,ow' b=some .pd:=by
  intro olds n old Fx hnm0 hnm hol hnx hxk hrx hnd hpd;have hge:=grownCap_ge w (n + m) old e;have hcm:grownCap w (n + m) old e<=maxLen:=grownCap_le_maxLen w (n + m) old e (by simp only [maxLen];omega);have hst1:=Step.drew (γ:=γ) hprl howl;have hst2:=Step.alloc (w:=w.drew) (γ:=γ) hprl howl (.cells (olds.toArray ++ news.toArray ++ Builtin.zeroCells z.cells (grownCap w (n + m) old e - (n + m))) e) 0;have hst:=hst1.trans hst2 (fun _ _ h=>h);have hlt:∀b∈Fx ++ G',b < w.heap.size:=fun b hb=>howl b _ (hpd b hb)
  have hzc:z.cells.size=k:=by
   obtain ⟨_,z2⟩:=Zbz (w:=w) (Pr:=Pr) (γ:=γ) (base:=base) hzo;rw [z2,hek]
  refine ⟨_,_,w.heap.size::(Fx ++ G'),hst,?_,?_,fun b hb=> ?_⟩
  ·refine .unq (heap_alloc_new w.drew _) ?_ hnm0 hge hcm (by rw [Uh,y1,hnx]) (fun x hx=>(List.mem_append.1 hx).elim (hxk x) (y3 x)) (vs:=olds ++ news) ?_ ?_ (fun i=> ?_)
   ·simp only [M0,UR,size_zeroCells,hzc,hol,hnl,←UX];congr 1;omega
   ·simp only [M5,Uw];rw [←Uw,show (n + m) * k=(olds ++ news).length by rw [Uh,hol,hnl,UX]];exact FP
   ·rw [Mv];refine (hrx.append y4).mono ((Ext.drew (fun _=>False) Pr w).trans (Ext.alloc (fun _=>False) Pr _ _) (fun _ _ h=>h) (fun _ _ _ h=>h)) hst.inc hst.ge (Uq _) (by simp) fun b hb i=> ?_
    have hb':=hlt b hb;constructor
    ·rintro (h | ⟨rfl,_⟩)
     ·exact h
     ·exact absurd hb' (MR _)
    ·exact .inl
   ·rintro (h | ⟨_,h⟩)
    ·exact absurd (hprl _ _ h) (MR _)
    ·exact absurd h (Nat.not_lt_zero _)
  ·rw [List.nodup_cons];exact ⟨fun hm=>absurd (hlt _ hm) (MR _),hnd⟩
  ·show (if b=w.heap.size then _ else _)=_;rcases List.mem_cons.1 hb with rfl |hb
   ·rw [Ul rfl]
   ·rw [Uf (by have:=hlt b hb;omega)];exact hpd b hb
 have hsub:∀b∈G',b∈G:=y5;cases hx with
 | @unil _ A=>
  simp only [UQ,U0] at hle1 hle2 hbig;rcases MW m with hm |hm
  ·subst hm;have hys:ys= []:=Us y1;subst hys;exact ⟨.slice A 0 0,w,Pr,ow,[],ZrG hu hj,⟨Ext.refl _ _ _,fun _ _ _ h=>h,fun _ _ _ _=>Ms,hprl,fun _ _ _ h=>h,howl,fun _ l h _=>⟨l,h⟩,fun _ _ h=>h⟩, .unil,UE,by simp⟩
  ·rcases y7 with h0 | ⟨ad,rfl,a1,a2⟩
   ·omega
   have hcell:∀(j:Nat) (u:Value),news[j]? =some u->w.cell? (ad.add j)=some u:=fun j u hj=>by rw [Qt a1];exact a2 j u hj
   obtain ⟨Pr',ow',H,g1,g2,g3,g4⟩:=grow [] 0 0 [] (by omega) (by omega) (by simp) rfl (by simp) .nil (by simpa using hG') (fun b hb=>hF b (UD _ (hsub b (by simpa using hb))));rw [U0] at g1 g2;refine ⟨_,_,Pr',ow',H,?_,g1,g2,g3,g4⟩;have hfit:=growslice_fits (need:=m) (old:=0) (bytes:=j.bytes) hm (hbig (by omega));cases A with
   |none=>
    have:=run_append_nil (P:=P) w t ty e j z hu hj hz ad m c' news (by rw [hs];exact hnl) hcell hm (by omega) (by have:=hbig (N:=m) (by omega);omega);rw [this];simp
   |some A=>
    have:=run_append_grow (P:=P) w t ty e j z hu hj hz A 0 0 [] (by simp) (by simp) ad m c' news (by rw [hs];exact hnl) hcell (by omega) (by omega) (by simpa using hfit);simp only [U0] at this;rw [this]
 | @unq _ b n cap e' cur _ vs Fx e1 e2 hpos e3 e4 e5 e6 e7 e8 e9=>
  have hFn:=(List.nodup_append.1 hn).1;have hdis:∀x∈b::Fx,x∉G':=fun x hx hg=>(List.nodup_append.1 hn).2.2 x hx x (hsub x hg) rfl
  have hpd:∀x∈Fx ++ G',ow x=some .pd:=fun x hx=>hF x (by
   rcases List.mem_append.1 hx with hx |hx
   ·simp [hx]
   ·exact UD _ (hsub x hx))
  have hnd:=ZrH hFn hG' hdis;have hvl:vs.length=n * k:=by rw [e8.length_eq,Yb e6,e5]
  by_cases hroom:n + m<=cap
  ·have hrun:=ZrF (ty:=ty) (n:=n) (cap:=cap) (m:=m) hu hj hs e1 hnl (hfirst w rfl) h1 hroom e2;have hbp:ow b=some .pd:=hF b (by simp);have hblt:=YL e1;have hsz:(cur.toList.take (n * k) ++ news ++ cur.toList.drop (n * k + news.length)).toArray.size=cur.size:=by
    have:(n + m) * k<=cap * k:=UL _ hroom;rw [UX] at this;simp only [UR,Uh,Uc,Uu,Ue];omega
   have htk:(cur.toList.take (n * k) ++ news ++ cur.toList.drop (n * k + news.length)).take ((n + m) * k)=vs ++ news:=by
    rw [e7,show (n + m) * k=(vs ++ news).length by rw [Uh,hvl,hnl,UX]];exact FP
   have hext:Ext (fun c=>c=b) Pr w (w.setRow b (cur.toList.take (n * k) ++ news ++ cur.toList.drop (n * k + news.length)).toArray):=by
    refine ⟨rfl,rfl,rfl,by simp,fun c hc hnp=>setRow_other w b c _ hnp,fun c i hc hp=> ?_,fun c cu ty hc=> ?_⟩
    ·by_cases hcb:c=b
     ·subst hcb;exact absurd hp (e9 i)
     ·exact cell_setRow_other w b _ _ hcb
    ·by_cases hcb:c=b
     ·subst hcb;rw [e1] at hc;cases hc;exact ⟨_,setRow_heap w c cur _ e' _ e1,hsz⟩
     ·exact ⟨cu,by rw [setRow_other w b c _ hcb];exact hc,rfl⟩
   have hst:Step w (w.setRow b (cur.toList.take (n * k) ++ news ++ cur.toList.drop (n * k + news.length)).toArray) Pr Pr γ γ ow ow:=by
    refine ⟨⟨rfl,rfl,rfl,by simp,fun c hc hnp=>setRow_other w b c _ (fun e=>hnp (by rw [e];exact hbp)),hext.cell,hext.shp⟩,fun _ _ _ h=>h,fun c i hc hnp=>Ms,fun c i hp=> ?_,fun _ _ _ h=>h,fun c l hc=>by rw [setRow_size];exact howl c l hc,fun _ l h _=>⟨l,h⟩,fun _ _ h=>h⟩
    ·rw [setRow_size];exact hprl c i hp
   refine ⟨_,_,_,_,b::(Fx ++ G'),hrun,hst,?_,hnd,fun x hx=> ?_⟩
   ·refine .unq (setRow_heap w b cur _ e' _ e1) (hsz.trans e2) (by omega) hroom e4 (by rw [Uh,e5,y1]) (fun x hx=>(List.mem_append.1 hx).elim (e6 x) (y3 x)) htk ?_ e9
    ·rw [Mv];refine (e8.append y4).mono hext hst.inc hst.ge (Uq _) (fun x hx e=>(List.nodup_cons.1 hnd).1 (e ▸ hx)) fun x hx i=> ?_
     exact Ms
   ·rcases List.mem_cons.1 hx with rfl |hx
    ·exact hbp
    ·exact hpd x hx
  ·rcases y7 with h0 | ⟨ad,rfl,a1,a2⟩
   ·omega
   have hcell:∀(j:Nat) (u:Value),news[j]? =some u->w.cell? (ad.add j)=some u:=fun j u hj=>by rw [Qt a1];exact a2 j u hj
   have holds:∀(j:Nat) (u:Value),vs[j]? =some u->w.cell? ((⟨b,0,none⟩:Addr).add j)=some u:=fun j u hj=>by
    rw [Zhg];have:=Zhh (n:=n) (k:=k) e1 j u (by rw [e7];exact hj);exact this
   obtain ⟨Pr',ow',H,g1,g2,g3,g4⟩:=grow vs n cap Fx (by omega) (by omega) hvl e5.symm e6 e8 (List.nodup_cons.1 hnd).2 hpd;refine ⟨_,_,Pr',ow',H,?_,g1,g2,g3,g4⟩;exact run_append_grow (P:=P) w t ty e j z hu hj hz ⟨b,0,none⟩ n cap vs (by rw [hs];exact hvl) holds ad m c' news (by rw [hs];exact hnl) hcell (by omega) (by omega) (growslice_fits (by omega) (hbig (by omega)))
theorem ZCf (hT:TOk P T) {t t' e k:Nat} {x y:Operand} {c:Call} {tk:Bool} {cf cf':Value->Option AV} (hcf:CfOk cf) (hcf':CfOk cf') (ho:o.op= .call c) (hc:c.callee= .builtin .append) (hx:c.args.toList= [x,y]) (hts:c.argTypes.toList= [t,t'])
  (htt:Nat.beq t t'=true) (ht:T t= .sl e k)
  (h:rd true cf x s (fun a s1=>rd tk cf' y s1 fun b s2=>match a,b with
   | .val a, .val b=>(Zet k (byA (T e)) a b).bind fun r=>K (.val r) s2
   | _,_=>none)=some r):∃sv s1,K sv s1=some r/\ZU P GE nt o s sv s1:=by
 obtain rfl:=Ud htt;obtain ⟨sx,s1,h,hrx⟩:=Xj (GE:=GE) hcf h;obtain ⟨sy,s2,h,hry⟩:=Xj (GE:=GE) hcf' h;split at h
 case h_2=>cases h
 rename_i a b;obtain ⟨q,hq,h⟩:=ZG h;have hargs:c.args= #[x,y]:=by apply Mu;simpa using hx
 have htys:c.argTypes= #[t,t]:=by apply Mu;simpa using hts
 refine ⟨_,_,h,fun D Pr0 w0 a w ⟨ow,Pr,B,γ,hi,hd,hn⟩ hok next Q hnext=> ?_⟩;obtain ⟨ow1,h1,h2,F,f1,f2,f3,f4⟩:=hrx.ok hi;obtain ⟨ow2,h3,h4,G,g1,g2,g3,g4⟩:=hry.ok h1;have hnd:(F ++ G).Nodup:=by
  rw [List.nodup_append];exact ⟨f2,g2,fun x hx y hy e=>by subst e;exact g4 x hy (f3 x hx)⟩
 obtain ⟨v,w',Pr',ow',H,e1,e2,e3,e4,e5⟩:=ZCe (ty:=o.type) hT ht hq f1 g1 hnd (fun b hb=>by
  rcases List.mem_append.1 hb with hb |hb
  ·exact h4 b (f3 b hb)
  ·exact g3 b hb) h3.prl h3.owl
 have hrun:(execOp a.eval o).run P w= .ok (.value v) w':=by
  simp [execOp,ho,resolve,hc,hargs,htys,invoke,builtin,e1]
 exact Ya hrun (hnext _ _ (Z2 (h3.step e2 rfl) hd hn hok ⟨H,e3,e4,e5⟩))
theorem ZCg (hT:TOk P T) {t e k:Nat} {parts:Array (Nat×Operand)} (ho:o.op= .buildSlice t 0 parts) (ht:T t= .sl e k) (hp:parts.toList= [])
  (h:K (.val (.slc .unq k [])) s=some r):∃sv s1,K sv s1=some r/\ZU P GE nt o s sv s1:=by
 refine ⟨_,_,h,fun D Pr0 w0 a w ⟨ow,Pr,B,γ,hi,hd,hn⟩ hok next Q hnext=> ?_⟩;obtain ⟨j,z,hj,hs,hk0,hby,hz,hzo,hek⟩:=JD hT ht;have hu:=VF hT ht;have hpe:parts= #[]:=by apply Mu;simpa using hp
 have hrun:(execOp a.eval o).run P w= .ok (.value (.slice (some ⟨w.heap.size,0,none⟩) 0 0)) (w.alloc (.cells #[] e)):=by
  have:(Instr.buildSlice t 0 #[]).run P w= .ok (.slice (some ⟨w.heap.size,0,none⟩) 0 0) (w.alloc (.cells #[] e)):=by
   simp [Instr.buildSlice,run_underlying hu,sizeOf,typeInfo,hj,newRow,Instr.fill,show Array.range 0= #[] from rfl]
  simp [execOp,ho,hpe,this]
 have hst:=Step.alloc (γ:=γ) hi.prl hi.owl (.cells #[] e) 0;exact Ya hrun (hnext _ _ (Z2 (hi.step hst rfl) hd hn hok ⟨[], .unil,UE,by simp⟩))
theorem Inv.unthaw {D:Nat->Prop} {Pr0:Nat->Nat->Prop} {w0:World} {tm:Nat->Value} {w:World} {ow:Nat->Option Lab} {Pr:Nat->Nat->Prop} {B:Nat->Nat} {γ:List Nat} {n key:Nat} {ob:LObj}
  (h:Inv GE D Pr0 w0 s tm w ow Pr B γ) (hn:s.env n= .la key) (hL:s.L key=some ob) (hz:ob.frz=false):
  ∃ow',Inv GE D Pr0 w0 {s with env:=upd (Zbs key s.env) n (.val (.slc .unq ob.k ob.rows)),L:=upd s.L key none} tm w ow' Pr B γ:=by
 have hst:=h.slot n;rw [hn] at hst;obtain ⟨ob1,A,cap,e1,e2,e3⟩:=hst;rw [hL] at e1;cases e1;have hLne:∀{key':Nat},Nat.beq key' key=false->upd s.L key none key'=s.L key':=fun {key'} hk=>ZA _ _ fun e=>by subst e;rw [MC] at hk;cases hk
 have hval:∃(ow':Nat->Option Lab) (F:List Nat),Rep w Pr γ w0.heap.size (.slc .unq ob.k ob.rows) (tm n) F/\F.Nodup/\(∀b∈F,ow' b=some (.t n))/\
   (∀b l,l≠ .o key->l≠ .bk key->ow b=some l->ow' b=some l)/\∀b l,ow' b=some l->∃l',ow b=some l':=by
  rcases e3 with e3 | ⟨rfl,hn0,hnc,hcm,cur,e,q1,q2⟩
  ·have hr0:ob.rows= []:=Us e3.1;refine ⟨ow,[],?_,UE,(fun _ hb=>by cases hb),fun _ _ _ _ hb=>hb,fun _ l hb=>⟨l,hb⟩⟩;rw [e2,hr0,e3.2];exact .unil
  ·obtain ⟨⟨⟨cur',e',m1,mz,⟨F,m2,m3,m4⟩,m5⟩,m6⟩,m7,m8⟩:=h.memObj hL (by intro h0;rw [h0] at hn0;simp at hn0);rw [q1] at m1;cases m1;have hbF:B key∉F:=fun hm=>by
    have:=m4 _ hm;rw [m6] at this;cases this
   refine ⟨fun x=>if x=B key\/x∈F then some (.t n) else ow x,B key::F,?_,List.nodup_cons.2 ⟨hbF,m3⟩,fun b hb=>Ul ((List.mem_cons.1 hb).elim .inl .inr),fun b l h1 h2 hb=> ?_,fun b l hb=> ?_⟩
   ·rw [e2];refine .unq q1 q2 hn0 hnc hcm rfl m7 (by rw [←Yb m7]) m2 fun i hp=> ?_
    have:=((m5 i).1 hp).1;rw [hz] at this;cases this
   ·show (if b=B key\/b∈F then _ else _)=_;rw [Uf ?_]
    ·exact hb
    ·rintro (rfl |hm)
     ·rw [m6] at hb;exact h2 (Un hb).symm
     ·rw [m4 b hm] at hb;exact h1 (Un hb).symm
   ·have hb':(if b=B key\/b∈F then some (Lab.t n) else ow b)=some l:=hb;split at hb'
    ·rename_i hm;rcases hm with rfl |hm
     ·exact ⟨_,m6⟩
     ·exact ⟨_,m4 b hm⟩
    ·exact ⟨_,hb'⟩
 obtain ⟨ow',F,f1,f2,f3,hlab,hget⟩:=hval;refine ⟨ow',⟨h.ext,h.oldp,h.inc,fun t'=> ?_,fun key' ob' hk'=> ?_,fun id r hr=> ?_,h.glen,h.prl,fun x l hx=> ?_,fun x l hx hlt=> ?_,h.ngs,h.gl,fun x l hx=> ?_,h.gpre⟩⟩
 ·show Slot _ _ _ _ _ _ _ _ (upd (Zbs key s.env) n _ t') _;by_cases htt:t'=n
  ·subst htt;rw [ZE];exact ⟨F,f1,f2,f3⟩
  ·rw [ZA _ _ htt];have hs:=h.slot t';unfold Zbs;cases he:s.env t' with
   |no=>exact trivial
   |val c=>
    rw [he] at hs;obtain ⟨G,g1,g2,g3⟩:=hs;exact ⟨G,g1,g2,fun x hx=>hlab x _ (by simp) (by simp) (g3 x hx)⟩
   |lp key' i off=>
    rw [he] at hs;simp only;cases hk:Nat.beq key' key with
    |true=>exact trivial
    |false=>
     obtain ⟨o1,e1,e2⟩:=hs;exact ⟨o1,(hLne hk).trans e1,e2⟩
   |la key'=>
    rw [he] at hs;simp only;cases hk:Nat.beq key' key with
    |true=>exact trivial
    |false=>
     obtain ⟨o1,A,cap,e1,e2⟩:=hs;exact ⟨o1,A,cap,(hLne hk).trans e1,e2⟩
   |lv key' i off ag=>
    rw [he] at hs;simp only;cases hk:Nat.beq key' key with
    |true=>exact trivial
    |false=>
     obtain ⟨o1,cu,ty,e1,e2,e3,e4⟩:=hs;refine ⟨o1,cu,ty,(hLne hk).trans e1,e2,hlab _ _ (by simp) (fun e=> ?_) e3,e4⟩;cases e;rw [MC] at hk;cases hk
 ·by_cases hkk:key'=key
  ·subst hkk;have hk2:upd s.L key' none key'=some ob':=hk';rw [ZE] at hk2;cases hk2
  ·have hk2:s.L key'=some ob':=(ZA s.L _ hkk).symm.trans hk';obtain ⟨hmm,m4⟩:=h.obj key' ob' hk2;refine ⟨hmm.imp (fun x=>x) fun hmm=> ?_,m4⟩;obtain ⟨⟨cur',e',m1,mz,⟨G,g1,g2,g3⟩,m2⟩,m3⟩:=hmm;exact ⟨⟨cur',e',m1,mz,⟨G,g1,g2,fun x hx=>hlab x _ (by simpa using hkk) (by simp) (g3 x hx)⟩,m2⟩,hlab _ _ (by simp) (by simpa using hkk) m3⟩
 ·obtain ⟨b',hb,⟨⟨cur',e',m1,mz,⟨G,g1,g2,g3⟩,m2⟩,m3⟩⟩:=h.gob id r hr;exact ⟨b',hb,⟨⟨cur',e',m1,mz,⟨G,g1,g2,fun x hx=>hlab x _ (by simp) (by simp) (g3 x hx)⟩,m2⟩,hlab _ _ (by simp) (by simp) m3⟩⟩
 ·obtain ⟨l',hl'⟩:=hget x l hx;exact h.owl x l' hl'
 ·obtain ⟨l',hl'⟩:=hget x l hx;exact h.owD x l' hl' hlt
 ·obtain ⟨l',hl'⟩:=hget x l hx;exact h.ngo x l' hl'
theorem ZCh {n:Nat} {s':St} (h:Zmi n s=some s') {D:Nat->Prop} {Pr0:Nat->Nat->Prop} {w0:World} {a:Act} {w:World} (hat:At GE D Pr0 w0 nt s a w):At GE D Pr0 w0 nt s' a w:=by
 unfold Zmi at h;split at h
 case h_3=>cases h
 case h_2=>cases h;exact hat
 rename_i key hen;split at h
 case h_2=>cases h
 rename_i ob hL;cases hf:ob.frz with
 |true=>rw [hf] at h;cases h
 |false=>
 rw [hf] at h;cases h;obtain ⟨ow,Pr,B,γ,h1,h2,h3⟩:=hat;obtain ⟨ow1,h4⟩:=h1.unthaw hen hL hf;obtain ⟨ow2,Pr2,h5⟩:=h4.frz (d:=n) (a:= .slc .unq ob.k ob.rows) (ZE _ _ _);have e:upd (upd (Zbs key s.env) n (.val (.slc .unq ob.k ob.rows))) n (.val (AV.slc .unq ob.k ob.rows).frz)=upd (Zbs key s.env) n (.val (.slc .own ob.k (ZY ob.rows))):=Ku _ _ _ _;rw [e] at h5;exact ⟨ow2,Pr2,B,γ,h5,h2,h3⟩
theorem ZrV {n:Nat} {s':St} (h:Zg5 n s=some s') {D:Nat->Prop} {Pr0:Nat->Nat->Prop} {w0:World} {a:Act} {w:World} (hat:At GE D Pr0 w0 nt s a w):At GE D Pr0 w0 nt s' a w:=by
 unfold Zg5 at h;split at h
 case h_3=>cases h
 case h_2=>cases h;exact hat
 rename_i key hen;split at h
 case h_2=>cases h
 rename_i ob hL;cases hf:ob.frz with
 |true=>rw [hf] at h;cases h
 |false=>
 rw [hf] at h;cases h;obtain ⟨ow,Pr,B,γ,h1,h2,h3⟩:=hat;obtain ⟨ow1,h4⟩:=h1.unthaw hen hL hf;exact ⟨ow1,Pr,B,γ,h4,h2,h3⟩
theorem ZrW {n:Nat} {d:Option Nat} {s':St} (h:Zg6 n d s=some s') {D:Nat->Prop} {Pr0:Nat->Nat->Prop} {w0:World} {a:Act} {w:World} (hat:At GE D Pr0 w0 nt s a w):At GE D Pr0 w0 nt s' a w:=by
 unfold Zg6 at h;split at h
 ·rename_i d k rows hen;split at h
  ·rename_i hL;cases h;obtain ⟨ow,Pr,B,γ,h1,h2,h3⟩:=hat;obtain ⟨ow1,B1,h4⟩:=h1.thaw hen hL;exact ⟨ow1,Pr,B1,γ,h4,h2,h3⟩
  ·cases h
 ·cases h;exact hat
 ·cases h
theorem ZCi {n:Nat} {d:Option Nat} {s':St} (h:Zmj n d s=some s') {D:Nat->Prop} {Pr0:Nat->Nat->Prop} {w0:World} {a:Act} {w:World} (hat:At GE D Pr0 w0 nt s a w):At GE D Pr0 w0 nt s' a w:=by
 unfold Zmj at h;obtain ⟨s1,h1,h2⟩:=Option.bind_eq_some_iff.1 h;refine ZrW h2 ?_;split at h1
 ·split at h1
  ·cases h1;exact hat
  ·exact ZrV h1 hat
 ·cases h1;exact hat
end
end Go.Fx
