/- Where a value lies; what a call is lent; results that become variables. -/
import Derived.Test.YthkckbidcpmckaaGreatDoorFzT
set_option linter.all false
namespace Go.Fx
section
variable {P:Program} {GE:Glob} {nt:Nat} {T:Nat->TD} {β:Type} {K:SV->St->Option β} {r:β} {o:Oper} {s:St}
theorem ZmT {w:World} {Pr:Nat->Nat->Prop} {γ:List Nat} {base:Nat} {d:TD} {cs:List AV} {us:List Value} {F:List Nat} {a:AV} {v:Value} {cur:Array Value} {p:Nat} (hr:Reps w Pr γ base cs us F)
  (hc:∀(j:Nat) (u:Value),us[j]? =some u->cur[p + j]? =some u) (hlv:Zbx cur p d.ag v) (h:mkA d cs=some a):∃F1 F2,F=F1 ++ F2/\Rep w Pr γ base a v F1:=by
 unfold mkA at h;unfold TD.ag at hlv;cases ha:d.isAgg with
 |true=>
  rw [ha] at h hlv;simp only [Ut] at h hlv;split at h
  ·rename_i hle;cases h;obtain ⟨us',rfl,hl,hu⟩:=hlv;have hsp:Reps w Pr γ base (cs.take d.size ++ cs.drop d.size) us F:=by rw [Up];exact hr
   obtain ⟨F1,F2,e,h6,_⟩:=hsp.split;have hlen:(cs.take d.size).length=d.size:=by rw [Uc];omega
   rw [hlen] at h6;have hus:us'=us.take d.size:=by
    have hul:=hr.length_eq;apply UV;intro j;rw [UA];by_cases hj:j < d.size
    ·rw [Ul hj];have h1:us'[j]? =some us'[j]:=Ua (by omega);have h2:us[j]? =some us[j]:=Ua (by omega);have e1:=hu j _ h1;have e2:=hc j _ h2;rw [e1] at e2;rw [h1,h2,Un e2]
    ·rw [Uf hj,UP (by omega)]
   subst hus;exact ⟨F1,F2,e, .agg h6⟩
  ·cases h
 |false=>
  rw [ha] at h hlv;simp only [Ur] at h hlv;obtain ⟨u,F1,F2,e1,e2,e3⟩:=hr.getHead h;have h1:=hc 0 u e1;have h2:cur[p]? =some v:=hlv;rw [MZ,h2] at h1;cases h1;exact ⟨F1,F2,e2,e3⟩
theorem ZmU {a b:Ag} (h:Zbq a b=true):a=b:=by
 unfold Zbq at h;split at h
 ·rfl
 ·rw [Ud h]
 ·cases h
theorem ZBP (hT:TOk P T) {w:World} {t:Nat} {ad:Addr} {cs:List AV} {vs:List Value} {a:AV} (hok:(T t).ok=true) (hs:ad.spot=none) (hc:K5 w ad vs) (hl:vs.length=cs.length)
  (h:mkA (T t) cs=some a) {cur:Array Value} {p:Nat} (hcur:∀(j:Nat) (u:Value),vs[j]? =some u->cur[p + j]? =some u):∃v,(Instr.loadAt t (.pointer (some ad))).run P w= .ok v w/\Zbx cur p (T t).ag v:=by
 obtain ⟨h1,i,h2,h3⟩:=ZmH hT hok;unfold mkA at h;unfold TD.ag;cases ha:(T t).isAgg with
 |true=>
  rw [ha] at h;simp only [Ut] at h ⊢;split at h
  ·rename_i hle;have hll:=run_loadCells_list (P:=P) w ad (vs.take (T t).size) (fun j v hj=>by
    rw [Qt hs];exact hc j v (Qu hj))
   have hl2:(vs.take (T t).size).length=(T t).size:=by rw [Uc];omega
   rw [hl2] at hll;refine ⟨.agg (vs.take (T t).size).toArray,?_,_,rfl,hl2,fun j u hj=>hcur j u (Qu hj)⟩;simp [Instr.loadAt,Instr.sureAddr,loadVar,h1,ha,sizeOf,typeInfo,h2,h3,hll]
  ·cases h
 |false=>
  rw [ha] at h;simp only [Ur] at h ⊢;cases cs with
  |nil=>cases h
  |cons c cs=>
  have hpos:0 < vs.length:=by rw [hl];simp
  have e1:vs[0]? =some vs[0]:=Ua hpos;have hv:=hc 0 _ e1;have hv':w.cell? ad=some vs[0]:=by
   obtain ⟨b,f,sp⟩:=ad;simp only at hs;subst hs;simpa using hv
  refine ⟨vs[0],?_,?_⟩
  ·simp [Instr.loadAt,Instr.sureAddr,loadVar,h1,ha,hv']
  ·have:=hcur 0 _ e1;simpa [Zbx] using this
theorem ZBQ {E:Ctx} (hT:TOk P T) {t:Nat} {x:Operand} (ho:o.op= .load t x) (hok:(T t).ok=true)
  (h:rd false (fun _=>none) x s (fun p s'=>Zbp E (T t) p s' K)=some r):∃sv s1,K sv s1=some r/\ZU P GE nt o s sv s1:=by
 obtain ⟨sv,s1,h,hr⟩:=Xj (GE:=GE) CfOk.none h;unfold Zbp at h;simp only [Qn] at h;split at h
 ·rename_i key i off;split at h
  ·rename_i ob hL;unfold ZZ at h;split at h
   ·rename_i row0 hrow0;obtain ⟨px,hle,h⟩:=(E.ro key).ok _ _ _ h;generalize (E.ro key).enc px=row at hle h;obtain ⟨av,hav,h⟩:=ZG h;refine ⟨_,_,h,fun D Pr0 w0 a w ⟨ow,Pr,B,γ,hi,hd,hn⟩ hokd next Q hnext=> ?_⟩;obtain ⟨ow1,h1,_,h3⟩:=hr.ok hi;obtain ⟨ob',h4,h5⟩:=h3;rw [hL] at h4;cases h4;obtain ⟨⟨⟨cur,e,m1,mz,⟨F,m2,m3,m4⟩,m5⟩,m6⟩,m7,m8⟩:=h1.memObj hL (VG hrow0);obtain ⟨F',_,hrow,m7',m2'⟩:=Zal m7 m2 hrow0 hle;obtain ⟨F1,Fa,Fb,F3,us,rfl,r1,r2,r3⟩:=reps_row m7' m2' hrow off;have hcu:∀(j:Nat) (u:Value),us[j]? =some u->cur[i * ob.k + off + j]? =some u:=fun j u hj=>by simpa using Qu (r2 j u hj)
    obtain ⟨v,e1,e2⟩:=ZBP hT (ad:=⟨B key,i * ob.k + off,none⟩) hok rfl (fun j u hj=>by
     rw [X8 m1];exact hcu j u hj) r1.length_eq hav hcu
    exact Ya (w1:=w) (v:=v) (by simp [execOp,ho,h5,e1]) (hnext _ _ (Z2 h1 hd hn hokd ⟨ob,cur,e,hL,m1,m6,e2⟩))
   ·cases h
  ·cases h
 ·cases h
theorem ZmV {E:Ctx} {d:TD} {p:SV} {K:AV->Option β} (h:VC E d p s K=some r):
  ∃a,K a=some r/\∀{D:Nat->Prop} {Pr0:Nat->Nat->Prop} {w0:World} {tm:Nat->Value} {w:World} {ow:Nat->Option Lab} {Pr:Nat->Nat->Prop} {B:Nat->Nat} {γ:List Nat} {t:Nat},
   Inv GE D Pr0 w0 s tm w ow Pr B γ->s.env t=p->∀base',Rep w (PA w) γ base' a (tm t) []:=by
 unfold VC at h;simp only [Qn] at h;split at h
 ·rename_i c;refine ⟨_,h,fun {D Pr0 w0 tm w ow Pr B γ t} hi he base'=> ?_⟩;have hs:=hi.slot t;rw [he] at hs;obtain ⟨F,h1,_,_⟩:=hs;exact h1.clr.toPA (fun _ _ h _=>h)
 ·rename_i key;split at h
  ·rename_i ob hL;refine ⟨_,h,fun {D Pr0 w0 tm w ow Pr B γ t} hi he base'=> ?_⟩;have hs:=hi.slot t;rw [he] at hs;obtain ⟨ob',A,cap,e1,e2,e3⟩:=hs;rw [hL] at e1;cases e1;rw [e2];rcases e3 with e3 | ⟨rfl,hn0,hnc,hcm,cur,e,q1,q2⟩
   ·have hr0:ob.rows= []:=Us e3.1;rw [hr0,e3.2];exact .shr (vs:= []) rfl (Uq _) (Mm _) (by simp [Yh]) .nil (.inl rfl)
   ·obtain ⟨⟨⟨cur',e',m1,mz,⟨F,m2,m3,m4⟩,m5⟩,m6⟩,m7,m8⟩:=hi.memObj hL (by intro h0;rw [h0] at hn0;simp at hn0);have hb:=(m2.lent (base':=base')).clr;rw [←ZrO] at hb;refine .shr (ZrQ _) hnc hcm (ZrP m7) hb (.inr ⟨⟨B key,0,none⟩,rfl,rfl,fun j v hj=> ?_,fun j hj=>YL m1,YL m1⟩);rw [U0,X8 m1];simpa using Qu hj
  ·cases h
 ·rename_i key i off ag;cases hag:Zbq ag d.ag with
  |false=>rw [hag] at h;cases h
  |true=>
  rw [hag] at h;simp only [Ut] at h;split at h
  ·rename_i ob hL;unfold ZZ at h;split at h
   ·rename_i row0 hrow0;obtain ⟨px,hle,h⟩:=(E.ro key).ok _ _ _ h;generalize (E.ro key).enc px=row at hle h;obtain ⟨av,hav,h⟩:=ZG h;refine ⟨_,h,fun {D Pr0 w0 tm w ow Pr B γ t} hi he base'=> ?_⟩;have hs:=hi.slot t;rw [he] at hs;obtain ⟨ob',cu,ty,e1,e2,e3,e4⟩:=hs;rw [hL] at e1;cases e1;obtain ⟨⟨⟨cur,e,m1,mz,⟨F,m2,m3,m4⟩,m5⟩,m6⟩,m7,m8⟩:=hi.memObj hL (VG hrow0);rw [e2] at m1;cases m1;obtain ⟨F',_,hrow,m7',m2'⟩:=Zal m7 m2 hrow0 hle;obtain ⟨F1,Fa,Fb,F3,us,rfl,r1,r2,r3⟩:=reps_row m7' m2' hrow off;rw [ZmU hag] at e4;obtain ⟨G1,G2,_,hrep⟩:=ZmT r1 (fun j u hj=>by simpa using Qu (r2 j u hj)) e4 hav;exact hrep.lent
   ·cases h
  ·cases h
 ·cases h
theorem ZBR {E:Ctx} (hT:TOk P E.T) {n:Nat} {c:Call} (ho:o.op= .call c) (hc:c.callee= .builtin .len) {t e k:Nat} {ts:List Nat} (hx:c.args.toList= [.tmp n]) (hts':c.argTypes.toList=t::ts) (ht:E.T t= .sl e k)
  (h:VC E (E.T t) (s.env n) s (fun a=>(Zeq a).bind fun l=>K (.val l) s)=some r):∃sv s1,K sv s1=some r/\ZU P GE nt o s sv s1:=by
 have hargs:c.args= #[.tmp n]:=by apply Mu;simpa using hx
 have hts:c.argTypes[0]? =some t:=by rw [←Mo,hts'];rfl
 have hu:=VF hT ht;obtain ⟨a,h,ha⟩:=ZmV (GE:=GE) h;obtain ⟨c',hc',h⟩:=ZG h;refine ⟨_,_,h,Va fun {D Pr0 w0 a w ow Pr B γ} hi=> ?_⟩;have h1:=ha hi rfl w0.heap.size;obtain ⟨ad,m,cap,h2,h3⟩:=Zrt hc' h1;refine ⟨.int .i64 m,?_,by rw [h3];exact .lit rfl⟩;have e1:a.eval (.tmp n)= .slice ad m cap:=h2;simp [execOp,ho,resolve,hc,hargs,invoke,builtin,e1,ZmA hts hu]
theorem ZBS {E:Ctx} (hT:TOk P E.T) {n:Nat} {x:Operand} {t e k:Nat} (ho:o.op= .indexAddr t (.tmp n) x) (ht:E.T t= .sl e k)
  (h:rd0 x s (fun iv=>match s.env n,iv with
   | .lv key i off .hd, .lit (.int ik m)=>VC E (E.T t) (.lv key i off .hd) s fun a=>ixK (E.R e) k a (.lit (.int ik m)) fun _=>K (.lv key i off (.el e k m.toNat 0)) s
   | _,_=>none)=some r):∃sv s1,K sv s1=some r/\ZU P GE nt o s sv s1:=by
 obtain ⟨iv,h,hiv⟩:=YX (GE:=GE) h;split at h
 case h_2=>cases h
 rename_i key i off ik m hen;obtain ⟨a,h,ha⟩:=ZmV (GE:=GE) h;obtain ⟨c,c',hc,_,h⟩:=ZmF h;refine ⟨_,_,h,fun D Pr0 w0 ac w ⟨ow,Pr,B,γ,hi,hd,hn⟩ hok next Q hnext=> ?_⟩;obtain ⟨_,hiv⟩:=hiv.ok hi;have e0:=XB hiv;have h1:=ha hi hen w0.heap.size;obtain ⟨ad,len,cap,ik',j,e1,e2,e3,e4,e5,_⟩:=ZmE hc h1 (iv:= .int ik m) (.lit rfl);cases e3;have hs:=hi.slot n;rw [hen] at hs;obtain ⟨ob,cu,ty,f1,f2,f3,f4⟩:=hs;have e1':ac.eval (.tmp n)= .slice (some ad) len cap:=e1;have hrun:(execOp ac.eval o).run P w= .ok (.value (.pointer (some ⟨ad.block,ad.off + m.toNat * k,none⟩))) w:=by
  simp only [execOp,ho,e1',e0,Sem.run_bind,ZmD hT ht e2 e4 e5,Result.andThen_ok,Sem.run_pure]
 refine Ya hrun (hnext _ _ (Z2 hi hd hn hok ⟨ob,cu,ty,f1,f2,f3,ad,len,cap,?_,by omega,by simp⟩));have f4':cu[i * ob.k + off]? =some (ZP ac n):=f4;rw [f4'];exact UC some e1
theorem ZBT {E:Ctx} (hT:TOk P E.T) {n:Nat} {t f fo sz:Nat} {cz:List (Option Nat×Value)} {offs:List (Nat×Nat)} (ho:o.op= .fieldAddr t (.tmp n) f) (ht:E.T t= .st cz offs) (hf:offs[f]? =some (fo,sz)) {key i off e k m o2:Nat} (hen:s.env n= .lv key i off (.el e k m o2))
  (h:K (.lv key i off (.el e k m (o2 + fo))) s=some r):∃sv s1,K sv s1=some r/\ZU P GE nt o s sv s1:=by
 refine ⟨_,_,h,fun D Pr0 w0 ac w ⟨ow,Pr,B,γ,hi,hd,hn⟩ hok next Q hnext=> ?_⟩;have hs:=hi.slot n;rw [hen] at hs;obtain ⟨ob,cu,ty,f1,f2,f3,ad,len,cap,g1,g2,g3⟩:=hs;have e1:ac.eval (.tmp n)= .pointer (some ⟨ad.block,ad.off + m * k + o2,none⟩):=g3;have hrun:(execOp ac.eval o).run P w= .ok (.value (.pointer (some ⟨ad.block,ad.off + m * k + o2 + fo,none⟩))) w:=by
  simp only [execOp,ho,e1,Sem.run_bind,ZmB hT ht hf (ad:=⟨ad.block,ad.off + m * k + o2,none⟩) rfl,Result.andThen_ok,Sem.run_pure]
 exact Ya hrun (hnext _ _ (Z2 hi hd hn hok ⟨ob,cu,ty,f1,f2,f3,ad,len,cap,g1,g2,by rw [MB (ad.off + m * k)]⟩))
theorem ZBU {E:Ctx} {d:TD} {key i off:Nat} {K:AV->Option β} (h:Zg3 E d key i off s K=some r):
  ∃a,K a=some r/\∀{D:Nat->Prop} {Pr0:Nat->Nat->Prop} {w0:World} {tm:Nat->Value} {w:World} {ow:Nat->Option Lab} {Pr:Nat->Nat->Prop} {B:Nat->Nat} {γ:List Nat} {v:Value} {ob:LObj} {cu:Array Value} {ty:TypeId},
   Inv GE D Pr0 w0 s tm w ow Pr B γ->s.L key=some ob->w.heap[B key]? =some (.cells cu ty (0,0))->Zbx cu (i * ob.k + off) d.ag v->∀base',Rep w (PA w) γ base' a v []:=by
 unfold Zg3 at h;simp only [Qn] at h;split at h
 ·rename_i ob hL;unfold ZZ at h;split at h
  ·rename_i row0 hrow0;obtain ⟨px,hle,h⟩:=(E.ro key).ok _ _ _ h;generalize (E.ro key).enc px=row at hle h;obtain ⟨av,hav,h⟩:=ZG h;refine ⟨_,h,fun {D Pr0 w0 tm w ow Pr B γ v ob' cu ty} hi e1 e2 e4 base'=> ?_⟩;rw [hL] at e1;cases e1;obtain ⟨⟨⟨cur,e,m1,mz,⟨F,m2,m3,m4⟩,m5⟩,m6⟩,m7,m8⟩:=hi.memObj hL (VG hrow0);rw [e2] at m1;cases m1;obtain ⟨F',_,hrow,m7',m2'⟩:=Zal m7 m2 hrow0 hle;obtain ⟨F1,Fa,Fb,F3,us,rfl,r1,r2,r3⟩:=reps_row m7' m2' hrow off;obtain ⟨G1,G2,_,hrep⟩:=ZmT r1 (fun j u hj=>by simpa using Qu (r2 j u hj)) e4 hav;exact hrep.lent
  ·cases h
 ·cases h
theorem ZrR {w:World} {Pr Pr':Nat->Nat->Prop} {γ γ':List Nat} {base base':Nat}:∀{cs:List AV} {vs:List Value} {F:List Nat},cs.all Zmd=true->Reps w Pr γ base cs vs F->Reps w Pr' γ' base' cs vs []
 | [],vs,F,_,h=>by cases h;exact .nil
 |a::cs,vs,F,ha,h=>by
  rw [MA,Ub] at ha;cases h with
  |cons h1 h2 h3=>
   have h4:=ZrR (Pr':=Pr') (γ':=γ') (base':=base') ha.2 h3;cases a with
   |lit u=>
    cases h2 with
    |lit h5=>exact Reps.cons (F:= []) (G:= []) h1 (.lit h5) h4
   | _=>simp [Zmd] at ha
theorem ZrS {w:World} {Pr Pr':Nat->Nat->Prop} {γ γ':List Nat} {base base':Nat} {a:AV} {v:Value} {F:List Nat} (ha:a.lits=true) (h:Rep w Pr γ base a v F):Rep w Pr' γ' base' a v []:=by
 cases a with
 |lit u=>cases h with |lit h5=>exact .lit h5
 |agg cs=>cases h with |agg h5=>exact .agg (ZrR ha h5)
 | _=>cases ha
theorem ZBV {E:Ctx} (hT:TOk P E.T) {n t:Nat} (ho:o.op= .load t (.tmp n)) (hok:(E.T t).ok=true) {key i off e k m o2:Nat} (hen:s.env n= .lv key i off (.el e k m o2))
  (h:Zg3 E (.sl e k) key i off s (fun a=>ixK (E.R e) k a (.lit (.int .i64 (m:Int))) fun p=>match p with
   | .rp cs=>mkK (E.T t) (cs.drop o2) fun b=>bif b.lits then K (.val b) s else none
   | _=>none)=some r):∃sv s1,K sv s1=some r/\ZU P GE nt o s sv s1:=by
 obtain ⟨a,h,ha⟩:=ZBU (GE:=GE) h;obtain ⟨c,c',hc,hle,h⟩:=ZmF h;split at h
 case h_2=>cases h
 rename_i cs;rw [Qn] at h;obtain ⟨b,hb,h⟩:=ZG h;cases hl:b.lits with
 |false=>rw [hl] at h;cases h
 |true=>
 rw [hl] at h;refine ⟨_,_,h,fun D Pr0 w0 ac w ⟨ow,Pr,B,γ,hi,hd,hn⟩ hokd next Q hnext=> ?_⟩;have hs:=hi.slot n;rw [hen] at hs;obtain ⟨ob,cu,ty,f1,f2,f3,ad,len,cap,g1,g2,g3⟩:=hs;have h1:=ha hi f1 f2 (v:= .slice (some ad) len cap) g1 w0.heap.size;obtain ⟨ad',len',cap',ik',j,e1,e2,e3,e4,e5,F1,F2,F3,eF,h6⟩:=ZmE hc h1 (iv:= .int .i64 (m:Int)) (.lit rfl);cases e1;cases e3;obtain ⟨F2',_,h7⟩:=hle.rep h6;cases h7 with
 |rp q1 q2 q3 q4 q5=>
  rw [←Up o2 cs] at q5;obtain ⟨Ga,Gb,_,q6,q7⟩:=q5.split;have hll:=q5.length_eq;rw [Up] at hll;obtain ⟨v,G1,G2,r1,_,r3⟩:=ZbB hT (ad:=⟨ad.block,ad.off + m * k + o2,none⟩) hok rfl (fun j u hj=>by
   rw [US] at hj;have hjl:=(List.getElem?_eq_some_iff.1 hj).1;rw [Uc] at hj hjl;have hmin:min o2 cs.length=o2:=by omega
   rw [hmin] at hj;have:=q2 _ _ hj;simp only [Ux] at this;show w.cell? ⟨ad.block,ad.off + m * k + o2 + j,none⟩=some u;rw [MB (ad.off + m * k) o2 j];exact this) q7 hb
  have e0:ac.eval (.tmp n)= .pointer (some ⟨ad.block,ad.off + m * k + o2,none⟩):=g3;exact Ya (w1:=w) (v:=v) (by simp [execOp,ho,e0,r1]) (hnext _ _ (Z2 hi hd hn hokd ⟨[],ZrS hl r3,UE,by simp⟩))
theorem ZmW {E:Ctx}:∀{xs:List Operand} {ts:List Nat} {K:List AV->Option β},Jz E xs ts s K=some r->
  ∃as,K as=some r/\∀{D:Nat->Prop} {Pr0:Nat->Nat->Prop} {w0:World} {a:Act} {w:World} {ow:Nat->Option Lab} {Pr:Nat->Nat->Prop} {B:Nat->Nat} {γ:List Nat},
   Inv GE D Pr0 w0 s (ZP a) w ow Pr B γ->∀base',RepL w (PA w) γ base' as (xs.map a.eval) []
 | [],ts,K,h=>⟨[],h,fun _ _=> .nil⟩
 |x::xs,ts,K,h=>by
  simp only [Jz] at h;split at h
  ·rename_i n;obtain ⟨a,h,ha⟩:=ZmV (GE:=GE) h;obtain ⟨as,h,has⟩:=ZmW h;exact ⟨_,h,fun hi base'=>RepL.cons (F:= []) (G:= []) (ha hi rfl base') (has hi base')⟩
  ·rename_i v;obtain ⟨a,ha,h⟩:=ZG h;obtain ⟨as,h,has⟩:=ZmW h;exact ⟨_,h,fun hi base'=>RepL.cons (F:= []) (G:= []) (Zri ha).clr (has hi base')⟩
  ·cases h
theorem ZBW {E:Ctx} {f vr:Nat} {c:Call} (hC:Xq P GE.ng GE.G0 E.C) (ho:o.op= .call c) (hc:c.callee= .value (.func f))
  (h:Zbr E f vr c.args.toList c.argTypes.toList s K=some r):∃sv s2,K sv s2=some r/\ZU P GE nt o s sv s2:=by
 unfold Zbr at h;obtain ⟨as,h,has⟩:=ZmW (GE:=GE) h;split at h
 ·cases h
 rename_i en hen;cases hng:as.all AV.ng with
 |false=>rw [hng] at h;cases h
 |true=>
 rw [hng] at h;simp only [Ut] at h;obtain ⟨r0,hcl,h⟩:=ZG h;obtain ⟨x0,⟨hle,hlg⟩,hS⟩:=en.ps.ok _ _ _ hcl;have hsp:=hC f vr en hen x0 r0 hS;have hg0:(en.ps.enc x0).2= []:=Us hlg.length;rw [hg0] at hsp;split at h
 case h_2=>cases h
 rename_i hg1;rw [hg1] at hsp;unfold ifA at h;split at h
 case isFalse=>cases h
 rename_i hok;have hargs:∀a:Act,c.args.map a.eval=(c.args.toList.map a.eval).toArray:=fun a=>by apply Mu;simp
 have hrun:∀{a:Act} {w:World},(execOp a.eval o).run P w=(callFunc f (c.args.toList.map a.eval).toArray).run P w:=by
  intro a w;simp [execOp,ho,resolve,hc,hargs,Act.eval,Deferred.ofValue,invoke]
 refine ⟨_,_,h,fun D Pr0 w0 a w ⟨ow,Pr,B,γ,hi,hd,hn⟩ hokd next Q hnext=> ?_⟩;have hall:=(has hi w.heap.size).nog (γ':= []) hng;obtain ⟨F2,hsub,hall2⟩:=hle.repl hall;have hF2:F2= []:=List.sublist_nil.1 hsub;subst hF2;obtain ⟨hent,hcalls⟩:=hsp w (PA w) [] (fun _=>none) _ [] hall2 UE (by simp) (by simp) (by simp) rfl (fun b i h=>h) (by simp) hi.ngs hi.gl (by simp);unfold Oper.wp;rw [hrun,hent,Oper.upon_enter];refine hcalls.mono fun e w' he=> ?_
 cases e with
 |returned v=>
  have hp:CallPost _ w (PA w) [] (en.rs.enc r0).1 [] v w':=he;obtain ⟨ow1,Pr',γ',H,h1,h2,h3,h4,h5,h6,_,h8,_,h10,h11,h12⟩:=hp;have hnD:∀b,¬(b∈([]:List Nat)\/(none:Option Lab)≠none):=fun b hb=>by simp at hb
  have hH:∀b∈H,¬b < w.heap.size:=fun b hb hlt=>hnD b (h12 b _ (h6 b hb) hlt)
  have hst:Step w w' Pr (fun b i=>b < w.heap.size/\Pr b i) γ γ ow (fun b=>if b∈H then some .pd else ow b):=by
   refine ⟨⟨h1.os,h1.tape,h1.output,h1.size,fun b hb _=>h1.blk b hb (hnD b),fun b i hb _=>h1.cell b i hb hb,h1.shp⟩,fun b i hb hp=>⟨hb,hp⟩,fun b i hb _=>⟨fun h=>h.2,fun h=>⟨hb,h⟩⟩,fun b i hp=>UB hp.1 h1.size,fun b l hl hb=> ?_,fun b l hb=> ?_,fun b l hb hlt=> ?_,fun _ _ h=>h⟩
   ·show (if b∈H then _ else _)=_;rw [Uf fun hm=>hH b hm (hi.owl b l hb)];exact hb
   ·have hb':(if b∈H then some Lab.pd else ow b)=some l:=hb;split at hb'
    ·rename_i hm;exact h11 b _ (h6 b hm)
    ·exact UB (hi.owl b l hb') h1.size
   ·have hb':(if b∈H then some Lab.pd else ow b)=some l:=hb;split at hb'
    ·rename_i hm;exact absurd hlt (hH b hm)
    ·exact ⟨_,hb'⟩
  refine hnext _ _ (Z2 (hi.step hst rfl) hd hn hokd ⟨H,h4.mine hok fun b hb i hp=>hH b hb hp.1,h5,fun b hb=>Ul hb⟩)
 |panicked _=>exact he.elim
 |outgrown=>exact he.elim
theorem Inv.thaw {D:Nat->Prop} {Pr0:Nat->Nat->Prop} {w0:World} {tm:Nat->Value} {w:World} {ow:Nat->Option Lab} {Pr:Nat->Nat->Prop} {B:Nat->Nat} {γ:List Nat} {t d k:Nat} {rows:List (List AV)}
  (h:Inv GE D Pr0 w0 s tm w ow Pr B γ) (ht:s.env t= .val (.slc .unq k rows)) (hL:s.L d=none):
  ∃ow' B',Inv GE D Pr0 w0 {s with env:=upd s.env t (.la d),L:=upd s.L d (some ⟨false,k,rows⟩)} tm w ow' Pr B' γ:=by
 have hst:=h.slot t;rw [ht] at hst;obtain ⟨F,h1,h2,h3⟩:=hst;have hLne:∀{key':Nat} {ob':LObj},s.L key'=some ob'->key'≠d:=fun {key' ob'} hk e=>by subst e;rw [hL] at hk;cases hk
 generalize hv:tm t=v at h1;cases h1 with
 | @unil _ A=>
  refine ⟨ow,B,⟨h.ext,h.oldp,h.inc,fun t'=> ?_,fun key' ob' hk'=> ?_,h.gob,h.glen,h.prl,h.owl,h.owD,h.ngs,h.gl,h.ngo,h.gpre⟩⟩
  ·show Slot _ _ _ _ _ _ _ _ (upd s.env t _ t') _;by_cases htt:t'=t
   ·subst htt;rw [ZE];exact ⟨⟨false,k,[]⟩,A,0,ZE _ _ _,hv, .inl ⟨rfl,rfl⟩⟩
   ·rw [ZA _ _ htt];have hs:=h.slot t';cases he:s.env t' with
    |no=>exact trivial
    |val c=>rw [he] at hs;exact hs
    |lp key' i off=>
     rw [he] at hs;obtain ⟨o1,e1,e2⟩:=hs;exact ⟨o1,(ZA _ _ (hLne e1)).trans e1,e2⟩
    |la key'=>
     rw [he] at hs;obtain ⟨o1,A,cap,e1,e2⟩:=hs;exact ⟨o1,A,cap,(ZA _ _ (hLne e1)).trans e1,e2⟩
    |lv key' i off ag=>
     rw [he] at hs;obtain ⟨o1,cu,ty,e1,e2⟩:=hs;exact ⟨o1,cu,ty,(ZA _ _ (hLne e1)).trans e1,e2⟩
  ·by_cases hkk:key'=d
   ·subst hkk;have hk2:upd s.L key' (some ⟨false,k,[]⟩) key'=some ob':=hk';rw [ZE] at hk2;cases hk2;exact ⟨.inl rfl,by simp,Mm _⟩
   ·exact h.obj key' ob' ((ZA s.L _ hkk).symm.trans hk')
 | @unq _ b n cap e cur _ vs F1 e1 e2 e0 e3 e4 e5 e6 e7 e8 e9=>
  have hbF:=(List.nodup_cons.1 h2).1;have hbt:ow b=some (.t t):=h3 b (Uj ..);have hF1:∀x∈F1,ow x=some (.t t):=fun x hx=>h3 x (Ug _ hx)
  let ow':Nat->Option Lab:=fun x=>if x=b then some (.bk d) else if x∈F1 then some (.o d) else ow x
  have hlab:∀x l,l≠ .t t->ow x=some l->ow' x=some l:=fun x l hl hx=>by
   show (if x=b then _ else if x∈F1 then _ else _)=_;rw [Uf fun e=> ?_,Uf fun hm=> ?_]
   ·exact hx
   ·rw [hF1 x hm] at hx;exact hl (Un hx).symm
   ·subst e;rw [hbt] at hx;exact hl (Un hx).symm
  have hget:∀x l,ow' x=some l->∃l',ow x=some l':=fun x l hx=>by
   have hx':(if x=b then some (Lab.bk d) else if x∈F1 then some (Lab.o d) else ow x)=some l:=hx;split at hx'
   ·rename_i e;subst e;exact ⟨_,hbt⟩
   ·split at hx'
    ·rename_i hm;exact ⟨_,hF1 x hm⟩
    ·exact ⟨_,hx'⟩
  have hBne:∀{key':Nat} {ob':LObj},s.L key'=some ob'->upd B d b key'=B key':=fun hk=>ZA _ _ (hLne hk)
  refine ⟨ow',upd B d b,⟨h.ext,h.oldp,h.inc,fun t'=> ?_,fun key' ob' hk'=> ?_,fun id r hr=> ?_,h.glen,h.prl,fun x l hx=> ?_,fun x l hx hlt=> ?_,h.ngs,h.gl,fun x l hx=> ?_,h.gpre⟩⟩
  ·show Slot _ _ _ _ _ _ _ _ (upd s.env t _ t') _;by_cases htt:t'=t
   ·subst htt;rw [ZE];exact ⟨⟨false,k,rows⟩,some ⟨b,0,none⟩,cap,ZE _ _ _,by rw [hv,e5], .inr ⟨by rw [ZE],by rw [e5];exact e0,by rw [e5];exact e3,e4,cur,e,by rw [ZE];exact e1,e2⟩⟩
   ·rw [ZA _ _ htt];have hs:=h.slot t';cases he:s.env t' with
    |no=>exact trivial
    |val c=>
     rw [he] at hs;obtain ⟨G,g1,g2,g3⟩:=hs;exact ⟨G,g1,g2,fun x hx=>hlab x _ (by simpa using htt) (g3 x hx)⟩
    |lp key' i off=>
     rw [he] at hs;obtain ⟨o1,e1,e2⟩:=hs;exact ⟨o1,(ZA _ _ (hLne e1)).trans e1,by rw [hBne e1];exact e2⟩
    |la key'=>
     rw [he] at hs;obtain ⟨o1,A,cap,e1,e2⟩:=hs;exact ⟨o1,A,cap,(ZA _ _ (hLne e1)).trans e1,by rw [hBne e1];exact e2⟩
    |lv key' i off ag=>
     rw [he] at hs;obtain ⟨o1,cu,ty,e1,e2,e3,e4⟩:=hs;exact ⟨o1,cu,ty,(ZA _ _ (hLne e1)).trans e1,by rw [hBne e1];exact e2,by rw [hBne e1];exact hlab _ _ (by simp) e3,e4⟩
  ·by_cases hkk:key'=d
   ·subst hkk;have hk2:upd s.L key' (some ⟨false,k,rows⟩) key'=some ob':=hk';rw [ZE] at hk2;cases hk2;have hfl:rows.flatten.length=n * k:=by rw [Yb e6,e5]
    refine ⟨.inr ⟨⟨cur,e,by rw [ZE];exact e1,?_,⟨F1,?_,(List.nodup_cons.1 h2).2,fun x hx=> ?_⟩,fun i=> ?_⟩,?_⟩,e6,?_⟩
    ·show rows.flatten.length<=_;rw [hfl,e2];exact UL _ e3
    ·show Reps _ _ _ _ rows.flatten (cur.toList.take rows.flatten.length) _;rw [hfl,e7];exact e8
    ·show (if x=b then _ else if x∈F1 then _ else _)=_;rw [Uf (fun e0:x=b=>hbF (e0 ▸ hx)),Ul hx]
    ·rw [ZE];exact ⟨fun hp=>absurd hp (e9 i),fun ⟨hh,_⟩=>by cases hh⟩
    ·rw [ZE];exact Ul rfl
    ·show rows.length<=_;rw [e5];omega
   ·have hk2:s.L key'=some ob':=(ZA s.L _ hkk).symm.trans hk';rw [hBne hk2];obtain ⟨hmm,m4⟩:=h.obj key' ob' hk2;refine ⟨hmm.imp (fun x=>x) fun hmm=> ?_,m4⟩;obtain ⟨⟨cur',e',m1,mz,⟨G,g1,g2,g3⟩,m2⟩,m3⟩:=hmm;exact ⟨⟨cur',e',m1,mz,⟨G,g1,g2,fun x hx=>hlab x _ (by simp) (g3 x hx)⟩,m2⟩,hlab _ _ (by simp) m3⟩
  ·obtain ⟨b',hb,⟨⟨cur',e',m1,mz,⟨G,g1,g2,g3⟩,m2⟩,m3⟩⟩:=h.gob id r hr;exact ⟨b',hb,⟨⟨cur',e',m1,mz,⟨G,g1,g2,fun x hx=>hlab x _ (by simp) (g3 x hx)⟩,m2⟩,hlab _ _ (by simp) m3⟩⟩
  ·obtain ⟨l',hl'⟩:=hget x l hx;exact h.owl x l' hl'
  ·obtain ⟨l',hl'⟩:=hget x l hx;exact h.owD x l' hl' hlt
  ·obtain ⟨l',hl'⟩:=hget x l hx;exact h.ngo x l' hl'
theorem ZBX {sv:SV} {s1:St} {K:SV->St->Option β} (h:Zml o.dst sv s1 K=some r) (hop:ZU P GE nt o s sv s1):∃sv s1,K sv s1=some r/\ZU P GE nt o s sv s1:=by
 unfold Zml at h;split at h
 ·rename_i d k rows hd;split at h
  ·rename_i hL;refine ⟨_,_,h,fun D Pr0 w0 a w hat hok next Q hnext=>hop D Pr0 w0 a w hat hok next Q fun a' w' ha=>hnext a' w' ?_⟩;rw [hd] at ha ⊢;obtain ⟨ow,Pr,B,γ,hi,hdf,hn⟩:=ha;obtain ⟨ow',B',hi2⟩:=hi.thaw (t:=d) (d:=d) (k:=k) (rows:=rows) (by show upd s1.env d _ d=_;exact ZE _ _ _) hL;have e:upd (put s1 (some d) (.val (.slc .unq k rows))).env d (.la d)=upd s1.env d (.la d):=Ku _ _ _ _;rw [e] at hi2;exact ⟨ow',Pr,B',γ,hi2,hdf,hn⟩
  ·cases h
 ·cases h
end
end Go.Fx
