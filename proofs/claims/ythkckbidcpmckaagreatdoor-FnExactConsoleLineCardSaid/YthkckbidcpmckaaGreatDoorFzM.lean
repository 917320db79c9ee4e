/- Loads: each as one operation of a region. -/
import Derived.Test.YthkckbidcpmckaaGreatDoorFzL
import Derived.Laws.CopyRow
set_option linter.all false
namespace Go.Fx
section
variable {P:Program} {GE:Glob} {nt:Nat} {T:Nat->TD} {β:Type} {K:SV->St->Option β} {r:β} {o:Oper} {s:St}
theorem ZmH (hT:TOk P T) {t:Nat} (h:(T t).ok=true):(∀w,(isAgg t).run P w= .ok (T t).isAgg w)/\∃i,P.info? t=some i/\i.size=(T t).size:=by
 have h0:=hT t;unfold Qs at h0;cases hd:T t with
 |sc z=>
  simp only [hd] at h0;obtain ⟨⟨ds,h1,h2⟩,i,h3,h4,_⟩:=h0;exact ⟨fun w=>Zro h1 h2,i,h3,h4⟩
 |sl e k=>
  simp only [hd] at h0;obtain ⟨h1,⟨i,h3,h4,_⟩,_⟩:=h0;exact ⟨fun w=>by simp [isAgg,run_underlying h1,TD.isAgg],i,h3,h4⟩
 |st cz offs=>
  simp only [hd] at h0;obtain ⟨⟨fs,h1,_⟩,i,z,h3,h4,_⟩:=h0;exact ⟨fun w=>by simp [isAgg,run_underlying h1,TD.isAgg],i,h3,h4⟩
 |ar n k cz=>
  simp only [hd] at h0;obtain ⟨⟨e,j,h1,_⟩,i,z,h3,h4,_⟩:=h0;exact ⟨fun w=>by simp [isAgg,run_underlying h1,TD.isAgg],i,h3,h4⟩
 |bad=>rw [hd] at h;cases h
theorem Reps.getHead {w:World} {Pr:Nat->Nat->Prop} {γ:List Nat} {base:Nat} {cs:List AV} {vs:List Value} {F:List Nat} {a:AV} (h:Reps w Pr γ base cs vs F) (ha:cs.head? =some a):
  ∃v F1 F2,vs[0]? =some v/\F=F1 ++ F2/\Rep w Pr γ base a v F1:=by
 cases h with
 |nil=>cases ha
 |cons h1 h2 h3=>cases ha;exact ⟨_,_,_,rfl,rfl,h2⟩
theorem ZbB (hT:TOk P T) {w:World} {Pr:Nat->Nat->Prop} {γ:List Nat} {base t:Nat} {ad:Addr} {cs:List AV} {vs:List Value} {F:List Nat} {a:AV} (hok:(T t).ok=true) (hs:ad.spot=none) (hc:K5 w ad vs)
  (hr:Reps w Pr γ base cs vs F) (h:mkA (T t) cs=some a):∃v F1 F2,(Instr.loadAt t (.pointer (some ad))).run P w= .ok v w/\F=F1 ++ F2/\Rep w Pr γ base a v F1:=by
 obtain ⟨h1,i,h2,h3⟩:=ZmH hT hok;unfold mkA at h;cases ha:(T t).isAgg with
 |true=>
  rw [ha] at h;simp only [Ut] at h;split at h
  ·rename_i hle;cases h;have hsp:Reps w Pr γ base (cs.take (T t).size ++ cs.drop (T t).size) vs F:=by rw [Up];exact hr
   obtain ⟨F1,F2,e,h6,_⟩:=hsp.split;have hlen:(cs.take (T t).size).length=(T t).size:=by rw [Uc];omega
   rw [hlen] at h6;have hl:=run_loadCells_list (P:=P) w ad (vs.take (T t).size) (fun j v hj=>by
    rw [Qt hs];rw [UA] at hj;split at hj
    ·exact hc j v hj
    ·cases hj)
   have hl2:(vs.take (T t).size).length=(T t).size:=by rw [Uc];have:=hr.length_eq;omega
   rw [hl2] at hl;refine ⟨.agg (vs.take (T t).size).toArray,F1,F2,?_,e, .agg h6⟩;simp [Instr.loadAt,Instr.sureAddr,loadVar,h1,ha,sizeOf,typeInfo,h2,h3,hl]
  ·cases h
 |false=>
  rw [ha] at h;simp only [Ur] at h;obtain ⟨v,F1,F2,e1,e2,e3⟩:=hr.getHead h;refine ⟨v,F1,F2,?_,e2,e3⟩;have hv:=hc 0 v e1;have hv':w.cell? ad=some v:=by
   obtain ⟨b,f,sp⟩:=ad;simp only at hs;subst hs;simpa using hv
  simp [Instr.loadAt,Instr.sureAddr,loadVar,h1,ha,hv']
theorem Zak {k:Nat}:∀{xs:List (List AV)},(∀x∈xs,x.length=k)->∀{i:Nat} {c:List AV},xs[i]? =some c->∃p q,xs.flatten=p ++ (c ++ q)/\p.length=i * k/\∀f,(xs.modify i f).flatten=p ++ (f c ++ q)
 | [],_,i,c,h=>by simp at h
 |x::xs,hx,0,c,h=>by
  simp at h;subst h;exact ⟨[],xs.flatten,rfl,by simp,fun f=>rfl⟩
 |x::xs,hx,i + 1,c,h=>by
  obtain ⟨p,q,e,hl,hf⟩:=Zak (fun y hy=>hx y (Ug _ hy)) (Mq ▸ h);refine ⟨x ++ p,q,by rw [UM,e,Uw],?_,fun f=> ?_⟩
  ·rw [Uh,hl,hx x (Uj ..),UX];omega
  ·rw [List.modify_succ_cons,UM,hf,Uw]
theorem reps_row {w:World} {Pr:Nat->Nat->Prop} {γ:List Nat} {base k i:Nat} {rows:List (List AV)} {vs:List Value} {F:List Nat} {c:List AV} (hx:∀x∈rows,x.length=k) (hr:Reps w Pr γ base rows.flatten vs F) (hi:rows[i]? =some c) (off:Nat):
  ∃F1 Fa Fb F3 us,F=F1 ++ (Fa ++ (Fb ++ F3))/\Reps w Pr γ base (c.drop off) us Fb/\(∀(j:Nat) (u:Value),us[j]? =some u->vs[i * k + off + j]? =some u)/\Reps w Pr γ base (X9 rows i clrs).flatten vs (F1 ++ F3):=by
 obtain ⟨p,q,e,hl,hf⟩:=Zak hx hi;rw [e] at hr;have hlen:=hr.length_eq;obtain ⟨F1,F',rfl,h1,h2⟩:=hr.split;obtain ⟨F2,F3,rfl,h3,h4⟩:=h2.split;have h3':Reps w Pr γ base (c.take off ++ c.drop off) ((vs.drop p.length).take c.length) F2:=by rw [Up];exact h3
 obtain ⟨Fa,Fb,rfl,_,h6⟩:=h3'.split;refine ⟨F1,Fa,Fb,F3,_,by simp,h6,fun j u hj=> ?_,?_⟩
 ·rw [US,Uc,UA] at hj;split at hj
  ·rename_i hlt;rw [US,hl] at hj;rcases U2 off c.length with ho |ho
   ·rw [U8 (by omega),←MB] at hj;exact hj
   ·exfalso
    rw [Nat.min_eq_right ho] at hlt;omega
  ·cases hj
 ·show Reps w Pr γ base (rows.modify i clrs).flatten vs _;rw [hf];have h7:=h1.append (h3.clr.append h4);have hvs:vs.take p.length ++ ((vs.drop p.length).take c.length ++ (vs.drop p.length).drop c.length)=vs:=by rw [Up,Up]
  rw [hvs] at h7;simpa using h7
theorem Zal {w:World} {Pr:Nat->Nat->Prop} {γ:List Nat} {base k i:Nat} {rows:List (List AV)} {vs:List Value} {F:List Nat} {c d:List AV} (hx:∀x∈rows,x.length=k) (hr:Reps w Pr γ base rows.flatten vs F) (hi:rows[i]? =some c) (hle:Les c d):
  ∃F',F'.Sublist F/\(rows.set i d)[i]? =some d/\(∀x∈rows.set i d,x.length=k)/\Reps w Pr γ base (rows.set i d).flatten vs F':=by
 have hlt:i < rows.length:=(List.getElem?_eq_some_iff.1 hi).1;have hs:rows.set i d=rows.modify i (fun _=>d):=by
  apply UV;intro j;rw [Mg,U6];by_cases hj:i=j
  ·subst hj;simp [hlt]
  ·simp only [Uf hj];cases rows[j]? <;> rfl
 have hd:d.length=k:=by rw [hle.length];exact hx c (Uk hi)
 obtain ⟨p,q,e,hl,hf⟩:=Zak hx hi;have hles:Les rows.flatten (rows.set i d).flatten:=by
  rw [hs,hf,e];exact (Les.refl p).append (hle.append (Les.refl q))
 obtain ⟨F',h1,h2⟩:=hles.reps hr;refine ⟨F',h1,by rw [U6];simp [hlt],fun x hm=> ?_,h2⟩;rcases Mc hm with hm |rfl
 ·exact hx x hm
 ·exact hd
theorem Qu {α:Type} {l:List α} {n i:Nat} {u:α} (h:(l.take n)[i]? =some u):l[i]? =some u:=by
 rw [UA] at h;split at h
 ·exact h
 ·cases h
theorem VG {α:Type} {l:List α} {i:Nat} {x:α} (h:l[i]? =some x):l≠ []:=by
 rintro rfl;simp at h
theorem Inv.memObj {D:Nat->Prop} {Pr0:Nat->Nat->Prop} {w0:World} {tm:Nat->Value} {w:World} {ow:Nat->Option Lab} {Pr:Nat->Nat->Prop} {B:Nat->Nat} {γ:List Nat} {key:Nat} {ob:LObj}
  (h:Inv GE D Pr0 w0 s tm w ow Pr B γ) (hk:s.L key=some ob) (hne:ob.rows≠ []):
  Mem w Pr γ w0.heap.size ow (B key) (.o key) (.bk key) ob.frz ob.rows.flatten/\(∀r∈ob.rows,r.length=ob.k)/\ob.rows.length<=maxLen:=
 ⟨(h.obj key ob hk).1.resolve_left hne,(h.obj key ob hk).2⟩
theorem Inv.takeObj {D:Nat->Prop} {Pr0:Nat->Nat->Prop} {w0:World} {tm:Nat->Value} {w:World} {ow:Nat->Option Lab} {Pr:Nat->Nat->Prop} {B:Nat->Nat} {γ:List Nat} {key:Nat} {ob:LObj} {rows:List (List AV)} {cur:Array Value} {e:TypeId} {F M:List Nat}
  (h:Inv GE D Pr0 w0 s tm w ow Pr B γ) (hk:s.L key=some ob) (hw:w.heap[B key]? =some (.cells cur e (0,0))) (hr:Reps w Pr γ w0.heap.size rows.flatten (cur.toList.take rows.flatten.length) F) (hn:F.Nodup)
  (hF:∀b∈F,ow b=some (.o key)) (hM:∀b∈M,ow b=some (.o key)) (hd:∀b∈M,b∉F) (hl:rows.length=ob.rows.length) (hrk:∀r∈rows,r.length=ob.k):
  Inv GE D Pr0 w0 {s with L:=upd s.L key (some {ob with rows:=rows})} tm w (Yr ow M .pd) Pr B γ:=by
 have hne:∀b l,l≠ .o key->ow b=some l->Yr ow M .pd b=some l:=fun b l hl hb=>by
  unfold Yr;rw [Uf fun hm=> ?_]
  ·exact hb
  ·rw [hM b hm] at hb;exact hl (Un hb).symm
 have hgs:∀b l,Yr ow M .pd b=some l->∃l2,ow b=some l2:=fun b l hb=>by
  unfold Yr at hb;split at hb
  ·rename_i hm;exact ⟨_,hM b hm⟩
  ·exact ⟨_,hb⟩
 refine ⟨h.ext,h.oldp,h.inc,fun t=> ?_,fun key' ob' hk'=> ?_,fun id r hr=> ?_,h.glen,h.prl,fun b l hb=> ?_,fun b l hb=> ?_,h.ngs,h.gl,fun b l hb=> ?_,h.gpre⟩
 ·have hst:=h.slot t;show Slot _ _ _ _ _ _ _ _ (s.env t) _;cases he:s.env t with
  |no=>exact trivial
  |val c=>
   rw [he] at hst;obtain ⟨G,g1,g2,g3⟩:=hst;exact ⟨G,g1,g2,fun b hb=>hne b _ (by simp) (g3 b hb)⟩
  |lp key' i off=>
   rw [he] at hst;obtain ⟨o1,e1,e2⟩:=hst;by_cases hkk:key'=key
   ·subst hkk;rw [hk] at e1;cases e1;exact ⟨_,ZE _ _ _,e2⟩
   ·exact ⟨o1,(ZA _ _ hkk).trans e1,e2⟩
  |la key'=>
   rw [he] at hst;obtain ⟨o1,A,cap,e1,e2,e3⟩:=hst;by_cases hkk:key'=key
   ·subst hkk;rw [hk] at e1;cases e1;exact ⟨_,A,cap,ZE _ _ _,by rw [hl];exact e2,by rw [hl];exact e3⟩
   ·exact ⟨o1,A,cap,(ZA _ _ hkk).trans e1,e2,e3⟩
  |lv key' i off ag=>
   rw [he] at hst;obtain ⟨o1,cu,ty,e1,e2,e3,e4⟩:=hst;by_cases hkk:key'=key
   ·subst hkk;rw [hk] at e1;cases e1;exact ⟨_,cu,ty,ZE _ _ _,e2,hne _ _ (by simp) e3,e4⟩
   ·exact ⟨o1,cu,ty,(ZA _ _ hkk).trans e1,e2,hne _ _ (by simp) e3,e4⟩
 ·by_cases hkk:key'=key
  ·subst hkk;have hk2:upd s.L key' (some {ob with rows:=rows}) key'=some ob':=hk';rw [ZE] at hk2;cases hk2;obtain ⟨hmm,m4,m5⟩:=h.obj key' ob hk;refine ⟨hmm.imp (fun e0=>Us (by rw [hl,e0];rfl)) fun hmm=> ?_,hrk,by rw [hl];exact m5⟩;obtain ⟨⟨cur',e',m1,mz,_,m2⟩,m3⟩:=hmm;rw [hw] at m1;cases m1;have hfl:rows.flatten.length=ob.rows.flatten.length:=by rw [Yb hrk,Yb m4,hl]
   refine ⟨⟨cur,e,hw,by rw [hfl];exact mz,⟨F,hr,hn,fun b hb=> ?_⟩,fun i=>by rw [hfl];exact m2 i⟩,hne _ _ (by simp) m3⟩;unfold Yr;rw [Uf fun hm=>hd b hm hb];exact hF b hb
  ·have hk2:s.L key'=some ob':=(ZA s.L _ hkk).symm.trans hk';obtain ⟨hmm,m4⟩:=h.obj key' ob' hk2;refine ⟨hmm.imp id fun hmm=> ?_,m4⟩;obtain ⟨⟨cur',e',m1,mz,⟨G,g1,g2,g3⟩,m2⟩,m3⟩:=hmm;exact ⟨⟨cur',e',m1,mz,⟨G,g1,g2,fun b hb=>hne b _ (by simpa using hkk) (g3 b hb)⟩,m2⟩,hne _ _ (by simp) m3⟩
 ·obtain ⟨b,hb,⟨⟨cur',e',m1,mz,⟨G,g1,g2,g3⟩,m2⟩,m3⟩⟩:=h.gob id r hr;exact ⟨b,hb,⟨⟨cur',e',m1,mz,⟨G,g1,g2,fun b hb=>hne b _ (by simp) (g3 b hb)⟩,m2⟩,hne _ _ (by simp) m3⟩⟩
 ·obtain ⟨l2,h2⟩:=hgs b l hb;exact h.owl b l2 h2
 ·obtain ⟨l2,h2⟩:=hgs b l hb;exact h.owD b l2 h2
 ·obtain ⟨l2,h2⟩:=hgs b l hb;exact h.ngo b l2 h2
theorem ZrB (rows:List (List AV)) (i:Nat) (f:List AV->List AV):(X9 rows i f).length=rows.length:=by simp [X9]
theorem ZBm {k:Nat} {rows:List (List AV)} {i:Nat} {f:List AV->List AV} (hx:∀x∈rows,x.length=k) (hf:∀x,rows[i]? =some x->(f x).length=k):∀x∈X9 rows i f,x.length=k:=by
 intro x hm;obtain ⟨j,hj⟩:=List.mem_iff_getElem?.1 hm;unfold X9 at hj;rw [Mg] at hj;cases hr:rows[j]? with
 |none=>rw [hr] at hj;cases hj
 |some y=>
  rw [hr] at hj;simp only [Option.map_eq_map,Fu,MN] at hj;subst hj;split
  ·rename_i he;subst he;exact hf y hr
  ·exact hx y (Uk hr)
theorem ZBn {E:Ctx} (hT:TOk P T) {t:Nat} {x:Operand} {mo:Bool} (ho:o.op= .load t x) (hok:(T t).ok=true)
  (h:rd mo (fun _=>none) x s (fun p s'=>Q9 E (T t) mo p s' K)=some r):∃sv s1,K sv s1=some r/\ZU P GE nt o s sv s1:=by
 obtain ⟨sv,s1,h,hr⟩:=Xj (GE:=GE) CfOk.none h;unfold Q9 at h;simp only [Qn] at h;split at h
 ·rename_i key i off;split at h
  ·rename_i ob hL;unfold ZZ at h;split at h
   ·rename_i row0 hrow0;obtain ⟨px,hle,h⟩:=(E.ro key).ok _ _ _ h;generalize (E.ro key).enc px=row at hle h;obtain ⟨av,hav,h⟩:=ZG h;cases mo with
    |false=>
     refine ⟨_,_,h,fun D Pr0 w0 a w ⟨ow,Pr,B,γ,hi,hd,hn⟩ hokd next Q hnext=> ?_⟩;obtain ⟨ow1,h1,_,h3⟩:=hr.ok hi;obtain ⟨ob',h4,h5⟩:=h3;rw [hL] at h4;cases h4;obtain ⟨⟨⟨cur,e,m1,mz,⟨F,m2,m3,m4⟩,m5⟩,m6⟩,m7,m8⟩:=h1.memObj hL (VG hrow0);obtain ⟨F',_,hrow,m7',m2'⟩:=Zal m7 m2 hrow0 hle;obtain ⟨F1,Fa,Fb,F3,us,rfl,r1,r2,r3⟩:=reps_row m7' m2' hrow off;obtain ⟨v,Fc,Fd,e1,rfl,e3⟩:=ZbB hT (ad:=⟨B key,i * ob.k + off,none⟩) hok rfl (fun j u hj=>by
      rw [X8 m1];simpa using Qu (r2 j u hj)) r1 hav
     exact Ya (w1:=w) (v:=v) (by simp [execOp,ho,h5,e1]) (hnext _ _ (Z2 h1 hd hn hokd ⟨[],e3.clr,UE,by simp⟩))
    |true=>
     refine ⟨_,_,h,fun D Pr0 w0 a w ⟨ow,Pr,B,γ,hi,hd,hn⟩ hokd next Q hnext=> ?_⟩;obtain ⟨ow1,h1,_,h3⟩:=hr.ok hi;obtain ⟨ob',h4,h5⟩:=h3;rw [hL] at h4;cases h4;obtain ⟨⟨⟨cur,e,m1,mz,⟨F,m2,m3,m4⟩,m5⟩,m6⟩,m7,m8⟩:=h1.memObj hL (VG hrow0);obtain ⟨F',hsub,hrow,m7',m2'⟩:=Zal m7 m2 hrow0 hle;obtain ⟨F1,Fa,Fb,F3,us,rfl,r1,r2,r3⟩:=reps_row m7' m2' hrow off;obtain ⟨v,Fc,Fd,e1,rfl,e3⟩:=ZbB hT (ad:=⟨B key,i * ob.k + off,none⟩) hok rfl (fun j u hj=>by
      rw [X8 m1];simpa using Qu (r2 j u hj)) r1 hav
     have m3':=m3.sublist hsub;have m4':∀b∈F1 ++ (Fa ++ (Fc ++ Fd ++ F3)),ow1 b=some (.o key):=fun b hb=>m4 b (hsub.subset hb)
     have nd1:=List.nodup_append.1 m3';have nd2:=List.nodup_append.1 nd1.2.1;have nd3:=List.nodup_append.1 nd2.2.1;have nd4:=List.nodup_append.1 nd3.1;have h13:(F1 ++ F3).Nodup:=List.nodup_append.2 ⟨nd1.1,nd3.2.1,fun x hx y hy=>nd1.2.2 x hx y (by simp [hy])⟩;have hss:X9 (ob.rows.set i row) i clrs=ob.rows.set i (clrs row):=by
      have hlt:i < ob.rows.length:=(List.getElem?_eq_some_iff.1 hrow0).1;apply UV;intro j;unfold X9;rw [Mg,U6,U6];by_cases hj:i=j
      ·subst hj;simp [hlt]
      ·simp only [Uf hj];cases ob.rows[j]? <;> rfl
     rw [hss] at r3;have hfl:(ob.rows.set i (clrs row)).flatten.length=ob.rows.flatten.length:=by
      rw [Yb (k:=ob.k) (fun x hx=>by
       rcases Mc hx with hm |rfl
       ·exact m7 x hm
       ·rw [Xy];exact m7' row (Uk hrow)),Yb m7,UU]
     have hinv:=h1.takeObj (M:=Fc) hL m1 (by rw [hfl];exact r3) h13 (fun b hb=>m4' b (by
       rcases List.mem_append.1 hb with hb |hb
       ·simp [hb]
       ·simp [hb])) (fun b hb=>m4' b (by simp [hb])) (fun b hb hf=>by
       rcases List.mem_append.1 hf with hf |hf
       ·exact nd1.2.2 b hf b (by simp [hb]) rfl
       ·exact nd3.2.2 b (by simp [hb]) b hf rfl) (by simp) (fun x hx=>by
        rcases Mc hx with hm |rfl
        ·exact m7 x hm
        ·rw [Xy];exact m7' row (Uk hrow))
     refine Ya (w1:=w) (v:=v) (by simp [execOp,ho,h5,e1]) (hnext _ _ (Z2 hinv hd hn hokd ⟨Fc,e3,nd4.1,fun b hb=> ?_⟩));exact Ul hb
   ·cases h
  ·cases h
 ·rename_i id off;split at h
  ·rename_i row hrow;obtain ⟨av,hav,h⟩:=ZG h;refine ⟨_,_,h,fun D Pr0 w0 a w ⟨ow,Pr,B,γ,hi,hd,hn⟩ hokd next Q hnext=> ?_⟩;obtain ⟨ow1,h1,_,F0,h3,_⟩:=hr.ok hi;generalize hv:a.eval x=pv at h3;cases h3 with
   | @gp _ _ b hb=>
    obtain ⟨b',hb',⟨⟨cur,e,m1,mz,⟨F,m2,m3,m4⟩,m5⟩,m6⟩⟩:=h1.gob id row hrow;rw [hb] at hb';cases hb';have hsp:Reps w Pr γ w0.heap.size (row.take off ++ row.drop off) (cur.toList.take row.length) F:=by rw [Up];exact m2
    obtain ⟨F1,F2,_,_,h7⟩:=hsp.split;obtain ⟨v,Fc,Fd,e1,_,e3⟩:=ZbB hT (ad:=⟨b,off,none⟩) hok rfl (fun j u hj=>by
      rw [X8 m1];rw [US,Uc] at hj;have hlt:off<=row.length:=by
       rcases U2 row.length off with hlt |hlt
       ·rw [Nat.min_eq_right (by omega),UP (by have:=m2.length_eq;omega)] at hj;cases hj
       ·exact hlt
      rw [U8 hlt] at hj;simpa using Qu hj) h7 hav
    exact Ya (w1:=w) (v:=v) (by simp [execOp,ho,hv,e1]) (hnext _ _ (Z2 h1 hd hn hokd ⟨[],e3.clr,UE,by simp⟩))
  ·cases h
 ·rename_i cs;obtain ⟨av,hav,h⟩:=ZG h;refine ⟨_,_,h,fun D Pr0 w0 a w ⟨ow,Pr,B,γ,hi,hd,hn⟩ hokd next Q hnext=> ?_⟩;obtain ⟨ow1,h1,_,F0,h3,h4,h5,_⟩:=hr.ok hi;generalize hv:a.eval x=pv at h3;cases h3 with
  |rp p1 p2 p3 p4 p5=>
   obtain ⟨v,Fc,Fd,e1,rfl,e3⟩:=ZbB hT hok p1 p2 p5 hav;cases mo with
   |false=>exact Ya (w1:=w) (v:=v) (by simp [execOp,ho,hv,e1]) (hnext _ _ (Z2 h1 hd hn hokd ⟨[],e3.clr,UE,by simp⟩))
   |true=>exact Ya (w1:=w) (v:=v) (by simp [execOp,ho,hv,e1]) (hnext _ _ (Z2 h1 hd hn hokd ⟨Fc,e3,(List.nodup_append.1 h4).1,fun b hb=>h5 b (Uz _ hb)⟩))
 ·cases h
end
end Go.Fx
