/- Arrays, parts of tuples, strings, sub-slices, conversions, the smaller and the greater: each as one operation of a region. -/
import Derived.Test.YthkckbidcpmckaaGreatDoorFzJ
set_option linter.all false
namespace Go.Fx
section
variable {P:Program} {GE:Glob} {nt:Nat} {T:Nat->TD} {β:Type} {K:SV->St->Option β} {r:β} {o:Oper} {s:St}
theorem Zrw (hT:TOk P T) {t n k:Nat} {cz:List (Option Nat×Value)} (h:T t= .ar n k cz):∃e j,P.underlying t=some (.array n e)/\P.info? e=some j/\j.size=k/\1 < n:=by
 have:=hT t;unfold Qs at this;rw [h] at this;obtain ⟨⟨e,j,h1,h2,h3,_,h4,_⟩,_⟩:=this;exact ⟨e,j,h1,h2,h3,h4⟩
theorem ZA6 (hT:TOk P T) {t n k:Nat} {cz:List (Option Nat×Value)} {x i:Operand} (ho:o.op= .indexAddr t x i) (ht:T t= .ar n k cz)
  (h:rd0 i s (fun i=>rd false (fun _=>none) x s fun p s'=>match p with
    | .lp key 0 off=>match i with
     | .lit (.int _ j)=>ifA (0<=j/\j < n) (K (.lp key 0 (off + j.toNat * k)) s')
     | _=>none
    | _=>none)=some r):∃sv s1,K sv s1=some r/\ZU P GE nt o s sv s1:=by
 obtain ⟨iv,h,hiv⟩:=YX (GE:=GE) h;obtain ⟨sv,s1,h,hr⟩:=Xj (GE:=GE) CfOk.none h;split at h
 ·rename_i key off;split at h
  ·rename_i ik j _;unfold ifA at h;split at h
   ·rename_i hn;refine ⟨_,_,h,fun D Pr0 w0 a w ⟨ow,Pr,B,γ,hi,hd,hnn⟩ hok next Q hnext=> ?_⟩;obtain ⟨_,hiv⟩:=hiv.ok hi;have e1:=XB hiv;obtain ⟨ow1,h1,_,h3⟩:=hr.ok hi;obtain ⟨ob,h4,h5⟩:=h3;obtain ⟨e,ji,hu,hj,hs,hn1⟩:=Zrw hT ht;have hrun:(execOp a.eval o).run P w= .ok (.value (.pointer (some ⟨B key,0 * ob.k + (off + j.toNat * k),none⟩))) w:=by
     have hh:¬n<=1:=by omega
     simp [execOp,ho,h5,e1,Instr.indexAt,asIntOf,run_underlying hu,Instr.sureAddr,hn.1,hn.2,sizeOf,typeInfo,hj,hs,Zhg]
    exact Ya hrun (hnext _ _ (Z2 h1 hd hnn hok ⟨ob,h4,rfl⟩))
   ·cases h
  ·cases h
 ·cases h
theorem ZA7 {x:Operand} (ho:o.op= .nilCheck x)
  (h:rd false (fun _=>none) x s (fun p s'=>match p with
    | .lp k i off=>K (.lp k i off) s'
    | .val (.gp i off)=>K (.val (.gp i off)) s'
    | .val (.rp cs)=>K (.val (.rp cs)) s'
    | _=>none)=some r):∃sv s1,K sv s1=some r/\ZU P GE nt o s sv s1:=by
 obtain ⟨sv,s1,h,hr⟩:=Xj (GE:=GE) CfOk.none h;have key:∀{sv':SV},sv=sv'->(∀{w:World} {Pr:Nat->Nat->Prop} {γ:List Nat} {base:Nat} {ow ow1:Nat->Option Lab} {B:Nat->Nat} {L:Nat->Option LObj} {v:Value},Fresh w Pr γ base ow ow1 B L sv v->∃ad,v= .pointer (some ad))->K sv' s1=some r->
   ∃sv s1,K sv s1=some r/\ZU P GE nt o s sv s1:=by
  intro sv' e hp hK;subst e;refine ⟨_,_,hK,fun D Pr0 w0 a w ⟨ow,Pr,B,γ,hi,hd,hn⟩ hok next Q hnext=> ?_⟩;obtain ⟨ow1,h1,_,h3⟩:=hr.ok hi;obtain ⟨ad,e⟩:=hp h3;exact Ya (w1:=w) (v:= .pointer (some ad)) (by simp [execOp,ho,e]) (hnext _ _ (Z2 h1 hd hn hok (by rw [←e];exact h3.slot)))
 split at h
 ·exact key rfl (fun h=>by obtain ⟨ob,_,h⟩:=h;exact ⟨_,h⟩) h
 ·exact key rfl (fun h=>by obtain ⟨F,h,_⟩:=h;cases h;exact ⟨_,rfl⟩) h
 ·exact key rfl (fun h=>by obtain ⟨F,h,_⟩:=h;cases h;exact ⟨_,rfl⟩) h
 ·cases h
theorem RepL.getAt {w:World} {Pr:Nat->Nat->Prop} {γ:List Nat} {base:Nat}:∀{as:List AV} {vs:List Value} {F:List Nat} {i:Nat} {a:AV},RepL w Pr γ base as vs F->as[i]? =some a->
  ∃v F1 F2 F3,vs[i]? =some v/\F=F1 ++ (F2 ++ F3)/\Rep w Pr γ base a v F2/\RepL w Pr γ base (as.modify i AV.clr) vs (F1 ++ F3)
 | _,_,_,_,_, .nil,h=>by simp at h
 | _::_,_::_,_,0,_, .cons (F:=F) (G:=G) h1 h2,h=>by
  simp at h;subst h;exact ⟨_,[],F,G,rfl,rfl,h1, .cons (F:= []) h1.clr h2⟩
 | _::_,_::_,_,i + 1,_, .cons (F:=F) (G:=G) h1 h2,h=>by
  obtain ⟨v,F1,F2,F3,e1,rfl,h3,h4⟩:=RepL.getAt h2 (Mq ▸ h);exact ⟨v,F ++ F1,F2,F3,by simpa using e1,by simp,h3,by rw [Uw];exact .cons h1 h4⟩
theorem Reps.getHd {w:World} {Pr:Nat->Nat->Prop} {γ:List Nat} {base:Nat} {cs:List AV} {vs:List Value} {F:List Nat} {a:AV} (h:Reps w Pr γ base cs vs F) (ha:cs.head? =some a):
  ∃v F1 F2,vs[0]? =some v/\F=F1 ++ F2/\Rep w Pr γ base a v F1:=by
 cases h with
 |nil=>cases ha
 |cons h1 h2 h3=>cases ha;exact ⟨_,_,_,rfl,rfl,h2⟩
theorem ZA8 {T:Nat->TD} (hT:TOk P T) {t f n off sz:Nat} {cz:List (Option Nat×Value)} {offs:List (Nat×Nat)} {cs:List AV} (ho:o.op= .field t (.tmp n) f) (ht:T t= .st cz offs) (hf:offs[f]? =some (off,sz)) (hen:s.env n= .val (.agg cs))
  (h:(bif Nat.blt 1 sz then ifA (off + sz<=cs.length) (K (.val (.agg (clrs ((cs.drop off).take sz)))) s) else match cs[off]? with
   |some a=>K (.val a.clr) s
   |none=>none)=some r):∃sv s1,K sv s1=some r/\ZU P GE nt o s sv s1:=by
 obtain ⟨fs,fd,j,d,h1,h2,h3,h4,h5,h6,h7⟩:=ZA2 hT ht hf;have hag:∀w,(isAgg fd.type).run P w= .ok (Nat.blt 1 sz) w:=fun w=>by
  rw [←h7];cases d <;> simp [isAgg,run_underlying h6,ZeD]
 cases hb:Nat.blt 1 sz with
 |true=>
  rw [hb] at h;simp only [Ut] at h;unfold ifA at h;split at h
  ·rename_i hle;refine ⟨_,_,h,fun D Pr0 w0 a w ⟨ow,Pr,B,γ,hi,hd,hn⟩ hok next Q hnext=> ?_⟩;have hsl:=hi.slot n;rw [hen] at hsl;obtain ⟨F,g2,_,_⟩:=hsl;generalize hv:ZP a n=v at g2;cases g2 with
   |agg g2=>
   rename_i us;have g3:=g2;rw [←Up off cs] at g3;obtain ⟨F1,F2,_,_,g4⟩:=g3.split;have g4':=g4;rw [←Up sz (cs.drop off)] at g4';obtain ⟨F3,F4,_,g5,_⟩:=g4'.split;have l1:(cs.take off).length=off:=by rw [Uc];omega
   have l2:((cs.drop off).take sz).length=sz:=by rw [Uc,Uu];omega
   rw [l2,l1] at g5;have hrun:(execOp a.eval o).run P w= .ok (.value (.agg ((us.drop off).take sz).toArray)) w:=by
    have hv':a.eval (.tmp n)= .agg us.toArray:=hv;have e:us.toArray.extract off (off + sz)=((us.drop off).take sz).toArray:=by simp
    simp [execOp,ho,hv',Instr.field,run_underlying h1,h2,part,hag,hb,sizeOf,typeInfo,h4,h5,h3,asAgg,e]
   exact Ya hrun (hnext _ _ (Z2 hi hd hn hok ⟨[], .agg g5.clr,UE,by simp⟩))
  ·cases h
 |false=>
  rw [hb] at h;simp only [Ur] at h;split at h
  ·rename_i c hc;refine ⟨_,_,h,fun D Pr0 w0 a w ⟨ow,Pr,B,γ,hi,hd,hn⟩ hok next Q hnext=> ?_⟩;have hsl:=hi.slot n;rw [hen] at hsl;obtain ⟨F,g2,_,_⟩:=hsl;generalize hv:ZP a n=v at g2;cases g2 with
   |agg g2=>
   rename_i us;have g3:=g2;rw [←Up off cs] at g3;obtain ⟨F1,F2,_,_,g4⟩:=g3.split;have hlt:off < cs.length:=by
    rcases U2 off cs.length with h |h
    ·exact h
    ·rw [UP h] at hc;cases hc
   have l1:(cs.take off).length=off:=by rw [Uc];omega
   rw [l1] at g4;have hh:(cs.drop off).head? =some c:=by rw [List.head?_drop];exact hc
   obtain ⟨v,F3,F4,e1,_,e3⟩:=g4.getHd hh;have e2:us[off]? =some v:=by simpa using e1
   have hrun:(execOp a.eval o).run P w= .ok (.value v) w:=by
    have hv':a.eval (.tmp n)= .agg us.toArray:=hv;simp [execOp,ho,hv',Instr.field,run_underlying h1,h2,part,hag,hb,h3,asAgg,e2]
   exact Ya hrun (hnext _ _ (Z2 hi hd hn hok ⟨[],e3.clr,UE,by simp⟩))
  ·cases h
theorem ZA9 {n i:Nat} {tk:Bool} (ho:o.op= .extract (.tmp n) i)
  (h:(match s.env n with
   | .val (.tup vs)=>match vs[i]? with
    |some a=>bif tk then K (.val a) {s with env:=upd s.env n (.val (.tup (vs.modify i AV.clr)))} else K (.val a.clr) s
    |none=>none
   | _=>none)=some r):∃sv s1,K sv s1=some r/\ZU P GE nt o s sv s1:=by
 split at h
 ·rename_i vs hen;split at h
  ·rename_i c hc;cases tk with
   |false=>
    refine ⟨_,_,h,fun D Pr0 w0 a w ⟨ow,Pr,B,γ,hi,hd,hn⟩ hok next Q hnext=> ?_⟩;have hsl:=hi.slot n;rw [hen] at hsl;obtain ⟨F,h2,_,_⟩:=hsl;generalize hv:ZP a n=v at h2;cases h2 with
    |tup h2=>
    rename_i us;obtain ⟨v,F1,F2,F3,e1,rfl,h7,h8⟩:=RepL.getAt h2 hc;have hrun:(execOp a.eval o).run P w= .ok (.value v) w:=by
     have hv':a.eval (.tmp n)= .tuple us.toArray:=hv;have e4:us.toArray[i]? =some v:=by simpa using e1
     simp [execOp,ho,hv',Instr.extract,e4]
    exact Ya hrun (hnext _ _ (Z2 hi hd hn hok ⟨[],h7.clr,UE,by simp⟩))
   |true=>
   refine ⟨_,_,h,fun D Pr0 w0 a w ⟨ow,Pr,B,γ,hi,hd,hn⟩ hok next Q hnext=> ?_⟩;obtain ⟨ow1,F,h1,h2,h3,h4,h5,h6⟩:=hi.take hen;generalize hv:ZP a n=v at h2;cases h2 with
   |tup h2=>
   rename_i us;obtain ⟨v,F1,F2,F3,e1,rfl,h7,h8⟩:=RepL.getAt h2 hc;have hnd:=List.nodup_append.1 h3;have hnd2:=List.nodup_append.1 hnd.2.1;have h13:(F1 ++ F3).Nodup:=List.nodup_append.2 ⟨hnd.1,hnd2.2.1,fun x hx y hy=>hnd.2.2 x hx y (UD _ hy)⟩;have hput:=h1.put (d:=n) (.tup h8) h13 (fun b hb=>h4 b (by
    rcases List.mem_append.1 hb with hb |hb
    ·exact Uz _ hb
    ·exact UD _ (UD _ hb)))
   have e2:upd (ZP a) n (.tuple us.toArray)=ZP a:=by
    funext t
    by_cases ht:t=n
    ·subst ht;rw [ZE,hv]
    ·rw [ZA _ _ ht]
   rw [e2] at hput;have e3:upd (upd s.env n (SV.val (AV.tup vs).clr)) n (SV.val (AV.tup (vs.modify i AV.clr)))=upd s.env n (SV.val (AV.tup (vs.modify i AV.clr))):=by
    funext t
    by_cases ht:t=n
    ·subst ht;rw [ZE,ZE]
    ·rw [ZA _ _ ht,ZA _ _ ht,ZA _ _ ht]
   simp only [e3] at hput;have hrun:(execOp a.eval o).run P w= .ok (.value v) w:=by
    have hv':a.eval (.tmp n)= .tuple us.toArray:=hv;have e4:us.toArray[i]? =some v:=by simpa using e1
    simp [execOp,ho,hv',Instr.extract,e4]
   refine Ya hrun (hnext _ _ (Z2 hput hd hn hok ⟨F2,h7,hnd2.1,fun b hb=> ?_⟩));unfold Yr;rw [Uf fun hm=> ?_]
   ·exact h4 b (UD _ (Uz _ hb))
   ·rcases List.mem_append.1 hm with hm |hm
    ·exact hnd.2.2 b hm b (Uz _ hb) rfl
    ·exact hnd2.2.2 b hb b hm rfl
  ·cases h
 ·cases h
theorem ZBa (hT:TOk P T) {t:Nat} {b0:ByteArray} {x i:Operand} (ho:o.op= .index t x i) (ht:T t= .sc (.string b0))
  (h:rd0 i s (fun i=>rd0 x s fun a=>(ixT a i).bind fun c=>K (.val c) s)=some r):∃sv s1,K sv s1=some r/\ZU P GE nt o s sv s1:=by
 obtain ⟨iv,h,hiv⟩:=YX (GE:=GE) h;obtain ⟨av,h,hav⟩:=YX (GE:=GE) h;obtain ⟨c,hc,h⟩:=ZG h;refine ⟨_,_,h,Va fun hi=> ?_⟩;obtain ⟨_,hiv⟩:=hiv.ok hi;obtain ⟨_,hav⟩:=hav.ok hi;unfold ixT at hc;split at hc
 ·rename_i b ik n _ _ _;have e1:=XB hiv;have e2:=ZcV hav;split at hc
  ·rename_i h0;cases hb:b.data.toList[n.toNat]? with
   |none=>rw [hb] at hc;cases hc
   |some y=>
    rw [hb] at hc;cases hc;refine ⟨.int .u8 y.toNat,?_, .lit rfl⟩;have hb':b[n.toNat]? =some y:=by
     have:b.data[n.toNat]? =some y:=by simpa using hb
     exact this
    simp [execOp,ho,e1,e2,Instr.index,asIntOf,run_underlying (ZeE hT ht),h0,hb']
  ·cases hc
 ·cases hc
theorem ZBb {x y:Operand} {c:Call} (ho:o.op= .call c) (hc:c.callee= .builtin .min) (hx:c.args.toList= [x,y])
  (h:rd0 x s (fun a=>rd0 y s fun b=>(Zl1 a b).bind fun r=>K (.val r) s)=some r):∃sv s1,K sv s1=some r/\ZU P GE nt o s sv s1:=by
 obtain ⟨a,h,ha⟩:=YX (GE:=GE) h;obtain ⟨b,h,hb⟩:=YX (GE:=GE) h;obtain ⟨d,hd,h⟩:=ZG h;have hargs:c.args= #[x,y]:=by apply Mu;simpa using hx
 refine ⟨_,_,h,Va fun hi=> ?_⟩;obtain ⟨_,ha⟩:=ha.ok hi;obtain ⟨_,hb⟩:=hb.ok hi;unfold Zl1 at hd;split at hd
 ·cases hd;have e1:=XB ha;have e2:=XB hb;exact ⟨_,by simp [execOp,ho,resolve,hc,hargs,invoke,builtin,Builtin.min_,Builtin.min2,e1,e2], .lit rfl⟩
 ·cases hd
theorem ZBc {x y:Operand} {c:Call} (ho:o.op= .call c) (hc:c.callee= .builtin .max) (hx:c.args.toList= [x,y])
  (h:rd0 x s (fun a=>rd0 y s fun b=>(Zl2 a b).bind fun r=>K (.val r) s)=some r):∃sv s1,K sv s1=some r/\ZU P GE nt o s sv s1:=by
 obtain ⟨a,h,ha⟩:=YX (GE:=GE) h;obtain ⟨b,h,hb⟩:=YX (GE:=GE) h;obtain ⟨d,hd,h⟩:=ZG h;have hargs:c.args= #[x,y]:=by apply Mu;simpa using hx
 refine ⟨_,_,h,Va fun hi=> ?_⟩;obtain ⟨_,ha⟩:=ha.ok hi;obtain ⟨_,hb⟩:=hb.ok hi;unfold Zl2 at hd;split at hd
 ·cases hd;have e1:=XB ha;have e2:=XB hb;exact ⟨_,by simp [execOp,ho,resolve,hc,hargs,invoke,builtin,Builtin.max_,Builtin.max2,e1,e2], .lit rfl⟩
 ·cases hd
def Zhi (d:Int) (v:Option Value) (x:Int):Prop:=(v=none/\x=d)\/∃k,v=some (.int k x)
theorem Zhj {w:World} {Pr:Nat->Nat->Prop} {γ:List Nat} {base:Nat} {d x:Int} {a:Option AV} {v:Option Value} (h:QL d a=some x)
  (hr:(a=none/\v=none)\/∃a' v' F,a=some a'/\v=some v'/\Rep w Pr γ base a' v' F):Zhi d v x:=by
 rcases hr with ⟨rfl,rfl⟩ | ⟨a',v',F,rfl,rfl,hr⟩
 ·cases h;exact .inl ⟨rfl,rfl⟩
 ·simp only [QL] at h;unfold intOf? at h;split at h
  ·cases h;rw [XB hr];exact .inr ⟨_,rfl⟩
  ·cases h
structure RdoOk (GE:Glob) (s:St) (x:Option Operand) (y:Option AV):Prop where
 ok:∀{D:Nat->Prop} {Pr0:Nat->Nat->Prop} {w0:World} {a:Act} {w:World} {ow:Nat->Option Lab} {Pr:Nat->Nat->Prop} {B:Nat->Nat} {γ:List Nat},
  Inv GE D Pr0 w0 s (ZP a) w ow Pr B γ->(y=none/\x.map a.eval=none)\/∃a' v' F,y=some a'/\x.map a.eval=some v'/\Rep w Pr γ w0.heap.size a' v' F
theorem ZmG {x:Option Operand} {K:Option AV->Option β} (h:rdo x s K=some r):∃y,K y=some r/\RdoOk GE s x y:=by
 cases x with
 |none=>exact ⟨none,h,⟨fun _=> .inl ⟨rfl,rfl⟩⟩⟩
 |some x=>
  obtain ⟨y,h,hy⟩:=YX (GE:=GE) h;exact ⟨some y,h,⟨fun hi=>by obtain ⟨F,h1⟩:=hy.ok hi;exact .inr ⟨y,_,F,rfl,rfl,h1⟩⟩⟩
theorem Zrx {w:World} {b:Bool} {n cap:Nat} {lo hi:Option Value} {l h:Int} (hl:Zhi 0 lo l) (hh:Zhi n hi h) (h0:0<=l) (h1:l<=h) (h2:h<=n) (h3:n<=cap):
  (Instr.sliceBounds b n cap lo hi none).run P w= .ok (l.toNat,h.toNat,cap) w:=by
 have eh:(h.toNat:Int)=h:=M4 (by omega);rcases hl with ⟨rfl,rfl⟩ | ⟨kl,rfl⟩ <;> rcases hh with ⟨rfl,rfl⟩ | ⟨kh,rfl⟩
 ·simp [Instr.sliceBounds]
 ·have:h<=(cap:Int):=by omega
  simp [Instr.sliceBounds,run_sliceBound,h1,this]
 ·simp [Instr.sliceBounds,run_sliceBound,h0,h1]
 ·have:h<=(cap:Int):=by omega
  have h4:0<=h:=by omega
  simp [Instr.sliceBounds,run_sliceBound,h0,h1,this,h4,eh]
theorem ZBd {w:World} {n cap:Nat} {lo hi:Option Value} {l:Int} {km:IntKind} (hl:Zhi 0 lo l) (hh:∃k,hi=some (.int k l)) (h0:0<=l) (h2:l<=n) (h3:n<=cap):
  (Instr.sliceBounds true n cap lo hi (some (.int km l))).run P w= .ok (l.toNat,l.toNat,l.toNat) w:=by
 have eh:(l.toNat:Int)=l:=M4 (by omega);have hc:l<=(cap:Int):=by omega
 obtain ⟨kh,rfl⟩:=hh;rcases hl with ⟨rfl,rfl⟩ | ⟨kl,rfl⟩
 ·simp [Instr.sliceBounds,run_sliceBound]
 ·simp [Instr.sliceBounds,run_sliceBound,h0,hc,eh]
theorem Rep.shr_of {w:World} {Pr:Nat->Nat->Prop} {γ:List Nat} {base k:Nat} {o:Own} {xs:List (List AV)} {v:Value} {F:List Nat} (ho:o.nu=true) (h:Rep w Pr γ base (.slc o k xs) v F):
  ∃A n cap vs,v= .slice A n cap/\xs.length=n/\n<=cap/\cap<=maxLen/\(∀x∈xs,x.length=k)/\Reps w Pr γ base (clrs xs.flatten) vs []/\
   (n=0\/∃ad,A=some ad/\ad.spot=none/\K5 w ad vs/\(∀j,j < vs.length->Pr ad.block (ad.off + j))/\ad.block < w.heap.size):=by
 have h1:Rep w Pr γ base (.slc .shr k xs) v []:=by
  cases o with
  |shr=>exact h.clr
  |own=>exact h.clr
  |unq=>cases ho
 cases h1 with
 |shr e2 e3 e4 e5 e6 e7=>exact ⟨_,_,_,_,rfl,e2,e3,e4,e5,e6,e7⟩
theorem Yb {k:Nat}:∀{xs:List (List AV)},(∀x∈xs,x.length=k)->xs.flatten.length=xs.length * k
 | [],_=>by simp
 |x::xs,h=>by
  rw [UM,Uh,Yb fun y hy=>h y (Ug _ hy),h x (Uj ..),UJ,UX];omega
theorem ZBe {xs:List (List AV)} (l h:Nat):∃q,xs.flatten=(xs.take l).flatten ++ (((xs.take h).drop l).flatten ++ q)\/h < l:=by
 by_cases hl:h < l
 ·exact ⟨[], .inr hl⟩
 ·refine ⟨(xs.drop h).flatten, .inl ?_⟩;rw [←Mv,←Mv];congr 1;have:xs.take l=(xs.take h).take l:=by rw [FO,U8 (by omega)]
  rw [this,←Uw,Up,Up]
theorem Zry (hT:TOk P T) {w:World} {t e k n cap l h m:Nat} (ht:T t= .sl e k) {A:Option Addr} {lo hi mx:Option Value}
  (hb:(Instr.sliceBounds true n cap lo hi mx).run P w= .ok (l,h,m) w):(Instr.sliceAt t (.slice A n cap) lo hi mx).run P w= .ok (sliced A l h m k) w:=by
 have hu:=VF hT ht;have he:P.elem t=e:=by simp [Program.elem,hu]
 have hu':P.underlying t=some (.slice (P.elem t)):=by rw [he];exact hu
 obtain ⟨j,z,hj,hs,_⟩:=JD hT ht;rw [run_sliceAt_slice w t _ lo hi mx hu',run_slice_any w t A n cap hu',hb];simp [sizeOf,typeInfo,he,hj,hs]
theorem ZBf (hT:TOk P T) {w:World} {Pr:Nat->Nat->Prop} {γ:List Nat} {base t e k:Nat} {a c:AV} {lo hi mx:Option AV} {v:Value} {lo' hi' mx':Option Value} {F:List Nat} (ht:T t= .sl e k) (h:slA k a lo hi mx=some c)
  (ha:Rep w Pr γ base a v F) (hlo:(lo=none/\lo'=none)\/∃a' v' F,lo=some a'/\lo'=some v'/\Rep w Pr γ base a' v' F)
  (hhi:(hi=none/\hi'=none)\/∃a' v' F,hi=some a'/\hi'=some v'/\Rep w Pr γ base a' v' F) (hmx:(mx=none/\mx'=none)\/∃a' v' F,mx=some a'/\mx'=some v'/\Rep w Pr γ base a' v' F):
  ∃u,(Instr.sliceAt t v lo' hi' mx').run P w= .ok u w/\Rep w Pr γ base c u []:=by
 obtain ⟨j,z,hj,hs,hk0,_⟩:=JD hT ht;unfold slA at h;split at h
 case h_2=>cases h
 rename_i o k' xs;cases hk:o.nu && Nat.beq k k' with
 |false=>rw [hk] at h;cases h
 |true=>
 rw [hk] at h;rw [Ub] at hk;obtain ⟨hnu,hk⟩:=hk;obtain rfl:=Ud hk;simp only [Ut] at h;obtain ⟨l,hl,h⟩:=ZG h;obtain ⟨hh,hhh,h⟩:=ZG h;obtain ⟨A,n,cap,vs,rfl,e1,e2,e3,e4,e5,e7⟩:=ha.shr_of hnu;have il:=Zhj hl hlo;have ih:=Zhj hhh hhi;rw [e1] at ih;cases mx with
 |none=>
  simp only at h;have hmx':mx'=none:=by
   rcases hmx with ⟨_,h⟩ | ⟨_,_,_,hm,_⟩
   ·exact h
   ·cases hm
  subst hmx';split at h
  ·rename_i hb;obtain ⟨b1,b2,b3⟩:=hb;have eh:(hh.toNat:Int)=hh:=M4 (by omega);have el:(l.toNat:Int)=l:=M4 (by omega);cases h;refine ⟨_,Zry hT ht (Zrx il ih b1 b2 (by omega) e2),?_⟩;have hlen:((xs.take hh.toNat).drop l.toNat).length=hh.toNat - l.toNat:=by rw [Uu,Uc];omega
   have hkk:∀x∈(xs.take hh.toNat).drop l.toNat,x.length=k:=fun x hx=>e4 x (MJ (Mx hx))
   obtain ⟨q,hq⟩:=ZBe (xs:=xs) l.toNat hh.toNat;rcases hq with hq |hq
   case inr=>omega
   rw [hq,ZlW,ZlW] at e5;have hl5:=e5.length_eq;obtain ⟨F1,F2,e8,_,h2⟩:=e5.split;obtain ⟨rfl,rfl⟩:=List.append_eq_nil_iff.1 e8.symm;obtain ⟨F3,F4,e9,h3,_⟩:=h2.split;obtain ⟨rfl,rfl⟩:=List.append_eq_nil_iff.1 e9.symm;have hp1:(xs.take l.toNat).flatten.length=l.toNat * k:=by
    rw [Yb (k:=k) fun x hx=>e4 x (MJ hx),Uc];congr 1;omega
   rw [Xy,Xy,hp1] at h3;rw [Uh,Uh,Xy,Xy,Xy,hp1] at hl5;have hlq:=h3.length_eq;rw [Xy] at hlq;refine .shr hlen (by omega) (by omega) hkk h3 ?_;by_cases hz:hh.toNat - l.toNat=0
   ·exact .inl hz
   ·right;rcases e7 with e7 | ⟨ad,rfl,r2,r3,r4,r5⟩
    ·omega
    ·refine ⟨⟨ad.block,ad.off + l.toNat * k,none⟩,?_,rfl,fun j v hj=> ?_,fun j hj=> ?_,r5⟩
     ·rw [Uf (by omega)];simp [Qt r2]
     ·rw [UA] at hj;split at hj
      ·rw [US] at hj;have:=r3 _ _ hj;rw [MB];exact this
      ·cases hj
     ·have:=r4 (l.toNat * k + j) (by omega);rw [MB];exact this
  ·cases h
 |some m=>
  simp only at h;obtain ⟨m',hm,hq⟩:=ZG h;rcases hmx with ⟨hx,_⟩ | ⟨a',v',F',hx,rfl,hr⟩
  ·cases hx
  cases hx;split at hq
  ·rename_i hb;cases hq;obtain ⟨b1,rfl,rfl,b4,b5⟩:=hb;unfold intOf? at hm;split at hm
   case h_2=>cases hm
   cases hm;rw [XB hr];refine ⟨_,Zry hT ht (ZBd il ?_ b1 (by omega) e2),?_⟩
   ·rcases ih with ⟨rfl,_⟩ |ih
    ·rcases hhi with ⟨rfl,_⟩ | ⟨_,_,_,_,hx,_⟩
     ·cases b5
     ·cases hx
    ·exact ih
   ·simp only [sliced,Nat.sub_self,U1];exact .nil
  ·cases hq
end
end Go.Fx
