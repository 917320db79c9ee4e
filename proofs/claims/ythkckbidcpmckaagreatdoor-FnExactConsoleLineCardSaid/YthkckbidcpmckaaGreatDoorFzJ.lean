/- Addresses, slices, strings: each as one operation of a region. -/
import Derived.Test.YthkckbidcpmckaaGreatDoorFzH
set_option linter.all false
namespace Go.Fx
section
variable {P:Program} {GE:Glob} {nt:Nat} {T:Nat->TD} {β:Type} {K:SV->St->Option β} {r:β} {o:Oper} {s:St}
theorem Zhg {b off n:Nat}:(⟨b,off,none⟩:Addr).add n=⟨b,off + n,none⟩:=by
 unfold Addr.add;split
 ·rename_i h;subst h;rfl
 ·rfl
theorem Qt {ad:Addr} {n:Nat} (h:ad.spot=none):ad.add n=⟨ad.block,ad.off + n,none⟩:=by
 obtain ⟨b,f,sp⟩:=ad;simp only at h;subst h;exact Zhg
theorem ZA1 (hT:TOk P T) {t f off sz:Nat} {cz:List (Option Nat×Value)} {offs:List (Nat×Nat)} (h:T t= .st cz offs) (hf:offs[f]? =some (off,sz)):
  ∃fs fd j,P.underlying t=some (.struct fs)/\fs[f]? =some fd/\fd.offset=off/\P.info? fd.type=some j/\j.size=sz/\j.size≠0/\off + sz<=cz.length:=by
 have:=hT t;unfold Qs at this;rw [h] at this;obtain ⟨⟨fs,h1,h2,h3,_⟩,_⟩:=this;have hlt:f < fs.size:=by
  rw [h2];rcases U2 f offs.length with h |h
  ·exact h
  ·rw [UP h] at hf;cases hf
 have hfd:fs[f]? =some fs[f]:=MG hlt;obtain ⟨j,h4,h5,h6,h7⟩:=h3 f _ hfd;rw [hf] at h6;cases h6;exact ⟨fs,_,j,h1,hfd,rfl,h4,rfl,h5,h7.1⟩
theorem ZA2 (hT:TOk P T) {t f off sz:Nat} {cz:List (Option Nat×Value)} {offs:List (Nat×Nat)} (h:T t= .st cz offs) (hf:offs[f]? =some (off,sz)):
  ∃fs fd j d,P.underlying t=some (.struct fs)/\fs[f]? =some fd/\fd.offset=off/\P.info? fd.type=some j/\j.size=sz/\P.underlying fd.type=some d/\ZeD d=Nat.blt 1 sz:=by
 have:=hT t;unfold Qs at this;rw [h] at this;obtain ⟨⟨fs,h1,h2,h3,_⟩,_⟩:=this;have hlt:f < fs.size:=by
  rw [h2];rcases U2 f offs.length with h |h
  ·exact h
  ·rw [UP h] at hf;cases hf
 have hfd:fs[f]? =some fs[f]:=MG hlt;obtain ⟨j,h4,h5,h6,h7,d,h8,h9⟩:=h3 f _ hfd;rw [hf] at h6;cases h6;exact ⟨fs,_,j,d,h1,hfd,rfl,h4,rfl,h8,h9⟩
theorem ZmB (hT:TOk P T) {w:World} {t f off sz:Nat} {cz:List (Option Nat×Value)} {offs:List (Nat×Nat)} (h:T t= .st cz offs) (hf:offs[f]? =some (off,sz)) {ad:Addr} (hs:ad.spot=none):
  (Instr.fieldAt t (.pointer (some ad)) f).run P w= .ok (.pointer (some ⟨ad.block,ad.off + off,none⟩)) w:=by
 obtain ⟨fs,fd,j,h1,h2,h3,h4,h5,h6,_⟩:=ZA1 hT h hf;have hz:¬j.size=0:=h6;simp [Instr.fieldAt,run_underlying h1,h2,Instr.sureAddr,fieldPlace,sizeOf,typeInfo,h4,hz,h3,Qt hs]
theorem ZA3 {w:World} {Pr:Nat->Nat->Prop} {γ:List Nat} {base off:Nat} {a c:AV} {v:Value} {F:List Nat} (h:Zg1 off a=some c) (ha:Rep w Pr γ base a v F):
  ∃ad,v= .pointer (some ad)/\ad.spot=none/\∃F1 F2,F=F1 ++ F2/\Rep w Pr γ base c (.pointer (some ⟨ad.block,ad.off + off,none⟩)) F2:=by
 unfold Zg1 at h;split at h
 ·rename_i cs;cases h;cases ha with
  | @rp _ vs F ad h1 h2 h3 h4 h5=>
   refine ⟨ad,rfl,h1,?_⟩;have hsp:Reps w Pr γ base (cs.take off ++ cs.drop off) vs F:=by rw [Up];exact h5
   obtain ⟨F1,F2,e,h6,h7⟩:=hsp.split;refine ⟨F1,F2,e, .rp rfl (fun j v hj=> ?_) (fun j hj=> ?_) h4 h7⟩
   ·rw [US,Uc] at hj;by_cases ho:off<=cs.length
    ·rw [U8 ho] at hj;have:=h2 (off + j) v hj;rw [MB];exact this
    ·have:=h5.length_eq;rw [UP (by omega)] at hj;cases hj
   ·rw [Uu,Uc] at hj;have:=h5.length_eq;have:=h3 (off + j) (by omega);rw [MB];exact this
 ·cases h;cases ha with
  |gp hb=>exact ⟨_,rfl,rfl,[],[],rfl, .gp hb⟩
 ·cases h
theorem ZA4 (hT:TOk P T) {t f:Nat} {x:Operand} {tk:Bool} {cz:List (Option Nat×Value)} {offs:List (Nat×Nat)} {off sz:Nat} (ho:o.op= .fieldAddr t x f) (ht:T t= .st cz offs) (hf:offs[f]? =some (off,sz))
  (h:rd tk (fun _=>none) x s (fun p s'=>match p with
    | .lp key i o=>K (.lp key i (o + off)) s'
    | .val a=>(Zg1 off a).bind fun r=>K (.val r) s'
    | _=>none)=some r):∃sv s1,K sv s1=some r/\ZU P GE nt o s sv s1:=by
 obtain ⟨sv,s1,h,hr⟩:=Xj (GE:=GE) CfOk.none h;cases sv with
 |lp key i off'=>
  refine ⟨_,_,h,fun D Pr0 w0 a w ⟨ow,Pr,B,γ,hi,hd,hn⟩ hok next Q hnext=> ?_⟩;obtain ⟨ow1,h1,_,h3⟩:=hr.ok hi;obtain ⟨ob,h4,h5⟩:=h3;have hrun:(execOp a.eval o).run P w= .ok (.value (.pointer (some ⟨B key,i * ob.k + off' + off,none⟩))) w:=by
   simp only [execOp,ho,h5,Sem.run_bind,ZmB hT ht hf (ad:=⟨B key,i * ob.k + off',none⟩) rfl,Result.andThen_ok,Sem.run_pure]
  exact Ya hrun (hnext _ _ (Z2 h1 hd hn hok ⟨ob,h4,by rw [MB]⟩))
 |val p=>
  obtain ⟨c,hc,h⟩:=ZG h;refine ⟨_,_,h,fun D Pr0 w0 a w ⟨ow,Pr,B,γ,hi,hd,hn⟩ hok next Q hnext=> ?_⟩;obtain ⟨ow1,h1,_,F,h3,h4,h5,_⟩:=hr.ok hi;obtain ⟨ad,e1,e2,F1,F2,rfl,h6⟩:=ZA3 hc h3;have hrun:(execOp a.eval o).run P w= .ok (.value (.pointer (some ⟨ad.block,ad.off + off,none⟩))) w:=by
   simp only [execOp,ho,e1,Sem.run_bind,ZmB hT ht hf e2,Result.andThen_ok,Sem.run_pure]
  exact Ya hrun (hnext _ _ (Z2 h1 hd hn hok ⟨F2,h6,(List.nodup_append.1 h4).2.1,fun b hb=>h5 b (UD _ hb)⟩))
 |la key=>cases h
 |lv key i off ag=>cases h
 |no=>cases h
theorem JD (hT:TOk P T) {t e k:Nat} (h:T t= .sl e k):∃j z,P.info? e=some j/\j.size=k/\0 < k/\j.bytes<=128/\j.zero=some z/\zOk (T e) z=true/\(T e).size=k:=by
 have:=hT t;unfold Qs at this;rw [h] at this;obtain ⟨_,_,⟨j,z,h1,h2,h3,h4,h5,h6⟩,h7,_⟩:=this;exact ⟨j,z,h1,h2,h3,h4,h5,h6,h7⟩
theorem ZmC (hT:TOk P T) {t e k:Nat} (h:T t= .sl e k) {j:TypeInfo} (hj:P.info? e=some j):j.bytes<=byA (T e):=by
 have:=hT t;unfold Qs at this;rw [h] at this;obtain ⟨_,_,_,_,j',h1,h2⟩:=this;rw [hj] at h1;cases h1;exact h2
theorem ZmD (hT:TOk P T) {w:World} {t e k:Nat} (h:T t= .sl e k) {ad:Addr} (hs:ad.spot=none) {n cap:Nat} {ik:IntKind} {i:Int} (h0:0<=i) (h1:i < n):
  (Instr.indexAt t (.slice (some ad) n cap) (.int ik i)).run P w= .ok (.pointer (some ⟨ad.block,ad.off + i.toNat * k,none⟩)) w:=by
 obtain ⟨j,z,h2,h3,_⟩:=JD hT h;have hu:=VF hT h;simp [Instr.indexAt,asIntOf,run_underlying hu,h0,h1,sizeOf,typeInfo,h2,h3,Qt hs]
theorem Zru {k:Nat}:∀{xs:List (List AV)},(∀x∈xs,x.length=k)->∀{i:Nat} {c:List AV},xs[i]? =some c->∃p q,xs.flatten=p ++ (c ++ q)/\p.length=i * k
 | [],_,i,c,h=>by simp at h
 |x::xs,hx,0,c,h=>by
  simp at h;subst h;exact ⟨[],xs.flatten,rfl,by simp⟩
 |x::xs,hx,i + 1,c,h=>by
  obtain ⟨p,q,e,hl⟩:=Zru (fun y hy=>hx y (Ug _ hy)) (Mq ▸ h);refine ⟨x ++ p,q,by rw [UM,e,Uw],?_⟩;rw [Uh,hl,hx x (Uj ..),UX];omega
theorem Zrv {w:World} {Pr:Nat->Nat->Prop} {γ:List Nat} {base k:Nat} {xs:List (List AV)} {vs:List Value} {F:List Nat} {ad:Addr} (hx:∀x∈xs,x.length=k) (hr:Reps w Pr γ base xs.flatten vs F)
  (hc:K5 w ad vs) (hp:∀j,j < vs.length->Pr ad.block (ad.off + j)) (hb:ad.block < w.heap.size) {i:Nat} {c:List AV} (hi:xs[i]? =some c):
  ∃F1 F2 F3,F=F1 ++ (F2 ++ F3)/\Rep w Pr γ base (.rp c) (.pointer (some ⟨ad.block,ad.off + i * k,none⟩)) F2:=by
 obtain ⟨p,q,e,hl⟩:=Zru hx hi;rw [e] at hr;have hlen:=hr.length_eq;obtain ⟨F1,F',rfl,_,h2⟩:=hr.split;obtain ⟨F2,F3,rfl,h3,_⟩:=h2.split;rw [hl] at h3;simp only [Uh] at hlen;have hcl:=h3.length_eq;refine ⟨F1,F2,F3,rfl, .rp rfl (fun j v hj=> ?_) (fun j hj=> ?_) hb h3⟩
 ·rw [UA] at hj;split at hj
  ·rw [US] at hj;have:=hc _ _ hj;rw [MB];exact this
  ·cases hj
 ·have:=hp (i * k + j) (by omega);rw [MB];exact this
theorem Zhh {w:World} {b k n:Nat} {cur:Array Value} {e:TypeId} (h:w.heap[b]? =some (.cells cur e (0,0))):K5 w ⟨b,0,none⟩ (cur.toList.take (n * k)):=by
 intro j v hj;rw [UA] at hj;split at hj
 ·rw [U0,X8 h];simpa using hj
 ·cases hj
theorem ZmE {w:World} {Pr:Nat->Nat->Prop} {γ:List Nat} {base k:Nat} {a i c:AV} {v iv:Value} {F G:List Nat} (h:ixV k a i=some c) (ha:Rep w Pr γ base a v F) (hi:Rep w Pr γ base i iv G):
  ∃ad n cap ik j,v= .slice (some ad) n cap/\ad.spot=none/\iv= .int ik j/\0<=j/\j < (n:Int)/\∃F1 F2 F3,F=F1 ++ (F2 ++ F3)/\Rep w Pr γ base c (.pointer (some ⟨ad.block,ad.off + j.toNat * k,none⟩)) F2:=by
 unfold ixV at h;split at h
 ·rename_i o k' xs ik j;have hiv:=XB hi;cases hk:Nat.beq k k' with
  |false=>rw [hk] at h;cases h
  |true=>
   obtain rfl:=Ud hk;rw [hk] at h;simp only [Ut] at h;cases hnu:o.nu with
   |false=>rw [hnu] at h;cases h
   |true=>
   rw [hnu] at h;simp only [Ut] at h;split at h
   ·rename_i h0;split at h
    ·rename_i el hel;cases h;have hlt:j.toNat < xs.length:=by
      rcases U2 j.toNat xs.length with h |h
      ·exact h
      ·rw [UP h] at hel;cases hel
     cases ha with
     |shr h2 h3 h4 h5 h6 h7=>
      rcases h7 with h7 | ⟨ad,e1,e2,e3,e4,e5⟩
      ·omega
      ·subst e1;rw [Zra] at h6;exact ⟨ad,_,_,ik,j,rfl,e2,hiv,h0,by omega,Zrv (xs:=xs.map clrs) (fun x hx=>by obtain ⟨y,hy,rfl⟩:=List.mem_map.1 hx;rw [Xy];exact h5 y hy) h6 e3 e4 e5 (by rw [Mf,hel];rfl)⟩
     |nil=>simp at hel
     |unil=>cases hnu
     |unq=>cases hnu
     |own h1 h2 h3 h4 h5 h6 h7 h8 h9 hpos=>
      subst h7;obtain ⟨F1,F2,F3,e,h10⟩:=Zrv (ad:=⟨_,0,none⟩) h6 h8 (Zhh h1) (fun j hj=>by rw [U0];exact (h9 j).2 (by rw [Uc] at hj;omega)) (YL h1) hel;exact ⟨_,_,_,ik,j,rfl,rfl,hiv,h0,by omega,_::F1,F2,F3,by rw [e];rfl,h10⟩
    ·cases h
   ·cases h
 ·cases h
theorem ZmF {R:RR} {k:Nat} {a i:AV} {K:AV->Option β} (h:ixK R k a i K=some r):∃c c',ixV k a i=some c/\Le c c'/\K c'=some r:=by
 unfold ixK at h;split at h
 ·rename_i o k' xs ik n;unfold ixV;cases hk:Nat.beq k k' with
  |false=>rw [hk] at h;cases h
  |true=>
   rw [hk] at h;simp only [Ut] at h ⊢;cases hnu:o.nu with
   |false=>rw [hnu] at h;cases h
   |true=>
   rw [hnu] at h;simp only [Ut] at h ⊢;cases n with
   |ofNat m=>
    have h0:(0:Int)<=Int.ofNat m:=Fw m;rw [Ul h0];simp only [ZO,ZZ] at h;split at h
    ·rename_i c hc;obtain ⟨p,h1,h2⟩:=R.ok _ _ _ h;have hc':xs[(Int.ofNat m).toNat]? =some c:=hc;rw [hc'];cases o with
     |own=>exact ⟨_,_,by rw [hk];rfl,Le.rp h1,h2⟩
     |shr=>exact ⟨_,_,by rw [hk];rfl,Le.rp h1.toClr,h2⟩
     |unq=>cases hnu
    ·cases h
   |negSucc m=>cases h
 ·cases h
theorem ZA5 (hT:TOk P T) {R:RR} {t e k:Nat} {x i:Operand} {tk:Bool} {cf:Value->Option AV} (hcf:CfOk cf) (ho:o.op= .indexAddr t x i) (ht:T t= .sl e k)
  (h:rd0 i s (fun i=>rd tk cf x s fun p s'=>match p with
    | .la key=>match s.L key with
     |some o=>bif Nat.beq o.k k then match i with
      | .lit (.int _ n)=>ifA (0<=n/\n < o.rows.length) (K (.lp key n.toNat 0) s')
      | _=>none
      else none
     |none=>none
    | .val a=>ixK R k a i fun r=>K (.val r) s'
    | _=>none)=some r):∃sv s1,K sv s1=some r/\ZU P GE nt o s sv s1:=by
 obtain ⟨iv,h,hiv⟩:=YX (GE:=GE) h;obtain ⟨sv,s1,h,hr⟩:=Xj (GE:=GE) hcf h;cases sv with
 |la key=>
  simp only at h;split at h
  ·rename_i ob hL;cases hk:Nat.beq ob.k k with
   |false=>rw [hk] at h;cases h
   |true=>
   have hk:=Ud hk;subst hk;simp only [MC,Ut] at h;split at h
   ·rename_i ik n _;unfold ifA at h;split at h
    ·rename_i hn;refine ⟨_,_,h,fun D Pr0 w0 a w ⟨ow,Pr,B,γ,hi,hd,hnn⟩ hok next Q hnext=> ?_⟩;obtain ⟨_,hiv⟩:=hiv.ok hi;have e1:=XB hiv;obtain ⟨ow1,h1,_,h3⟩:=hr.ok hi;obtain ⟨ob',A,cap,h4,h5,h6⟩:=h3;have h4':=h4;rw [hr.L,hL] at h4';cases h4';obtain rfl:A=some ⟨B key,0,none⟩:=by
      rcases h6 with h6 |h6
      ·omega
      ·exact h6.1
     have hrun:(execOp a.eval o).run P w= .ok (.value (.pointer (some ⟨B key,0 + n.toNat * ob.k,none⟩))) w:=by
      simp only [execOp,ho,h5,e1,Sem.run_bind,ZmD hT ht (ad:=⟨B key,0,none⟩) rfl hn.1 hn.2,Result.andThen_ok,Sem.run_pure]
     exact Ya hrun (hnext _ _ (Z2 h1 hd hnn hok ⟨ob,h4,by simp⟩))
    ·cases h
   ·cases h
  ·cases h
 |val p=>
  obtain ⟨c,c',hc,hle,h⟩:=ZmF h;refine ⟨_,_,h,fun D Pr0 w0 a w ⟨ow,Pr,B,γ,hi,hd,hn⟩ hok next Q hnext=> ?_⟩;obtain ⟨_,hiv⟩:=hiv.ok hi;obtain ⟨ow1,h1,_,F,h3,h4,h5,_⟩:=hr.ok hi;obtain ⟨ad,n,cap,ik,j,e1,e2,e3,e4,e5,F1,F2,F3,rfl,h6⟩:=ZmE hc h3 hiv;obtain ⟨F2',hsub,h6'⟩:=hle.rep h6;have hrun:(execOp a.eval o).run P w= .ok (.value (.pointer (some ⟨ad.block,ad.off + j.toNat * k,none⟩))) w:=by
   simp only [execOp,ho,e1,e3,Sem.run_bind,ZmD hT ht e2 e4 e5,Result.andThen_ok,Sem.run_pure]
  have hnd:=(List.nodup_append.1 (List.nodup_append.1 h4).2.1).1;exact Ya hrun (hnext _ _ (Z2 h1 hd hn hok ⟨F2',h6',hnd.sublist hsub,fun b hb=>h5 b (UD _ (Uz _ (hsub.subset hb)))⟩))
 |lp key i off=>cases h
 |lv key i off ag=>cases h
 |no=>cases h
end
end Go.Fx
