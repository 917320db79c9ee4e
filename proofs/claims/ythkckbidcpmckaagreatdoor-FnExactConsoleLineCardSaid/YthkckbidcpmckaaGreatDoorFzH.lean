/- Operations that only compute: each as one operation of a region. -/
import Derived.Test.YthkckbidcpmckaaGreatDoorFzG
set_option linter.all false
namespace Go.Fx
section
variable {P:Program} {GE:Glob} {nt:Nat} {T:Nat->TD} {β:Type} {K:SV->St->Option β} {r:β} {o:Oper} {s:St}
theorem Va {c:AV} (hrun:∀{D:Nat->Prop} {Pr0:Nat->Nat->Prop} {w0:World} {a:Act} {w:World} {ow:Nat->Option Lab} {Pr:Nat->Nat->Prop} {B:Nat->Nat} {γ:List Nat},
  Inv GE D Pr0 w0 s (ZP a) w ow Pr B γ->∃u,(execOp a.eval o).run P w= .ok (.value u) w/\Rep w Pr γ w0.heap.size c u []):ZU P GE nt o s (.val c) s:=by
 intro D Pr0 w0 a w ⟨ow,Pr,B,γ,hi,hd,hn⟩ hok next Q hnext;obtain ⟨u,h1,h2⟩:=hrun hi;exact Ya h1 (hnext _ _ (Z2 hi hd hn hok ⟨[],h2,UE,by simp⟩))
theorem ZG {α γ:Type} {x:Option α} {f:α->Option γ} {y:γ} (h:x.bind f=some y):∃z,x=some z/\f z=some y:=by
 cases x with
 |none=>cases h
 |some z=>exact ⟨z,rfl,h⟩
theorem ZAO (hT:TOk P T) {t:Nat} {cz:List (Option Nat×Value)} {offs:List (Nat×Nat)} (h:T t= .st cz offs) (hb:(TD.st cz offs).bk≠ []):
  ∃fs,P.underlying t=some (.struct fs)/\P.stoodInHeld t=false/\P.eqGuardType P.depth t=false/\ZcT P cz 0 fs.toList:=by
 have:=hT t;unfold Qs at this;rw [h] at this;obtain ⟨⟨fs,h1,h2,h3,h4⟩,_⟩:=this;exact ⟨fs,h1,h4 hb⟩
theorem ZcX {w:World} {op:BinOp} {t:Nat} {x y:Operand} {va vb:Value} (ha:Yi va=true):(eqGuard op t x y va vb).run P w= .ok () w:=by
 cases va <;> first | (simp [Yi] at ha;done) | (cases op <;> simp [eqGuard])
theorem Zrr (hT:TOk P T) {t:Nat} (h:(T t).bk= [9]):P.underlying t=some .bool:=by
 cases hd:T t with
 |sc z=>
  rw [hd] at h;cases z <;> simp [TD.bk] at h
  obtain ⟨ds,h1,h2⟩:=ZcW hT hd;rw [ZAM h2] at h1;exact h1
 |st cz offs=>
  rw [hd] at h;simp only [TD.bk] at h;cases hk:K6 cz with
  |none=>rw [hk] at h;cases h
  |some ks=>
   rw [hk] at h;simp only [Option.getD_some] at h;subst h;obtain ⟨h1,h2⟩:=Zmz hk;cases cz with
   |nil=>cases h1
   |cons p cz=>
    have:=(h2 0 p.1 p.2 rfl).1;simp only [FB,MN] at this;cases hp:p.2 <;> simp [hp,YH] at this
 | _=>rw [hd] at h;cases h
theorem Zrs (hT:TOk P T) {t:Nat} {w:World} {Pr:Nat->Nat->Prop} {γ:List Nat} {base d:Nat} {as bs:List AV} {xs ys:Array Value} {F G:List Nat} {e:Bool} (h0:(T t).bk.isEmpty=false) (h:VA (T t).bk as bs=some e)
  (ha:Reps w Pr γ base as xs.toList F) (hb:Reps w Pr γ base bs ys.toList G):
  P.eqGuardType P.depth t=false/\(Op.equalIn (d + 2) t (.agg xs) (.agg ys)).run P w= .ok e w:=by
 cases hd:T t with
 |sc z=>
  rw [hd] at h h0;cases z <;> simp [TD.bk] at h h0
  cases as with
  |nil=>cases bs <;> cases h
  |cons a as=>
   cases bs with
   |nil=>cases a <;> cases h
   |cons b bs=>
    cases a <;> try (cases h;done)
    cases b <;> try (cases h;done)
    rename_i u v;cases u <;> cases h
 |st cz offs=>
  rw [hd] at h h0;have hb':(TD.st cz offs).bk≠ []:=fun e=>by rw [e] at h0;cases h0
  obtain ⟨fs,h1,h2,h3,h4⟩:=ZAO hT hd hb';refine ⟨h3,?_⟩;have hf:P.fieldsOf t=fs:=by simp [Program.fieldsOf,h1]
  rw [run_equalIn_struct w (d + 1) t xs ys (by rw [hf];exact h1) h2,hf];simp only [TD.bk] at h h0;cases hk:K6 cz with
  |none=>rw [hk] at h0;cases h0
  |some ks=>
   rw [hk] at h;exact Zrq (i:=0) hk h4 (by simpa using h) ha hb (fun j=>by simp) (fun j=>by simp)
 | _=>rw [hd] at h0;cases h0
theorem ZAP (hT:TOk P T) {w:World} {Pr:Nat->Nat->Prop} {γ:List Nat} {base:Nat} {op:BinOp} {t:Nat} {x y:Operand} {a b c:AV} {va vb:Value} {F G:List Nat}
  (h:Jt (T t).bk op a b=some c) (ha:Rep w Pr γ base a va F) (hb:Rep w Pr γ base b vb G):
  ∃u,(eqGuard op t x y va vb).run P w= .ok () w/\(binOp op t va vb).run P w= .ok u w/\Rep w Pr γ base c u []:=by
 unfold Jt at h;split at h
 ·rename_i k n k' m;obtain rfl:=XB ha;obtain rfl:=XB hb;split at h
  ·split at h
   ·cases h
   ·rename_i hy;cases h;exact ⟨_,ZcX rfl,by simp [binOp,Op.shift,hy], .lit rfl⟩
  ·split at h
   ·cases h
   ·rename_i hy;cases h;exact ⟨_,ZcX rfl,by simp [binOp,Op.shift,hy], .lit rfl⟩
  ·split at h
   ·rename_i hk;subst hk;obtain ⟨u,h1,h2,h3⟩:=ZAK (P:=P) (w:=w) t h;exact ⟨u,ZcX rfl,h1,by rw [h2];exact .lit h3⟩
   ·cases h
 ·obtain rfl:=ZcV ha;obtain rfl:=ZcV hb;obtain ⟨u,h1,h2,h3⟩:=ZAL (P:=P) (w:=w) t h;exact ⟨u,ZcX rfl,h1,by rw [h2];exact .lit h3⟩
 ·obtain rfl:=Zaj ha;obtain rfl:=Zaj hb;split at h
  ·rename_i hbk;cases h;have hu:=Zrr hT hbk;exact ⟨_,ZcX rfl,by simp [binOp,Op.equal,Op.maxDepth,run_equalIn_bool' w 9999 t _ _ hu], .lit rfl⟩
  ·rename_i hbk;cases h;have hu:=Zrr hT hbk;exact ⟨_,ZcX rfl,by simp [binOp,Op.equal,Op.maxDepth,run_equalIn_bool' w 9999 t _ _ hu,bne], .lit rfl⟩
  ·cases h
 ·rename_i as bs;cases hbk:(T t).bk.isEmpty with
  |true=>rw [hbk] at h;cases h
  |false=>
   rw [hbk] at h;cases ha with
   |agg ha=>
   cases hb with
   |agg hb=>
   simp only [Ur] at h;split at h
   ·cases hck:V0 (T t).bk as bs with
    |false=>rw [hck] at h;cases h
    |true=>
     rw [hck] at h;have he:=Zl0 hck;generalize eqB as bs=e at he h;cases h;obtain ⟨h1,h2⟩:=Zrs (d:=9998) hT hbk he (xs:=⟨_⟩) (ys:=⟨_⟩) ha hb;refine ⟨.bool e,run_eqGuard_agg w _ _ _ _ _ _ h1,?_, .lit rfl⟩;rw [run_eql_struct];rw [h2];rfl
   ·cases hck:V0 (T t).bk as bs with
    |false=>rw [hck] at h;cases h
    |true=>
     rw [hck] at h;have he:=Zl0 hck;generalize eqB as bs=e at he h;cases h;obtain ⟨h1,h2⟩:=Zrs (d:=9998) hT hbk he (xs:=⟨_⟩) (ys:=⟨_⟩) ha hb;refine ⟨.bool (!e),run_eqGuard_agg w _ _ _ _ _ _ h1,?_, .lit rfl⟩;rw [run_neq_struct];rw [h2];rfl
   ·cases h
 ·cases h
theorem ZAQ (hT:TOk P T) {op:BinOp} {t t':Nat} {x y:Operand} (ho:o.op= .binOp op t x y t')
  (h:rd0 x s (fun a=>rd0 y s fun b=>(Jt (T t).bk op a b).bind fun c=>K (.val c) s)=some r):∃sv s1,K sv s1=some r/\ZU P GE nt o s sv s1:=by
 obtain ⟨a,h,ha⟩:=YX (GE:=GE) h;obtain ⟨b,h,hb⟩:=YX (GE:=GE) h;obtain ⟨c,hc,h⟩:=ZG h;refine ⟨_,_,h,Va fun hi=> ?_⟩;obtain ⟨F,ha⟩:=ha.ok hi;obtain ⟨G,hb⟩:=hb.ok hi;obtain ⟨u,h1,h2,h3⟩:=ZAP hT (x:=x) (y:=y) hc ha hb;exact ⟨u,by simp [execOp,ho,h1,h2],h3⟩
theorem ZAR {op:UnOp} {t:Nat} {x:Operand} (ho:o.op= .unOp op t x)
  (h:rd0 x s (fun a=>(unA op a).bind fun c=>K (.val c) s)=some r):∃sv s1,K sv s1=some r/\ZU P GE nt o s sv s1:=by
 obtain ⟨a,h,ha⟩:=YX (GE:=GE) h;obtain ⟨c,hc,h⟩:=ZG h;refine ⟨_,_,h,Va fun hi=> ?_⟩;obtain ⟨F,ha⟩:=ha.ok hi;unfold unA at hc;split at hc
 ·have e:=Zaj ha;split at hc
  ·cases hc;exact ⟨_,by simp [execOp,ho,e,Op.unary], .lit rfl⟩
  ·cases hc
 ·have e:=XB ha;split at hc
  ·cases hc;exact ⟨_,by simp [execOp,ho,e,Op.unary,Op.intArith], .lit rfl⟩
  ·cases hc
 ·cases hc
theorem ZAS {c x y:Operand} {tk:Bool} {cf:Value->Option AV} (hcf:CfOk cf) (ho:o.op= .pick c x y)
  (h:rd0 c s (fun c=>Zbm c (rd tk cf x s K) (rd tk cf y s K))=some r):∃sv s1,K sv s1=some r/\ZU P GE nt o s sv s1:=by
 obtain ⟨a,h,ha⟩:=YX (GE:=GE) h;unfold Zbm cnd at h;split at h
 ·rename_i b;cases b with
  |true=>
   simp only [Ut] at h;obtain ⟨sv,s1,hK,hr⟩:=Xj (GE:=GE) hcf h;refine ⟨sv,s1,hK,fun D Pr0 w0 a w ⟨ow,Pr,B,γ,hi,hd,hn⟩ hok next Q hnext=> ?_⟩;obtain ⟨F,ha⟩:=ha.ok hi;have e:=Zaj ha;obtain ⟨ow1,h1,_,h3⟩:=hr.ok hi;exact Ya (w1:=w) (v:=a.eval x) (by simp [execOp,ho,e,asBool]) (hnext _ _ (Z2 h1 hd hn hok h3.slot))
  |false=>
   simp only [Ur] at h;obtain ⟨sv,s1,hK,hr⟩:=Xj (GE:=GE) hcf h;refine ⟨sv,s1,hK,fun D Pr0 w0 a w ⟨ow,Pr,B,γ,hi,hd,hn⟩ hok next Q hnext=> ?_⟩;obtain ⟨F,ha⟩:=ha.ok hi;have e:=Zaj ha;obtain ⟨ow1,h1,_,h3⟩:=hr.ok hi;exact Ya (w1:=w) (v:=a.eval y) (by simp [execOp,ho,e,asBool]) (hnext _ _ (Z2 h1 hd hn hok h3.slot))
 ·cases h
theorem VF (hT:TOk P T) {t e k:Nat} (h:T t= .sl e k):P.underlying t=some (.slice e):=by
 have:=hT t;unfold Qs at this;rw [h] at this;exact this.1
theorem ZAT {ds:TypeDesc} {b:ByteArray} (h:XA ds (.string b)=true):ds= .string:=by
 cases ds <;> first |rfl | (simp [XA] at h;done)
theorem ZeE (hT:TOk P T) {t:Nat} {b:ByteArray} (h:T t= .sc (.string b)):P.underlying t=some .string:=by
 obtain ⟨ds,h1,h2⟩:=ZcW hT h;rw [ZAT h2] at h1;exact h1
theorem ZAU {w:World} (d:Nat) {t e:TypeId} {a:Option Addr} {n c:Nat} (h:P.underlying t=some (.slice e)):
  (Op.equalIn (d + 1) t (.slice a n c) (.slice none 0 0)).run P w= .ok a.isNone w:=by
 cases a <;> simp [Op.equalIn,run_underlying h]
theorem ZAV {w:World} {t e:TypeId} {a:Option Addr} {n c:Nat} (h:P.underlying t=some (.slice e)):
  (binOp .eql t (.slice a n c) (.slice none 0 0)).run P w= .ok (.bool a.isNone) w:=by
 simp only [binOp];simp [Op.equal,Op.maxDepth,ZAU (w:=w) 9999 (a:=a) (n:=n) (c:=c) h]
theorem ZAW {y:Operand} (h:ZcP y=true):y= .const (.slice none 0 0):=by
 unfold ZcP at h;split at h
 ·rfl
 ·cases h
theorem ZAX (hT:TOk P T) {op:BinOp} {t t':Nat} {x y:Operand} {e k:Nat} (ht:T t= .sl e k) (ho:o.op= .binOp op t x y t') (hy:ZcP y=true)
  (h:rd0 x s (fun a=>(Zmb op a).bind fun c=>K (.val c) s)=some r):∃sv s1,K sv s1=some r/\ZU P GE nt o s sv s1:=by
 obtain rfl:=ZAW hy;obtain ⟨a,h,ha⟩:=YX (GE:=GE) h;obtain ⟨c,hc,h⟩:=ZG h;refine ⟨_,_,h,Va fun hi=> ?_⟩;obtain ⟨F,ha⟩:=ha.ok hi;have hu:=VF hT ht;obtain ⟨o',k',xs,rfl,rfl,rfl⟩:∃o' k' xs,op= .eql/\a= .slc o' k' xs/\c= .nilq xs:=by
  unfold Zmb at hc;split at hc
  ·cases hc;exact ⟨_,_,_,rfl,rfl,rfl⟩
  ·cases hc;exact ⟨_,_,_,rfl,rfl,rfl⟩
  ·cases hc
 generalize hv:Act.eval _ x=v at ha;have key:∃A n cap,v= .slice A n cap/\(xs≠ []->A.isNone=false):=by
  cases ha with
  |shr h2 h3 h4 h5 h6 h7=>
   refine ⟨_,_,_,rfl,fun hne=> ?_⟩;rcases h7 with h7 | ⟨ad,rfl,_⟩
   ·exact absurd (Us (h2.trans h7)) hne
   ·rfl
  |nil=>exact ⟨_,_,_,rfl,fun hne=>absurd rfl hne⟩
  |own=>exact ⟨_,_,_,rfl,fun _=>rfl⟩
  |unil=>exact ⟨_,_,_,rfl,fun hne=>absurd rfl hne⟩
  |unq=>exact ⟨_,_,_,rfl,fun _=>rfl⟩
 obtain ⟨A,n,cap,rfl,hn⟩:=key;have hc2:∀a':Act,a'.eval (.const (.slice none 0 0))= .slice none 0 0:=fun _=>rfl
 exact ⟨.bool A.isNone,by simp [execOp,ho,hv,hc2,eqGuard,ZAV hu], .nilq hn⟩
theorem Zrt {w:World} {Pr:Nat->Nat->Prop} {γ:List Nat} {base:Nat} {a c:AV} {v:Value} {F:List Nat} (h:Zeq a=some c) (ha:Rep w Pr γ base a v F):
  ∃ad n cap,v= .slice ad n cap/\c=I n:=by
 unfold Zeq at h;split at h
 ·cases h;cases ha with
  |shr hn=>exact ⟨_,_,_,rfl,by rw [hn]⟩
  |nil=>exact ⟨_,_,_,rfl,rfl⟩
  |own _ _ _ _ hn=>exact ⟨_,_,_,rfl,by rw [hn]⟩
  |unil=>exact ⟨_,_,_,rfl,rfl⟩
  |unq _ _ _ _ _ hn=>exact ⟨_,_,_,rfl,by rw [hn]⟩
 ·cases h
theorem ZAY {w:World} {Pr:Nat->Nat->Prop} {γ:List Nat} {base:Nat} {a c:AV} {v:Value} {F:List Nat} (h:ZlZ a=some c) (ha:Rep w Pr γ base a v F):
  ∃b,v= .string b/\c=I b.size:=by
 unfold ZlZ at h;split at h
 ·cases h;exact ⟨_,ZcV ha,rfl⟩
 ·cases h
theorem ZmA {w:World} {t ty e:Nat} {ts:Array Nat} {ad:Option Addr} {n cap:Nat} (hts:ts[0]? =some t) (hu:P.underlying t=some (.slice e)):
  (Builtin.len_ ts ty #[.slice ad n cap]).run P w= .ok (.int .i64 n) w:=by
 simp [Builtin.len_,hts,run_underlying hu,goInt]
theorem ZAZ {w:World} {t ty:Nat} {ts:Array Nat} {b:ByteArray} (hts:ts[0]? =some t) (hu:P.underlying t=some .string):
  (Builtin.len_ ts ty #[.string b]).run P w= .ok (.int .i64 b.size) w:=by
 simp [Builtin.len_,hts,run_underlying hu,goInt]
theorem ZA0 (hT:TOk P T) {E:Ctx} (hE:E.T=T) {x:Operand} {c:Call} {tk:Bool} (ho:o.op= .call c) (hc:c.callee= .builtin .len) {t:Nat} {ts:List Nat} (hx:c.args.toList= [x]) (hts':c.argTypes.toList=t::ts)
  (h:QM E .len [x] (t::ts) tk s K=some r):∃sv s1,K sv s1=some r/\ZU P GE nt o s sv s1:=by
 have hargs:c.args= #[x]:=by apply Mu;simpa using hx
 have hrun:∀{a:Act} {w:World} {u:Value},(Builtin.len_ c.argTypes o.type #[a.eval x]).run P w= .ok u w->(execOp a.eval o).run P w= .ok (.value u) w:=by
  intro a w u hu;simp [execOp,ho,resolve,hc,hargs,invoke,builtin,hu]
 simp only [QM] at h;rw [hE] at h;split at h
 ·rename_i e k ht;have hts:c.argTypes[0]? =some t:=by rw [←Mo,hts'];rfl
  have hu:=VF hT ht;split at h
  ·rename_i n;split at h
   ·rename_i a hen;obtain ⟨c',hc',h⟩:=ZG h;refine ⟨_,_,h,Va fun hi=> ?_⟩;have hs:=hi.slot n;rw [hen] at hs;obtain ⟨F,h1,_,_⟩:=hs;obtain ⟨ad,m,cap,h2,h3⟩:=Zrt hc' h1;refine ⟨.int .i64 m,hrun ?_,by rw [h3];exact .lit rfl⟩;have:_=_:=h2;show (Builtin.len_ _ _ #[ZP _ n]).run P _=_;rw [h2];exact ZmA hts hu
   ·rename_i key hen;split at h
    ·rename_i ob hL;refine ⟨_,_,h,Va fun hi=> ?_⟩;have hs:=hi.slot n;rw [hen] at hs;obtain ⟨ob',A,cap,h1,h2,_⟩:=hs;rw [hL] at h1;cases h1;refine ⟨.int .i64 ob.rows.length,hrun ?_, .lit rfl⟩;show (Builtin.len_ _ _ #[ZP _ n]).run P _=_;rw [h2];exact ZmA hts hu
    ·cases h
   ·cases h
  ·cases h
 ·rename_i b ht;have hts:c.argTypes[0]? =some t:=by rw [←Mo,hts'];rfl
  have hu:=ZeE hT ht;obtain ⟨a,h,ha⟩:=YX (GE:=GE) h;obtain ⟨c',hc',h⟩:=ZG h;refine ⟨_,_,h,Va fun hi=> ?_⟩;obtain ⟨F,ha⟩:=ha.ok hi;obtain ⟨b,h2,h3⟩:=ZAY hc' ha;refine ⟨.int .i64 b.size,hrun ?_,by rw [h3];exact .lit rfl⟩;rw [h2];exact ZAZ hts hu
 ·cases h
end
end Go.Fx
