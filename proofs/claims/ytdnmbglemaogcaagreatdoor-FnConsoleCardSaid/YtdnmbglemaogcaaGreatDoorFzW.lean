/- Regions that draw their order: operations that leave each other alone may be exchanged. -/
import Derived.Test.YtdnmbglemaogcaaGreatDoorFzV
set_option linter.all false
namespace Go.Fx
section
variable {β:Type} {r:β} {E:Ctx} {s s':St}
def Agr (b:Bool) (xs:List Operand) (s s':St):Prop:=(∀t,Operand.tmp t∈xs->s'.env t=s.env t)/\(∀key ob,s.L key=some ob->s'.L key=some ob)/\(b=true->s'.G=s.G)
theorem Agr.sub {b:Bool} {xs ys:List Operand} (h:Agr b ys s s') (hs:∀x∈xs,x∈ys):Agr b xs s s':=⟨fun t ht=>h.1 t (hs _ ht),h.2⟩
theorem Vr {cf:Value->Option AV} {x:Operand} {K:SV->St->Option β} (h:rd false cf x s K=some r):
  ∃sv,K sv s=some r/\∀{bg:Bool} s',Agr bg [x] s s'->∀K':SV->St->Option β,rd false cf x s' K'=K' sv s':=by
 unfold rd at h;cases x with
 |tmp n=>
  simp only at h;cases he:s.env n with
  |val c=>
   simp only [he] at h;exact ⟨_,h,fun s' ha K'=>by have:=ha.1 n (by simp);rw [he] at this;simp [rd,this]⟩
  |no=>simp [he] at h
  |lp key i off=>
   simp only [he] at h;exact ⟨_,h,fun s' ha K'=>by have:=ha.1 n (by simp);rw [he] at this;simp [rd,this]⟩
  |la key=>
   simp only [he] at h;exact ⟨_,h,fun s' ha K'=>by have:=ha.1 n (by simp);rw [he] at this;simp [rd,this]⟩
  |lv key i off ag=>
   simp only [he] at h;exact ⟨_,h,fun s' ha K'=>by have:=ha.1 n (by simp);rw [he] at this;simp [rd,this]⟩
 |const v=>
  simp only at h;obtain ⟨c,hc,h⟩:=ZH h;exact ⟨_,h,fun s' _ K'=>by simp [rd,hc]⟩
 |func f=>exact ⟨_,h,fun s' _ K'=>rfl⟩
 |global g=>cases h
theorem ZyS {x:Operand} {K:SV->St->Option β} (h:rd false (fun _=>none) x s K=some r):
  ∃sv,K sv s=some r/\(∀{bg:Bool} s',Agr bg [x] s s'->∀K':SV->St->Option β,rd false (fun _=>none) x s' K'=K' sv s')/\(XD sv=true->∃n,x= .tmp n/\XD (s.env n)=true):=by
 unfold rd at h;cases x with
 |tmp n=>
  simp only at h;cases he:s.env n with
  |val c=>
   simp only [he] at h;refine ⟨_,h,fun s' ha K'=>by have:=ha.1 n (by simp);rw [he] at this;simp [rd,this],fun hg=>⟨n,rfl,?_⟩⟩;rw [he];cases c <;> first |rfl | (simp [XD,AV.clr] at hg;done) |skip
   rename_i o k xs;cases o <;> simp [XD,AV.clr] at hg
  |no=>simp [he] at h
  |lp key i off=>
   simp only [he] at h;exact ⟨_,h,fun s' ha K'=>by have:=ha.1 n (by simp);rw [he] at this;simp [rd,this],fun hg=>by cases hg⟩
  |la key=>
   simp only [he] at h;exact ⟨_,h,fun s' ha K'=>by have:=ha.1 n (by simp);rw [he] at this;simp [rd,this],fun hg=>by cases hg⟩
  |lv key i off ag=>
   simp only [he] at h;exact ⟨_,h,fun s' ha K'=>by have:=ha.1 n (by simp);rw [he] at this;simp [rd,this],fun hg=>by cases hg⟩
 |const v=>simp at h
 |func f=>exact ⟨_,h,fun s' _ K'=>rfl,fun hg=>by cases hg⟩
 |global g=>cases h
theorem XG {x:Operand} {K:AV->Option β} (h:rd0 x s K=some r):
  ∃a,K a=some r/\∀{bg:Bool} s',Agr bg [x] s s'->∀K':AV->Option β,rd0 x s' K'=K' a:=by
 unfold rd0 at h;cases x with
 |tmp n=>
  simp only at h;cases he:s.env n with
  |val c=>
   simp only [he] at h;exact ⟨_,h,fun s' ha K'=>by have:=ha.1 n (by simp);rw [he] at this;simp [rd0,this]⟩
  |no=>simp [he] at h
  |lp key i off=>simp [he] at h
  |la key=>simp [he] at h
  |lv key i off ag=>simp [he] at h
 |const v=>
  simp only at h;split at h
  ·rename_i cs;cases hs:cs.toList.all Yh with
   |false=>rw [hs] at h;cases h
   |true=>rw [hs] at h;exact ⟨_,h,fun s' _ K'=>by simp only [rd0,hs,Uo]⟩
  ·rename_i hne;cases hs:Yh v with
   |false=>rw [hs] at h;cases h
   |true=>rw [hs] at h;exact ⟨_,h,fun s' _ K'=>by cases v <;> first |rfl | (simp [Yh] at hs;done)⟩
 |func f=>cases h
 |global g=>cases h
theorem Zlq {x:Option Operand} {K:Option AV->Option β} (h:rdo x s K=some r):
  ∃a,K a=some r/\∀{bg:Bool} s',Agr bg x.toList s s'->∀K':Option AV->Option β,rdo x s' K'=K' a:=by
 cases x with
 |none=>exact ⟨none,h,fun _ _ _=>rfl⟩
 |some x=>
  obtain ⟨a,h1,h2⟩:=XG h;exact ⟨some a,h1,fun s' ha K'=>h2 s' ha _⟩
theorem Zlr:∀{xs:List Operand} {ts:List Nat} {K:List AV->St->Option β},Vk E false xs ts s K=some r->
  ∃as,K as s=some r/\∀{bg:Bool} s',Agr bg xs s s'->∀K':List AV->St->Option β,Vk E false xs ts s' K'=K' as s'
 | [],ts,K,h=>⟨[],h,fun _ _ _=>rfl⟩
 |x::xs,ts,K,h=>by
  simp only [Vk] at h;obtain ⟨sv,h1,h2⟩:=Vr h;split at h1
  case h_2=>cases h1
  rename_i a;obtain ⟨as,h3,h4⟩:=Zlr h1;refine ⟨_,h3,fun s' ha K'=> ?_⟩;simp only [Vk];rw [h2 s' (ha.sub (by simp))];exact h4 s' (ha.sub fun y hy=>Uf _ hy) _
theorem Zgt {cf:Nat->Value->Option AV}:∀{xs:List (Nat×Operand)} {K:List (Nat×AV)->St->Option β},Y7 false cf xs s K=some r->
  ∃as,K as s=some r/\∀{bg:Bool} s',Agr bg (xs.map (·.2)) s s'->∀K':List (Nat×AV)->St->Option β,Y7 false cf xs s' K'=K' as s'
 | [],K,h=>⟨[],h,fun _ _ _=>rfl⟩
 | (i,x)::xs,K,h=>by
  simp only [Y7] at h;obtain ⟨sv,h1,h2⟩:=Vr h;split at h1
  case h_2=>cases h1
  rename_i a;obtain ⟨as,h3,h4⟩:=Zgt h1;refine ⟨_,h3,fun s' ha K'=> ?_⟩;simp only [Y7];rw [h2 s' (ha.sub (by simp))];exact h4 s' (ha.sub fun y hy=>Uf _ hy) _
def ZpW (E:Ctx) (vr:Nat) (o:Oper) (s:St) (K:SV->St->Option β) (r:β):Prop:=
 ∃sv,K sv s=some r/\∀s',Agr (Yj o s) o.op.operands.toList s s'->∀K':SV->St->Option β,opK E false false vr o s' K'=K' sv s'
theorem Zct {R:RR} {xs:List (List AV)} {i:Nat} {K:R.τ->Option β} (h:ZS R xs i K=some r):∃x,K x=some r/\∀K':R.τ->Option β,ZS R xs i K'=K' x:=by
 unfold ZS at h;split at h
 ·rename_i c hc;obtain ⟨x,_,h2⟩:=R.ok' _ _ _ h;exact ⟨x,by rw [h2] at h;exact h,fun K'=>by simp only [ZS,hc];exact h2 K'⟩
 ·cases h
theorem ZyT {R:RR} {k:Nat} {a i:AV} {K:AV->Option β} (h:ixK R k a i K=some r):∃c,K c=some r/\∀K':AV->Option β,ixK R k a i K'=K' c:=by
 unfold ixK at h;split at h
 ·rename_i o k' xs ik n;cases hk:Nat.beq k k' with
  |false=>rw [hk] at h;cases h
  |true=>
   rw [hk] at h;simp only [Uo] at h;cases hnu:o.nu with
   |false=>rw [hnu] at h;cases h
   |true=>
   rw [hnu] at h;simp only [Uo] at h;cases n with
   |ofNat m=>
    obtain ⟨x,h1,h2⟩:=Zct (R:=R) h;exact ⟨_,h1,fun K'=>by simp only [ixK,hk,hnu,Uo];exact h2 _⟩
   |negSucc m=>cases h
 ·cases h
theorem ZyU {d:TD} {p:SV} {K:SV->St->Option β} (h:QV E d false p s K=some r):
  ∃sv,K sv s=some r/\∀s',(∀key ob,s.L key=some ob->s'.L key=some ob)->(XD p=true->s'.G=s.G)->∀K':SV->St->Option β,QV E d false p s' K'=K' sv s':=by
 unfold QV at h;simp only [X7] at h;split at h
 ·split at h
  ·rename_i hL;obtain ⟨x,h,hx⟩:=Zct h;obtain ⟨a,ha,h⟩:=ZH h;exact ⟨_,h,fun s' e _ K'=>by simp only [QV,X7,e _ _ hL,hx,ha,UF,Un]⟩
  ·cases h
 ·split at h
  ·rename_i hG;obtain ⟨a,ha,h⟩:=ZH h;exact ⟨_,h,fun s' _ e K'=>by simp [QV,X7,e rfl,hG,ha]⟩
  ·cases h
 ·obtain ⟨a,ha,h⟩:=ZH h;exact ⟨_,h,fun s' _ _ K'=>by simp [QV,X7,ha]⟩
 ·cases h
theorem ZyV {vr:Nat} {o:Oper} {K:SV->St->Option β} (hp:K2 E o=true) (h:opK E false false vr o s K=some r):ZpW E vr o s K r:=by
 unfold opK at h;simp only [V8,Jb,V9,Ja,QU] at h;unfold K2 at hp;unfold ZpW;cases ho:o.op with
 |move x=>
  rw [ho] at h;obtain ⟨sv,h1,h2⟩:=Vr h;exact ⟨sv,h1,fun s' ha K'=>by simp only [opK,ho,V8,Jb,V9,Ja,QU];exact h2 s' (ha.sub (by simp [Op.operands])) K'⟩
 |assign x=>
  rw [ho] at h;obtain ⟨sv,h1,h2⟩:=Vr h;exact ⟨sv,h1,fun s' ha K'=>by simp only [opK,ho,V8,Jb,V9,Ja,QU];exact h2 s' (ha.sub (by simp [Op.operands])) K'⟩
 |pick c x y=>
  rw [ho] at h;obtain ⟨a,h1,h2⟩:=XG h;obtain ⟨b,rfl,h3⟩:=Zlp h1;cases b with
  |true=>
   obtain ⟨sv,h4,h5⟩:=Vr h3;exact ⟨sv,h4,fun s' ha K'=>by
    simp only [opK,ho,V8,Jb,V9,Ja,QU];rw [h2 s' (ha.sub (by simp [Op.operands]))];exact h5 s' (ha.sub (by simp [Op.operands])) K'⟩
  |false=>
   obtain ⟨sv,h4,h5⟩:=Vr h3;exact ⟨sv,h4,fun s' ha K'=>by
    simp only [opK,ho,V8,Jb,V9,Ja,QU];rw [h2 s' (ha.sub (by simp [Op.operands]))];exact h5 s' (ha.sub (by simp [Op.operands])) K'⟩
 |load t x=>
  rw [ho] at h;simp only at h;cases hk:(E.T t).ok with
  |false=>simp [hk] at h
  |true=>
   simp only [hk,Uk,Un] at h;obtain ⟨p,h1,h2,hgp⟩:=ZyS h;obtain ⟨sv,h3,h4⟩:=ZyU h1;exact ⟨sv,h3,fun s' ha K'=>by
    simp only [opK,ho,hk,Uk,Un];rw [h2 s' (ha.sub (by simp [Op.operands]))];exact h4 s' ha.2.1 (fun hg=>ha.2.2 (by
     obtain ⟨n,hx,hn⟩:=hgp hg;unfold Yj;rw [ho,hx];exact hn)) K'⟩
 |nilCheck x=>
  rw [ho] at h;obtain ⟨p,h1,h2⟩:=Vr h;split at h1
  ·exact ⟨_,h1,fun s' ha K'=>by simp only [opK,ho];rw [h2 s' (ha.sub (by simp [Op.operands]))]⟩
  ·exact ⟨_,h1,fun s' ha K'=>by simp only [opK,ho];rw [h2 s' (ha.sub (by simp [Op.operands]))]⟩
  ·exact ⟨_,h1,fun s' ha K'=>by simp only [opK,ho];rw [h2 s' (ha.sub (by simp [Op.operands]))]⟩
  ·cases h1
 |binOp op t x y t'=>
  rw [ho] at h;simp only at h;cases hy:Zcj y with
  |true=>
   rw [hy] at h;simp only [Uo] at h;split at h
   ·rename_i e k ht;obtain ⟨a,h1,h2⟩:=XG h;obtain ⟨c,hc,h5⟩:=ZH h1;exact ⟨_,h5,fun s' ha K'=>by
     simp only [opK,ho,hy,Uo,ht];rw [h2 s' (ha.sub (by simp [Op.operands])),hc];rfl⟩
   ·cases h
  |false=>
  rw [hy] at h;simp only [Un] at h;obtain ⟨a,h1,h2⟩:=XG h;obtain ⟨b,h3,h4⟩:=XG h1;obtain ⟨c,hc,h5⟩:=ZH h3;exact ⟨_,h5,fun s' ha K'=>by
   simp only [opK,ho,hy,Un,V8,Jb,V9,Ja,QU];rw [h2 s' (ha.sub (by simp [Op.operands])),h4 s' (ha.sub (by simp [Op.operands])),hc];rfl⟩
 |unOp op t x=>
  rw [ho] at h;obtain ⟨a,h1,h2⟩:=XG h;obtain ⟨c,hc,h5⟩:=ZH h1;exact ⟨_,h5,fun s' ha K'=>by
   simp only [opK,ho,V8,Jb,V9,Ja,QU];rw [h2 s' (ha.sub (by simp [Op.operands])),hc];rfl⟩
 |convert src dst x=>
  rw [ho] at h;obtain ⟨a,h1,h2⟩:=XG h;obtain ⟨c,hc,h5⟩:=ZH h1;exact ⟨_,h5,fun s' ha K'=>by
   simp only [opK,ho,V8,Jb,V9,Ja,QU];rw [h2 s' (ha.sub (by simp [Op.operands])),hc];rfl⟩
 |slice t x lo hi mx=>
  rw [ho] at h;obtain ⟨l,h1,e1⟩:=Zlq h;obtain ⟨u,h2,e2⟩:=Zlq h1;obtain ⟨m,h3,e3⟩:=Zlq h2;obtain ⟨a,h4,e4⟩:=XG h3;have key:∀{bg:Bool} {s':St},Agr bg (Op.slice t x lo hi mx).operands.toList s s'->∀K':SV->St->Option β,opK E false false vr o s' K'=(match E.T t with
    | .sl _ k=>(slA k a l u m).bind fun r=>K' (.val r) s'
    | .sc (.string _)=>(slT a l u m).bind fun r=>K' (.val r) s'
    | _=>none):=by
   intro bg s' ha K';simp only [opK,ho,V8,Jb,V9,Ja,QU];rw [e1 s' (ha.sub (by simp +contextual [Op.operands])),e2 s' (ha.sub (by simp +contextual [Op.operands])),e3 s' (ha.sub (by simp +contextual [Op.operands])),e4 s' (ha.sub (by simp [Op.operands]))];rfl
  split at h4
  ·rename_i e k ht;obtain ⟨c,hc,h5⟩:=ZH h4;exact ⟨_,h5,fun s' ha K'=>by rw [key ha,ht];simp only [hc,UF]⟩
  ·rename_i b ht;obtain ⟨c,hc,h5⟩:=ZH h4;exact ⟨_,h5,fun s' ha K'=>by rw [key ha,ht];simp only [hc,UF]⟩
  ·cases h4
 |fieldAddr t x f=>
  rw [ho] at h;simp only at h;split at h
  ·rename_i cz offs ht;split at h
   ·rename_i off sz hf;obtain ⟨p,h1,h2⟩:=Vr h;split at h1
    ·exact ⟨_,h1,fun s' ha K'=>by
      simp only [opK,ho,ht,hf];rw [h2 s' (ha.sub (by simp [Op.operands]))]⟩
    ·obtain ⟨c,hc,h5⟩:=ZH h1;exact ⟨_,h5,fun s' ha K'=>by
      simp only [opK,ho,ht,hf];rw [h2 s' (ha.sub (by simp [Op.operands]))];simp only [hc,UF]⟩
    ·cases h1
   ·cases h
  ·cases h
 |indexAddr t x i=>
  rw [ho] at h;simp only at h;split at h
  ·rename_i e k ht;obtain ⟨iv,h1,h2⟩:=XG h;obtain ⟨p,h3,h4⟩:=Vr h1;rw [ht] at h4;split at h3
   ·rename_i key;split at h3
    ·rename_i ob hL;cases hk:Nat.beq ob.k k with
     |false=>rw [hk] at h3;cases h3
     |true=>
      rw [hk] at h3;simp only [Uo] at h3;split at h3
      ·rename_i n _;unfold ifA at h3;split at h3
       ·rename_i hn;exact ⟨_,h3,fun s' ha K'=>by
         simp only [opK,ho,ht,QU];rw [h2 s' (ha.sub (by simp [Op.operands])),h4 s' (ha.sub (by simp [Op.operands]))];simp only [ha.2.1 _ _ hL,hk,Uo,ifA,Uj hn]⟩
       ·cases h3
      ·cases h3
    ·cases h3
   ·obtain ⟨c,h5,hc⟩:=ZyT h3;exact ⟨_,h5,fun s' ha K'=>by
     simp only [opK,ho,ht];rw [h2 s' (ha.sub (by simp [Op.operands])),h4 s' (ha.sub (by simp [Op.operands]))];simp only [hc]⟩
   ·cases h3
  ·rename_i n k cz ht;obtain ⟨iv,h1,h2⟩:=XG h;obtain ⟨p,h3,h4⟩:=Vr h1;split at h3
   ·split at h3
    ·unfold ifA at h3;split at h3
     ·rename_i hn;exact ⟨_,h3,fun s' ha K'=>by
       simp only [opK,ho,ht,QU];rw [h2 s' (ha.sub (by simp [Op.operands])),h4 s' (ha.sub (by simp [Op.operands]))];simp only [ifA,Uj hn]⟩
     ·cases h3
    ·cases h3
   ·cases h3
  ·cases h
 |index t x i=>
  rw [ho] at h;simp only at h;split at h
  ·rename_i b ht;obtain ⟨iv,h1,h2⟩:=XG h;obtain ⟨a,h3,h4⟩:=XG h1;obtain ⟨c,hc,h5⟩:=ZH h3;exact ⟨_,h5,fun s' ha K'=>by
    simp only [opK,ho,ht,QU];rw [h2 s' (ha.sub (by simp [Op.operands])),h4 s' (ha.sub (by simp [Op.operands])),hc];rfl⟩
  ·cases h
 |field t x f=>
  rw [ho] at h;cases x with
  |tmp n=>
   simp only at h;split at h
   ·rename_i cz offs ht;split at h
    ·rename_i off sz hf;split at h
     ·rename_i cs hen;cases hb:Nat.blt 1 sz with
      |true=>
       rw [hb] at h;simp only [Uo] at h;unfold ifA at h;split at h
       ·rename_i hle;exact ⟨_,h,fun s' ha K'=>by
         have:=ha.1 n (by simp [Op.operands]);rw [hen] at this;simp only [opK,ho,ht,hf,this,hb,Uo,ifA,Uj hle]⟩
       ·cases h
      |false=>
       rw [hb] at h;simp only [Un] at h;split at h
       ·rename_i c hc;exact ⟨_,h,fun s' ha K'=>by
         have:=ha.1 n (by simp [Op.operands]);rw [hen] at this;simp only [opK,ho,ht,hf,this,hb,Un,hc]⟩
       ·cases h
     ·cases h
    ·cases h
   ·cases h
  | _=>cases h
 |extract x i=>
  rw [ho] at h;cases x with
  |tmp n=>
   simp only at h;split at h
   ·rename_i vs hen;split at h
    ·rename_i c hc;exact ⟨_,h,fun s' ha K'=>by
      have:=ha.1 n (by simp [Op.operands]);rw [hen] at this;simp only [opK,ho,this,hc,Un]⟩
    ·cases h
   ·cases h
  | _=>cases h
 |call c=>
  rw [ho] at h hp;simp only at h hp;have hsub:∀{bg:Bool} {s':St},Agr bg (Op.call c).operands.toList s s'->Agr bg c.args.toList s s':=fun ha=>ha.sub fun y hy=>by
   simp only [Op.operands,Call.operands];split <;> simp [hy]
  cases hc:c.callee with
  |builtin b=>
   rw [hc] at h hp;simp only at h hp;have hop:∀(s':St) (K':SV->St->Option β),opK E false false vr o s' K'=Qv E b c.args.toList c.argTypes.toList false s' K':=fun s' K'=>by simp only [opK,ho,hc]
   generalize hx:c.args.toList=xs at h hsub hop;generalize hts:c.argTypes.toList=ts at h hop;cases b with
   |len=>
    match xs,ts,h with
    | [x],t::ts,h=>
     simp only [Qv] at h;split at h
     ·rename_i e k ht;split at h
      ·rename_i n;split at h
       ·rename_i a hen;obtain ⟨c',hc',h⟩:=ZH h;exact ⟨_,h,fun s' ha K'=>by
         have:=(hsub ha).1 n (by simp);rw [hen] at this;rw [hop];simp only [Qv,ht,this,hc',UF]⟩
       ·rename_i key hen;split at h
        ·rename_i ob hL;exact ⟨_,h,fun s' ha K'=>by
          have:=(hsub ha).1 n (by simp);rw [hen] at this;rw [hop];simp only [Qv,ht,this,ha.2.1 _ _ hL]⟩
        ·cases h
       ·cases h
      ·cases h
     ·rename_i b ht;obtain ⟨a,h1,h2⟩:=XG h;obtain ⟨c',hc',h3⟩:=ZH h1;exact ⟨_,h3,fun s' ha K'=>by
       rw [hop];simp only [Qv,ht];rw [h2 s' (hsub ha),hc'];rfl⟩
     ·cases h
    | [],_,h=>cases h
    | _::_::_,_,h=>cases h
    | [x],[],h=>cases h
   |min=>
    match xs,h with
    | [x,y],h=>
     obtain ⟨a,h1,h2⟩:=XG h;obtain ⟨b,h3,h4⟩:=XG h1;obtain ⟨d,hd,h5⟩:=ZH h3;exact ⟨_,h5,fun s' ha K'=>by
      rw [hop];simp only [Qv];rw [h2 s' ((hsub ha).sub (by simp)),h4 s' ((hsub ha).sub (by simp)),hd];rfl⟩
    | [],h=>cases h
    | [_],h=>cases h
    | _::_::_::_,h=>cases h
   |max=>
    match xs,h with
    | [x,y],h=>
     obtain ⟨a,h1,h2⟩:=XG h;obtain ⟨b,h3,h4⟩:=XG h1;obtain ⟨d,hd,h5⟩:=ZH h3;exact ⟨_,h5,fun s' ha K'=>by
      rw [hop];simp only [Qv];rw [h2 s' ((hsub ha).sub (by simp)),h4 s' ((hsub ha).sub (by simp)),hd];rfl⟩
    | [],h=>cases h
    | [_],h=>cases h
    | _::_::_::_,h=>cases h
   | _=>cases hp
  |value x=>
   rw [hc] at h hp;cases x with
   |func f=>
    simp only [UG] at h hp;obtain ⟨as,h1,h2⟩:=Zlr h;unfold KZ at h1;rw [hp] at h1;simp only [Un,Zbb] at h1;split at h1
    ·cases h1
    rename_i en hen;cases hng:as.all AV.ng with
    |false=>rw [hng] at h1;cases h1
    |true=>
     rw [hng] at h1;simp only [Uo] at h1;obtain ⟨r0,hcl,h3⟩:=ZH h1;split at h3
     case h_2=>cases h3
     rename_i hg1;exact ⟨_,h3,fun s' ha K'=>by
      simp only [opK,ho,hc];rw [h2 s' (hsub ha)];simp only [KZ,hp,Un,Zbb,hen,hng,Uo,bnd,hcl,UF,hg1]⟩
   | _=>cases hp
  | _=>rw [hc] at hp;cases hp
 |build t parts=>
  rw [ho] at h;simp only at h;split at h
  case h_3=>cases h
  ·rename_i cz offs hT;obtain ⟨as,h2,h3⟩:=Zgt h;obtain ⟨cs,h4,h5⟩:=ZH h2;exact ⟨_,h5,fun s' ha K'=>by
    simp only [opK,ho,hT];rw [h3 s' (ha.sub fun y hy=>by simpa [Op.operands] using hy)];unfold KY;rw [h4,UF]⟩
  ·rename_i n k cz hT;obtain ⟨as,h2,h3⟩:=Zgt h;obtain ⟨cs,h4,h5⟩:=ZH h2;exact ⟨_,h5,fun s' ha K'=>by
    simp only [opK,ho,hT];rw [h3 s' (ha.sub fun y hy=>by simpa [Op.operands] using hy)];unfold KY;rw [h4,UF]⟩
 |buildSlice t n parts=>
  rw [ho] at h;simp only at h;split at h
  case h_2=>cases h
  rename_i e k hT;cases h0:(Nat.beq n 0 && parts.toList.isEmpty) with
  |true=>
   rw [h0,Uo] at h;exact ⟨_,h,fun s' ha K'=>by simp only [opK,ho,hT,h0,Uo]⟩
  |false=>
   rw [h0,Un] at h;cases h1: !(Nat.ble (n * k) 16777216) with
   |true=>rw [h1] at h;cases h
   |false=>
    rw [h1,Un] at h;obtain ⟨as,h2,h3⟩:=Zgt h;obtain ⟨rows,h4,h5⟩:=ZH h2;cases h6:(Nat.beq rows.length n && Nat.blt 0 n) with
    |false=>rw [h6] at h5;cases h5
    |true=>
     rw [h6,Uo] at h5;exact ⟨_,h5,fun s' ha K'=>by
      simp only [opK,ho,hT,h0,h1,Un];rw [h3 s' (ha.sub fun y hy=>by simpa [Op.operands] using hy),h4,UF,h6,Uo]⟩
 | _=>rw [ho] at hp;cases hp
theorem ZyW {d:TD} {p:SV} {K:SV->St->Option β} (h:Zbc E d p s K=some r):
  ∃sv,K sv s=some r/\∀s',(∀key ob,s.L key=some ob->s'.L key=some ob)->∀K':SV->St->Option β,Zbc E d p s' K'=K' sv s':=by
 unfold Zbc at h;simp only [X7] at h;split at h
 ·split at h
  ·rename_i hL;obtain ⟨x,h,hx⟩:=Zct h;obtain ⟨a,ha,h⟩:=ZH h;exact ⟨_,h,fun s' e K'=>by simp only [Zbc,X7,e _ _ hL,hx,ha,UF]⟩
  ·cases h
 ·cases h
theorem ZyX {d:TD} {p:SV} {K:AV->Option β} (h:Vl E d p s K=some r):
  ∃a,K a=some r/\∀s',(∀key ob,s.L key=some ob->s'.L key=some ob)->∀K':AV->Option β,Vl E d p s' K'=K' a:=by
 unfold Vl at h;simp only [X7] at h;split at h
 ·exact ⟨_,h,fun s' e K'=>rfl⟩
 ·split at h
  ·rename_i hL;exact ⟨_,h,fun s' e K'=>by simp only [Vl,e _ _ hL]⟩
  ·cases h
 ·rename_i key i off ag;cases hq:Zbd ag d.ag with
  |false=>rw [hq] at h;cases h
  |true=>
   rw [hq] at h;simp only [Uo] at h;split at h
   ·rename_i hL;obtain ⟨x,h,hx⟩:=Zct h;obtain ⟨a,ha,h⟩:=ZH h;exact ⟨_,h,fun s' e K'=>by simp only [Vl,X7,hq,Uo,e _ _ hL,hx,ha,UF]⟩
   ·cases h
 ·cases h
theorem Zls:∀{xs:List Operand} {ts:List Nat} {K:List AV->Option β},Jd E xs ts s K=some r->
  ∃as,K as=some r/\∀{bg:Bool} s',Agr bg xs s s'->∀K':List AV->Option β,Jd E xs ts s' K'=K' as
 | [],ts,K,h=>⟨[],h,fun _ _ _=>rfl⟩
 |x::xs,ts,K,h=>by
  simp only [Jd] at h;cases x with
  |tmp n=>
   simp only at h;obtain ⟨a,h1,h2⟩:=ZyX h;obtain ⟨as,h3,h4⟩:=Zls h1;refine ⟨_,h3,fun s' ha K'=> ?_⟩;simp only [Jd];rw [ha.1 n (by simp),h2 s' ha.2.1];exact h4 s' (ha.sub fun y hy=>Uf _ hy) _
  |const v=>
   simp only at h;obtain ⟨a,hc,h1⟩:=ZH h;obtain ⟨as,h3,h4⟩:=Zls h1;refine ⟨_,h3,fun s' ha K'=> ?_⟩;simp only [Jd,hc,UF];exact h4 s' (ha.sub fun y hy=>Uf _ hy) _
  |func f=>cases h
  |global g=>cases h
theorem ZyY {f v:Nat} {xs:List Operand} {ts:List Nat} {K:SV->St->Option β} (h:Zbe E f v xs ts s K=some r):
  ∃sv,K sv s=some r/\∀{bg:Bool} s',Agr bg xs s s'->∀K':SV->St->Option β,Zbe E f v xs ts s' K'=K' sv s':=by
 unfold Zbe at h;obtain ⟨as,h1,h2⟩:=Zls h;split at h1
 ·cases h1
 rename_i en hen;cases hng:as.all AV.ng with
 |false=>rw [hng] at h1;cases h1
 |true=>
  rw [hng] at h1;simp only [Uo] at h1;obtain ⟨r0,hcl,h3⟩:=ZH h1;split at h3
  case h_2=>cases h3
  rename_i hg1;unfold ifA at h3;split at h3
  ·rename_i hu;exact ⟨_,h3,fun s' ha K'=>by
    unfold Zbe;rw [h2 s' ha];simp only [hen,hng,Uo,bnd,hcl,UF,hg1,ifA,Uj hu]⟩
  ·cases h3
theorem ZpX {id i:Nat} {o:Oper} {K:SV->St->Option β} (hp:K2 E o=true) (hpm:YT (E.hb id i) o=true) (htk:E.tk id i=false) (hmo:E.mo id i=false) (h:opM E id i o s K=some r):
  ∃sv,K sv s=some r/\∀s',Agr (Yj o s) o.op.operands.toList s s'->∀K':SV->St->Option β,opM E id i o s' K'=K' sv s':=by
 unfold opM at h ⊢;cases hb:Nat.beq (E.hb id i) 0 with
 |true=>
  rw [hb,htk,hmo] at h;obtain ⟨sv,h1,h2⟩:=ZyV hp h;exact ⟨sv,h1,fun s' ha K'=>by rw [htk,hmo];exact h2 s' ha K'⟩
 |false=>
  rw [hb] at h;simp only [Un] at h ⊢;generalize E.hb id i=m at h hpm ⊢;unfold opU at h;split at h
  ·rename_i t x ho;cases hk:(E.T t).ok with
   |false=>rw [hk] at h;cases h
   |true=>
    rw [hk] at h;simp only [Uk,Un] at h;obtain ⟨p,h1,h2⟩:=Vr h;obtain ⟨sv,h3,h4⟩:=ZyW h1;exact ⟨sv,h3,fun s' ha K'=>by
     simp only [opU,ho,hk,Uk,Un];rw [h2 s' (ha.sub (by simp [ho,Op.operands]))];exact h4 s' ha.2.1 K'⟩
  ·rename_i t n ho;simp [YT,ho] at hpm
  ·rename_i c ho;split at h
   ·rename_i f hc;cases hg:E.gs f with
    |true=>rw [hg] at h;cases h
    |false=>
     rw [hg] at h;obtain ⟨sv,h1,h2⟩:=ZyY h;exact ⟨sv,h1,fun s' ha K'=>by
      simp only [opU,ho,hc,hg,Un];exact h2 s' (ha.sub fun y hy=>by
       simp only [ho,Op.operands,Call.operands];split <;> simp [hy]) K'⟩
   ·cases h
  ·rename_i c ho;simp [YT] at hpm
  ·rename_i x ho;simp [YT] at hpm
  ·rename_i c ho;simp [YT] at hpm
  ·rename_i t n x ho;simp [YT] at hpm
  ·rename_i t n f ho;simp [YT] at hpm
  ·rename_i t n ho;simp [YT] at hpm
  ·rename_i t n v ho;simp [YT] at hpm
  ·rename_i t n ho;simp [YT] at hpm
  ·rename_i v ho;simp [YT] at hpm
  ·rename_i t n parts ho;simp [YT] at hpm
  ·rename_i c ho;simp [YT] at hpm
  ·simp [YT] at hpm
  ·simp [YT] at hpm
  ·simp [YT] at hpm
  ·simp [YT] at hpm
  ·simp [YT] at hpm
  ·simp [YT] at hpm
  ·rename_i t p n ho;simp [YT] at hpm
  ·cases h
theorem ZpY {id i:Nat} {o:Oper} {K:SV->St->Option β} (hp:K2 E o=true) (hpm:YT (E.hb id i) o=true) (hth:E.th id i=false) (htk:E.tk id i=false) (hmo:E.mo id i=false) (h:opR E id i o s K=some r):
  ∃sv,K sv s=some r/\∀s',Agr (Yj o s) o.op.operands.toList s s'->∀K':SV->St->Option β,opR E id i o s' K'=K' sv s':=by
 unfold opR at h ⊢;rw [hth] at h ⊢;simp only [Un] at h ⊢;unfold Xd at h ⊢;split at h
 ·rename_i hrt;obtain ⟨sv,h1,h2⟩:=ZpX hp hpm htk hmo h;exact ⟨sv,h1,fun s' ha K'=>h2 s' ha K'⟩
 ·rename_i A hrt;obtain ⟨sv,h1,h2⟩:=ZpX hp hpm htk hmo h;cases sv with
  |val a=>
   obtain ⟨x,_,h4⟩:=A.ok' _ _ _ h1;exact ⟨.val (A.enc x),by simp only [h4] at h1;exact h1,fun s' ha K'=>by rw [h2 s' ha];exact h4 _⟩
  | _=>cases h1
def Y2 (s:St) (n:Nat):St:=match s.env n with
  | .val a=>{s with env:=upd s.env n (.val a.clr)}
  | _=>s
def ZO (s:St):List Nat->St
 | []=>s
 |n::r=>ZO (Y2 s n) r
theorem ZpZ (s:St) (a b:List Nat):ZO s (a ++ b)=ZO (ZO s a) b:=by
 induction a generalizing s with
 |nil=>rfl
 |cons n a ih=>exact ih _
theorem ZyZ {tk:Bool} {o:Oper} {jw:Nat×Bool} (h:o.guard=some jw):YS tk o= []:=by
 unfold YS;rw [h]
theorem Zp0 {o:Oper} (h:ZkK o=true):o.guard=none/\((∃n,o.op= .move (.tmp n)/\∀tk,YS tk o=bif tk then [n] else [])\/(∃n,o.op= .assign (.tmp n)/\∀tk,YS tk o=bif tk then [n] else [])\/
  (∃t ps,o.op= .build t ps/\∀tk,YS tk o=bif tk then ps.toList.flatMap (fun p=>Vn p.2) else [])\/∃t n ps,o.op= .buildSlice t n ps/\∀tk,YS tk o=bif tk then ps.toList.flatMap (fun p=>Vn p.2) else []):=by
 unfold ZkK at h;unfold YS;split at h
 ·rename_i n h1 h2;exact ⟨h1, .inl ⟨n,h2,fun tk=>by rw [h1,h2]⟩⟩
 ·rename_i n h1 h2;exact ⟨h1, .inr (.inl ⟨n,h2,fun tk=>by rw [h1,h2]⟩)⟩
 ·rename_i t ps h1 h2;exact ⟨h1, .inr (.inr (.inl ⟨t,ps,h2,fun tk=>by rw [h1,h2]⟩))⟩
 ·rename_i t n ps h1 h2;exact ⟨h1, .inr (.inr (.inr ⟨t,n,ps,h2,fun tk=>by rw [h1,h2]⟩))⟩
 ·cases h
theorem Zy0 {o:Oper} (hp:K2 E o=true):YS false o= []:=by
 unfold YS;split
 ·rfl
 ·rfl
 ·rfl
 ·rfl
 ·rename_i c h1 h2;split
  ·rename_i n y hc ha;unfold K2 at hp;rw [h2] at hp;simp [hc] at hp
  ·rfl
 ·rfl
theorem Zp1 {o:Oper} (h:Zf9 o=true):o.guard=none/\∃c n y,o.op= .call c/\c.callee= .builtin .append/\c.args.toList= [.tmp n,y]/\∀tk,YS tk o=n::(bif tk then Vn y else []):=by
 unfold Zf9 at h;split at h
 ·rename_i c h1 h2;split at h
  ·rename_i n y hc ha;exact ⟨h1,c,n,y,h2,hc,ha,fun tk=>by unfold YS;rw [h1,h2];simp only [hc,ha]⟩
  ·cases h
 ·cases h
theorem Zlt (s:St) (n:Nat):(Y2 s n).L=s.L:=by
 simp only [Y2];split <;> rfl
theorem Zlu (s:St) (n:Nat):(Y2 s n).G=s.G:=by
 simp only [Y2];split <;> rfl
theorem Zeb (s:St) (l:List Nat):(ZO s l).L=s.L:=by
 induction l generalizing s with
 |nil=>rfl
 |cons n l ih=>exact (ih _).trans (Zlt s n)
theorem Zbp (s:St) (l:List Nat):(ZO s l).G=s.G:=by
 induction l generalizing s with
 |nil=>rfl
 |cons n l ih=>exact (ih _).trans (Zlu s n)
def XH:SV->SV
 | .val a=> .val a.clr
 |x=>x
theorem Zy1 (x:SV):XH (XH x)=XH x:=by
 cases x with
 |val a=>simp only [XH,Zf0]
 | _=>rfl
theorem Zgu (s:St) (n t:Nat):(Y2 s n).env t=if n=t then XH (s.env t) else s.env t:=by
 simp only [Y2];cases he:s.env n with
 |val c=>
  by_cases h:n=t
  ·subst h;simp [ZF,he,XH]
  ·simp [h,Zx _ _ (fun e=>h e.symm)]
 | _=>
  by_cases h:n=t
  ·subst h;simp [he,XH]
  ·simp [h]
theorem Ji (s:St) (l:List Nat) (t:Nat):(ZO s l).env t=if t∈l then XH (s.env t) else s.env t:=by
 induction l generalizing s with
 |nil=>simp [ZO]
 |cons n l ih=>
  simp only [ZO];rw [ih,Zgu];by_cases h:n=t
  ·subst h;simp only [U3,FH,true_or];split
   ·exact Zy1 _
   ·rfl
  ·simp only [Ui h,FH,Ne.symm h,false_or]
theorem Zy2 {s s':St} {l:List Nat} {m:Nat} (h2:s'.env m=s.env m):(ZO s' l).env m=(ZO s l).env m:=by
 rw [Ji,Ji,h2]
theorem Zp2 {b:Bool} {xs:List Operand} {s s':St} (l:List Nat) (h:Agr b xs s s'):Agr b xs (ZO s l) (ZO s' l):=
 ⟨fun t ht=>Zy2 (h.1 t ht),fun key ob hL=>by rw [Zeb] at hL ⊢;exact h.2.1 key ob hL,fun hb=>by rw [Zbp,Zbp];exact h.2.2 hb⟩
theorem Zgv {cf:Value->Option AV} {n:Nat} {K:SV->St->Option β} (h:rd true cf (.tmp n) s K=some r):
  ∃sv,K sv (ZO s [n])=some r/\∀s',s'.env n=s.env n->∀K':SV->St->Option β,rd true cf (.tmp n) s' K'=K' sv (ZO s' [n]):=by
 unfold rd at h;simp only at h;cases he:s.env n with
 |val c=>
  simp only [he,Uo] at h;exact ⟨_,by simpa only [ZO,Y2,he] using h,fun s' e K'=>by simp only [rd,e,Uo,ZO,Y2]⟩
 |no=>simp [he] at h
 |lp key i off=>
  simp only [he] at h;exact ⟨_,by simpa only [ZO,Y2,he] using h,fun s' e K'=>by simp only [rd,e,ZO,Y2]⟩
 |la key=>
  simp only [he] at h;exact ⟨_,by simpa only [ZO,Y2,he] using h,fun s' e K'=>by simp only [rd,e,ZO,Y2]⟩
 |lv key i off ag=>
  simp only [he] at h;exact ⟨_,by simpa only [ZO,Y2,he] using h,fun s' e K'=>by simp only [rd,e,ZO,Y2]⟩
theorem Zp3 {tk:Bool} {cf:Value->Option AV} {x:Operand} {K:SV->St->Option β} (h:rd tk cf x s K=some r):
  ∃sv,K sv (ZO s (bif tk then Vn x else []))=some r/\∀{bg:Bool} s',Agr bg [x] s s'->∀K':SV->St->Option β,rd tk cf x s' K'=K' sv (ZO s' (bif tk then Vn x else [])):=by
 cases tk with
 |false=>
  obtain ⟨sv,h1,h2⟩:=Vr h;exact ⟨sv,h1,h2⟩
 |true=>
  cases x with
  |tmp n=>
   obtain ⟨sv,h1,h2⟩:=Zgv h;exact ⟨sv,h1,fun s' ha K'=>h2 s' (ha.1 n (by simp)) K'⟩
  |const v=>
   obtain ⟨a,h1,h2⟩:=Option.bind_eq_some_iff.1 (show (cf v).bind (fun a=>K (.val a) s)=some r from h);exact ⟨_,h2,fun s' _ K'=>by simp only [rd,h1,UF];rfl⟩
  |func f=>exact ⟨_,h,fun s' _ K'=>rfl⟩
  |global g=>cases h
theorem Zgw {cf:Nat->Value->Option AV}:∀{xs:List (Nat×Operand)} {s:St} {K:List (Nat×AV)->St->Option β},Y7 true cf xs s K=some r->
  ∃as,K as (ZO s (xs.flatMap fun p=>Vn p.2))=some r/\∀{bg:Bool} s',Agr bg (xs.map (·.2)) s s'->∀K':List (Nat×AV)->St->Option β,Y7 true cf xs s' K'=K' as (ZO s' (xs.flatMap fun p=>Vn p.2))
 | [],s,K,h=>⟨[],h,fun _ _ _=>rfl⟩
 | (i,x)::xs,s,K,h=>by
  simp only [Y7] at h;obtain ⟨v,h1,h2⟩:=Zp3 h;cases v with
  |val a=>
   simp only at h1;obtain ⟨as,h3,h4⟩:=Zgw h1;refine ⟨(i,a)::as,by rw [List.flatMap_cons,ZpZ];exact h3,fun s' ha K'=> ?_⟩;simp only [Y7];rw [h2 s' (ha.sub (by simp))];simp only;rw [h4 _ (Zp2 _ (ha.sub fun y hy=>Uf _ hy)),List.flatMap_cons,ZpZ];rfl
  | _=>cases h1
theorem Zy3 {id i:Nat} {o:Oper} {K:SV->St->Option β} (hm:Jf E id o i=true) (h:opR E id i o s K=some r):
  ∃sv,K sv (ZO s (YS (E.tk id i) o))=some r/\∀s',Agr (Yj o s) o.op.operands.toList s s'->∀K':SV->St->Option β,opR E id i o s' K'=K' sv (ZO s' (YS (E.tk id i) o)):=by
 unfold Jf at hm;simp only [Ua,U9,UG] at hm;rcases hm with hm |hm
 case inr=>
  obtain ⟨⟨⟨happ,hmo⟩,hb⟩,hth⟩:=hm;obtain ⟨_,c,n,y,ho,hc,hx,htake⟩:=Zp1 happ;rw [htake];have hk:∀(s':St) (K':SV->St->Option β),opM E id i o s' K'=Qv E .append [.tmp n,y] c.argTypes.toList (E.tk id i) s' K':=fun s' K'=>by
   unfold opM;rw [hb,hmo];simp only [Uo,opK,ho,hc,hx]
  have hag:∀{bg:Bool} {s':St},Agr bg o.op.operands.toList s s'->Agr bg [.tmp n,y] s s':=fun ha=>ha.sub fun z hz=>by
   simp only [ho,Op.operands,Call.operands];rw [hc];simpa [hx] using hz
  have main:∀{K1:SV->St->Option β},opM E id i o s K1=some r->∃sv,K1 sv (ZO s (n::(bif E.tk id i then Vn y else [])))=some r/\∀s',Agr (Yj o s) o.op.operands.toList s s'->∀K':SV->St->Option β,opM E id i o s' K'=K' sv (ZO s' (n::(bif E.tk id i then Vn y else []))):=by
   intro K1 h;rw [hk] at h;generalize hts:c.argTypes.toList=ts at h hk
   match ts,h with
   | [t,t'],h=>
    simp only [Qv,Zkt] at h;cases htt:Nat.beq t t' with
    |false=>rw [htt] at h;cases h
    |true=>
    rw [htt] at h;simp only [Uk,Un] at h;split at h
    ·rename_i e k hT;obtain ⟨a,h1,h2⟩:=Zgv h;obtain ⟨b,h3,h4⟩:=Zp3 h1;split at h3
     ·rename_i a' b';obtain ⟨r',hr',h5⟩:=ZH h3;refine ⟨_,h5,fun s' ha K'=> ?_⟩;have ha2:=hag ha;rw [hk];simp only [Qv,Zkt,htt,Uk,Un,hT];rw [hT] at h2 h4;rw [h2 s' (ha2.1 n (by simp)),h4 _ (Zp2 _ (ha2.sub (by simp)))];simp only [hr',UF];rfl
     ·cases h3
    ·cases h
   | [],h=>cases h
   | [_],h=>cases h
   | _::_::_::_,h=>cases h
  unfold opR at h ⊢;rw [hth] at h ⊢;simp only [Un] at h ⊢;unfold Xd at h ⊢;split at h
  ·rename_i hrt;exact main h
  ·rename_i A hrt;obtain ⟨sv,h1,h2⟩:=main h;cases sv with
   |val a=>
    obtain ⟨x,_,h4⟩:=A.ok' _ _ _ h1;exact ⟨.val (A.enc x),by simp only [h4] at h1;exact h1,fun s' ha K'=>by rw [h2 s' ha];exact h4 _⟩
   | _=>cases h1
 obtain ⟨⟨⟨⟨hp,hmo⟩,hm⟩,hpm⟩,hth⟩:=hm;cases htk:E.tk id i with
 |false=>
  rw [Zy0 hp];exact ZpY hp hpm hth htk hmo h
 |true=>
  rw [htk] at hm;rcases hm with hm |hm
  ·cases hm
  obtain ⟨hm,hb⟩:=hm;have main:∀{K1:SV->St->Option β},opM E id i o s K1=some r->∃sv,K1 sv (ZO s (YS true o))=some r/\∀s',Agr (Yj o s) o.op.operands.toList s s'->∀K':SV->St->Option β,opM E id i o s' K'=K' sv (ZO s' (YS true o)):=by
   intro K1 h;have hk:∀(s':St) (K':SV->St->Option β),opM E id i o s' K'=opK E true false (E.vr id i) o s' K':=fun s' K'=>by
    unfold opM;rw [hb,htk,hmo];rfl
   rw [hk] at h;simp only [hk];obtain ⟨_,hop |hop |hop |hop⟩:=Zp0 hm
   ·obtain ⟨n,ho,htake⟩:=hop;rw [htake];simp only [opK,ho] at h ⊢;obtain ⟨sv,h1,h2⟩:=Zgv h;exact ⟨sv,h1,fun s' ha K'=>h2 s' (ha.1 n (by simp [Op.operands])) K'⟩
   ·obtain ⟨n,ho,htake⟩:=hop;rw [htake];simp only [opK,ho] at h ⊢;obtain ⟨sv,h1,h2⟩:=Zgv h;exact ⟨sv,h1,fun s' ha K'=>h2 s' (ha.1 n (by simp [Op.operands])) K'⟩
   ·obtain ⟨t,ps,ho,htake⟩:=hop;rw [htake];simp only [opK,ho,Uo] at h ⊢;have hag:∀{bg:Bool} {s':St},Agr bg (Op.build t ps).operands.toList s s'->Agr bg (ps.toList.map (·.2)) s s':=fun ha=>ha.sub fun y hy=>by simpa [Op.operands] using hy
    split at h
    ·rename_i cz offs hT;obtain ⟨as,h1,h2⟩:=Zgw h;unfold KY at h1;obtain ⟨cs,h3,h4⟩:=ZH h1;exact ⟨_,h4,fun s' ha K'=>by rw [h2 s' (hag ha)];simp only [KY,h3,UF]⟩
    ·rename_i n k cz hT;obtain ⟨as,h1,h2⟩:=Zgw h;unfold KY at h1;obtain ⟨cs,h3,h4⟩:=ZH h1;exact ⟨_,h4,fun s' ha K'=>by rw [h2 s' (hag ha)];simp only [KY,h3,UF]⟩
    ·cases h
   ·obtain ⟨t,n,ps,ho,htake⟩:=hop;rw [htake];simp only [opK,ho,Uo] at h ⊢;have hag:∀{bg:Bool} {s':St},Agr bg (Op.buildSlice t n ps).operands.toList s s'->Agr bg (ps.toList.map (·.2)) s s':=fun ha=>ha.sub fun y hy=>by simpa [Op.operands] using hy
    split at h
    ·rename_i e k hT;cases h0:Nat.beq n 0 && ps.toList.isEmpty with
     |true=>
      rw [h0] at h;have hnil:ps.toList= []:=by
       rw [Ua] at h0;simpa using h0.2
      rw [hnil];exact ⟨_,h,fun s' _ K'=>rfl⟩
     |false=>
      rw [h0] at h;simp only [Un] at h ⊢;cases h1:Nat.ble (n * k) 16777216 with
      |false=>rw [h1] at h;cases h
      |true=>
       rw [h1] at h;simp only [Uk,Un] at h ⊢;obtain ⟨as,h1,h2⟩:=Zgw h;obtain ⟨rows,h3,h4⟩:=ZH h1;cases h5:Nat.beq rows.length n && Nat.blt 0 n with
       |false=>rw [h5] at h4;cases h4
       |true=>
        rw [h5] at h4;exact ⟨_,h4,fun s' ha K'=>by rw [h2 s' (hag ha)];simp only [h3,UF,h5,Uo]⟩
    ·cases h
  unfold opR at h ⊢;rw [hth] at h ⊢;simp only [Un] at h ⊢;unfold Xd at h ⊢;split at h
  ·rename_i hrt;exact main h
  ·rename_i A hrt;obtain ⟨sv,h1,h2⟩:=main h;cases sv with
   |val a=>
    obtain ⟨x,_,h4⟩:=A.ok' _ _ _ h1;exact ⟨.val (A.enc x),by simp only [h4] at h1;exact h1,fun s' ha K'=>by rw [h2 s' ha];exact h4 _⟩
   | _=>cases h1
end
end Go.Fx
