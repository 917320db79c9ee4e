/- Regions that draw their order: operations that leave each other alone may be exchanged. -/
import Derived.Test.YthkckbidcpmckaaGreatDoorFzV
set_option linter.all false
namespace Go.Fx
section
variable {β:Type} {r:β} {E:Ctx} {s s':St}
def Agr (b:Bool) (xs:List Operand) (s s':St):Prop:=(∀t,Operand.tmp t∈xs->s'.env t=s.env t)/\(∀key ob,s.L key=some ob->s'.L key=some ob)/\(b=true->s'.G=s.G)
theorem Agr.sub {b:Bool} {xs ys:List Operand} (h:Agr b ys s s') (hs:∀x∈xs,x∈ys):Agr b xs s s':=⟨fun t ht=>h.1 t (hs _ ht),h.2⟩
theorem VI {cf:Value->Option AV} {x:Operand} {K:SV->St->Option β} (h:rd false cf x s K=some r):
  ∃sv,K sv s=some r/\∀{bg:Bool} s',Agr bg [x] s s'->∀K':SV->St->Option β,rd false cf x s' K'=K' sv s':=by
 unfold rd at h;cases x with
 |tmp n=>
  simp only at h;cases he:s.env n with
  |val c=>
   simp only [he] at h;exact ⟨_,h,fun s' ha K'=>by have:=ha.1 n (by simp);rw [he] at this;simp [rd,this]⟩
  |no=>simp [he] at h
  |lp key i off=>
   simp only [he] at h;exact ⟨_,h,fun s' ha K'=>by have:=ha.1 n (by simp);rw [he] at this;simp [rd,this]⟩
  |la key=>
   simp only [he] at h;exact ⟨_,h,fun s' ha K'=>by have:=ha.1 n (by simp);rw [he] at this;simp [rd,this]⟩
  |lv key i off ag=>
   simp only [he] at h;exact ⟨_,h,fun s' ha K'=>by have:=ha.1 n (by simp);rw [he] at this;simp [rd,this]⟩
 |const v=>
  simp only at h;obtain ⟨c,hc,h⟩:=ZG h;exact ⟨_,h,fun s' _ K'=>by simp [rd,hc]⟩
 |func f=>exact ⟨_,h,fun s' _ K'=>rfl⟩
 |global g=>cases h
theorem ZCl {x:Operand} {K:SV->St->Option β} (h:rd false (fun _=>none) x s K=some r):
  ∃sv,K sv s=some r/\(∀{bg:Bool} s',Agr bg [x] s s'->∀K':SV->St->Option β,rd false (fun _=>none) x s' K'=K' sv s')/\(XT sv=true->∃n,x= .tmp n/\XT (s.env n)=true):=by
 unfold rd at h;cases x with
 |tmp n=>
  simp only at h;cases he:s.env n with
  |val c=>
   simp only [he] at h;refine ⟨_,h,fun s' ha K'=>by have:=ha.1 n (by simp);rw [he] at this;simp [rd,this],fun hg=>⟨n,rfl,?_⟩⟩;rw [he];cases c <;> first |rfl | (simp [XT,AV.clr] at hg;done) |skip
   rename_i o k xs;cases o <;> simp [XT,AV.clr] at hg
  |no=>simp [he] at h
  |lp key i off=>
   simp only [he] at h;exact ⟨_,h,fun s' ha K'=>by have:=ha.1 n (by simp);rw [he] at this;simp [rd,this],fun hg=>by cases hg⟩
  |la key=>
   simp only [he] at h;exact ⟨_,h,fun s' ha K'=>by have:=ha.1 n (by simp);rw [he] at this;simp [rd,this],fun hg=>by cases hg⟩
  |lv key i off ag=>
   simp only [he] at h;exact ⟨_,h,fun s' ha K'=>by have:=ha.1 n (by simp);rw [he] at this;simp [rd,this],fun hg=>by cases hg⟩
 |const v=>simp at h
 |func f=>exact ⟨_,h,fun s' _ K'=>rfl,fun hg=>by cases hg⟩
 |global g=>cases h
theorem XW {x:Operand} {K:AV->Option β} (h:rd0 x s K=some r):
  ∃a,K a=some r/\∀{bg:Bool} s',Agr bg [x] s s'->∀K':AV->Option β,rd0 x s' K'=K' a:=by
 unfold rd0 at h;cases x with
 |tmp n=>
  simp only at h;cases he:s.env n with
  |val c=>
   simp only [he] at h;exact ⟨_,h,fun s' ha K'=>by have:=ha.1 n (by simp);rw [he] at this;simp [rd0,this]⟩
  |no=>simp [he] at h
  |lp key i off=>simp [he] at h
  |la key=>simp [he] at h
  |lv key i off ag=>simp [he] at h
 |const v=>
  simp only at h;split at h
  ·rename_i cs;cases hs:cs.toList.all Yi with
   |false=>rw [hs] at h;cases h
   |true=>rw [hs] at h;exact ⟨_,h,fun s' _ K'=>by simp only [rd0,hs,Ut]⟩
  ·rename_i hne;cases hs:Yi v with
   |false=>rw [hs] at h;cases h
   |true=>rw [hs] at h;exact ⟨_,h,fun s' _ K'=>by cases v <;> first |rfl | (simp [Yi] at hs;done)⟩
 |func f=>cases h
 |global g=>cases h
theorem Zm0 {x:Option Operand} {K:Option AV->Option β} (h:rdo x s K=some r):
  ∃a,K a=some r/\∀{bg:Bool} s',Agr bg x.toList s s'->∀K':Option AV->Option β,rdo x s' K'=K' a:=by
 cases x with
 |none=>exact ⟨none,h,fun _ _ _=>rfl⟩
 |some x=>
  obtain ⟨a,h1,h2⟩:=XW h;exact ⟨some a,h1,fun s' ha K'=>h2 s' ha _⟩
theorem Zm1:∀{xs:List Operand} {ts:List Nat} {K:List AV->St->Option β},VB E false xs ts s K=some r->
  ∃as,K as s=some r/\∀{bg:Bool} s',Agr bg xs s s'->∀K':List AV->St->Option β,VB E false xs ts s' K'=K' as s'
 | [],ts,K,h=>⟨[],h,fun _ _ _=>rfl⟩
 |x::xs,ts,K,h=>by
  simp only [VB] at h;obtain ⟨sv,h1,h2⟩:=VI h;split at h1
  case h_2=>cases h1
  rename_i a;obtain ⟨as,h3,h4⟩:=Zm1 h1;refine ⟨_,h3,fun s' ha K'=> ?_⟩;simp only [VB];rw [h2 s' (ha.sub (by simp))];exact h4 s' (ha.sub fun y hy=>Ug _ hy) _
theorem Zht {cf:Nat->Value->Option AV}:∀{xs:List (Nat×Operand)} {K:List (Nat×AV)->St->Option β},Xi false cf xs s K=some r->
  ∃as,K as s=some r/\∀{bg:Bool} s',Agr bg (xs.map (·.2)) s s'->∀K':List (Nat×AV)->St->Option β,Xi false cf xs s' K'=K' as s'
 | [],K,h=>⟨[],h,fun _ _ _=>rfl⟩
 | (i,x)::xs,K,h=>by
  simp only [Xi] at h;obtain ⟨sv,h1,h2⟩:=VI h;split at h1
  case h_2=>cases h1
  rename_i a;obtain ⟨as,h3,h4⟩:=Zht h1;refine ⟨_,h3,fun s' ha K'=> ?_⟩;simp only [Xi];rw [h2 s' (ha.sub (by simp))];exact h4 s' (ha.sub fun y hy=>Ug _ hy) _
def Zr3 (E:Ctx) (vr:Nat) (o:Oper) (s:St) (K:SV->St->Option β) (r:β):Prop:=
 ∃sv,K sv s=some r/\∀s',Agr (Yk o s) o.op.operands.toList s s'->∀K':SV->St->Option β,opK E false false vr o s' K'=K' sv s'
theorem ZcY {R:RR} {xs:List (List AV)} {i:Nat} {K:R.τ->Option β} (h:ZZ R xs i K=some r):∃x,K x=some r/\∀K':R.τ->Option β,ZZ R xs i K'=K' x:=by
 unfold ZZ at h;split at h
 ·rename_i c hc;obtain ⟨x,_,h2⟩:=R.ok' _ _ _ h;exact ⟨x,by rw [h2] at h;exact h,fun K'=>by simp only [ZZ,hc];exact h2 K'⟩
 ·cases h
theorem ZCm {R:RR} {k:Nat} {a i:AV} {K:AV->Option β} (h:ixK R k a i K=some r):∃c,K c=some r/\∀K':AV->Option β,ixK R k a i K'=K' c:=by
 unfold ixK at h;split at h
 ·rename_i o k' xs ik n;cases hk:Nat.beq k k' with
  |false=>rw [hk] at h;cases h
  |true=>
   rw [hk] at h;simp only [Ut] at h;cases hnu:o.nu with
   |false=>rw [hnu] at h;cases h
   |true=>
   rw [hnu] at h;simp only [Ut] at h;cases n with
   |ofNat m=>
    obtain ⟨x,h1,h2⟩:=ZcY (R:=R) h;exact ⟨_,h1,fun K'=>by simp only [ixK,hk,hnu,Ut];exact h2 _⟩
   |negSucc m=>cases h
 ·cases h
theorem ZCn {d:TD} {p:SV} {K:SV->St->Option β} (h:Q9 E d false p s K=some r):
  ∃sv,K sv s=some r/\∀s',(∀key ob,s.L key=some ob->s'.L key=some ob)->(XT p=true->s'.G=s.G)->∀K':SV->St->Option β,Q9 E d false p s' K'=K' sv s':=by
 unfold Q9 at h;simp only [Qn] at h;split at h
 ·split at h
  ·rename_i hL;obtain ⟨x,h,hx⟩:=ZcY h;obtain ⟨a,ha,h⟩:=ZG h;exact ⟨_,h,fun s' e _ K'=>by simp only [Q9,Qn,e _ _ hL,hx,ha,UG,Ur]⟩
  ·cases h
 ·split at h
  ·rename_i hG;obtain ⟨a,ha,h⟩:=ZG h;exact ⟨_,h,fun s' _ e K'=>by simp [Q9,Qn,e rfl,hG,ha]⟩
  ·cases h
 ·obtain ⟨a,ha,h⟩:=ZG h;exact ⟨_,h,fun s' _ _ K'=>by simp [Q9,Qn,ha]⟩
 ·cases h
theorem ZCo {vr:Nat} {o:Oper} {K:SV->St->Option β} (hp:Zae E o=true) (h:opK E false false vr o s K=some r):Zr3 E vr o s K r:=by
 unfold opK at h;simp only [Ju,Jx,Jv,Jw,Q8] at h;unfold Zae at hp;unfold Zr3;cases ho:o.op with
 |move x=>
  rw [ho] at h;obtain ⟨sv,h1,h2⟩:=VI h;exact ⟨sv,h1,fun s' ha K'=>by simp only [opK,ho,Ju,Jx,Jv,Jw,Q8];exact h2 s' (ha.sub (by simp [Op.operands])) K'⟩
 |assign x=>
  rw [ho] at h;obtain ⟨sv,h1,h2⟩:=VI h;exact ⟨sv,h1,fun s' ha K'=>by simp only [opK,ho,Ju,Jx,Jv,Jw,Q8];exact h2 s' (ha.sub (by simp [Op.operands])) K'⟩
 |pick c x y=>
  rw [ho] at h;obtain ⟨a,h1,h2⟩:=XW h;obtain ⟨b,rfl,h3⟩:=ZmZ h1;cases b with
  |true=>
   obtain ⟨sv,h4,h5⟩:=VI h3;exact ⟨sv,h4,fun s' ha K'=>by
    simp only [opK,ho,Ju,Jx,Jv,Jw,Q8];rw [h2 s' (ha.sub (by simp [Op.operands]))];exact h5 s' (ha.sub (by simp [Op.operands])) K'⟩
  |false=>
   obtain ⟨sv,h4,h5⟩:=VI h3;exact ⟨sv,h4,fun s' ha K'=>by
    simp only [opK,ho,Ju,Jx,Jv,Jw,Q8];rw [h2 s' (ha.sub (by simp [Op.operands]))];exact h5 s' (ha.sub (by simp [Op.operands])) K'⟩
 |load t x=>
  rw [ho] at h;simp only at h;cases hk:(E.T t).ok with
  |false=>simp [hk] at h
  |true=>
   simp only [hk,Ui,Ur] at h;obtain ⟨p,h1,h2,hgp⟩:=ZCl h;obtain ⟨sv,h3,h4⟩:=ZCn h1;exact ⟨sv,h3,fun s' ha K'=>by
    simp only [opK,ho,hk,Ui,Ur];rw [h2 s' (ha.sub (by simp [Op.operands]))];exact h4 s' ha.2.1 (fun hg=>ha.2.2 (by
     obtain ⟨n,hx,hn⟩:=hgp hg;unfold Yk;rw [ho,hx];exact hn)) K'⟩
 |nilCheck x=>
  rw [ho] at h;obtain ⟨p,h1,h2⟩:=VI h;split at h1
  ·exact ⟨_,h1,fun s' ha K'=>by simp only [opK,ho];rw [h2 s' (ha.sub (by simp [Op.operands]))]⟩
  ·exact ⟨_,h1,fun s' ha K'=>by simp only [opK,ho];rw [h2 s' (ha.sub (by simp [Op.operands]))]⟩
  ·exact ⟨_,h1,fun s' ha K'=>by simp only [opK,ho];rw [h2 s' (ha.sub (by simp [Op.operands]))]⟩
  ·cases h1
 |binOp op t x y t'=>
  rw [ho] at h;simp only at h;cases hy:ZcP y with
  |true=>
   rw [hy] at h;simp only [Ut] at h;split at h
   ·rename_i e k ht;obtain ⟨a,h1,h2⟩:=XW h;obtain ⟨c,hc,h5⟩:=ZG h1;exact ⟨_,h5,fun s' ha K'=>by
     simp only [opK,ho,hy,Ut,ht];rw [h2 s' (ha.sub (by simp [Op.operands])),hc];rfl⟩
   ·cases h
  |false=>
  rw [hy] at h;simp only [Ur] at h;obtain ⟨a,h1,h2⟩:=XW h;obtain ⟨b,h3,h4⟩:=XW h1;obtain ⟨c,hc,h5⟩:=ZG h3;exact ⟨_,h5,fun s' ha K'=>by
   simp only [opK,ho,hy,Ur,Ju,Jx,Jv,Jw,Q8];rw [h2 s' (ha.sub (by simp [Op.operands])),h4 s' (ha.sub (by simp [Op.operands])),hc];rfl⟩
 |unOp op t x=>
  rw [ho] at h;obtain ⟨a,h1,h2⟩:=XW h;obtain ⟨c,hc,h5⟩:=ZG h1;exact ⟨_,h5,fun s' ha K'=>by
   simp only [opK,ho,Ju,Jx,Jv,Jw,Q8];rw [h2 s' (ha.sub (by simp [Op.operands])),hc];rfl⟩
 |convert src dst x=>
  rw [ho] at h;obtain ⟨a,h1,h2⟩:=XW h;obtain ⟨c,hc,h5⟩:=ZG h1;exact ⟨_,h5,fun s' ha K'=>by
   simp only [opK,ho,Ju,Jx,Jv,Jw,Q8];rw [h2 s' (ha.sub (by simp [Op.operands])),hc];rfl⟩
 |slice t x lo hi mx=>
  rw [ho] at h;obtain ⟨l,h1,e1⟩:=Zm0 h;obtain ⟨u,h2,e2⟩:=Zm0 h1;obtain ⟨m,h3,e3⟩:=Zm0 h2;obtain ⟨a,h4,e4⟩:=XW h3;have key:∀{bg:Bool} {s':St},Agr bg (Op.slice t x lo hi mx).operands.toList s s'->∀K':SV->St->Option β,opK E false false vr o s' K'=(match E.T t with
    | .sl _ k=>(slA k a l u m).bind fun r=>K' (.val r) s'
    | .sc (.string _)=>(slT a l u m).bind fun r=>K' (.val r) s'
    | _=>none):=by
   intro bg s' ha K';simp only [opK,ho,Ju,Jx,Jv,Jw,Q8];rw [e1 s' (ha.sub (by simp +contextual [Op.operands])),e2 s' (ha.sub (by simp +contextual [Op.operands])),e3 s' (ha.sub (by simp +contextual [Op.operands])),e4 s' (ha.sub (by simp [Op.operands]))];rfl
  split at h4
  ·rename_i e k ht;obtain ⟨c,hc,h5⟩:=ZG h4;exact ⟨_,h5,fun s' ha K'=>by rw [key ha,ht];simp only [hc,UG]⟩
  ·rename_i b ht;obtain ⟨c,hc,h5⟩:=ZG h4;exact ⟨_,h5,fun s' ha K'=>by rw [key ha,ht];simp only [hc,UG]⟩
  ·cases h4
 |fieldAddr t x f=>
  rw [ho] at h;simp only at h;split at h
  ·rename_i cz offs ht;split at h
   ·rename_i off sz hf;obtain ⟨p,h1,h2⟩:=VI h;split at h1
    ·exact ⟨_,h1,fun s' ha K'=>by
      simp only [opK,ho,ht,hf];rw [h2 s' (ha.sub (by simp [Op.operands]))]⟩
    ·obtain ⟨c,hc,h5⟩:=ZG h1;exact ⟨_,h5,fun s' ha K'=>by
      simp only [opK,ho,ht,hf];rw [h2 s' (ha.sub (by simp [Op.operands]))];simp only [hc,UG]⟩
    ·cases h1
   ·cases h
  ·cases h
 |indexAddr t x i=>
  rw [ho] at h;simp only at h;split at h
  ·rename_i e k ht;obtain ⟨iv,h1,h2⟩:=XW h;obtain ⟨p,h3,h4⟩:=VI h1;rw [ht] at h4;split at h3
   ·rename_i key;split at h3
    ·rename_i ob hL;cases hk:Nat.beq ob.k k with
     |false=>rw [hk] at h3;cases h3
     |true=>
      rw [hk] at h3;simp only [Ut] at h3;split at h3
      ·rename_i n _;unfold ifA at h3;split at h3
       ·rename_i hn;exact ⟨_,h3,fun s' ha K'=>by
         simp only [opK,ho,ht,Q8];rw [h2 s' (ha.sub (by simp [Op.operands])),h4 s' (ha.sub (by simp [Op.operands]))];simp only [ha.2.1 _ _ hL,hk,Ut,ifA,Ul hn]⟩
       ·cases h3
      ·cases h3
    ·cases h3
   ·obtain ⟨c,h5,hc⟩:=ZCm h3;exact ⟨_,h5,fun s' ha K'=>by
     simp only [opK,ho,ht];rw [h2 s' (ha.sub (by simp [Op.operands])),h4 s' (ha.sub (by simp [Op.operands]))];simp only [hc]⟩
   ·cases h3
  ·rename_i n k cz ht;obtain ⟨iv,h1,h2⟩:=XW h;obtain ⟨p,h3,h4⟩:=VI h1;split at h3
   ·split at h3
    ·unfold ifA at h3;split at h3
     ·rename_i hn;exact ⟨_,h3,fun s' ha K'=>by
       simp only [opK,ho,ht,Q8];rw [h2 s' (ha.sub (by simp [Op.operands])),h4 s' (ha.sub (by simp [Op.operands]))];simp only [ifA,Ul hn]⟩
     ·cases h3
    ·cases h3
   ·cases h3
  ·cases h
 |index t x i=>
  rw [ho] at h;simp only at h;split at h
  ·rename_i b ht;obtain ⟨iv,h1,h2⟩:=XW h;obtain ⟨a,h3,h4⟩:=XW h1;obtain ⟨c,hc,h5⟩:=ZG h3;exact ⟨_,h5,fun s' ha K'=>by
    simp only [opK,ho,ht,Q8];rw [h2 s' (ha.sub (by simp [Op.operands])),h4 s' (ha.sub (by simp [Op.operands])),hc];rfl⟩
  ·cases h
 |field t x f=>
  rw [ho] at h;cases x with
  |tmp n=>
   simp only at h;split at h
   ·rename_i cz offs ht;split at h
    ·rename_i off sz hf;split at h
     ·rename_i cs hen;cases hb:Nat.blt 1 sz with
      |true=>
       rw [hb] at h;simp only [Ut] at h;unfold ifA at h;split at h
       ·rename_i hle;exact ⟨_,h,fun s' ha K'=>by
         have:=ha.1 n (by simp [Op.operands]);rw [hen] at this;simp only [opK,ho,ht,hf,this,hb,Ut,ifA,Ul hle]⟩
       ·cases h
      |false=>
       rw [hb] at h;simp only [Ur] at h;split at h
       ·rename_i c hc;exact ⟨_,h,fun s' ha K'=>by
         have:=ha.1 n (by simp [Op.operands]);rw [hen] at this;simp only [opK,ho,ht,hf,this,hb,Ur,hc]⟩
       ·cases h
     ·cases h
    ·cases h
   ·cases h
  | _=>cases h
 |extract x i=>
  rw [ho] at h;cases x with
  |tmp n=>
   simp only at h;split at h
   ·rename_i vs hen;split at h
    ·rename_i c hc;exact ⟨_,h,fun s' ha K'=>by
      have:=ha.1 n (by simp [Op.operands]);rw [hen] at this;simp only [opK,ho,this,hc,Ur]⟩
    ·cases h
   ·cases h
  | _=>cases h
 |call c=>
  rw [ho] at h hp;simp only at h hp;have hsub:∀{bg:Bool} {s':St},Agr bg (Op.call c).operands.toList s s'->Agr bg c.args.toList s s':=fun ha=>ha.sub fun y hy=>by
   simp only [Op.operands,Call.operands];split <;> simp [hy]
  cases hc:c.callee with
  |builtin b=>
   rw [hc] at h hp;simp only at h hp;have hop:∀(s':St) (K':SV->St->Option β),opK E false false vr o s' K'=QM E b c.args.toList c.argTypes.toList false s' K':=fun s' K'=>by simp only [opK,ho,hc]
   generalize hx:c.args.toList=xs at h hsub hop;generalize hts:c.argTypes.toList=ts at h hop;cases b with
   |len=>
    match xs,ts,h with
    | [x],t::ts,h=>
     simp only [QM] at h;split at h
     ·rename_i e k ht;split at h
      ·rename_i n;split at h
       ·rename_i a hen;obtain ⟨c',hc',h⟩:=ZG h;exact ⟨_,h,fun s' ha K'=>by
         have:=(hsub ha).1 n (by simp);rw [hen] at this;rw [hop];simp only [QM,ht,this,hc',UG]⟩
       ·rename_i key hen;split at h
        ·rename_i ob hL;exact ⟨_,h,fun s' ha K'=>by
          have:=(hsub ha).1 n (by simp);rw [hen] at this;rw [hop];simp only [QM,ht,this,ha.2.1 _ _ hL]⟩
        ·cases h
       ·cases h
      ·cases h
     ·rename_i b ht;obtain ⟨a,h1,h2⟩:=XW h;obtain ⟨c',hc',h3⟩:=ZG h1;exact ⟨_,h3,fun s' ha K'=>by
       rw [hop];simp only [QM,ht];rw [h2 s' (hsub ha),hc'];rfl⟩
     ·cases h
    | [],_,h=>cases h
    | _::_::_,_,h=>cases h
    | [x],[],h=>cases h
   |min=>
    match xs,h with
    | [x,y],h=>
     obtain ⟨a,h1,h2⟩:=XW h;obtain ⟨b,h3,h4⟩:=XW h1;obtain ⟨d,hd,h5⟩:=ZG h3;exact ⟨_,h5,fun s' ha K'=>by
      rw [hop];simp only [QM];rw [h2 s' ((hsub ha).sub (by simp)),h4 s' ((hsub ha).sub (by simp)),hd];rfl⟩
    | [],h=>cases h
    | [_],h=>cases h
    | _::_::_::_,h=>cases h
   |max=>
    match xs,h with
    | [x,y],h=>
     obtain ⟨a,h1,h2⟩:=XW h;obtain ⟨b,h3,h4⟩:=XW h1;obtain ⟨d,hd,h5⟩:=ZG h3;exact ⟨_,h5,fun s' ha K'=>by
      rw [hop];simp only [QM];rw [h2 s' ((hsub ha).sub (by simp)),h4 s' ((hsub ha).sub (by simp)),hd];rfl⟩
    | [],h=>cases h
    | [_],h=>cases h
    | _::_::_::_,h=>cases h
   | _=>cases hp
  |value x=>
   rw [hc] at h hp;cases x with
   |func f=>
    simp only [UH] at h hp;obtain ⟨as,h1,h2⟩:=Zm1 h;unfold Zac at h1;rw [hp] at h1;simp only [Ur,Zbo] at h1;split at h1
    ·cases h1
    rename_i en hen;cases hng:as.all AV.ng with
    |false=>rw [hng] at h1;cases h1
    |true=>
     rw [hng] at h1;simp only [Ut] at h1;obtain ⟨r0,hcl,h3⟩:=ZG h1;rw [en.rs.spl_eq] at h3;split at h3
     case h_2=>cases h3
     rename_i hg1;exact ⟨_,h3,fun s' ha K'=>by
      simp only [opK,ho,hc];rw [h2 s' (hsub ha)];simp only [Zac,hp,Ur,Zbo,hen,hng,Ut,bnd,hcl,UG,en.rs.spl_eq,hg1]⟩
   | _=>cases hp
  | _=>rw [hc] at hp;cases hp
 |build t parts=>
  rw [ho] at h;simp only at h;split at h
  case h_3=>cases h
  ·rename_i cz offs hT;obtain ⟨as,h2,h3⟩:=Zht h;obtain ⟨cs,h4,h5⟩:=ZG h2;exact ⟨_,h5,fun s' ha K'=>by
    simp only [opK,ho,hT];rw [h3 s' (ha.sub fun y hy=>by simpa [Op.operands] using hy)];unfold Zab;rw [h4,UG]⟩
  ·rename_i n k cz hT;obtain ⟨as,h2,h3⟩:=Zht h;obtain ⟨cs,h4,h5⟩:=ZG h2;exact ⟨_,h5,fun s' ha K'=>by
    simp only [opK,ho,hT];rw [h3 s' (ha.sub fun y hy=>by simpa [Op.operands] using hy)];unfold Zab;rw [h4,UG]⟩
 |buildSlice t n parts=>
  rw [ho] at h;simp only at h;split at h
  case h_2=>cases h
  rename_i e k hT;cases h0:(Nat.beq n 0 && parts.toList.isEmpty) with
  |true=>
   rw [h0,Ut] at h;exact ⟨_,h,fun s' ha K'=>by simp only [opK,ho,hT,h0,Ut]⟩
  |false=>
   rw [h0,Ur] at h;cases h1: !(Nat.ble (n * k) 16777216) with
   |true=>rw [h1] at h;cases h
   |false=>
    rw [h1,Ur] at h;obtain ⟨as,h2,h3⟩:=Zht h;obtain ⟨rows,h4,h5⟩:=ZG h2;cases h6:(Nat.beq rows.length n && Nat.blt 0 n) with
    |false=>rw [h6] at h5;cases h5
    |true=>
     rw [h6,Ut] at h5;exact ⟨_,h5,fun s' ha K'=>by
      simp only [opK,ho,hT,h0,h1,Ur];rw [h3 s' (ha.sub fun y hy=>by simpa [Op.operands] using hy),h4,UG,h6,Ut]⟩
 | _=>rw [ho] at hp;cases hp
theorem ZCp {d:TD} {p:SV} {K:SV->St->Option β} (h:Zbp E d p s K=some r):
  ∃sv,K sv s=some r/\∀s',(∀key ob,s.L key=some ob->s'.L key=some ob)->∀K':SV->St->Option β,Zbp E d p s' K'=K' sv s':=by
 unfold Zbp at h;simp only [Qn] at h;split at h
 ·split at h
  ·rename_i hL;obtain ⟨x,h,hx⟩:=ZcY h;obtain ⟨a,ha,h⟩:=ZG h;exact ⟨_,h,fun s' e K'=>by simp only [Zbp,Qn,e _ _ hL,hx,ha,UG]⟩
  ·cases h
 ·cases h
theorem ZCq {d:TD} {p:SV} {K:AV->Option β} (h:VC E d p s K=some r):
  ∃a,K a=some r/\∀s',(∀key ob,s.L key=some ob->s'.L key=some ob)->∀K':AV->Option β,VC E d p s' K'=K' a:=by
 unfold VC at h;simp only [Qn] at h;split at h
 ·exact ⟨_,h,fun s' e K'=>rfl⟩
 ·split at h
  ·rename_i hL;exact ⟨_,h,fun s' e K'=>by simp only [VC,e _ _ hL]⟩
  ·cases h
 ·rename_i key i off ag;cases hq:Zbq ag d.ag with
  |false=>rw [hq] at h;cases h
  |true=>
   rw [hq] at h;simp only [Ut] at h;split at h
   ·rename_i hL;obtain ⟨x,h,hx⟩:=ZcY h;obtain ⟨a,ha,h⟩:=ZG h;exact ⟨_,h,fun s' e K'=>by simp only [VC,Qn,hq,Ut,e _ _ hL,hx,ha,UG]⟩
   ·cases h
 ·cases h
theorem Zm2:∀{xs:List Operand} {ts:List Nat} {K:List AV->Option β},Jz E xs ts s K=some r->
  ∃as,K as=some r/\∀{bg:Bool} s',Agr bg xs s s'->∀K':List AV->Option β,Jz E xs ts s' K'=K' as
 | [],ts,K,h=>⟨[],h,fun _ _ _=>rfl⟩
 |x::xs,ts,K,h=>by
  simp only [Jz] at h;cases x with
  |tmp n=>
   simp only at h;obtain ⟨a,h1,h2⟩:=ZCq h;obtain ⟨as,h3,h4⟩:=Zm2 h1;refine ⟨_,h3,fun s' ha K'=> ?_⟩;simp only [Jz];rw [ha.1 n (by simp),h2 s' ha.2.1];exact h4 s' (ha.sub fun y hy=>Ug _ hy) _
  |const v=>
   simp only at h;obtain ⟨a,hc,h1⟩:=ZG h;obtain ⟨as,h3,h4⟩:=Zm2 h1;refine ⟨_,h3,fun s' ha K'=> ?_⟩;simp only [Jz,hc,UG];exact h4 s' (ha.sub fun y hy=>Ug _ hy) _
  |func f=>cases h
  |global g=>cases h
theorem ZCr {f v:Nat} {xs:List Operand} {ts:List Nat} {K:SV->St->Option β} (h:Zbr E f v xs ts s K=some r):
  ∃sv,K sv s=some r/\∀{bg:Bool} s',Agr bg xs s s'->∀K':SV->St->Option β,Zbr E f v xs ts s' K'=K' sv s':=by
 unfold Zbr at h;obtain ⟨as,h1,h2⟩:=Zm2 h;split at h1
 ·cases h1
 rename_i en hen;cases hng:as.all AV.ng with
 |false=>rw [hng] at h1;cases h1
 |true=>
  rw [hng] at h1;simp only [Ut] at h1;obtain ⟨r0,hcl,h3⟩:=ZG h1;split at h3
  case h_2=>cases h3
  rename_i hg1;unfold ifA at h3;split at h3
  ·rename_i hu;exact ⟨_,h3,fun s' ha K'=>by
    unfold Zbr;rw [h2 s' ha];simp only [hen,hng,Ut,bnd,hcl,UG,hg1,ifA,Ul hu]⟩
  ·cases h3
theorem Zr4 {id i:Nat} {o:Oper} {K:SV->St->Option β} (hp:Zae E o=true) (hpm:YV (E.hb id i) o=true) (htk:E.tk id i=false) (hmo:E.mo id i=false) (h:opM E id i o s K=some r):
  ∃sv,K sv s=some r/\∀s',Agr (Yk o s) o.op.operands.toList s s'->∀K':SV->St->Option β,opM E id i o s' K'=K' sv s':=by
 unfold opM at h ⊢;cases hb:Nat.beq (E.hb id i) 0 with
 |true=>
  rw [hb,htk,hmo] at h;obtain ⟨sv,h1,h2⟩:=ZCo hp h;exact ⟨sv,h1,fun s' ha K'=>by rw [htk,hmo];exact h2 s' ha K'⟩
 |false=>
  rw [hb] at h;simp only [Ur] at h ⊢;generalize E.hb id i=m at h hpm ⊢;unfold opU at h;split at h
  ·rename_i t x ho;cases hk:(E.T t).ok with
   |false=>rw [hk] at h;cases h
   |true=>
    rw [hk] at h;simp only [Ui,Ur] at h;obtain ⟨p,h1,h2⟩:=VI h;obtain ⟨sv,h3,h4⟩:=ZCp h1;exact ⟨sv,h3,fun s' ha K'=>by
     simp only [opU,ho,hk,Ui,Ur];rw [h2 s' (ha.sub (by simp [ho,Op.operands]))];exact h4 s' ha.2.1 K'⟩
  ·rename_i t n ho;simp [YV,ho] at hpm
  ·rename_i c ho;split at h
   ·rename_i f hc;cases hg:E.gs f with
    |true=>rw [hg] at h;cases h
    |false=>
     rw [hg] at h;obtain ⟨sv,h1,h2⟩:=ZCr h;exact ⟨sv,h1,fun s' ha K'=>by
      simp only [opU,ho,hc,hg,Ur];exact h2 s' (ha.sub fun y hy=>by
       simp only [ho,Op.operands,Call.operands];split <;> simp [hy]) K'⟩
   ·cases h
  ·rename_i c ho;simp [YV] at hpm
  ·rename_i x ho;simp [YV] at hpm
  ·rename_i c ho;simp [YV] at hpm
  ·rename_i t n x ho;simp [YV] at hpm
  ·rename_i t n f ho;simp [YV] at hpm
  ·rename_i t n ho;simp [YV] at hpm
  ·rename_i t n v ho;simp [YV] at hpm
  ·rename_i t n ho;simp [YV] at hpm
  ·rename_i v ho;simp [YV] at hpm
  ·rename_i t n parts ho;simp [YV] at hpm
  ·rename_i c ho;simp [YV] at hpm
  ·simp [YV] at hpm
  ·simp [YV] at hpm
  ·simp [YV] at hpm
  ·simp [YV] at hpm
  ·simp [YV] at hpm
  ·simp [YV] at hpm
  ·rename_i t p n ho;simp [YV] at hpm
  ·cases h
theorem Zr5 {id i:Nat} {o:Oper} {K:SV->St->Option β} (hp:Zae E o=true) (hpm:YV (E.hb id i) o=true) (hth:E.th id i=false) (htk:E.tk id i=false) (hmo:E.mo id i=false) (h:opR E id i o s K=some r):
  ∃sv,K sv s=some r/\∀s',Agr (Yk o s) o.op.operands.toList s s'->∀K':SV->St->Option β,opR E id i o s' K'=K' sv s':=by
 unfold opR at h ⊢;rw [hth] at h ⊢;simp only [Ur] at h ⊢;unfold Xp at h ⊢;split at h
 ·rename_i hrt;obtain ⟨sv,h1,h2⟩:=Zr4 hp hpm htk hmo h;exact ⟨sv,h1,fun s' ha K'=>h2 s' ha K'⟩
 ·rename_i A hrt;obtain ⟨sv,h1,h2⟩:=Zr4 hp hpm htk hmo h;cases sv with
  |val a=>
   obtain ⟨x,_,h4⟩:=A.ok' _ _ _ h1;exact ⟨.val (A.enc x),by simp only [h4] at h1;exact h1,fun s' ha K'=>by rw [h2 s' ha];exact h4 _⟩
  | _=>cases h1
def Y9 (s:St) (n:Nat):St:=match s.env n with
  | .val a=>{s with env:=upd s.env n (.val a.clr)}
  | _=>s
def ZN (s:St):List Nat->St
 | []=>s
 |n::r=>ZN (Y9 s n) r
theorem Zr6 (s:St) (a b:List Nat):ZN s (a ++ b)=ZN (ZN s a) b:=by
 induction a generalizing s with
 |nil=>rfl
 |cons n a ih=>exact ih _
theorem ZCs {tk:Bool} {o:Oper} {jw:Nat×Bool} (h:o.guard=some jw):YU tk o= []:=by
 unfold YU;rw [h]
theorem Zr7 {o:Oper} (h:Zmm o=true):o.guard=none/\((∃n,o.op= .move (.tmp n)/\∀tk,YU tk o=bif tk then [n] else [])\/(∃n,o.op= .assign (.tmp n)/\∀tk,YU tk o=bif tk then [n] else [])\/
  (∃t ps,o.op= .build t ps/\∀tk,YU tk o=bif tk then ps.toList.flatMap (fun p=>VE p.2) else [])\/∃t n ps,o.op= .buildSlice t n ps/\∀tk,YU tk o=bif tk then ps.toList.flatMap (fun p=>VE p.2) else []):=by
 unfold Zmm at h;unfold YU;split at h
 ·rename_i n h1 h2;exact ⟨h1, .inl ⟨n,h2,fun tk=>by rw [h1,h2]⟩⟩
 ·rename_i n h1 h2;exact ⟨h1, .inr (.inl ⟨n,h2,fun tk=>by rw [h1,h2]⟩)⟩
 ·rename_i t ps h1 h2;exact ⟨h1, .inr (.inr (.inl ⟨t,ps,h2,fun tk=>by rw [h1,h2]⟩))⟩
 ·rename_i t n ps h1 h2;exact ⟨h1, .inr (.inr (.inr ⟨t,n,ps,h2,fun tk=>by rw [h1,h2]⟩))⟩
 ·cases h
theorem ZCt {o:Oper} (hp:Zae E o=true):YU false o= []:=by
 unfold YU;split
 ·rfl
 ·rfl
 ·rfl
 ·rfl
 ·rename_i c h1 h2;split
  ·rename_i n y hc ha;unfold Zae at hp;rw [h2] at hp;simp [hc] at hp
  ·rfl
 ·rfl
theorem Zr8 {o:Oper} (h:Zg7 o=true):o.guard=none/\∃c n y,o.op= .call c/\c.callee= .builtin .append/\c.args.toList= [.tmp n,y]/\∀tk,YU tk o=n::(bif tk then VE y else []):=by
 unfold Zg7 at h;split at h
 ·rename_i c h1 h2;split at h
  ·rename_i n y hc ha;exact ⟨h1,c,n,y,h2,hc,ha,fun tk=>by unfold YU;rw [h1,h2];simp only [hc,ha]⟩
  ·cases h
 ·cases h
theorem Zm3 (s:St) (n:Nat):(Y9 s n).L=s.L:=by
 simp only [Y9];split <;> rfl
theorem Zm4 (s:St) (n:Nat):(Y9 s n).G=s.G:=by
 simp only [Y9];split <;> rfl
theorem ZeG (s:St) (l:List Nat):(ZN s l).L=s.L:=by
 induction l generalizing s with
 |nil=>rfl
 |cons n l ih=>exact (ih _).trans (Zm3 s n)
theorem ZbD (s:St) (l:List Nat):(ZN s l).G=s.G:=by
 induction l generalizing s with
 |nil=>rfl
 |cons n l ih=>exact (ih _).trans (Zm4 s n)
def XX:SV->SV
 | .val a=> .val a.clr
 |x=>x
theorem ZCu (x:SV):XX (XX x)=XX x:=by
 cases x with
 |val a=>simp only [XX,ZgY]
 | _=>rfl
theorem Zhu (s:St) (n t:Nat):(Y9 s n).env t=if n=t then XX (s.env t) else s.env t:=by
 simp only [Y9];cases he:s.env n with
 |val c=>
  by_cases h:n=t
  ·subst h;simp [ZE,he,XX]
  ·simp [h,ZA _ _ (fun e=>h e.symm)]
 | _=>
  by_cases h:n=t
  ·subst h;simp [he,XX]
  ·simp [h]
theorem JE (s:St) (l:List Nat) (t:Nat):(ZN s l).env t=if t∈l then XX (s.env t) else s.env t:=by
 induction l generalizing s with
 |nil=>simp [ZN]
 |cons n l ih=>
  simp only [ZN];rw [ih,Zhu];by_cases h:n=t
  ·subst h;simp only [U1,List.mem_cons,true_or];split
   ·exact ZCu _
   ·rfl
  ·simp only [Uf h,List.mem_cons,Ne.symm h,false_or]
theorem ZCv {s s':St} {l:List Nat} {m:Nat} (h2:s'.env m=s.env m):(ZN s' l).env m=(ZN s l).env m:=by
 rw [JE,JE,h2]
theorem Zr9 {b:Bool} {xs:List Operand} {s s':St} (l:List Nat) (h:Agr b xs s s'):Agr b xs (ZN s l) (ZN s' l):=
 ⟨fun t ht=>ZCv (h.1 t ht),fun key ob hL=>by rw [ZeG] at hL ⊢;exact h.2.1 key ob hL,fun hb=>by rw [ZbD,ZbD];exact h.2.2 hb⟩
theorem Zhv {cf:Value->Option AV} {n:Nat} {K:SV->St->Option β} (h:rd true cf (.tmp n) s K=some r):
  ∃sv,K sv (ZN s [n])=some r/\∀s',s'.env n=s.env n->∀K':SV->St->Option β,rd true cf (.tmp n) s' K'=K' sv (ZN s' [n]):=by
 unfold rd at h;simp only at h;cases he:s.env n with
 |val c=>
  simp only [he,Ut] at h;exact ⟨_,by simpa only [ZN,Y9,he] using h,fun s' e K'=>by simp only [rd,e,Ut,ZN,Y9]⟩
 |no=>simp [he] at h
 |lp key i off=>
  simp only [he] at h;exact ⟨_,by simpa only [ZN,Y9,he] using h,fun s' e K'=>by simp only [rd,e,ZN,Y9]⟩
 |la key=>
  simp only [he] at h;exact ⟨_,by simpa only [ZN,Y9,he] using h,fun s' e K'=>by simp only [rd,e,ZN,Y9]⟩
 |lv key i off ag=>
  simp only [he] at h;exact ⟨_,by simpa only [ZN,Y9,he] using h,fun s' e K'=>by simp only [rd,e,ZN,Y9]⟩
theorem Zsa {tk:Bool} {cf:Value->Option AV} {x:Operand} {K:SV->St->Option β} (h:rd tk cf x s K=some r):
  ∃sv,K sv (ZN s (bif tk then VE x else []))=some r/\∀{bg:Bool} s',Agr bg [x] s s'->∀K':SV->St->Option β,rd tk cf x s' K'=K' sv (ZN s' (bif tk then VE x else [])):=by
 cases tk with
 |false=>
  obtain ⟨sv,h1,h2⟩:=VI h;exact ⟨sv,h1,h2⟩
 |true=>
  cases x with
  |tmp n=>
   obtain ⟨sv,h1,h2⟩:=Zhv h;exact ⟨sv,h1,fun s' ha K'=>h2 s' (ha.1 n (by simp)) K'⟩
  |const v=>
   obtain ⟨a,h1,h2⟩:=Option.bind_eq_some_iff.1 (show (cf v).bind (fun a=>K (.val a) s)=some r from h);exact ⟨_,h2,fun s' _ K'=>by simp only [rd,h1,UG];rfl⟩
  |func f=>exact ⟨_,h,fun s' _ K'=>rfl⟩
  |global g=>cases h
theorem Zhw {cf:Nat->Value->Option AV}:∀{xs:List (Nat×Operand)} {s:St} {K:List (Nat×AV)->St->Option β},Xi true cf xs s K=some r->
  ∃as,K as (ZN s (xs.flatMap fun p=>VE p.2))=some r/\∀{bg:Bool} s',Agr bg (xs.map (·.2)) s s'->∀K':List (Nat×AV)->St->Option β,Xi true cf xs s' K'=K' as (ZN s' (xs.flatMap fun p=>VE p.2))
 | [],s,K,h=>⟨[],h,fun _ _ _=>rfl⟩
 | (i,x)::xs,s,K,h=>by
  simp only [Xi] at h;obtain ⟨v,h1,h2⟩:=Zsa h;cases v with
  |val a=>
   simp only at h1;obtain ⟨as,h3,h4⟩:=Zhw h1;refine ⟨(i,a)::as,by rw [List.flatMap_cons,Zr6];exact h3,fun s' ha K'=> ?_⟩;simp only [Xi];rw [h2 s' (ha.sub (by simp))];simp only;rw [h4 _ (Zr9 _ (ha.sub fun y hy=>Ug _ hy)),List.flatMap_cons,Zr6];rfl
  | _=>cases h1
theorem ZCw {id i:Nat} {o:Oper} {K:SV->St->Option β} (hm:JB E id o i=true) (h:opR E id i o s K=some r):
  ∃sv,K sv (ZN s (YU (E.tk id i) o))=some r/\∀s',Agr (Yk o s) o.op.operands.toList s s'->∀K':SV->St->Option β,opR E id i o s' K'=K' sv (ZN s' (YU (E.tk id i) o)):=by
 unfold JB at hm;simp only [Ub,Ma,UH] at hm;rcases hm with hm |hm
 case inr=>
  obtain ⟨⟨⟨happ,hmo⟩,hb⟩,hth⟩:=hm;obtain ⟨_,c,n,y,ho,hc,hx,htake⟩:=Zr8 happ;rw [htake];have hk:∀(s':St) (K':SV->St->Option β),opM E id i o s' K'=QM E .append [.tmp n,y] c.argTypes.toList (E.tk id i) s' K':=fun s' K'=>by
   unfold opM;rw [hb,hmo];simp only [Ut,opK,ho,hc,hx]
  have hag:∀{bg:Bool} {s':St},Agr bg o.op.operands.toList s s'->Agr bg [.tmp n,y] s s':=fun ha=>ha.sub fun z hz=>by
   simp only [ho,Op.operands,Call.operands];rw [hc];simpa [hx] using hz
  have main:∀{K1:SV->St->Option β},opM E id i o s K1=some r->∃sv,K1 sv (ZN s (n::(bif E.tk id i then VE y else [])))=some r/\∀s',Agr (Yk o s) o.op.operands.toList s s'->∀K':SV->St->Option β,opM E id i o s' K'=K' sv (ZN s' (n::(bif E.tk id i then VE y else []))):=by
   intro K1 h;rw [hk] at h;generalize hts:c.argTypes.toList=ts at h hk
   match ts,h with
   | [t,t'],h=>
    simp only [QM,Zl5] at h;cases htt:Nat.beq t t' with
    |false=>rw [htt] at h;cases h
    |true=>
    rw [htt] at h;simp only [Ui,Ur] at h;split at h
    ·rename_i e k hT;obtain ⟨a,h1,h2⟩:=Zhv h;obtain ⟨b,h3,h4⟩:=Zsa h1;split at h3
     ·rename_i a' b';obtain ⟨r',hr',h5⟩:=ZG h3;refine ⟨_,h5,fun s' ha K'=> ?_⟩;have ha2:=hag ha;rw [hk];simp only [QM,Zl5,htt,Ui,Ur,hT];rw [hT] at h2 h4;rw [h2 s' (ha2.1 n (by simp)),h4 _ (Zr9 _ (ha2.sub (by simp)))];simp only [hr',UG];rfl
     ·cases h3
    ·cases h
   | [],h=>cases h
   | [_],h=>cases h
   | _::_::_::_,h=>cases h
  unfold opR at h ⊢;rw [hth] at h ⊢;simp only [Ur] at h ⊢;unfold Xp at h ⊢;split at h
  ·rename_i hrt;exact main h
  ·rename_i A hrt;obtain ⟨sv,h1,h2⟩:=main h;cases sv with
   |val a=>
    obtain ⟨x,_,h4⟩:=A.ok' _ _ _ h1;exact ⟨.val (A.enc x),by simp only [h4] at h1;exact h1,fun s' ha K'=>by rw [h2 s' ha];exact h4 _⟩
   | _=>cases h1
 obtain ⟨⟨⟨⟨hp,hmo⟩,hm⟩,hpm⟩,hth⟩:=hm;cases htk:E.tk id i with
 |false=>
  rw [ZCt hp];exact Zr5 hp hpm hth htk hmo h
 |true=>
  rw [htk] at hm;rcases hm with hm |hm
  ·cases hm
  obtain ⟨hm,hb⟩:=hm;have main:∀{K1:SV->St->Option β},opM E id i o s K1=some r->∃sv,K1 sv (ZN s (YU true o))=some r/\∀s',Agr (Yk o s) o.op.operands.toList s s'->∀K':SV->St->Option β,opM E id i o s' K'=K' sv (ZN s' (YU true o)):=by
   intro K1 h;have hk:∀(s':St) (K':SV->St->Option β),opM E id i o s' K'=opK E true false (E.vr id i) o s' K':=fun s' K'=>by
    unfold opM;rw [hb,htk,hmo];rfl
   rw [hk] at h;simp only [hk];obtain ⟨_,hop |hop |hop |hop⟩:=Zr7 hm
   ·obtain ⟨n,ho,htake⟩:=hop;rw [htake];simp only [opK,ho] at h ⊢;obtain ⟨sv,h1,h2⟩:=Zhv h;exact ⟨sv,h1,fun s' ha K'=>h2 s' (ha.1 n (by simp [Op.operands])) K'⟩
   ·obtain ⟨n,ho,htake⟩:=hop;rw [htake];simp only [opK,ho] at h ⊢;obtain ⟨sv,h1,h2⟩:=Zhv h;exact ⟨sv,h1,fun s' ha K'=>h2 s' (ha.1 n (by simp [Op.operands])) K'⟩
   ·obtain ⟨t,ps,ho,htake⟩:=hop;rw [htake];simp only [opK,ho,Ut] at h ⊢;have hag:∀{bg:Bool} {s':St},Agr bg (Op.build t ps).operands.toList s s'->Agr bg (ps.toList.map (·.2)) s s':=fun ha=>ha.sub fun y hy=>by simpa [Op.operands] using hy
    split at h
    ·rename_i cz offs hT;obtain ⟨as,h1,h2⟩:=Zhw h;unfold Zab at h1;obtain ⟨cs,h3,h4⟩:=ZG h1;exact ⟨_,h4,fun s' ha K'=>by rw [h2 s' (hag ha)];simp only [Zab,h3,UG]⟩
    ·rename_i n k cz hT;obtain ⟨as,h1,h2⟩:=Zhw h;unfold Zab at h1;obtain ⟨cs,h3,h4⟩:=ZG h1;exact ⟨_,h4,fun s' ha K'=>by rw [h2 s' (hag ha)];simp only [Zab,h3,UG]⟩
    ·cases h
   ·obtain ⟨t,n,ps,ho,htake⟩:=hop;rw [htake];simp only [opK,ho,Ut] at h ⊢;have hag:∀{bg:Bool} {s':St},Agr bg (Op.buildSlice t n ps).operands.toList s s'->Agr bg (ps.toList.map (·.2)) s s':=fun ha=>ha.sub fun y hy=>by simpa [Op.operands] using hy
    split at h
    ·rename_i e k hT;cases h0:Nat.beq n 0 && ps.toList.isEmpty with
     |true=>
      rw [h0] at h;have hnil:ps.toList= []:=by
       rw [Ub] at h0;simpa using h0.2
      rw [hnil];exact ⟨_,h,fun s' _ K'=>rfl⟩
     |false=>
      rw [h0] at h;simp only [Ur] at h ⊢;cases h1:Nat.ble (n * k) 16777216 with
      |false=>rw [h1] at h;cases h
      |true=>
       rw [h1] at h;simp only [Ui,Ur] at h ⊢;obtain ⟨as,h1,h2⟩:=Zhw h;obtain ⟨rows,h3,h4⟩:=ZG h1;cases h5:Nat.beq rows.length n && Nat.blt 0 n with
       |false=>rw [h5] at h4;cases h4
       |true=>
        rw [h5] at h4;exact ⟨_,h4,fun s' ha K'=>by rw [h2 s' (hag ha)];simp only [h3,UG,h5,Ut]⟩
    ·cases h
  unfold opR at h ⊢;rw [hth] at h ⊢;simp only [Ur] at h ⊢;unfold Xp at h ⊢;split at h
  ·rename_i hrt;exact main h
  ·rename_i A hrt;obtain ⟨sv,h1,h2⟩:=main h;cases sv with
   |val a=>
    obtain ⟨x,_,h4⟩:=A.ok' _ _ _ h1;exact ⟨.val (A.enc x),by simp only [h4] at h1;exact h1,fun s' ha K'=>by rw [h2 s' ha];exact h4 _⟩
   | _=>cases h1
end
end Go.Fx
