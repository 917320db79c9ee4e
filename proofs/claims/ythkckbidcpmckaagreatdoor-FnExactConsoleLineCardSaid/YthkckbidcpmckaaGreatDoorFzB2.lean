/- What it means that one abstract value says no more than another; typed views of abstract values. -/
import Derived.Test.YthkckbidcpmckaaGreatDoorFzB
set_option linter.all false
namespace Go.Fx
structure Le (a b:AV):Prop where
 rep:∀{w:World} {Pr:Nat->Nat->Prop} {γ:List Nat} {base:Nat} {v:Value} {F:List Nat},Rep w Pr γ base a v F->∃F',F'.Sublist F/\Rep w Pr γ base b v F'
 cl:∀{w:World} {Pr:Nat->Nat->Prop} {γ:List Nat} {base:Nat} {v:Value},Rep w Pr γ base a.clr v []->Rep w Pr γ base b.clr v []
 one:b.one=a.one
 ng:a.ng=true->b.ng=true
inductive Les:List AV->List AV->Prop
 |nil:Les [] []
 |cons {a b:AV} {as bs:List AV}:Le a b->Les as bs->Les (a::as) (b::bs)
inductive Less:List (List AV)->List (List AV)->Prop
 |nil:Less [] []
 |cons {a b:List AV} {as bs:List (List AV)}:Les a b->Less as bs->Less (a::as) (b::bs)
inductive Lesss:List (List (List AV))->List (List (List AV))->Prop
 |nil:Lesss [] []
 |cons {a b:List (List AV)} {as bs:List (List (List AV))}:Less a b->Lesss as bs->Lesss (a::as) (b::bs)
theorem Le.refl (a:AV):Le a a:=⟨fun h=>⟨_,MM _,h⟩,fun h=>h,rfl,fun h=>h⟩
theorem Les.refl:∀as:List AV,Les as as
 | []=> .nil
 |a::as=> .cons (Le.refl a) (Les.refl as)
theorem Less.refl:∀as:List (List AV),Less as as
 | []=> .nil
 |a::as=> .cons (Les.refl a) (Less.refl as)
theorem Les.length {as bs:List AV} (h:Les as bs):bs.length=as.length:=by
 induction h with
 |nil=>rfl
 |cons _ _ ih=>simp [ih]
theorem Less.length {as bs:List (List AV)} (h:Less as bs):bs.length=as.length:=by
 induction h with
 |nil=>rfl
 |cons _ _ ih=>simp [ih]
theorem Les.append {as bs cs ds:List AV} (h:Les as bs) (h':Les cs ds):Les (as ++ cs) (bs ++ ds):=by
 induction h with
 |nil=>exact h'
 |cons h1 _ ih=>exact .cons h1 ih
theorem Less.flatten {xs ys:List (List AV)} (h:Less xs ys):Les xs.flatten ys.flatten:=by
 induction h with
 |nil=>exact .nil
 |cons h1 _ ih=>exact h1.append ih
theorem Less.rows {k:Nat} {xs ys:List (List AV)} (h:Less xs ys) (hx:∀x∈xs,x.length=k):∀y∈ys,y.length=k:=by
 induction h with
 |nil=>simp
 |cons h1 _ ih=>
  intro y hy;rcases List.mem_cons.1 hy with rfl |hy
  ·rw [h1.length];exact hx _ (Uj ..)
  ·exact ih (fun x hx'=>hx x (Ug _ hx')) y hy
mutual
theorem ZgY:∀a:AV,a.clr.clr=a.clr
 | .lit _=>rfl
 | .slc o _ _=>by cases o <;> rfl
 | .opq=>rfl
 | .agg cs=>UC AV.agg (Zen cs)
 | .tup cs=>UC AV.tup (Zen cs)
 | .fn f cs=>UC (AV.fn f) (Zen cs)
 | .rp cs=>UC AV.rp (Zen cs)
 | .gp _ _=>rfl
 | .nilq _=>rfl
theorem Zen:∀as:List AV,clrs (clrs as)=clrs as
 | []=>rfl
 |a::as=>by
  show a.clr.clr::clrs (clrs as)=a.clr::clrs as;rw [ZgY,Zen]
end
theorem ZlX (a:AV):a.clr.ng=a.ng:=by
 cases a <;> try rfl
 rename_i o k xs;cases o <;> rfl
theorem Le.clr {a b:AV} (h:Le a b):Le a.clr b.clr where
 rep r:=⟨[],FH _,h.cl (by have:=r.clr;rwa [ZgY] at this)⟩
 cl r:=by rw [ZgY] at r ⊢;exact h.cl r
 one:=by rw [ZgW,ZgW,h.one]
 ng e:=by rw [ZlX] at e ⊢;exact h.ng e
theorem Les.toClr {as bs:List AV} (h:Les as bs):Les (clrs as) (clrs bs):=by
 induction h with
 |nil=>exact .nil
 |cons h1 _ ih=>exact .cons h1.clr ih
theorem Zra (xs:List (List AV)):Fx.clrs xs.flatten=(xs.map Fx.clrs).flatten:=by
 induction xs with
 |nil=>rfl
 |cons x xs ih=>rw [UM,ZlW,ih];rfl
section
variable {w:World} {Pr:Nat->Nat->Prop} {γ:List Nat} {base:Nat}
theorem Les.reps {as bs:List AV} (h:Les as bs):∀{vs:List Value} {F:List Nat},Reps w Pr γ base as vs F->∃F',F'.Sublist F/\Reps w Pr γ base bs vs F':=by
 induction h with
 |nil=>intro vs F h;exact ⟨F,MM _,h⟩
 |cons h1 _ ih=>
  intro vs F h;cases h with
  |cons e1 e2 e3=>
   obtain ⟨F1,s1,r1⟩:=h1.rep e2;obtain ⟨F2,s2,r2⟩:=ih e3;exact ⟨F1 ++ F2,s1.append s2, .cons (by rw [h1.one];exact e1) r1 r2⟩
theorem Les.repl {as bs:List AV} (h:Les as bs):∀{vs:List Value} {F:List Nat},RepL w Pr γ base as vs F->∃F',F'.Sublist F/\RepL w Pr γ base bs vs F':=by
 induction h with
 |nil=>intro vs F h;exact ⟨F,MM _,h⟩
 |cons h1 _ ih=>
  intro vs F h;cases h with
  |cons e2 e3=>
   obtain ⟨F1,s1,r1⟩:=h1.rep e2;obtain ⟨F2,s2,r2⟩:=ih e3;exact ⟨F1 ++ F2,s1.append s2, .cons r1 r2⟩
theorem Zrb {F G:List Nat} (h:F ++ G= []):F= []/\G= []:=by simpa using h
theorem Les.creps {as bs:List AV} (h:Les as bs):∀{vs:List Value},Reps w Pr γ base (clrs as) vs []->Reps w Pr γ base (clrs bs) vs []:=by
 induction h with
 |nil=>intro vs h;exact h
 |cons h1 _ ih=>
  intro vs h;have h':Reps w Pr γ base (clrs (_::_)) vs []:=h;simp only [clrs] at h';generalize hF:([]:List Nat)=F0 at h';cases h' with
  |cons e1 e2 e3=>
   obtain ⟨rfl,rfl⟩:=Zrb hF.symm;exact Reps.cons (F:= []) (G:= []) (by rw [ZgW] at e1 ⊢;rw [h1.one];exact e1) (h1.cl e2) (ih e3)
theorem Les.crepl {as bs:List AV} (h:Les as bs):∀{vs:List Value},RepL w Pr γ base (clrs as) vs []->RepL w Pr γ base (clrs bs) vs []:=by
 induction h with
 |nil=>intro vs h;exact h
 |cons h1 _ ih=>
  intro vs h;have h':RepL w Pr γ base (clrs (_::_)) vs []:=h;simp only [clrs] at h';generalize hF:([]:List Nat)=F0 at h';cases h' with
  |cons e2 e3=>
   obtain ⟨rfl,rfl⟩:=Zrb hF.symm;exact RepL.cons (F:= []) (G:= []) (h1.cl e2) (ih e3)
end
theorem Le.agg {cs ds:List AV} (h:Les cs ds):Le (.agg cs) (.agg ds) where
 rep r:=by
  cases r with
  |agg r=>obtain ⟨F',s,r'⟩:=h.reps r;exact ⟨F',s, .agg r'⟩
 cl {w Pr γ base v} r:=by
  have r':Rep w Pr γ base (.agg (clrs cs)) v []:=r;show Rep w Pr γ base (.agg (clrs ds)) v [];cases r' with
  |agg r=>exact .agg (h.creps r)
 one:=rfl
 ng h:=h
theorem Le.tup {cs ds:List AV} (h:Les cs ds):Le (.tup cs) (.tup ds) where
 rep r:=by
  cases r with
  |tup r=>obtain ⟨F',s,r'⟩:=h.repl r;exact ⟨F',s, .tup r'⟩
 cl {w Pr γ base v} r:=by
  have r':Rep w Pr γ base (.tup (clrs cs)) v []:=r;show Rep w Pr γ base (.tup (clrs ds)) v [];cases r' with
  |tup r=>exact .tup (h.crepl r)
 one:=rfl
 ng h:=h
theorem Le.rp {cs ds:List AV} (h:Les cs ds):Le (.rp cs) (.rp ds) where
 rep r:=by
  cases r with
  |rp h1 h2 h3 h4 r=>obtain ⟨F',s,r'⟩:=h.reps r;exact ⟨F',s, .rp h1 h2 h3 h4 r'⟩
 cl {w Pr γ base v} r:=by
  have r':Rep w Pr γ base (.rp (clrs cs)) v []:=r;show Rep w Pr γ base (.rp (clrs ds)) v [];cases r' with
  |rp h1 h2 h3 h4 r=>exact .rp h1 h2 h3 h4 (h.creps r)
 one:=rfl
 ng h:=h
theorem Le.fn {f:Nat} {cs ds:List AV} (h:Les cs ds):Le (.fn f cs) (.fn f ds) where
 rep r:=by
  cases r with
  |fn r=>obtain ⟨F',s,r'⟩:=h.reps r;exact ⟨F',s, .fn r'⟩
 cl {w Pr γ base v} r:=by
  have r':Rep w Pr γ base (.fn f (clrs cs)) v []:=r;show Rep w Pr γ base (.fn f (clrs ds)) v [];cases r' with
  |fn r=>exact .fn (h.creps r)
 one:=rfl
 ng h:=h
theorem Zeo {w:World} {Pr:Nat->Nat->Prop} {γ:List Nat} {base k:Nat} {xs ys:List (List AV)} {v:Value} {F:List Nat} (h:Less xs ys) (r:Rep w Pr γ base (.slc .shr k xs) v F):Rep w Pr γ base (.slc .shr k ys) v []:=by
 cases r with
 |shr h2 h3 h4 h5 h6 h7=>exact .shr (h.length.trans h2) h3 h4 (h.rows h5) (h.flatten.creps h6) h7
theorem Le.shr {o:Own} {k:Nat} {xs ys:List (List AV)} (ho:o≠ .unq) (h:Less xs ys):Le (.slc o k xs) (.slc .shr k ys):=by
 cases o with
 |shr=>exact ⟨fun r=>⟨[],FH _,Zeo h r.clr⟩,fun r=>Zeo h r,rfl,fun h=>h⟩
 |own=>exact ⟨fun r=>⟨[],FH _,Zeo h r.clr⟩,fun r=>Zeo h r,rfl,fun h=>h⟩
 |unq=>exact absurd rfl ho
theorem Le.unq {k:Nat} {xs ys:List (List AV)} (h:Less xs ys):Le (.slc .unq k xs) (.slc .unq k ys) where
 rep r:=by
  cases r with
  |unil=>cases h;exact ⟨[],MM _, .unil⟩
  |unq h1 h2 h0 h3 h4 h5 h6 h7 h8 h9=>
   obtain ⟨F',s,r'⟩:=h.flatten.reps h8;exact ⟨_::F',s.cons_cons _, .unq h1 h2 h0 h3 h4 (h.length.trans h5) (h.rows h6) h7 r' h9⟩
 cl r:=r
 one:=rfl
 ng h:=h
theorem Le.own {k:Nat} {xs ys:List (List AV)} (h:Less xs ys):Le (.slc .own k xs) (.slc .own k ys) where
 rep r:=by
  cases r with
  |nil=>cases h;exact ⟨[],MM _, .nil⟩
  |own h1 h2 h3 h4 h5 h6 h7 h8 h9 hpos=>
   obtain ⟨F',s,r'⟩:=h.flatten.reps h8;exact ⟨_::F',s.cons_cons _, .own h1 h2 h3 h4 (h.length.trans h5) (h.rows h6) h7 r' h9 hpos⟩
 cl r:=Zeo h r
 one:=rfl
 ng h:=h
structure RT (D:Type) (L:D->D->Prop) where
 τ:Type
 enc:τ->D
 get:D->{β:Type}->(τ->Option β)->Option β
 ok':∀(d:D) {β:Type} (K:τ->Option β) (r:β),get d K=some r->∃x,L d (enc x)/\∀{γ:Type} (K':τ->Option γ),get d K'=K' x
 spl:τ->{β:Type}->(D->Option β)->Option β:=fun x _ K=>K (enc x)
 spl_eq:∀(x:τ) {β:Type} (K:D->Option β),spl x K=K (enc x):=by intros;rfl
theorem RT.ok {D:Type} {L:D->D->Prop} (R:RT D L) (d:D) {β:Type} (K:R.τ->Option β) (r:β) (h:R.get d K=some r):∃x,L d (R.enc x)/\K x=some r:=by
 obtain ⟨x,h1,h2⟩:=R.ok' d K r h;exact ⟨x,h1,by rw [h2] at h;exact h⟩
abbrev RA:=RT AV Le
abbrev RR:=RT (List AV) Les
def asI {β:Type} (a:AV) (K:Int->Option β):Option β:=match a with | .lit (.int .i64 n)=>K n | _=>none
def asY {β:Type} (a:AV) (K:Int->Option β):Option β:=match a with | .lit (.int .u8 n)=>K n | _=>none
def asB {β:Type} (a:AV) (K:Bool->Option β):Option β:=match a with | .lit (.bool b)=>K b | _=>none
def asS {β:Type} (a:AV) (K:ByteArray->Option β):Option β:=match a with | .lit (.string s)=>K s | _=>none
def rI:RA where
 τ:=Int
 enc n:= .lit (.int .i64 n)
 get a _ K:=asI a K
 ok' a _ K r h:=by
  unfold asI at h;split at h
  ·exact ⟨_,Le.refl _,fun _=>rfl⟩
  ·cases h
def rY:RA where
 τ:=Int
 enc n:= .lit (.int .u8 n)
 get a _ K:=asY a K
 ok' a _ K r h:=by
  unfold asY at h;split at h
  ·exact ⟨_,Le.refl _,fun _=>rfl⟩
  ·cases h
def rB:RA where
 τ:=Bool
 enc n:= .lit (.bool n)
 get a _ K:=asB a K
 ok' a _ K r h:=by
  unfold asB at h;split at h
  ·exact ⟨_,Le.refl _,fun _=>rfl⟩
  ·cases h
def rS:RA where
 τ:=ByteArray
 enc n:= .lit (.string n)
 get a _ K:=asS a K
 ok' a _ K r h:=by
  unfold asS at h;split at h
  ·exact ⟨_,Le.refl _,fun _=>rfl⟩
  ·cases h
def rws (R:RR) {β:Type}:List (List AV)->(List R.τ->Option β)->Option β
 | [],K=>K []
 |x::xs,K=>R.get x fun y=>rws R xs fun ys=>K (y::ys)
theorem ZlY (R:RR) {β:Type} {r:β}:∀{xs:List (List AV)} {K:List R.τ->Option β},rws R xs K=some r->∃l,Less xs (l.map R.enc)/\∀{γ:Type} (K':List R.τ->Option γ),rws R xs K'=K' l
 | [],K,h=>⟨[], .nil,fun _=>rfl⟩
 |x::xs,K,h=>by
  simp only [rws] at h;obtain ⟨y,h1,h2⟩:=R.ok' _ _ _ h;rw [h2] at h;obtain ⟨ys,h3,h4⟩:=ZlY R h;exact ⟨y::ys, .cons h1 h3,fun K'=>by simp only [rws];rw [h2,h4]⟩
def okO:Own->Own->Bool
 | .shr, .shr=>true
 | .shr, .own=>true
 | .own, .own=>true
 | .unq, .unq=>true
 | _,_=>false
def rX (o:Own) (k:Nat) (R:RR):RA where
 τ:=List R.τ
 enc l:= .slc o k (l.map R.enc)
 get a _ K:=match a with
  | .slc o' k' xs=>bif okO o o' && Nat.beq k k' then rws R xs K else none
  | _=>none
 ok' a _ K r h:=by
  split at h
  ·rename_i o' k' xs;cases hk:okO o o' && Nat.beq k k' with
   |false=>rw [hk] at h;cases h
   |true=>
    rw [hk] at h;have hk':=hk;rw [Ub] at hk';obtain rfl:=Ud hk'.2;obtain ⟨l,h1,h2⟩:=ZlY R h;refine ⟨l,?_,fun K'=>by simp only [hk,Ut];exact h2 K'⟩;cases o with
    |shr=>exact Le.shr (by rintro rfl;cases hk'.1) h1
    |own=>
     cases o' with
     |own=>exact Le.own h1
     |shr=>cases hk'.1
     |unq=>cases hk'.1
    |unq=>
     cases o' with
     |unq=>exact Le.unq h1
     |shr=>cases hk'.1
     |own=>cases hk'.1
  ·cases h
abbrev rSl (k:Nat) (R:RR):RA:=rX .shr k R
def Zep:RR where
 τ:=Unit
 enc _:= []
 get d _ K:=match d with | []=>K () | _=>none
 ok' d _ K r h:=by
  split at h
  ·exact ⟨(), .nil,fun _=>rfl⟩
  ·cases h
def Zg (A:RA):RR where
 τ:=A.τ
 enc x:= [A.enc x]
 get d _ K:=match d with | [a]=>A.get a K | _=>none
 ok' d _ K r h:=by
  split at h
  ·obtain ⟨x,h1,h2⟩:=A.ok' _ _ _ h;exact ⟨x, .cons h1 .nil,h2⟩
  ·cases h
def rCo (A:RA) (R:RR):RR where
 τ:=A.τ×R.τ
 enc x:=A.enc x.1::R.enc x.2
 get d _ K:=match d with |a::as=>A.get a fun x=>R.get as fun y=>K (x,y) | _=>none
 ok' d _ K r h:=by
  split at h
  ·obtain ⟨x,h1,h2⟩:=A.ok' _ _ _ h;rw [h2] at h;obtain ⟨y,h3,h4⟩:=R.ok' _ _ _ h;exact ⟨(x,y), .cons h1 h3,fun K'=>by simp only [h2,h4]⟩
  ·cases h
def rAp (n:Nat) (R S:RR):RR where
 τ:=R.τ×S.τ
 enc x:=R.enc x.1 ++ S.enc x.2
 get d _ K:=R.get (d.take n) fun x=>S.get (d.drop n) fun y=>K (x,y)
 ok' d _ K r h:=by
  obtain ⟨x,h1,h2⟩:=R.ok' _ _ _ h;rw [h2] at h;obtain ⟨y,h3,h4⟩:=S.ok' _ _ _ h;exact ⟨(x,y),by have:=h1.append h3;rwa [Up] at this,fun K'=>by simp only [h2,h4]⟩
def RT.map {D:Type} {L:D->D->Prop} (R:RT D L) {σ:Type} (f:R.τ->σ) (g:σ->R.τ) (h:∀x,g (f x)=x):RT D L where
 τ:=σ
 enc s:=R.enc (g s)
 get d _ K:=R.get d fun x=>K (f x)
 ok' d _ K r e:=by
  obtain ⟨x,h1,h2⟩:=R.ok' _ _ _ e;exact ⟨f x,by rw [h];exact h1,fun K'=>h2 _⟩
def rAg (R:RR):RA where
 τ:=R.τ
 enc x:= .agg (R.enc x)
 get a _ K:=match a with | .agg cs=>R.get cs K | _=>none
 ok' a _ K r h:=by
  split at h
  ·obtain ⟨x,h1,h2⟩:=R.ok' _ _ _ h;exact ⟨x,Le.agg h1,h2⟩
  ·cases h
def rTu (R:RR):RA where
 τ:=R.τ
 enc x:= .tup (R.enc x)
 get a _ K:=match a with | .tup cs=>R.get cs K | _=>none
 ok' a _ K r h:=by
  split at h
  ·obtain ⟨x,h1,h2⟩:=R.ok' _ _ _ h;exact ⟨x,Le.tup h1,h2⟩
  ·cases h
def rSp (R S:RA) (f:R.τ->S.τ) (g:S.τ->R.τ) (hf:∀x,f (g x)=x):RA where
 τ:=R.τ×Bool×Bool
 enc x:=bif x.2.2 then .tup [R.enc x.1,Bl x.2.1,Bl true] else .tup [S.enc (f x.1),Bl x.2.1,Bl false]
 get d _ K:=match d with
  | .tup [a, .lit (.bool b), .lit (.bool c)]=>match c with
   |true=>R.get a fun x=>K (x,b,true)
   |false=>S.get a fun x=>K (g x,b,false)
  | _=>none
 ok' d _ K r h:=by
  split at h
  ·rename_i a b c;cases c with
   |true=>
    obtain ⟨x,h1,h2⟩:=R.ok' _ _ _ h;exact ⟨(x,b,true),Le.tup (.cons h1 (.cons (Le.refl _) (.cons (Le.refl _) .nil))),fun K'=>h2 _⟩
   |false=>
    obtain ⟨x,h1,h2⟩:=S.ok' _ _ _ h;exact ⟨(g x,b,false),Le.tup (.cons (by show Le a (S.enc (f (g x)));rw [hf];exact h1) (.cons (Le.refl _) (.cons (Le.refl _) .nil))),fun K'=>h2 _⟩
  ·cases h
 spl x _ K:=cnd x.2.2 (K (.tup [R.enc x.1,Bl x.2.1,Bl true])) (K (.tup [S.enc (f x.1),Bl x.2.1,Bl false]))
 spl_eq x _ K:=by
  obtain ⟨x,b,c⟩:=x;cases c <;> rfl
def rRp (R:RR):RA where
 τ:=R.τ
 enc x:= .rp (R.enc x)
 get a _ K:=match a with | .rp cs=>R.get cs K | _=>none
 ok' a _ K r h:=by
  split at h
  ·obtain ⟨x,h1,h2⟩:=R.ok' _ _ _ h;exact ⟨x,Le.rp h1,h2⟩
  ·cases h
def rFn (f:Nat) (R:RR):RA where
 τ:=R.τ
 enc x:= .fn f (R.enc x)
 get a _ K:=match a with | .fn f' cs=>bif Nat.beq f f' then R.get cs K else none | _=>none
 ok' a _ K r h:=by
  split at h
  ·rename_i f' cs;cases hk:Nat.beq f f' with
   |false=>rw [hk] at h;cases h
   |true=>
    rw [hk] at h;obtain rfl:=Ud hk;obtain ⟨x,h1,h2⟩:=R.ok' _ _ _ h;exact ⟨x,Le.fn h1,fun K'=>by simp only [MC,Ut];exact h2 K'⟩
  ·cases h
def ZAA:RR where
 τ:=List AV
 enc x:=x
 get d _ K:=K d
 ok' d _ _ _ _:=⟨d,Les.refl d,fun _=>rfl⟩
abbrev GS:=List (List AV)
abbrev Pk:=List AV×List (List (List AV))×GS
def Zrc (p q:Pk):Prop:=Les p.1 q.1/\Lesss p.2.1 q.2.1/\Less p.2.2 q.2.2
abbrev RP:=RT Pk Zrc
abbrev Ar:=List AV×GS
def ZAB (p q:Ar):Prop:=Les p.1 q.1/\Less p.2 q.2
abbrev RF:=RT Ar ZAB
abbrev Rs:=AV×GS
def ZAC (p q:Rs):Prop:=Le p.1 q.1/\Less p.2 q.2
abbrev RQ:=RT Rs ZAC
abbrev RO:=RT (List (List (List AV))) Lesss
def pV (V:RR):RP where
 τ:=V.τ
 enc x:=(V.enc x,[],[])
 get d _ K:=match d with | (vs,[],[])=>V.get vs K | _=>none
 ok' d _ K r h:=by
  split at h
  ·obtain ⟨x,h1,h2⟩:=V.ok' _ _ _ h;exact ⟨x,⟨h1, .nil, .nil⟩,h2⟩
  ·cases h
def pVO (V:RR) (O:RO):RP where
 τ:=V.τ×O.τ
 enc x:=(V.enc x.1,O.enc x.2,[])
 get d _ K:=match d with | (vs,os,[])=>V.get vs fun x=>O.get os fun y=>K (x,y) | _=>none
 ok' d _ K r h:=by
  split at h
  ·obtain ⟨x,h1,h2⟩:=V.ok' _ _ _ h;rw [h2] at h;obtain ⟨y,h3,h4⟩:=O.ok' _ _ _ h;exact ⟨(x,y),⟨h1,h3, .nil⟩,fun K'=>by simp only [h2,h4]⟩
  ·cases h
def aV (V:RR):RF where
 τ:=V.τ
 enc x:=(V.enc x,[])
 get d _ K:=match d with | (vs,[])=>V.get vs K | _=>none
 ok' d _ K r h:=by
  split at h
  ·obtain ⟨x,h1,h2⟩:=V.ok' _ _ _ h;exact ⟨x,⟨h1, .nil⟩,h2⟩
  ·cases h
def qV (A:RA):RQ where
 τ:=A.τ
 enc x:=(A.enc x,[])
 spl x _ K:=A.spl x fun a=>K (a,[])
 spl_eq x _ K:=A.spl_eq x fun a=>K (a,[])
 get d _ K:=match d with | (a,[])=>A.get a K | _=>none
 ok' d _ K r h:=by
  split at h
  ·obtain ⟨x,h1,h2⟩:=A.ok' _ _ _ h;exact ⟨x,⟨h1, .nil⟩,h2⟩
  ·cases h
def XR (R:RR) (O:RO):RO where
 τ:=R.τ×O.τ
 enc x:= [R.enc x.1]::O.enc x.2
 get d _ K:=match d with | [c]::os=>R.get c fun x=>O.get os fun y=>K (x,y) | _=>none
 ok' d _ K r h:=by
  split at h
  ·obtain ⟨x,h1,h2⟩:=R.ok' _ _ _ h;rw [h2] at h;obtain ⟨y,h3,h4⟩:=O.ok' _ _ _ h;exact ⟨(x,y), .cons (.cons h1 .nil) h3,fun K'=>by simp only [h2,h4]⟩
  ·cases h
def YC (R:RR):RO where
 τ:=R.τ
 enc x:= [[R.enc x]]
 get d _ K:=match d with | [[c]]=>R.get c K | _=>none
 ok' d _ K r h:=by
  split at h
  ·obtain ⟨x,h1,h2⟩:=R.ok' _ _ _ h;exact ⟨x, .cons (.cons h1 .nil) .nil,h2⟩
  ·cases h
def Qm (R:RR):RO where
 τ:=List R.τ
 enc x:= [x.map R.enc]
 get d _ K:=match d with | [xs]=>rws R xs K | _=>none
 ok' d _ K r h:=by
  split at h
  ·obtain ⟨x,h1,h2⟩:=ZlY R h;exact ⟨x, .cons h1 .nil,h2⟩
  ·cases h
end Go.Fx
