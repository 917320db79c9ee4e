/- Operations that only compute. -/
import Derived.Test.YthkckbidcpmckaaGreatDoorFzF
import Derived.Laws.StructEq
set_option linter.all false
namespace Go.Fx
section
variable {P:Program} {GE:Glob} {nt:Nat} {s:St} {w:World} {Pr:Nat->Nat->Prop} {γ:List Nat} {base:Nat}
theorem XB {k:IntKind} {n:Int} {v:Value} {F:List Nat} (h:Rep w Pr γ base (.lit (.int k n)) v F):v= .int k n:=by cases h;rfl
theorem Zaj {b:Bool} {v:Value} {F:List Nat} (h:Rep w Pr γ base (.lit (.bool b)) v F):v= .bool b:=by cases h;rfl
theorem ZcV {b:ByteArray} {v:Value} {F:List Nat} (h:Rep w Pr γ base (.lit (.string b)) v F):v= .string b:=by cases h;rfl
theorem ZbA {u v:Value} {F:List Nat} (h:Rep w Pr γ base (.lit u) v F):v=u/\Yi u=true/\F= []:=by cases h;exact ⟨rfl,by assumption,rfl⟩
theorem ZAK {op:BinOp} {k:IntKind} {x y:Int} {c:AV} (t:TypeId) (h:Zer op k x y=some c):
    ∃u,(binOp op t (.int k x) (.int k y)).run P w= .ok u w/\c= .lit u/\Yi u=true:=by
  cases op <;> simp only [Zer] at h <;> first
    | (cases h;exact ⟨_,by simp [binOp,Op.intArith,Op.intBits,Op.intCmp],rfl,rfl⟩)
    | (split at h
       · cases h
       · rename_i hy;cases h;exact ⟨_,by simp [binOp,Op.intDiv,hy],rfl,rfl⟩)
    | (cases h;done)
theorem ZAL {op:BinOp} {x y:ByteArray} {c:AV} (t:TypeId) (h:Zg2 op x y=some c):
    ∃u,(binOp op t (.string x) (.string y)).run P w= .ok u w/\c= .lit u/\Yi u=true:=by
  cases op <;> simp only [Zg2] at h <;> first
    | (cases h;exact ⟨_,by simp [binOp,Op.stringOp],rfl,rfl⟩)
    | (split at h
       · rename_i hy;cases h;refine ⟨.string (x ++ y),?_,rfl,rfl⟩;have hz:¬(((x.size + y.size:Nat):Int) > IntKind.i64.max):=by
           have:IntKind.i64.max=9223372036854775807:=rfl;rw [this];omega
         simp [binOp,Op.stringOp] at hz ⊢;omega
       · cases h)
    | (cases h;done)
theorem ZcW {T:Nat->TD} (hT:TOk P T) {t:Nat} {z:Value} (h:T t= .sc z):∃ds,P.underlying t=some ds/\XA ds z=true:=by
 have:=hT t;unfold Qs at this;rw [h] at this;exact this.1
theorem ZAM {ds:TypeDesc} {b:Bool} (h:XA ds (.bool b)=true):ds= .bool:=by
 cases ds <;> first |rfl | (simp [XA] at h;done)
theorem Zmy {ds:TypeDesc} {z a:Value} (hz:XA ds z=true) (h:YH a=YH z) (h0:YH z≠0):
  (∃k,ds= .int k/\YH z=1)\/(ds= .bool/\YH z=2)\/(ds= .string/\YH z=3):=by
 cases ds <;> cases z <;> simp_all [XA,YH]
theorem ZAN {d:Nat} {t:Nat} {ds:TypeDesc} {z a b:Value} {r:Bool} (hu:P.underlying t=some ds) (hz:XA ds z=true) (ha:YH a=YH z) (h0:YH z≠0)
  (h:K9 (.lit a) (.lit b)=some r):(Op.equalIn (d + 1) t a b).run P w= .ok r w:=by
 unfold K9 at h;split at h
 ·rename_i k x k' y e1 e2;cases e1;cases e2;split at h
  ·rename_i hk;subst hk;cases h;rcases Zmy hz ha h0 with ⟨k2,rfl,_⟩ | ⟨rfl,h2⟩ | ⟨rfl,h2⟩
   ·exact run_equalIn_int w d t k _ x y hu
   ·rw [h2] at ha;cases ha
   ·rw [h2] at ha;cases ha
  ·cases h
 ·rename_i x y e1 e2;cases e1;cases e2;cases h;rcases Zmy hz ha h0 with ⟨k2,rfl,h2⟩ | ⟨rfl,h2⟩ | ⟨rfl,h2⟩
  ·rw [h2] at ha;cases ha
  ·exact run_equalIn_bool' w d t x y hu
  ·rw [h2] at ha;cases ha
 ·rename_i x y e1 e2;cases e1;cases e2;cases h;rcases Zmy hz ha h0 with ⟨k2,rfl,h2⟩ | ⟨rfl,h2⟩ | ⟨rfl,h2⟩
  ·rw [h2] at ha;cases ha
  ·rw [h2] at ha;cases ha
  ·rw [run_equalIn_string w d t x y hu,beq_toListBytes]
 ·cases h
theorem Zmz {cz:List (Option Nat×Value)}:∀{ks:List Nat},K6 cz=some ks->ks.length=cz.length/\∀(i:Nat) (o:Option Nat) (z:Value),cz[i]? =some (o,z)->ks[i]? =some (YH z)/\YH z≠0:=by
 induction cz with
 |nil=>intro ks h;cases h;simp
 |cons p r ih=>
  intro ks h;obtain ⟨o,z⟩:=p;cases o with
  |some k=>cases h
  |none=>
   simp only [K6] at h;cases hb:Nat.beq (YH z) 0 with
   |true=>rw [hb] at h;cases h
   |false=>
    rw [hb] at h;cases hr:K6 r with
    |none=>rw [hr] at h;cases h
    |some ks'=>
     rw [hr] at h;cases h;obtain ⟨h1,h2⟩:=ih hr;refine ⟨by simp [h1],fun i o z' hi=> ?_⟩;cases i with
     |zero=>
      simp at hi;obtain ⟨_,rfl⟩:=hi;refine ⟨rfl,fun e=> ?_⟩;rw [e] at hb;cases hb
     |succ i=>simpa using h2 i o z' (by simpa using hi)
theorem Zro {t:Nat} {ds:TypeDesc} {z:Value} (hu:P.underlying t=some ds) (hz:XA ds z=true):(isAgg t).run P w= .ok false w:=by
 cases ds <;> simp [XA] at hz <;> simp [isAgg,run_underlying hu]
theorem Zrp {t:Nat} {ds:TypeDesc} {z v:Value} {cs:Array Value} {off:Nat} (hu:P.underlying t=some ds) (hz:XA ds z=true) (hc:cs[off]? =some v):(part t cs off).run P w= .ok v w:=by
 simp [part,Zro hu hz,hc]
theorem Zrq {d:Nat} {cz:List (Option Nat×Value)} {ks:List Nat} {xs ys:Array Value} (hk:K6 cz=some ks):
  ∀{fs:List Field} {i:Nat} {as bs:List AV} {us vs:List Value} {F G:List Nat} {r:Bool},ZcT P cz i fs->VA (ks.drop i) as bs=some r->
   Reps w Pr γ base as us F->Reps w Pr γ base bs vs G->(∀j,us[j]? =xs[i + j]?)->(∀j,vs[j]? =ys[i + j]?)->(Op.eqFields (d + 1) xs ys fs).run P w= .ok r w
 | [],i,as,bs,us,vs,F,G,r,hp,he,h1,h2,h3,h4=>by
  obtain ⟨hl,_⟩:=Zmz hk;have hi:i=cz.length:=hp;rw [Me (by omega)] at he;cases as <;> cases bs <;> simp [VA] at he
  subst he;simp [Op.eqFields]
 |f::fs,i,as,bs,us,vs,F,G,r,hp,he,h1,h2,h3,h4=>by
  obtain ⟨hl,hks⟩:=Zmz hk;obtain ⟨p1,p2,⟨ds,z,p3,p4,p5⟩,p6⟩:=hp;obtain ⟨hk1,hk2⟩:=hks i none z p5;have hlt:i < ks.length:=by
   rcases U2 i ks.length with h |h
   ·exact h
   ·rw [UP h] at hk1;cases hk1
  rw [UF hlt] at he;have hki:ks[i]=YH z:=by rw [Ua hlt] at hk1;exact Un hk1
  rw [hki] at he;cases as with
  |nil=>cases bs <;> simp [VA] at he
  |cons a as=>
  cases bs with
  |nil=>cases a <;> simp [VA] at he
  |cons b bs=>
  obtain ⟨a1,rfl⟩:∃u,a= .lit u:=by cases a <;> first |exact ⟨_,rfl⟩ | (simp [VA] at he;done)
  obtain ⟨b1,rfl⟩:∃u,b= .lit u:=by cases b <;> first |exact ⟨_,rfl⟩ | (simp [VA] at he;done)
  simp only [VA] at he;cases hb:Nat.beq (YH a1) (YH z) && Nat.beq (YH b1) (YH z) with
  |false=>rw [hb] at he;cases he
  |true=>
   rw [hb] at he;simp only [Ub] at hb;cases h1 with
   | @cons _ v1 _ _ _ _ _ ha h1=>
   cases h2 with
   | @cons _ v2 _ _ _ _ _ hb' h2=>
   obtain ⟨rfl,_,_⟩:=ZbA ha;obtain ⟨rfl,_,_⟩:=ZbA hb';cases hq:K9 (.lit v1) (.lit v2) with
   |none=>rw [hq] at he;cases he
   |some e=>
    rw [hq] at he;simp only [Ut,UG] at he;have hx:=h3 0;have hy:=h4 0;simp only [FB,MZ] at hx hy;have hrun:=ZAN (d:=d) (w:=w) p3 p4 (Ud hb.1) hk2 hq;simp only [Op.eqFields];rw [Ul p1];subst p2;simp only [Sem.run_bind,Zrp p3 p4 hx.symm,Zrp p3 p4 hy.symm,hrun,Result.andThen_ok];cases e with
    |false=>simp at he;subst he;simp
    |true=>
     simp only [Ut] at he;simp only [Ui,MV,Mw];exact Zrq hk p6 he h1 h2 (fun j=>by have:=h3 (j + 1);rw [Mq] at this;rw [this];congr 1;omega)
      (fun j=>by have:=h4 (j + 1);rw [Mq] at this;rw [this];congr 1;omega)
end
end Go.Fx
