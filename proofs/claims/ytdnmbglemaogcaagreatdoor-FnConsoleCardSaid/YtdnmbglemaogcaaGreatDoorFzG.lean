/- Operations that only compute. -/
import Derived.Test.YtdnmbglemaogcaaGreatDoorFzF
import Derived.Laws.StructEq
set_option linter.all false
namespace Go.Fx
section
variable {P:Program} {GE:Glob} {nt:Nat} {s:St} {w:World} {Pr:Nat->Nat->Prop} {γ:List Nat} {base:Nat}
theorem Xq {k:IntKind} {n:Int} {v:Value} {F:List Nat} (h:Rep w Pr γ base (.lit (.int k n)) v F):v= .int k n:=by cases h;rfl
theorem K6 {b:Bool} {v:Value} {F:List Nat} (h:Rep w Pr γ base (.lit (.bool b)) v F):v= .bool b:=by cases h;rfl
theorem Zcp {b:ByteArray} {v:Value} {F:List Nat} (h:Rep w Pr γ base (.lit (.string b)) v F):v= .string b:=by cases h;rfl
theorem Zcq {u v:Value} {F:List Nat} (h:Rep w Pr γ base (.lit u) v F):v=u/\Yh u=true/\F= []:=by cases h;exact ⟨rfl,by assumption,rfl⟩
theorem Zxh {op:BinOp} {k:IntKind} {x y:Int} {c:AV} (t:TypeId) (h:ZdW op k x y=some c):
    ∃u,(binOp op t (.int k x) (.int k y)).run P w= .ok u w/\c= .lit u/\Yh u=true:=by
  cases op <;> simp only [ZdW] at h <;> first
    | (cases h;exact ⟨_,by simp [binOp,Op.intArith,Op.intBits,Op.intCmp],rfl,rfl⟩)
    | (split at h
       · cases h
       · rename_i hy;cases h;exact ⟨_,by simp [binOp,Op.intDiv,hy],rfl,rfl⟩)
    | (cases h;done)
theorem Zxi {op:BinOp} {x y:ByteArray} {c:AV} (t:TypeId) (h:Zf4 op x y=some c):
    ∃u,(binOp op t (.string x) (.string y)).run P w= .ok u w/\c= .lit u/\Yh u=true:=by
  cases op <;> simp only [Zf4] at h <;> first
    | (cases h;exact ⟨_,by simp [binOp,Op.stringOp],rfl,rfl⟩)
    | (split at h
       · rename_i hy;cases h;refine ⟨.string (x ++ y),?_,rfl,rfl⟩;have hz:¬(((x.size + y.size:Nat):Int) > IntKind.i64.max):=by
           have:IntKind.i64.max=9223372036854775807:=rfl;rw [this];omega
         simp [binOp,Op.stringOp] at hz ⊢;omega
       · cases h)
    | (cases h;done)
theorem Zcr {T:Nat->TD} (hT:TOk P T) {t:Nat} {z:Value} (h:T t= .sc z):∃ds,P.underlying t=some ds/\Xp ds z=true:=by
 have:=hT t;unfold Qc at this;rw [h] at this;exact this.1
theorem Zxj {ds:TypeDesc} {b:Bool} (h:Xp ds (.bool b)=true):ds= .bool:=by
 cases ds <;> first |rfl | (simp [Xp] at h;done)
theorem ZkV {ds:TypeDesc} {z a:Value} (hz:Xp ds z=true) (h:YH a=YH z) (h0:YH z≠0):
  (∃k,ds= .int k/\YH z=1)\/(ds= .bool/\YH z=2)\/(ds= .string/\YH z=3):=by
 cases ds <;> cases z <;> simp_all [Xp,YH]
theorem Zxk {d:Nat} {t:Nat} {ds:TypeDesc} {z a b:Value} {r:Bool} (hu:P.underlying t=some ds) (hz:Xp ds z=true) (ha:YH a=YH z) (h0:YH z≠0)
  (h:KW (.lit a) (.lit b)=some r):(Op.equalIn (d + 1) t a b).run P w= .ok r w:=by
 unfold KW at h;split at h
 ·rename_i k x k' y e1 e2;cases e1;cases e2;split at h
  ·rename_i hk;subst hk;cases h;rcases ZkV hz ha h0 with ⟨k2,rfl,_⟩ | ⟨rfl,h2⟩ | ⟨rfl,h2⟩
   ·exact run_equalIn_int w d t k _ x y hu
   ·rw [h2] at ha;cases ha
   ·rw [h2] at ha;cases ha
  ·cases h
 ·rename_i x y e1 e2;cases e1;cases e2;cases h;rcases ZkV hz ha h0 with ⟨k2,rfl,h2⟩ | ⟨rfl,h2⟩ | ⟨rfl,h2⟩
  ·rw [h2] at ha;cases ha
  ·exact run_equalIn_bool' w d t x y hu
  ·rw [h2] at ha;cases ha
 ·rename_i x y e1 e2;cases e1;cases e2;cases h;rcases ZkV hz ha h0 with ⟨k2,rfl,h2⟩ | ⟨rfl,h2⟩ | ⟨rfl,h2⟩
  ·rw [h2] at ha;cases ha
  ·rw [h2] at ha;cases ha
  ·rw [run_equalIn_string w d t x y hu,beq_toListBytes]
 ·cases h
theorem ZkW {cz:List (Option Nat×Value)}:∀{ks:List Nat},KT cz=some ks->ks.length=cz.length/\∀(i:Nat) (o:Option Nat) (z:Value),cz[i]? =some (o,z)->ks[i]? =some (YH z)/\YH z≠0:=by
 induction cz with
 |nil=>intro ks h;cases h;simp
 |cons p r ih=>
  intro ks h;obtain ⟨o,z⟩:=p;cases o with
  |some k=>cases h
  |none=>
   simp only [KT] at h;cases hb:Nat.beq (YH z) 0 with
   |true=>rw [hb] at h;cases h
   |false=>
    rw [hb] at h;cases hr:KT r with
    |none=>rw [hr] at h;cases h
    |some ks'=>
     rw [hr] at h;cases h;obtain ⟨h1,h2⟩:=ih hr;refine ⟨by simp [h1],fun i o z' hi=> ?_⟩;cases i with
     |zero=>
      simp at hi;obtain ⟨_,rfl⟩:=hi;refine ⟨rfl,fun e=> ?_⟩;rw [e] at hb;cases hb
     |succ i=>simpa using h2 i o z' (by simpa using hi)
theorem Zph {t:Nat} {ds:TypeDesc} {z:Value} (hu:P.underlying t=some ds) (hz:Xp ds z=true):(isAgg t).run P w= .ok false w:=by
 cases ds <;> simp [Xp] at hz <;> simp [isAgg,run_underlying hu]
theorem Zpi {t:Nat} {ds:TypeDesc} {z v:Value} {cs:Array Value} {off:Nat} (hu:P.underlying t=some ds) (hz:Xp ds z=true) (hc:cs[off]? =some v):(part t cs off).run P w= .ok v w:=by
 simp [part,Zph hu hz,hc]
theorem Zpj {d:Nat} {cz:List (Option Nat×Value)} {ks:List Nat} {xs ys:Array Value} (hk:KT cz=some ks):
  ∀{fs:List Field} {i:Nat} {as bs:List AV} {us vs:List Value} {F G:List Nat} {r:Bool},Zcn P cz i fs->Vj (ks.drop i) as bs=some r->
   Reps w Pr γ base as us F->Reps w Pr γ base bs vs G->(∀j,us[j]? =xs[i + j]?)->(∀j,vs[j]? =ys[i + j]?)->(Op.eqFields (d + 1) xs ys fs).run P w= .ok r w
 | [],i,as,bs,us,vs,F,G,r,hp,he,h1,h2,h3,h4=>by
  obtain ⟨hl,_⟩:=ZkW hk;have hi:i=cz.length:=hp;rw [Mf (by omega)] at he;cases as <;> cases bs <;> simp [Vj] at he
  subst he;simp [Op.eqFields]
 |f::fs,i,as,bs,us,vs,F,G,r,hp,he,h1,h2,h3,h4=>by
  obtain ⟨hl,hks⟩:=ZkW hk;obtain ⟨p1,p2,⟨ds,z,p3,p4,p5⟩,p6⟩:=hp;obtain ⟨hk1,hk2⟩:=hks i none z p5;have hlt:i < ks.length:=by
   rcases U1 i ks.length with h |h
   ·exact h
   ·rw [UP h] at hk1;cases hk1
  rw [UN hlt] at he;have hki:ks[i]=YH z:=by rw [Ub hlt] at hk1;exact UB hk1
  rw [hki] at he;cases as with
  |nil=>cases bs <;> simp [Vj] at he
  |cons a as=>
  cases bs with
  |nil=>cases a <;> simp [Vj] at he
  |cons b bs=>
  obtain ⟨a1,rfl⟩:∃u,a= .lit u:=by cases a <;> first |exact ⟨_,rfl⟩ | (simp [Vj] at he;done)
  obtain ⟨b1,rfl⟩:∃u,b= .lit u:=by cases b <;> first |exact ⟨_,rfl⟩ | (simp [Vj] at he;done)
  simp only [Vj] at he;cases hb:Nat.beq (YH a1) (YH z) && Nat.beq (YH b1) (YH z) with
  |false=>rw [hb] at he;cases he
  |true=>
   rw [hb] at he;simp only [Ua] at hb;cases h1 with
   | @cons _ v1 _ _ _ _ _ ha h1=>
   cases h2 with
   | @cons _ v2 _ _ _ _ _ hb' h2=>
   obtain ⟨rfl,_,_⟩:=Zcq ha;obtain ⟨rfl,_,_⟩:=Zcq hb';cases hq:KW (.lit v1) (.lit v2) with
   |none=>rw [hq] at he;cases he
   |some e=>
    rw [hq] at he;simp only [Uo,UF] at he;have hx:=h3 0;have hy:=h4 0;simp only [Fv,M2] at hx hy;have hrun:=Zxk (d:=d) (w:=w) p3 p4 (Ud hb.1) hk2 hq;simp only [Op.eqFields];rw [Uj p1];subst p2;simp only [Sem.run_bind,Zpi p3 p4 hx.symm,Zpi p3 p4 hy.symm,hrun,Result.andThen_ok];cases e with
    |false=>simp at he;subst he;simp
    |true=>
     simp only [Uo] at he;simp only [Uk,MK,My];exact Zpj hk p6 he h1 h2 (fun j=>by have:=h3 (j + 1);rw [Mn] at this;rw [this];congr 1;omega)
      (fun j=>by have:=h4 (j + 1);rw [Mn] at this;rw [this];congr 1;omega)
end
end Go.Fx
