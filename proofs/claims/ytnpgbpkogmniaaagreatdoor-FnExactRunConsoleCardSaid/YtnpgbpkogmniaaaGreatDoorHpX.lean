/- Part of the proof: see the last text of the claim. -/
import Derived.Test.YtnpgbpkogmniaaaGreatDoorGTyLX
import Derived.Test.YtnpgbpkogmniaaaGreatDoorShX
set_option linter.all false
namespace Go.Sh
open Go.Fx
def VQ (s:Path):Prop:=Rg s.id/\Rg s.kind/\Rg s.src/\Rg s.dst
def ZY (s:Control):Prop:=Sm s.stage/\Sm s.next
def Zje (s:Control):Prop:=(s.stage.length<=maxLen/\∀y∈s.stage,Rg y)/\Rg s.since/\(s.next.length<=maxLen/\∀y∈s.next,Rg y)/\Rg s.left
def XC (s:Note):Prop:=Sm s.lights
def Zw (s:Town):Prop:=Sm s.paths/\ZY s.control/\Sm s.wants/\Sm s.lamps/\(Sm s.record/\∀y∈s.record,XC y)
def Zsc (s:Report):Prop:=Rg s.path/\Rg s.second/\Rg s.light/\Rg s.since/\Rg s.other
def Zjf (s:Part):Prop:=Sm s.stage
def Zm1 (s:Part):Prop:=(s.stage.length<=maxLen/\∀y∈s.stage,Rg y)/\Rg s.green
theorem ZBW (a b:ByteArray):(a.toList=b.toList)=(a=b):=by
 rw [ByteArray.toList_eq,ByteArray.toList_eq];refine propext ⟨fun h=> ?_,fun h=>by rw [h]⟩;cases a;cases b;simp only at h;rw [ByteArray.mk.injEq];exact Array.toList_inj.1 h
theorem ZBX (a b:(List ByteArray)) (h:Sm a):Zfq a b=some (decide (a=b)):=by
 have hl:=h;unfold Sm at hl;unfold Zfq;simp only [Zt,Zk,Zp,Zr,Zv,YF,Xm];by_cases hab:a.length=b.length
 ·rw [show (((a.length:Nat):Int) != ((b.length:Nat):Int))=false by simp [hab],Zf];refine ZBj a b hab (by omega) ?_ ?_
  ·intro rec;simp
  ·intro rec k x y hx hy hk;simp [hk,Zh hx,Zh hy,ZBi (show k<=9223372036854775806 by omega),ZG,ZBW]
 ·have hne:a≠b:=fun e=>hab (by rw [e])
  rw [show (((a.length:Nat):Int) != ((b.length:Nat):Int))=true by simp;omega,Zn];simp [hne]
inductive HdL {α:Type} (Hd:α->Int->Int->Prop):List α->Int->Int->Prop
 |nil (k:Int):HdL Hd [] k 0
 |cons {y:α} {ys:List α} {k n m:Int}:Hd y k n->HdL Hd ys (k + n) m->HdL Hd (y::ys) k (n + m)
theorem HdL.nonneg {α:Type} {Hd:α->Int->Int->Prop} (hn:∀y k n,Hd y k n->0<=n) {b:List α} {k n:Int} (h:HdL Hd b k n):0<=n:=by
 induction h with
 |nil=>omega
 |cons h1 _ ih=>have:=hn _ _ _ h1;omega
theorem Zsd {α:Type} {F:((List α×(Int×Int))->Option Int)->(List α×(Int×Int))->Option Int} (Hd:α->Int->Int->Prop) (l:List α) (hl:l.length<=1048576) (hn:∀y k n,Hd y k n->0<=n)
  (h0:∀rec k,F rec (l,(k,(l.length:Int)))=some k)
  (h1:∀rec k (i:Nat) y n,l[i]? =some y->i < l.length->i < 1048576->0<=k->k + n<=1152921504606846976->0<=n->Hd y k n->F rec (l,(k,(i:Int)))=rec (l,(k + n,((i + 1:Nat):Int)))):
  ∀(m:Nat) (b:List α) (k n:Int) (i:Nat),l.drop i=b->i<=l.length->l.length - i < m->0<=k->k + n<=1152921504606846976->HdL Hd b k n->Ze F m (l,(k,(i:Int)))=some (k + n)
 | 0,b,k,n,i,_,_,hm,_,_,_=>by omega
 |m + 1,b,k,n,i,hb,hi,hm,hk,hkn,hd=>by
  rw [Vd];cases hd with
  |nil=>
   have:i=l.length:=by
    have:=UC List.length hb;simp at this;omega
   subst this;rw [h0];simp
  | @cons y ys _ n1 n2 g1 g2=>
   have hlt:i < l.length:=by
    have:=UC List.length hb;simp at this;omega
   have hy:l[i]? =some y:=by
    have:(l.drop i)[0]? =some y:=by rw [hb];rfl
    simpa using this
   have:=hn _ _ _ g1;have:=g2.nonneg hn;rw [h1 _ k i y n1 hy hlt (by omega) hk (by omega) (by omega) g1];have hb2:l.drop (i + 1)=ys:=by
    rw [UH hlt] at hb;exact (List.cons.inj hb).2
   rw [Zsd Hd l hl hn h0 h1 m ys (k + n1) n2 (i + 1) hb2 hlt (by omega) (by omega) (by omega) g2];congr 1;omega
theorem Zse {β:Type} {p:Prop} [Decidable p] (h:¬p) (x y:Option β):cnd (decide p) x y=y:=by
 unfold cnd;simp [h]
end Go.Sh
