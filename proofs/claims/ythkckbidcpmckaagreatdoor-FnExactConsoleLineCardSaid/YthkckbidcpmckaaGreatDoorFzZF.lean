/- Part of the proof: see the last text of the claim. -/
import Derived.Test.YthkckbidcpmckaaGreatDoorFzZC
import Derived.Below
import Derived.Shelf.Strings.OnBuilder
import Derived.Shelf.Strconv.Itoa3
set_option linter.all false
/- Functions of the library, out of the kit's shelf: strings. -/
namespace Go.Fx
open Go.RowKit Go.Proofs
section
variable {P:Program} {w w':World} {Pr:Nat->Nat->Prop} {γ:List Nat} {base:Nat} {D:Nat->Prop}
theorem ZDD (h:Below w.heap.size w w'):Ext D Pr w w' where
 os:=h.os
 tape:=h.tape
 output:=h.output
 size:=h.size
 blk:=fun b hb _=>h.block b hb
 cell:=fun b _ hb _=>h.cell hb
 shp:=fun b cur e hb=>⟨cur,by rw [h.block b (Array.getElem?_eq_some_iff.1 hb).1];exact hb,rfl⟩
theorem Ztq {v:Value} (h:Below w.heap.size w w') (hs:Yi v=true) (hpr:∀b i,Pr b i->b < w.heap.size):CallPost D w Pr [] (.lit v) [] v w':=
 ⟨fun _=>none,Pr,[],[],ZDD h,fun _ _ _ _=>Ms,fun _ _ _ h=>h, .lit hs, .nil,(fun _ h=>by cases h),(fun _ _ h=>by cases h),rfl,(fun _ _ h=>h),(fun b i hb=>UB (hpr b i hb) h.size),(fun _ _ h=>by cases h),(fun _ _ h=>by cases h)⟩
theorem Ztr {ng:Nat} {G0:Nat->Option Obj} {f:Nat} {fn:Func} {R:RR} {A:RA} {S:R.τ->Option A.τ} (hfn:P.funcs[f]? =some fn) (hname:(fn.name== "runtime.NumGoroutine")=false) (hb:fn.body.isSome=true)
  (h:∀x r,S x=some r->∃v,A.enc r= .lit v/\Yi v=true/\∀(w:World) (Pr:Nat->Nat->Prop) (γ:List Nat) (vs:List Value) (F:List Nat),RepL w Pr γ w.heap.size (R.enc x) vs F->
   Calls P f vs.toArray w fun e w'=>e= .returned v/\Below w.heap.size w w'):VH P ng G0 f ⟨aV R,qV A,S⟩:=by
 intro x r hr w Pr γ owg vs F hargs hnd hdis hlabs hgob hglen hprl hlt hng hgl hngo;obtain ⟨v,h1,h2,h3⟩:=h x r hr;obtain ⟨c,hc⟩:=Option.isSome_iff_exists.1 hb;have hγ:γ= []:=List.length_eq_zero_iff.1 hglen;subst hγ;refine ⟨run_callFunc hfn hname hc _ _,(h3 w Pr [] vs F hargs).mono fun e w' he=> ?_⟩;obtain ⟨rfl,hbl⟩:=he;show CallPost _ w Pr [] (A.enc r) [] v w';rw [h1];exact Ztq hbl h2 hprl
theorem ZDE:∀(l:List ByteArray),clrs (l.map (Zg rS).enc).flatten=l.map Sg:=by
 intro l
 induction l with
 |nil=>rfl
 |cons a l ih=>exact UC (Sg a:: ·) ih
theorem Zts:∀{l:List ByteArray} {vs:List Value} {F:List Nat},Reps w Pr γ base (l.map Sg) vs F->vs=l.map Value.string
 | [],_,_,h=>by cases h;rfl
 |s::l,_,_,h=>by
  cases h with
  |cons _ h1 h2=>cases h1;rw [Zts h2];rfl
def ZbQ (l:List ByteArray) (sep:ByteArray):ByteArray:=⟨(Lib.join (l.map (·.data.toList)) sep.data.toList).toArray⟩
def ZbR (l:List ByteArray) (sep:ByteArray):Option ByteArray:=
 ifA (l.length<=140737488355328/\(Lib.join (l.map (·.data.toList)) sep.data.toList).length<=140737488355328) (some (ZbQ l sep))
theorem ZDF {l:List ByteArray} {sep r:ByteArray} (h:ZbR l sep=some r):l.length<=140737488355328/\(Lib.join (l.map (·.data.toList)) sep.data.toList).length<=140737488355328/\r=ZbQ l sep:=by
 unfold ZbR ifA at h;split at h
 ·rename_i hc;exact ⟨hc.1,hc.2,(Un h).symm⟩
 ·cases h
theorem ZDG {ρ:Go.Shelf.Ren} (L:Lays.n156 P ρ) (X:Builder.Extra P ρ) {l:List ByteArray} {sep:ByteArray} (h1:l.length<=140737488355328) (h2:(Lib.join (l.map (·.data.toList)) sep.data.toList).length<=140737488355328)
  {vs:List Value} {F:List Nat} (ha:RepL w Pr γ base [.slc .shr 1 (l.map (Zg rS).enc),Sg sep] vs F):Calls P (ρ.f 156) vs.toArray w fun e w'=>e= .returned (.string (ZbQ l sep))/\Below w.heap.size w w':=by
 cases ha with
 | @cons _ v1 _ _ vs1 _ a1 a2=>
 cases a2 with
 | @cons _ v2 _ _ vs2 _ b1 b2=>
 cases b2;cases b1;cases a1 with
 | @shr _ n cap _ A us c1 c2 c3 c4 c5 c6=>
 rw [ZDE] at c5;have hus:=Zts c5;subst hus;have hn:l.length=n:=(Uy _).symm.trans c1;subst hn;rcases c6 with h0 | ⟨ad,rfl,hsp,hcl,hpr,hlt⟩
 ·cases l with
  |cons a l=>simp at h0
  |nil=>
   refine (Any.strings_Join_none L X A cap sep w).mono fun e w' he=>⟨he.1,he.2 ▸ Below.refl _ _⟩
 ·obtain ⟨bk,o,sp⟩:=ad;cases hsp;refine Any.strings_Join L X bk o cap l sep w (fun j x hx=> ?_) hlt h1 c2 h2;exact hcl j _ (by simp [hx])
theorem ZDH {ng:Nat} {G0:Nat->Option Obj} {ρ:Go.Shelf.Ren} {f:Nat} {fn:Func} (L:Lays.n156 P ρ) (X:Builder.Extra P ρ) (hf:ρ.f 156=f) (hfn:P.funcs[f]? =some fn) (hname:(fn.name== "runtime.NumGoroutine")=false) (hb:fn.body.isSome=true):
  VH P ng G0 f ⟨aV (rCo (rX .shr 1 (Zg rS)) (Zg rS)),qV rS,fun x:List ByteArray×ByteArray=>ZbR x.1 x.2⟩:=by
 subst hf;refine Ztr hfn hname hb fun x r hr=> ?_
 obtain ⟨h1,h2,rfl⟩:=ZDF hr;exact ⟨.string (ZbQ x.1 x.2),rfl,rfl,fun w Pr γ vs F ha=>ZDG L X h1 h2 ha⟩
end
end Go.Fx
/- Functions of the library, out of the kit's shelf: numbers' texts. -/
namespace Go.Fx
open Go.RowKit Go.Proofs Go.Sort
section
variable {P:Program} {w w':World} {Pr:Nat->Nat->Prop} {γ:List Nat} {base:Nat} {D:Nat->Prop}
theorem ZDI (w:World) (k:Nat) (os:Array Obj):Below w.heap.size w (grow (w.drewN k) os):=by
 refine ⟨rfl,rfl,rfl,?_,fun b hb=> ?_⟩
 ·show w.heap.size<=(w.heap ++ os).size;simp
 ·show (w.heap ++ os)[b]? =_;rw [Fk hb]
theorem ZDJ {ng:Nat} {G0:Nat->Option Obj} {f:Nat} {fn:Func} {R:RR} {A:RA} {S:R.τ->Option A.τ} (hfn:P.funcs[f]? =some fn) (hname:(fn.name== "runtime.NumGoroutine")=false) (hb:fn.body.isSome=true)
  (h:∀x r,S x=some r->∃v,A.enc r= .lit v/\Yi v=true/\∀(w:World) (Pr:Nat->Nat->Prop) (γ:List Nat) (vs:List Value) (F:List Nat),(∀b,b < ng->w.heap[b]? =G0 b)->RepL w Pr γ w.heap.size (R.enc x) vs F->
   Calls P f vs.toArray w fun e w'=>e= .returned v/\Below w.heap.size w w'):VH P ng G0 f ⟨aV R,qV A,S⟩:=by
 intro x r hr w Pr γ owg vs F hargs hnd hdis hlabs hgob hglen hprl hlt hng hgl hngo;obtain ⟨v,h1,h2,h3⟩:=h x r hr;obtain ⟨c,hc⟩:=Option.isSome_iff_exists.1 hb;have hγ:γ= []:=List.length_eq_zero_iff.1 hglen;subst hγ;refine ⟨run_callFunc hfn hname hc _ _,(h3 w Pr [] vs F hgl hargs).mono fun e w' he=> ?_⟩;obtain ⟨rfl,hbl⟩:=he;show CallPost _ w Pr [] (A.enc r) [] v w';rw [h1];exact Ztq hbl h2 hprl
def Yf (n:Int):ByteArray:=⟨(Lib.itoa n).toArray⟩
def Zc9 (n:Int):Option ByteArray:=ifA (-9223372036854775808<=n/\n<=9223372036854775807) (some (Yf n))
theorem ZDK {n:Int} {r:ByteArray} (h:Zc9 n=some r): -9223372036854775808<=n/\n<=9223372036854775807/\r=Yf n:=by
 unfold Zc9 ifA at h;split at h
 ·rename_i hc;exact ⟨hc.1,hc.2,(Un h).symm⟩
 ·cases h
theorem ZDL {ng:Nat} {G0:Nat->Option Obj} {ρ:Go.Shelf.Ren} {f:Nat} {fn:Func} (L:LaysM.n171 P ρ) (hf:ρ.f 171=f) (hfn:P.funcs[f]? =some fn) (hname:(fn.name== "runtime.NumGoroutine")=false) (hb:fn.body.isSome=true)
  (htab:∀w:World,(∀b,b < ng->w.heap[b]? =G0 b)->Lib.TabIs P w "internal/strconv.uint64pow10" .u64 Lib.pow10Tab):
  VH P ng G0 f ⟨aV (Zg rI),qV rS,Zc9⟩:=by
 subst hf;refine ZDJ hfn hname hb fun x r hr=> ?_
 obtain ⟨h1,h2,rfl⟩:=ZDK hr;refine ⟨.string (Yf x),rfl,rfl,fun w Pr γ vs F hg ha=> ?_⟩;cases ha with
 | @cons _ v1 _ _ vs1 _ a1 a2=>
 cases a2;cases a1;exact (Any.strconv_Itoa L x h1 h2 w (htab w hg)).mono fun e w' he=>by
  obtain ⟨he,k,os,rfl⟩:=he;exact ⟨he,ZDI w k os⟩
end
end Go.Fx
