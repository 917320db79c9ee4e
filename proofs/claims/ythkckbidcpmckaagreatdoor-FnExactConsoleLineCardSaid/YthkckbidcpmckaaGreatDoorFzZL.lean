/- Functions of the library, out of the kit's shelf: a text cut at a separator. -/
import Derived.Test.YthkckbidcpmckaaGreatDoorFzZF
import Derived.Test.YthkckbidcpmckaaGreatDoorFzZI
import Derived.Shelf.Strings.Split
set_option linter.all false
namespace Go.Fx
open Go.RowKit Go.Proofs
section
variable {P:Program} {w w':World} {Pr:Nat->Nat->Prop} {γ:List Nat} {base:Nat} {D:Nat->Prop}
theorem ZDS {b n cap k:Nat} {cur:Array Value} {e:TypeId} {xs:List (List AV)} {vals:List Value} (hx:Ext D Pr w w') (hb:w'.heap[b]? =some (.cells cur e (0,0))) (h1:n<=cap) (h2:cap<=maxLen)
  (hl:xs.length=n) (hk:∀x∈xs,x.length=k) (ht:cur.toList.take (n * k)=vals) (hf:clrs xs.flatten=vals.map AV.lit) (hs:∀v∈vals,Yi v=true) (hnew:w.heap.size<=b) (hprl:∀c i:Nat,Pr c i->c < w.heap.size):
  CallPost D w Pr [] (.slc .shr k xs) [] (.slice (some ⟨b,0,none⟩) n cap) w':=by
 have hbl:b < w'.heap.size:=(Array.getElem?_eq_some_iff.1 hb).1;have hvl:vals.length<=n * k:=by rw [←ht,Uc];omega
 refine ⟨fun _=>none,XV Pr b (n * k),[],[],hx,fun c i hc hd=>⟨fun h=> ?_, .inl⟩,fun _ _ _ h=> .inl h,?_,UE,(fun _ h=>by cases h),(fun _ _ h=>by cases h),rfl,(fun _ _ h=>h),fun c i h=> ?_,(fun _ _ h=>by cases h),(fun _ _ h=>by cases h)⟩
 ·rcases h with h | ⟨rfl,_⟩
  ·exact h
  ·omega
 ·refine .shr hl h1 h2 hk (by rw [hf];exact ZhS hs) (.inr ⟨_,rfl,rfl,fun j v hj=> ?_,fun j hj=> .inr ⟨rfl,by show 0 + j < _;omega⟩,hbl⟩);rw [←ht] at hj;show w'.cell? ⟨b,0 + j,none⟩=_;rw [U0,X8 hb];rw [UA] at hj;split at hj
  ·simpa using hj
  ·cases hj
 ·rcases h with h | ⟨rfl,_⟩
  ·exact UB (hprl c i h) hx.size
  ·exact hbl
def ZbS (s sep:ByteArray):Option (List ByteArray):=ifA (s.size < 4294967281/\1<=sep.size) (some (Lib.splitB sep 0 (Lib.countB s sep) s))
theorem ZDT {s sep:ByteArray} {r:List ByteArray} (h:ZbS s sep=some r):s.size < 4294967281/\1<=sep.size/\r=Lib.splitB sep 0 (Lib.countB s sep) s:=by
 unfold ZbS ifA at h;split at h
 ·rename_i hc;exact ⟨hc.1,hc.2,(Un h).symm⟩
 ·cases h
theorem ZDU:∀(l:List ByteArray),clrs (l.map (Zg rS).enc).flatten=(l.map Value.string).map AV.lit:=by
 intro l
 induction l with
 |nil=>rfl
 |cons a l ih=>exact UC (Sg a:: ·) ih
theorem ZDV {ng:Nat} {G0:Nat->Option Obj} {ρ:Go.Shelf.Ren} {f:Nat} {fn:Func} (L:Lays.n146 P ρ) (hi9:(P.info? (ρ.t 9)).map (fun i=>(i.zero,i.size,i.bytes))=some (some (.string ByteArray.empty),1,16))
  (hf:ρ.f 146=f) (hfn:P.funcs[f]? =some fn) (hname:(fn.name== "runtime.NumGoroutine")=false) (hb:fn.body.isSome=true)
  (hmax:∃m:Int,∀w:World,(∀b,b < ng->w.heap[b]? =G0 b)->w.cell? ⟨ρ.g 1,0,none⟩=some (.int .i64 m)):
  VH P ng G0 f ⟨aV (rCo rS (Zg rS)),qV (rX .shr 1 (Zg rS)),fun x:ByteArray×ByteArray=>ZbS x.1 x.2⟩:=by
 subst hf;intro x;change ByteArray×ByteArray at x;intro r hr w Pr γ owg vs F hargs hnd hdis hlabs hgob hglen hprl hlt hng hgl hngo;obtain ⟨s,sep⟩:=x;obtain ⟨h1,h2,rfl⟩:=ZDT hr;obtain ⟨m,hm⟩:=hmax;obtain ⟨c,hc⟩:=Option.isSome_iff_exists.1 hb;have hγ:γ= []:=List.length_eq_zero_iff.1 hglen;subst hγ;have hargs':RepL w Pr [] w.heap.size [Sg s,Sg sep] vs F:=hargs;cases hargs' with
 | @cons _ v1 _ _ vs1 _ a1 a2=>
 cases a2 with
 | @cons _ v2 _ _ vs2 _ b1 b2=>
 cases b2;cases a1;cases b1;refine ⟨run_callFunc hfn hname hc _ _,?_⟩;refine (Any.strings_Split L hi9 s sep m w h1 (hm w hgl) h2).mono fun e w' he=> ?_
 obtain ⟨rfl,rfl⟩:=he;have hle:=Lib.countB_le sep h2 s.size s (Uq _);have hlen:=Lib.splitB_all sep h2 0 _ s rfl;show CallPost _ w Pr [] (.slc .shr 1 ((Lib.splitB sep 0 (Lib.countB s sep) s).map (Zg rS).enc)) [] _ _;have h1':s.size < 4294967281:=h1;have hcap:Lib.countB s sep + 1<=maxLen:=by unfold maxLen;omega
 refine ZDS (Ext.alloc _ _ _ _) (heap_alloc_new w _) (Uq _) hcap ((Uy _).trans hlen) (fun y hy=> ?_) (vals:=(Lib.splitB sep 0 (Lib.countB s sep) s).map Value.string) ?_ (ZDU _) (fun v hv=> ?_) (Uq _) hprl
 ·obtain ⟨z,_,e⟩:=List.mem_map.1 hy;rw [←e];rfl
 ·rw [List.toList_toArray,Nat.mul_one,U4 (by rw [Uy,hlen];exact Uq _)]
 ·obtain ⟨z,_,rfl⟩:=List.mem_map.1 hv;rfl
end
end Go.Fx
