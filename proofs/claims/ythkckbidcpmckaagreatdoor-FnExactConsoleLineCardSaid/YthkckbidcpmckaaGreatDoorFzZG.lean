/- A statement's row whose program's variables hold what they were given. -/
import Derived.Test.YthkckbidcpmckaaGreatDoorFzZF
import Derived.Lib.LaidU8
import Derived.Deep.DeepHandedRow
import Derived.Deep.DeepWitnessRowRef
set_option linter.all false
namespace Go.Fx
open Go.ChangeShapes Go.WideShapes Go.ChangeAt Go.RowKit Go.Proofs Go.Lib
section
variable {P:Program} {H:Type} {enc:TypeId×Value->H} {w:World} {γ:List Nat}
theorem ZMx {W:World} {name:String} {k:IntKind} {zs:List Int} {g t e:Nat} {n:Nat} (hg:P.globalNamed name=some g) (hty:(P.globals[g]?).map (·.type)=some t) (ht:P.underlying t=some (.array n e)) (he:P.underlying e=some (.int k)) (hce:P.cellsOf e=1) (hct:P.cellsOf t=n)
  (h:VarReads P W name (tabData k zs)):TabIs P W name k zs:=by
 obtain ⟨g',t',cs,fuel,p,hg',ht',hvar,hd⟩:=h;obtain rfl:=Un (hg.symm.trans hg');obtain rfl:=Un (hty.symm.trans ht');unfold TabIs;rw [hvar,←cells_of_tab ht he hce hct hd]
theorem ZMy {W w:World} {name:String} {k:IntKind} {zs:List Int} {g ng:Nat} (hg:P.globalNamed name=some g) (hlt:g < ng) (h:TabIs P W name k zs) (hw:∀b,b < ng->w.heap[b]? =W.heap[b]?):TabIs P w name k zs:=by
 unfold TabIs World.var? at *
 rw [hg,UG] at h ⊢;rw [hw g hlt];exact h
theorem ZMz {W:World} {name:String} {k:IntKind} {zs:List Int} {g:Nat} (hg:P.globalNamed name=some g) (h:TabIs P W name k zs):g + 1<=W.heap.size:=by
 unfold TabIs World.var? at h;rw [hg,UG] at h;split at h
 ·rename_i heq;exact (Array.getElem?_eq_some_iff.1 heq).1
 ·cases h
theorem ZMA {ng:Nat} {G0:Nat->Option Obj} {en:Entry} {f:Nat} {fn:Func} {s:ChangeSpec} {apart fresh handsOn again:Bool} {shs:List Sh} {tb:TypeId}
  (hC:VH P ng G0 f en) (hl:laidOutB P=true) (hr:∀t∈fn.params.toList,P.readableRec t=true/\t < P.types.size) (hres:fn.resultTypes= #[tb]) (htb:P.underlying tb=some .bool) (hvars:s.vars= [])
  (hspec:∀ds:List (DataW H),ds.length=fn.params.toList.length->s.fn H ds={results:= [.lit (.bool true)],args:=ds}) (hsh:ZhI P shs fn.params.toList=true)
  (hev:∀av,ZeK shs av->∃x r,en.S x=some r/\en.ps.enc x=(av,[])/\en.rs.enc r=(Bl true,[]))
  {W:World} (hng:ng<=W.heap.size) (hgl:∀b,b < ng->W.heap[b]? =G0 b) {base:Nat} {args:Array Value} {ds gs:List (DataW H)} {before:List MemPlace}
  (hval:∀(j:Nat) t v,fn.params[j]? =some t->args[j]? =some v->Value.okWide P W .any base t v) (hW:DataW.Whole enc P fn.params.toList s.vars apart W args.toList ds gs before):
  Calls P f args W fun e W'=>∃v,e= .returned v/\s.post enc P fn apart fresh handsOn again W args v W':=by
 have hW0:=hW;obtain ⟨p,q,hA,hV,rfl,hfz,hnd⟩:=hW;rw [hvars] at hV;obtain ⟨rfl,rfl⟩:=trodVars_none hV;obtain ⟨av,a1,a2⟩:=ZsN (γ:= []) hsh hA fun j t v ht hv=>hval j t v (by simpa using ht) (by simpa using hv)
 obtain ⟨x0,r0,hS,hx0,hr0⟩:=hev av a2;have hsp:=hC x0 r0 hS;rw [hx0,hr0] at hsp;obtain ⟨_,hcalls⟩:=hsp W (old W) [] (fun _=>none) args.toList [] a1 UE (by simp) (by simp) (by simp) rfl (fun _ _ h=>h) (by simp) hng hgl (by simp);have hlen:ds.length=fn.params.toList.length:=by
  have:∀{ts:List TypeId} {vs:List Value} {ds:List (DataW H)} {ps:List MemPlace},DataW.TrodAll enc P W 0 (fun _=>true) true ts vs ds ps->ds.length=ts.length:=by
   intro ts
   induction ts with
   |nil=>intro vs ds ps h;obtain ⟨_,rfl,_⟩:=trodAll_nil h;rfl
   |cons t ts ih=>
    intro vs ds ps h;obtain ⟨v,vs',d,ds',p,q,rfl,rfl,rfl,h1,h2⟩:=trodAll_cons h;simp [ih h2]
  exact this hA
 have hsp:=hspec ds hlen;have e0:args=args.toList.toArray:=by simp
 rw [e0];refine hcalls.mono fun e W' he=> ?_
 cases e with
 |panicked _=>exact he.elim
 |outgrown=>exact he.elim
 |returned v=>
  obtain ⟨ow',Pr',γ',H',h1,h2,h3,h4,_⟩:CallPost _ W (old W) [] (Bl true) [] v W':=he;have hv:v= .bool true:=Zaj h4;subst hv;refine ⟨_,rfl,?_⟩;have hb:Below W.heap.size W W':=⟨h1.os,h1.tape,h1.output,h1.size,fun k hk=>h1.blk k hk (by simp)⟩
  have hlt:∀x∈p,x.block < W.heap.size:=fun x hx=>hW0.lt x (by simpa using hx)
  have hargs:=ZsO hl hb hr hA hlt;have hone:(Value.bool true).resultList fn.resultTypes.size= [.bool true]:=by rw [hres];rfl
  have hb':∀(b:Nat) (sp:Nat->Bool) (hd:Bool),DataW.TrodAll enc P W' b sp hd fn.resultTypes.toList ((Value.bool true).resultList fn.resultTypes.size) [.lit (.bool true)] []:=fun b sp hd=>by
   rw [hone,hres];exact trodAll_mk1 (shut_bool htb true)
  have hvs:∀sp:Nat->Bool,DataW.TrodVars enc P W' sp s.vars [] []:=fun sp=>by rw [hvars];exact rfl
  simp only [UK] at hW0;refine ⟨ds,[],p,[],p,[],by simpa using hW0,by simpa [hsp] using hb' _ _ _,by simpa [hsp] using hargs _ (fun x hx=>by simpa using hlt x hx),by simpa [hsp] using hvs _,World.keptBut_mono (fun x hx=>⟨hx, .inr (.inl hx)⟩) (hb.frame (· ∈p)),fun _=>⟨ok_one hres rfl (okWide_bool_mk htb true),[.lit (.bool true)] ++ ds,[],p,⟨p,[],?_,hvs _,by simp,fun b off hp=> ?_,fun ha=> ?_⟩,fun x hx _=>hx⟩⟩
  ·have:=trodAll_append (hargs (fun _=>true) fun _ _=>rfl) (hb' 0 (fun _=>true) true);simpa using this
  ·rw [hb.frozen (hlt _ hp)];exact hfz b off (by simpa using hp)
  ·simpa using hnd ha
end
end Go.Fx
