/- The table of types that the evaluator looks at is the program's; constants and zero values hold what it says. -/
import Derived.Test.YthkckbidcpmckaaGreatDoorFzD
import Derived.Laws.Tables
set_option linter.all false
namespace Go.Fx
def Ks:Value->Value->Bool
 | .int k n, .int k' m=>decide (k=k') && n==m
 | .bool a, .bool b=>a==b
 | .string a, .string b=>a.data.toList==b.data.toList
 | .slice none 0 0, .slice none 0 0=>true
 | .nilFunc, .nilFunc=>true
 | _,_=>false
theorem ZeC {a b:Value} (h:Ks a b=true):a=b:=by
 unfold Ks at h;split at h
 ·simp at h;rw [h.1,h.2]
 ·simp at h;rw [h]
 ·rename_i a b;obtain ⟨⟨a⟩⟩:=a;obtain ⟨⟨b⟩⟩:=b;simp at h;rw [h]
 ·rfl
 ·rfl
 ·cases h
def XA:TypeDesc->Value->Bool
 | .int k, .int k' _=>decide (k=k')
 | .bool, .bool _=>true
 | .string, .string _=>true
 | .func _ _ _, .nilFunc=>true
 | _,_=>false
def zcz:List (Option Nat×Value)->List Value->Bool
 | (o,z)::r,v::vs=>Ks v z && (Vz o z).one && zcz r vs
 | [],[]=>true
 | _,_=>false
def zOk:TD->Value->Bool
 | .sc z,v=>Ks v z && Yi z
 | .sl _ _,v=>Ks v (.slice none 0 0)
 | .st cz _, .agg cs=>zcz cz cs.toList
 | .ar _ _ cz, .agg cs=>zcz cz cs.toList
 | _,_=>false
section
variable {w:World} {Pr:Nat->Nat->Prop} {γ:List Nat} {base:Nat}
theorem Zmt {o:Option Nat} {v:Value} (h:(Vz o v).one=true):Rep w Pr γ base (Vz o v) v []:=by
 cases o with
 |none=>
  have e:Vz none v=bif Yi v then .lit v else Xh:=rfl
  rw [e] at h ⊢;cases hs:Yi v with
  |false=>rw [hs] at h;cases h
  |true=>exact .lit hs
 |some k=>
  by_cases hv:v= .slice none 0 0
  ·subst hv;exact .nil
  ·have e:Vz (some k) v=Xh:=by
    unfold Vz;split <;> simp_all
   rw [e] at h;cases h
theorem Zmu:∀{cz:List (Option Nat×Value)} {vs:List Value},zcz cz vs=true->Reps w Pr γ base (czA cz) vs []/\vs.length=cz.length
 | [],[],_=>⟨.nil,rfl⟩
 | (o,z)::r,v::vs,h=>by
  simp only [zcz,Ub] at h;obtain ⟨⟨h1,h2⟩,h3⟩:=h;obtain rfl:=ZeC h1;obtain ⟨h4,h5⟩:=Zmu h3;exact ⟨Reps.cons (F:= []) (G:= []) h2 (Zmt h2) h4,by simp [h5]⟩
theorem Zrh:∀{cz:List (Option Nat×Value)} {vs:List Value},K7 cz vs=true->Reps w Pr γ base (ZcM cz vs) vs []
 | [],[],_=> .nil
 | (o,z)::r,v::vs,h=>by
  simp only [K7,Ub] at h;exact Reps.cons (F:= []) (G:= []) h.1 (Zmt h.1) (Zrh h.2)
theorem Zbz {d:TD} {z:Value} (h:zOk d z=true):Reps w Pr γ base d.zero z.cells.toList []/\z.cells.size=d.size:=by
 cases d with
 |sc v=>
  simp only [zOk,Ub] at h;obtain rfl:=ZeC h.1;have h1:=Rep.lit (w:=w) (Pr:=Pr) (γ:=γ) (base:=base) h.2;have h2:=(h1.oneCell rfl).2;exact ⟨by rw [h2];exact Reps.cons (F:= []) (G:= []) rfl h1 .nil,by rw [h2];rfl⟩
 |sl e k=>
  simp only [zOk] at h;obtain rfl:=ZeC h;exact ⟨Reps.cons (F:= []) (G:= []) rfl (.nil) .nil,rfl⟩
 |st cz offs=>
  unfold zOk at h;split at h <;> try (cases h;done)
  ·rename_i h1;cases h1
  ·rename_i h1;cases h1
  ·rename_i cs h1;cases h1;obtain ⟨h2,h3⟩:=Zmu (w:=w) (Pr:=Pr) (γ:=γ) (base:=base) h;exact ⟨h2,by simpa [Value.cells,TD.size] using h3⟩
  ·rename_i h1;cases h1
 |ar n k cz=>
  unfold zOk at h;split at h <;> try (cases h;done)
  ·rename_i h1;cases h1
  ·rename_i h1;cases h1
  ·rename_i h1;cases h1
  ·rename_i cs h1;cases h1;obtain ⟨h2,h3⟩:=Zmu (w:=w) (Pr:=Pr) (γ:=γ) (base:=base) h;exact ⟨h2,by simpa [Value.cells,TD.size] using h3⟩
 |bad=>simp [zOk] at h
theorem Zmv {cz:List (Option Nat×Value)} {cs:Array Value} {a:AV} (h:(bif K7 cz cs.toList then some (AV.agg (ZcM cz cs.toList)) else none)=some a):Rep w Pr γ base a (.agg cs) []:=by
 cases hz:K7 cz cs.toList with
 |false=>rw [hz] at h;cases h
 |true=>
  rw [hz] at h;cases h;simpa using Rep.agg (Zrh (w:=w) (Pr:=Pr) (γ:=γ) (base:=base) hz)
theorem Zri {d:TD} {v:Value} {a:AV} (h:constA d v=some a):Rep w Pr γ base a v []:=by
 unfold constA at h;split at h
 ·cases h;exact .nil
 ·exact Zmv h
 ·exact Zmv h
 ·cases hs:Yi v with
  |false=>rw [hs] at h;cases h
  |true=>rw [hs] at h;cases h;exact .lit hs
 ·cases h
theorem ZAH {cz:List (Option Nat×Value)} {off:Option (Nat×Nat)} {v:Value} {a:AV} (h:constP cz off v=some a):Rep w Pr γ base a v []:=by
 unfold constP at h;split at h
 ·exact Zmv h
 ·split at h
  ·rename_i o _ _;cases hs:(Vz o v).one with
   |false=>rw [hs] at h;cases h
   |true=>rw [hs] at h;cases h;exact Zmt hs
  ·cases h
 ·cases h
end
def ZcT (P:Program) (cz:List (Option Nat×Value)):Nat->List Field->Prop
 |i,[]=>i=cz.length
 |i,f::fs=>f.name≠ "_" /\f.offset=i/\(∃ds z,P.underlying f.type=some ds/\XA ds z=true/\cz[i]? =some (none,z))/\ZcT P cz (i + 1) fs
def Zhe (P:Program) (cz:List (Option Nat×Value)):Nat->List Field->Bool
 |i,[]=>Nat.beq i cz.length
 |i,f::fs=>decide (f.name≠ "_") && Nat.beq f.offset i && (P.underlying f.type).any (fun ds=>(cz[i]?).any fun p=>match p with | (none,z)=>XA ds z | _=>false) && Zhe P cz (i + 1) fs
def ZeD:TypeDesc->Bool
 | .struct _=>true
 | .array _ _=>true
 | _=>false
def Qs (P:Program) (T:Nat->TD) (t:Nat):Prop:=
 match T t with
 | .sc z=>(∃ds,P.underlying t=some ds/\XA ds z=true)/\∃i,P.info? t=some i/\i.size=1/\i.zero=some z/\Yi z=true
 | .sl e k=>P.underlying t=some (.slice e)/\(∃i,P.info? t=some i/\i.size=1/\i.zero=some (.slice none 0 0))/\
   (∃j z,P.info? e=some j/\j.size=k/\0 < k/\j.bytes<=128/\j.zero=some z/\zOk (T e) z=true)/\(T e).size=k/\∃j,P.info? e=some j/\j.bytes<=byA (T e)
 | .st cz offs=>(∃fs,P.underlying t=some (.struct fs)/\fs.size=offs.length/\(∀(i:Nat) (f:Field),fs[i]? =some f->∃j,P.info? f.type=some j/\j.size≠0/\offs[i]? =some (f.offset,j.size)/\f.offset + j.size<=cz.length/\∃d,P.underlying f.type=some d/\ZeD d=Nat.blt 1 j.size)/\
    ((TD.st cz offs).bk≠ []->P.stoodInHeld t=false/\P.eqGuardType P.depth t=false/\ZcT P cz 0 fs.toList))/\
   ∃i z,P.info? t=some i/\i.size=cz.length/\i.zero=some z/\zOk (.st cz offs) z=true
 | .ar n k cz=>(∃e j,P.underlying t=some (.array n e)/\P.info? e=some j/\j.size=k/\n * k=cz.length/\1 < n/\P.underlying e=some .string/\k=1)/\
   ∃i z,P.info? t=some i/\i.size=cz.length/\i.zero=some z/\zOk (.ar n k cz) z=true
 | .bad=>True
def TOk (P:Program) (T:Nat->TD):Prop:=∀t,Qs P T t
def Zhf (P:Program) (m:Nat):List Field->List (Nat×Nat)->Bool
 |f::fs,(o,s)::r=>(P.info? f.type).any (fun j=>Nat.beq j.size s) && Nat.beq f.offset o && Nat.blt 0 s && Nat.ble (o + s) m && (P.underlying f.type).any (fun d=>ZeD d==Nat.blt 1 s) && Zhf P m fs r
 | [],[]=>true
 | _,_=>false
def Zmw (P:Program) (T:Nat->TD) (t:Nat):Bool:=
 match T t with
 | .sc z=>match P.underlying t,P.info? t with
  |some ds,some i=>XA ds z && Nat.beq i.size 1 && i.zero.any (Ks · z) && Yi z
  | _,_=>false
 | .sl e k=>match P.underlying t,P.info? t,P.info? e with
  |some (.slice e'),some i,some j=>Nat.beq e' e && Nat.beq i.size 1 && i.zero.any (Ks · (.slice none 0 0)) &&
    Nat.beq j.size k && Nat.blt 0 k && Nat.ble j.bytes 128 && j.zero.any (zOk (T e)) && Nat.beq (T e).size k && Nat.ble j.bytes (byA (T e))
  | _,_,_=>false
 | .st cz offs=>match P.underlying t,P.info? t with
  |some (.struct fs),some i=>((TD.st cz offs).bk.isEmpty || (!P.stoodInHeld t && !P.eqGuardType P.depth t && Zhe P cz 0 fs.toList)) && Zhf P cz.length fs.toList offs && Nat.beq i.size cz.length && i.zero.any (zOk (.st cz offs))
  | _,_=>false
 | .ar n k cz=>match P.underlying t,P.info? t with
  |some (.array n' e),some i=>Nat.beq n' n && (P.info? e).any (fun j=>Nat.beq j.size k) && Nat.beq (n * k) cz.length && Nat.blt 1 n &&
    (P.underlying e).any (fun d=>match d with | .string=>true | _=>false) && Nat.beq k 1 && Nat.beq i.size cz.length && i.zero.any (zOk (.ar n k cz))
  | _,_=>false
 | .bad=>true
theorem V2 {α:Type} {o:Option α} {p:α->Bool} (h:o.any p=true):∃x,o=some x/\p x=true:=by
 cases o with
 |none=>cases h
 |some x=>exact ⟨x,rfl,h⟩
theorem Zrj {P:Program} {cz:List (Option Nat×Value)}:∀{fs:List Field} {i:Nat},Zhe P cz i fs=true->ZcT P cz i fs
 | [],i,h=>Ud h
 |f::fs,i,h=>by
  simp only [Zhe,Ub] at h;obtain ⟨⟨⟨h1,h2⟩,h3⟩,h4⟩:=h;obtain ⟨ds,hd,h3⟩:=V2 h3;obtain ⟨⟨o,z⟩,hz,h3⟩:=V2 h3;cases o with
  |some k=>cases h3
  |none=>exact ⟨by simpa using h1,Ud h2,⟨ds,z,hd,h3,hz⟩,Zrj h4⟩
theorem Zah {a b:Nat} (h:Nat.blt a b=true):a < b:=by simp [Nat.blt] at h;omega
theorem Zrk {P:Program} {m:Nat}:∀{fs:List Field} {offs:List (Nat×Nat)},Zhf P m fs offs=true->fs.length=offs.length/\
  ∀(i:Nat) (f:Field),fs[i]? =some f->∃j,P.info? f.type=some j/\j.size≠0/\offs[i]? =some (f.offset,j.size)/\f.offset + j.size<=m/\∃d,P.underlying f.type=some d/\ZeD d=Nat.blt 1 j.size
 | [],[],_=>⟨rfl,by simp⟩
 | [],_::_,h=>by cases h
 | _::_,[],h=>by cases h
 |f::fs,(o,s)::r,h=>by
  simp only [Zhf,Ub] at h;obtain ⟨⟨⟨⟨⟨h1,h2⟩,h3⟩,h4⟩,h8⟩,h5⟩:=h;obtain ⟨h6,h7⟩:=Zrk h5;refine ⟨by simp [h6],fun i g hg=> ?_⟩;cases i with
  |zero=>
   simp at hg;subst hg;obtain ⟨j,hj,h1⟩:=V2 h1;have e1:=Ud h1;have e2:=Ud h2;have e3:=Zah h3;have e4:o + s<=m:=MI h4;obtain ⟨d,hd,h8⟩:=V2 h8;exact ⟨j,hj,by omega,by simp [e1,e2],by omega,d,hd,by rw [e1];simpa using h8⟩
  |succ i=>simpa using h7 i g (by simpa using hg)
theorem ZAI {P:Program} {T:Nat->TD} {t:Nat} (h:Zmw P T t=true):Qs P T t:=by
 unfold Zmw at h;unfold Qs;cases hz:T t with
 |sc z=>
  simp only [hz] at h ⊢;cases hu:P.underlying t with
  |none=>rw [hu] at h;cases h
  |some ds=>
   cases hi:P.info? t with
   |none=>rw [hu,hi] at h;cases h
   |some i=>
    simp only [hu,hi,Ub] at h;obtain ⟨⟨⟨h1,h2⟩,h3⟩,h4⟩:=h;obtain ⟨z',hz',h3⟩:=V2 h3;obtain rfl:=ZeC h3;exact ⟨⟨ds,rfl,h1⟩,i,rfl,Ud h2,hz',h4⟩
 |sl e k=>
  simp only [hz] at h ⊢;split at h
  ·rename_i e' i j hu hi hj;simp only [Ub] at h;obtain ⟨⟨⟨⟨⟨⟨⟨⟨h1,h2⟩,h3⟩,h4⟩,h5⟩,h6⟩,h7⟩,h8⟩,h9⟩:=h;obtain ⟨z,hz1,h3⟩:=V2 h3;obtain rfl:=ZeC h3;obtain ⟨z2,hz2,h7⟩:=V2 h7;obtain rfl:=Ud h1;exact ⟨hu,⟨i,hi,Ud h2,hz1⟩,⟨j,z2,hj,Ud h4,Zah h5,MI h6,hz2,h7⟩,Ud h8,j,hj,MI h9⟩
  ·cases h
 |st cz offs=>
  simp only [hz] at h ⊢;split at h
  ·rename_i fs i hu hi;simp only [Ub] at h;obtain ⟨⟨⟨h0,h1⟩,h2⟩,h3⟩:=h;obtain ⟨z,hz1,h3⟩:=V2 h3;obtain ⟨h4,h5⟩:=Zrk h1;have h6:(TD.st cz offs).bk≠ []->P.stoodInHeld t=false/\P.eqGuardType P.depth t=false/\ZcT P cz 0 fs.toList:=by
    intro hb;simp only [Ma,Ub,UH,List.isEmpty_iff] at h0;rcases h0 with h0 | ⟨⟨h0,h7⟩,h8⟩
    ·exact absurd h0 hb
    ·exact ⟨h0,h7,Zrj h8⟩
   exact ⟨⟨fs,hu,by simpa using h4,fun i f hf=>h5 i f (by simpa using hf),h6⟩,i,z,hi,Ud h2,hz1,h3⟩
  ·cases h
 |ar n k cz=>
  simp only [hz] at h ⊢;split at h
  ·rename_i n' e i hu hi;simp only [Ub] at h;obtain ⟨⟨⟨⟨⟨⟨⟨h1,h2⟩,h3⟩,h4⟩,h5⟩,h6⟩,h7⟩,h8⟩:=h;obtain ⟨j,hj,h2⟩:=V2 h2;obtain ⟨d,hs,h5⟩:=V2 h5;obtain ⟨z,hz1,h8⟩:=V2 h8;obtain rfl:=Ud h1;have hd:d= .string:=by split at h5 <;> first |rfl |cases h5
   subst hd;exact ⟨⟨e,j,hu,hj,Ud h2,Ud h3,Zah h4,hs,Ud h6⟩,i,z,hi,Ud h7,hz1,h8⟩
  ·cases h
 |bad=>exact trivial
def Zai (l:List (Nat×TD)) (t:Nat):TD:=(V1 l t).getD .bad
theorem Zrl {α:Type}:∀{l:List (Nat×α)} {t:Nat} {d:α},V1 l t=some d->(t,d)∈l
 | [],_,_,h=>by simp [V1] at h
 | (a,b)::r,t,d,h=>by
  simp only [V1] at h;cases hb:Nat.beq a t with
  |true=>
   simp [hb] at h;subst h;rw [Ud hb];exact Uj ..
  |false=>
   simp [hb] at h;exact Ug _ (Zrl h)
theorem ZAJ {P:Program} {l:List (Nat×TD)} (h:(l.all fun p=>Zmw P (Zai l) p.1)=true):TOk P (Zai l):=by
 intro t;cases ht:V1 l t with
 |none=>
  have:Zai l t= .bad:=by simp [Zai,ht]
  unfold Qs;simp [this]
 |some d=>exact ZAI (MS.1 h _ (Zrl ht))
end Go.Fx
