/- One operation: what the evaluator says of it, the machine does. -/
import Derived.Test.YthkckbidcpmckaaGreatDoorFzE
import Derived.Laws.OwnMore
import Derived.Laws.Slices
set_option linter.all false
namespace Go.Fx
section
variable {P:Program} {GE:Glob} {D:Nat->Prop} {Pr0:Nat->Nat->Prop} {w0:World} {nt:Nat}
 {s s1:St} {a:Act} {w w1:World} {ow ow1:Nat->Option Lab} {Pr Pr1:Nat->Nat->Prop} {B:Nat->Nat} {γ:List Nat}
theorem ZcU {d:Nat} {v:Value} (h:d < a.tmps.size):ZP (a.put (some d) v)=upd (ZP a) d v:=by
 funext t
 by_cases ht:t=d
 ·subst ht;simp [ZP,Act.put,upd,h]
 ·have:¬d=t:=fun e=>ht e.symm
  rw [ZA _ _ ht];simp [ZP,Act.put,this]
def okG (GE:Glob) (nt:Nat) (d:Option Nat):Prop:=okD nt d=true/\(GE.v0≠none->d≠some 0)
theorem Z2 {sv:SV} {v:Value} {dst:Option Nat} (h:Inv GE D Pr0 w0 s (ZP a) w ow Pr B γ) (hd:a.defers= []) (hn:Sz GE nt a) (hok:okG GE nt dst)
  (hs:Slot w Pr γ w0.heap.size ow B s.L .pd sv v):At GE D Pr0 w0 nt (put s dst sv) (a.put dst v) w:=by
 cases dst with
 |none=>exact ⟨ow,Pr,B,γ,h,hd,hn⟩
 |some d=>
  have hlt:d < a.tmps.size:=UB (Zah hok.1) hn.1;have hsz:Sz GE nt (a.put (some d) v):=⟨by simpa [Act.put] using hn.1,fun v0 h0=>by
   have hd0:d≠0:=fun e=>hok.2 (by rw [h0];simp) (by rw [e])
   rw [ZcU hlt,ZA _ _ (fun e=>hd0 e.symm)];exact hn.2 v0 h0⟩
  have hdf:(a.put (some d) v).defers= []:=hd;cases sv with
  |val x=>
   obtain ⟨F,h1,h2,h3⟩:=hs;exact ⟨_,Pr,B,γ,by rw [ZcU hlt];exact h.put h1 h2 h3,hdf,hsz⟩
  |lp key i off=>exact ⟨ow,Pr,B,γ,by rw [ZcU hlt];exact h.putP hs,hdf,hsz⟩
  |la key=>exact ⟨ow,Pr,B,γ,by rw [ZcU hlt];exact h.putP hs,hdf,hsz⟩
  |lv key i off ag=>exact ⟨ow,Pr,B,γ,by rw [ZcU hlt];exact h.putP hs,hdf,hsz⟩
  |no=>exact ⟨ow,Pr,B,γ,by rw [ZcU hlt];exact h.putP trivial,hdf,hsz⟩
def Fresh (w:World) (Pr:Nat->Nat->Prop) (γ:List Nat) (base:Nat) (ow ow1:Nat->Option Lab) (B:Nat->Nat) (L:Nat->Option LObj):SV->Value->Prop
 | .val x,v=>∃F,Rep w Pr γ base x v F/\F.Nodup/\(∀b∈F,ow1 b=some .pd)/\(∀b∈F,ow b≠some .pd)
 | .no,_=>False
 |sv,v=>Slot w Pr γ base ow1 B L .pd sv v
theorem Fresh.slot {L:Nat->Option LObj} {sv:SV} {v:Value} {base:Nat} (h:Fresh w Pr γ base ow ow1 B L sv v):Slot w Pr γ base ow1 B L .pd sv v:=by
 cases sv with
 |val x=>obtain ⟨F,h1,h2,h3,_⟩:=h;exact ⟨F,h1,h2,h3⟩
 |no=>exact trivial
 |lp key i off=>exact h
 |la key=>exact h
 |lv key i off ag=>exact h
def CfOk (cf:Value->Option AV):Prop:=∀v x,cf v=some x->∀(w:World) (Pr:Nat->Nat->Prop) (γ:List Nat) (base:Nat),Rep w Pr γ base x v []
theorem CfOk.none:CfOk (fun _=>none):=fun _ _ h=>by cases h
theorem CfOk.constA (d:TD):CfOk (Fx.constA d):=fun _ _ h _ _ _ _=>Zri h
theorem CfOk.constP (cz:List (Option Nat×Value)) (o:Option (Nat×Nat)):CfOk (Fx.constP cz o):=fun _ _ h _ _ _ _=>ZAH h
structure RdOk (GE:Glob) (s s1:St) (x:Operand) (sv:SV):Prop where
 L:s1.L=s.L
 G:s1.G=s.G
 ok:∀{D:Nat->Prop} {Pr0:Nat->Nat->Prop} {w0:World} {a:Act} {w:World} {ow:Nat->Option Lab} {Pr:Nat->Nat->Prop} {B:Nat->Nat} {γ:List Nat},
  Inv GE D Pr0 w0 s (ZP a) w ow Pr B γ->∃ow1,Inv GE D Pr0 w0 s1 (ZP a) w ow1 Pr B γ/\(∀b,ow b=some .pd->ow1 b=some .pd)/\Fresh w Pr γ w0.heap.size ow ow1 B s1.L sv (a.eval x)
theorem Xj {β:Type} {tk:Bool} {cf:Value->Option AV} {x:Operand} {K:SV->St->Option β} {r:β} (hcf:CfOk cf) (h:rd tk cf x s K=some r):
  ∃sv s1,K sv s1=some r/\RdOk GE s s1 x sv:=by
 unfold rd at h;cases x with
 |tmp n=>
  simp only at h;cases he:s.env n with
  |val c=>
   simp only [he] at h;cases tk with
   |true=>
    refine ⟨_,_,h,rfl,rfl,fun hi=> ?_⟩;obtain ⟨ow1,F,h1,h2,h3,h4,h5,h6⟩:=hi.take he;exact ⟨ow1,h1,h6,F,h2,h3,h4,h5⟩
   |false=>
    refine ⟨_,_,h,rfl,rfl,fun hi=> ?_⟩;have hs:=hi.slot n;rw [he] at hs;obtain ⟨F,h1,_,_⟩:=hs;exact ⟨_,hi,fun _ h=>h,[],h1.clr,UE,by simp,by simp⟩
  |no=>simp [he] at h
  |lp key i off=>
   simp only [he] at h;refine ⟨_,_,h,rfl,rfl,fun hi=> ?_⟩;have hs:=hi.slot n;rw [he] at hs;exact ⟨_,hi,fun _ h=>h,hs⟩
  |la key=>
   simp only [he] at h;refine ⟨_,_,h,rfl,rfl,fun hi=> ?_⟩;have hs:=hi.slot n;rw [he] at hs;exact ⟨_,hi,fun _ h=>h,hs⟩
  |lv key i off ag=>
   simp only [he] at h;refine ⟨_,_,h,rfl,rfl,fun hi=> ?_⟩;have hs:=hi.slot n;rw [he] at hs;exact ⟨_,hi,fun _ h=>h,hs⟩
 |const v=>
  simp only at h;cases hc:cf v with
  |none=>simp [hc] at h
  |some c=>
   simp only [hc,UG] at h;exact ⟨_,_,h,rfl,rfl,fun hi=>⟨_,hi,fun _ h=>h,[],hcf v c hc _ _ _ _,UE,by simp,by simp⟩⟩
 |func f=>
  simp only at h;exact ⟨_,_,h,rfl,rfl,fun hi=>⟨_,hi,fun _ h=>h,[],Rep.fn (vs:= []) .nil,UE,by simp,by simp⟩⟩
 |global g=>simp at h
structure Rd0Ok (GE:Glob) (s:St) (x:Operand) (y:AV):Prop where
 ok:∀{D:Nat->Prop} {Pr0:Nat->Nat->Prop} {w0:World} {a:Act} {w:World} {ow:Nat->Option Lab} {Pr:Nat->Nat->Prop} {B:Nat->Nat} {γ:List Nat},
  Inv GE D Pr0 w0 s (ZP a) w ow Pr B γ->∃F,Rep w Pr γ w0.heap.size y (a.eval x) F
theorem Zrm {base:Nat}:∀{vs:List Value},vs.all Yi=true->Reps w Pr γ base (vs.map .lit) vs []
 | [],_=> .nil
 |v::vs,h=>by
  simp only [MA,Ub] at h;exact Reps.cons (F:= []) (G:= []) rfl (.lit h.1) (Zrm h.2)
theorem YX {β:Type} {x:Operand} {K:AV->Option β} {r:β} (h:rd0 x s K=some r):∃y,K y=some r/\Rd0Ok GE s x y:=by
 unfold rd0 at h;cases x with
 |tmp n=>
  simp only at h;cases he:s.env n with
  |val c=>
   simp only [he] at h;refine ⟨_,h,⟨fun hi=> ?_⟩⟩;have hs:=hi.slot n;rw [he] at hs;obtain ⟨F,h1,_,_⟩:=hs;exact ⟨F,h1⟩
  |no=>simp [he] at h
  |lp key i off=>simp [he] at h
  |la key=>simp [he] at h
  |lv key i off ag=>simp [he] at h
 |const v=>
  simp only at h;split at h
  ·rename_i cs;cases hs:cs.toList.all Yi with
   |false=>rw [hs] at h;cases h
   |true=>
    rw [hs] at h;exact ⟨_,h,⟨fun _=>⟨[],ZgX (Zrm hs)⟩⟩⟩
  ·cases hs:Yi v with
   |false=>rw [hs] at h;cases h
   |true=>
    rw [hs] at h;exact ⟨_,h,⟨fun _=>⟨[], .lit hs⟩⟩⟩
 |func f=>simp at h
 |global g=>simp at h
theorem Ya {o:Oper} {next:Act->World->Prop} {Q:Exit->Act->World->Prop} {v:Value} (hr:(execOp a.eval o).run P w= .ok (.value v) w1) (h:next (a.put o.dst v) w1):o.wp P a w next Q:=by
 unfold Oper.wp;rw [hr];exact h
theorem Zmx {o:Oper} {next:Act->World->Prop} {Q:Exit->Act->World->Prop} (hr:(execOp a.eval o).run P w= .ok .skip w1) (h:next (a.put o.dst undef) w1):o.wp P a w next Q:=by
 unfold Oper.wp;rw [hr];exact h
def ZU (P:Program) (GE:Glob) (nt:Nat) (o:Oper) (s:St) (sv:SV) (s1:St):Prop:=
 ∀D Pr0 w0 a w,At GE D Pr0 w0 nt s a w->okG GE nt o.dst->∀next Q,(∀a' w',At GE D Pr0 w0 nt (put s1 o.dst sv) a' w'->next a' w')->o.wp P a w next Q
theorem Zrn {β:Type} {o:Oper} {x:Operand} {tk:Bool} {cf:Value->Option AV} {K:SV->St->Option β} {r:β} (ho:o.op= .move x\/o.op= .assign x) (hcf:CfOk cf) (h:rd tk cf x s K=some r):
  ∃sv s1,K sv s1=some r/\ZU P GE nt o s sv s1:=by
 obtain ⟨sv,s1,hK,hr⟩:=Xj (GE:=GE) hcf h;refine ⟨sv,s1,hK,fun D Pr0 w0 a w ⟨ow,Pr,B,γ,hi,hd,hn⟩ hok next Q hnext=> ?_⟩;obtain ⟨ow1,h1,_,h3⟩:=hr.ok hi;refine Ya (w1:=w) (v:=a.eval x) ?_ (hnext _ _ (Z2 h1 hd hn hok h3.slot));rcases ho with ho |ho <;> simp [execOp,ho]
end
end Go.Fx
