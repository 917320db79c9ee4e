/- What it means that a Go value, in a world, holds an abstract value; how that is kept while memory grows; and what a copy, a loan, a gift of it holds. -/
import Derived.Test.YthkckbidcpmckaaGreatDoorFzA0
set_option linter.all false
namespace Go.Fx
def K5 (w:World) (ad:Addr) (vs:List Value):Prop:=∀j v,vs[j]? =some v->w.cell? ⟨ad.block,ad.off + j,none⟩=some v
mutual
inductive Rep (w:World) (Pr:Nat->Nat->Prop) (γ:List Nat) (base:Nat):AV->Value->List Nat->Prop
 |lit {v:Value}:Yi v=true->Rep w Pr γ base (.lit v) v []
 |agg {cs:List AV} {vs:List Value} {F:List Nat}:Reps w Pr γ base cs vs F->Rep w Pr γ base (.agg cs) (.agg vs.toArray) F
 |tup {cs:List AV} {vs:List Value} {F:List Nat}:RepL w Pr γ base cs vs F->Rep w Pr γ base (.tup cs) (.tuple vs.toArray) F
 |fn {f:Nat} {cs:List AV} {vs:List Value} {F:List Nat}:Reps w Pr γ base cs vs F->Rep w Pr γ base (.fn f cs) (.func (.func f) #[] vs.toArray) F
 |rp {cs:List AV} {vs:List Value} {F:List Nat} {ad:Addr}:ad.spot=none->K5 w ad vs->(∀j,j < vs.length->Pr ad.block (ad.off + j))->
   ad.block < w.heap.size->Reps w Pr γ base cs vs F->Rep w Pr γ base (.rp cs) (.pointer (some ad)) F
 |gp {id off b:Nat}:γ[id]? =some b->Rep w Pr γ base (.gp id off) (.pointer (some ⟨b,off,none⟩)) []
 |opq {A:Option Addr} {n cap:Nat}:Rep w Pr γ base .opq (.slice A n cap) []
 |unil {k:Nat} {A:Option Addr}:Rep w Pr γ base (.slc .unq k []) (.slice A 0 0) []
 |unq {k b n cap:Nat} {e:TypeId} {cur:Array Value} {xs:List (List AV)} {vs:List Value} {F:List Nat}:
   w.heap[b]? =some (.cells cur e (0,0))->cur.size=cap * k->0 < n->n<=cap->cap<=maxLen->xs.length=n->(∀x∈xs,x.length=k)->
   cur.toList.take (n * k)=vs->Reps w Pr γ base xs.flatten vs F->(∀i,¬Pr b i)->Rep w Pr γ base (.slc .unq k xs) (.slice (some ⟨b,0,none⟩) n cap) (b::F)
 |nilq {xs:List (List AV)} {b:Bool}:(xs≠ []->b=false)->Rep w Pr γ base (.nilq xs) (.bool b) []
 |shr {k n cap:Nat} {xs:List (List AV)} {A:Option Addr} {vs:List Value}:xs.length=n->n<=cap->cap<=maxLen->
   (∀x∈xs,x.length=k)->Reps w Pr γ base (clrs xs.flatten) vs []->
   (n=0\/∃ad,A=some ad/\ad.spot=none/\K5 w ad vs/\(∀j,j < vs.length->Pr ad.block (ad.off + j))/\ad.block < w.heap.size)->
   Rep w Pr γ base (.slc .shr k xs) (.slice A n cap) []
 |nil {k:Nat} {A:Option Addr}:Rep w Pr γ base (.slc .own k []) (.slice A 0 0) []
 |own {k b n cap:Nat} {e:TypeId} {cur:Array Value} {xs:List (List AV)} {vs:List Value} {F:List Nat}:
   w.heap[b]? =some (.cells cur e (0,0))->cur.size=cap * k->n<=cap->cap<=maxLen->xs.length=n->(∀x∈xs,x.length=k)->
   cur.toList.take (n * k)=vs->Reps w Pr γ base xs.flatten vs F->(∀i,Pr b i↔i < n * k)->0 < n->Rep w Pr γ base (.slc .own k xs) (.slice (some ⟨b,0,none⟩) n cap) (b::F)
inductive Reps (w:World) (Pr:Nat->Nat->Prop) (γ:List Nat) (base:Nat):List AV->List Value->List Nat->Prop
 |nil:Reps w Pr γ base [] [] []
 |cons {a:AV} {v:Value} {F:List Nat} {as:List AV} {vs:List Value} {G:List Nat}:a.one=true->Rep w Pr γ base a v F->Reps w Pr γ base as vs G->Reps w Pr γ base (a::as) (v::vs) (F ++ G)
inductive RepL (w:World) (Pr:Nat->Nat->Prop) (γ:List Nat) (base:Nat):List AV->List Value->List Nat->Prop
 |nil:RepL w Pr γ base [] [] []
 |cons {a:AV} {v:Value} {F:List Nat} {as:List AV} {vs:List Value} {G:List Nat}:Rep w Pr γ base a v F->RepL w Pr γ base as vs G->RepL w Pr γ base (a::as) (v::vs) (F ++ G)
end
structure Ext (D:Nat->Prop) (Pr:Nat->Nat->Prop) (w w':World):Prop where
 os:w'.os=w.os
 tape:w'.tape=w.tape
 output:w'.output=w.output
 size:w.heap.size<=w'.heap.size
 blk:∀b,b < w.heap.size->¬D b->w'.heap[b]? =w.heap[b]?
 cell:∀b i,b < w.heap.size->Pr b i->w'.cell? ⟨b,i,none⟩=w.cell? ⟨b,i,none⟩
 shp:∀(b:Nat) (cur:Array Value) (e:TypeId),w.heap[b]? =some (.cells cur e (0,0))->∃cur':Array Value,w'.heap[b]? =some (.cells cur' e (0,0))/\cur'.size=cur.size
theorem Ext.refl (D:Nat->Prop) (Pr:Nat->Nat->Prop) (w:World):Ext D Pr w w:=
 ⟨rfl,rfl,rfl,Uq _,fun _ _ _=>rfl,fun _ _ _ _=>rfl,fun _ cur _ h=>⟨cur,h,rfl⟩⟩
theorem Ext.trans {D D':Nat->Prop} {Pr Pr':Nat->Nat->Prop} {w w1 w2:World} (h:Ext D Pr w w1) (h':Ext D' Pr' w1 w2)
  (hD:∀b,b < w.heap.size->D' b->D b) (hP:∀b i,b < w.heap.size->Pr b i->Pr' b i):Ext D Pr w w2 where
 os:=h'.os.trans h.os
 tape:=h'.tape.trans h.tape
 output:=h'.output.trans h.output
 size:=Mk h.size h'.size
 blk b hb hn:=(h'.blk b (UB hb h.size) fun hd=>hn (hD b hb hd)).trans (h.blk b hb hn)
 cell b i hb hp:=(h'.cell b i (UB hb h.size) (hP b i hb hp)).trans (h.cell b i hb hp)
 shp b cur e hb:=by
  obtain ⟨c1,h1,s1⟩:=h.shp b cur e hb;obtain ⟨c2,h2,s2⟩:=h'.shp b c1 e h1;exact ⟨c2,h2,s2.trans s1⟩
theorem X8 {w:World} {b i:Nat} {cur:Array Value} {e:TypeId} {fr:Nat×Nat} (h:w.heap[b]? =some (.cells cur e fr)):
  w.cell? ⟨b,i,none⟩=cur[i]? :=by simp [World.cell?,h]
theorem YL {w:World} {b:Nat} {o:Obj} (h:w.heap[b]? =some o):b < w.heap.size:=(Array.getElem?_eq_some_iff.1 h).1
theorem ZAz {c c':Array Value} {m:Nat} (h:∀i,i < m->c'[i]? =c[i]?):c'.toList.take m=c.toList.take m:=by
 apply UV;intro i;rw [UA,UA];split
 ·rename_i hi;simpa using h i hi
 ·rfl
section
variable {w w':World} {D:Nat->Prop} {Pr Pr':Nat->Nat->Prop} {γ γ':List Nat} {base base':Nat}
mutual
theorem Rep.mono (he:Ext D Pr w w') (hP:∀b i,b < w.heap.size->Pr b i->Pr' b i) (hg:∀i b:Nat,γ[i]? =some b->γ'[i]? =some b) (hb:base<=base')
  {a:AV} {v:Value} {F:List Nat}:Rep w Pr γ base a v F->(∀b∈F,¬D b)->(∀b∈F,∀i,Pr' b i↔Pr b i)->Rep w' Pr' γ' base' a v F
 | .lit h,_,_=> .lit h
 | .agg h,hD,hF=> .agg (Reps.mono he hP hg hb h hD hF)
 | .tup h,hD,hF=> .tup (RepL.mono he hP hg hb h hD hF)
 | .fn h,hD,hF=> .fn (Reps.mono he hP hg hb h hD hF)
 | .rp h1 h2 h3 h4 h,hD,hF=> .rp h1 (fun j v hj=>by
   have hlt:j < _:=(List.getElem?_eq_some_iff.1 hj).1;rw [he.cell _ _ h4 (h3 j hlt)];exact h2 j v hj) (fun j hj=>hP _ _ h4 (h3 j hj)) (UB h4 he.size) (Reps.mono he hP hg hb h hD hF)
 | .gp h,_,_=> .gp (hg _ _ h)
 | .nilq h,_,_=> .nilq h
 | .opq,_,_=> .opq
 | .unil,_,_=> .unil
 | .unq (b:=b) (n:=n) (k:=k) h1 h2 h0 h3 h4 h5 h6 h7 h h8,hD,hF=>by
   have hlt:=YL h1;exact .unq ((he.blk b hlt (hD b (Uj ..))).trans h1) h2 h0 h3 h4 h5 h6 h7 (Reps.mono he hP hg hb h (fun b hb=>hD b (Ug _ hb)) fun b hb=>hF b (Ug _ hb)) fun i hi=>h8 i ((hF b (Uj ..) i).1 hi)
 | .shr h2 h3 h4 h5 h h6,hD,hF=> .shr h2 h3 h4 h5 (Reps.mono he hP hg hb h hD hF) (by
   rcases h6 with h6 | ⟨ad,e1,e2,e3,e4,e5⟩
   ·exact .inl h6
   ·refine .inr ⟨ad,e1,e2,fun j v hj=> ?_,fun j hj=>hP _ _ e5 (e4 j hj),UB e5 he.size⟩;have hlt:j < _:=(List.getElem?_eq_some_iff.1 hj).1;rw [he.cell _ _ e5 (e4 j hlt)];exact e3 j v hj)
 | .nil,_,_=> .nil
 | .own (b:=b) (n:=n) (k:=k) h1 h2 h3 h4 h5 h6 h7 h h8 hpos,hD,hF=>by
   obtain ⟨cur',hc,hs⟩:=he.shp _ _ _ h1;have hlt:=YL h1;refine .own hc (hs.trans h2) h3 h4 h5 h6 ?_ (Reps.mono he hP hg hb h (fun b hb=>hD b (Ug _ hb)) fun b hb=>hF b (Ug _ hb)) (fun i=>(hF b (Uj ..) i).trans (h8 i)) hpos;rw [←h7];refine ZAz fun i hi=> ?_
   have:=he.cell b i hlt ((h8 i).2 hi)
   rwa [X8 hc,X8 h1] at this
theorem Reps.mono (he:Ext D Pr w w') (hP:∀b i,b < w.heap.size->Pr b i->Pr' b i) (hg:∀i b:Nat,γ[i]? =some b->γ'[i]? =some b) (hb:base<=base')
  {cs:List AV} {vs:List Value} {F:List Nat}:Reps w Pr γ base cs vs F->(∀b∈F,¬D b)->(∀b∈F,∀i,Pr' b i↔Pr b i)->Reps w' Pr' γ' base' cs vs F
 | .nil,_,_=> .nil
 | .cons h1 h h',hD,hF=> .cons h1 (Rep.mono he hP hg hb h (fun b hb=>hD b (Uz _ hb)) fun b hb=>hF b (Uz _ hb)) (Reps.mono he hP hg hb h' (fun b hb=>hD b (UD _ hb)) fun b hb=>hF b (UD _ hb))
theorem RepL.mono (he:Ext D Pr w w') (hP:∀b i,b < w.heap.size->Pr b i->Pr' b i) (hg:∀i b:Nat,γ[i]? =some b->γ'[i]? =some b) (hb:base<=base')
  {cs:List AV} {vs:List Value} {F:List Nat}:RepL w Pr γ base cs vs F->(∀b∈F,¬D b)->(∀b∈F,∀i,Pr' b i↔Pr b i)->RepL w' Pr' γ' base' cs vs F
 | .nil,_,_=> .nil
 | .cons h h',hD,hF=> .cons (Rep.mono he hP hg hb h (fun b hb=>hD b (Uz _ hb)) fun b hb=>hF b (Uz _ hb)) (RepL.mono he hP hg hb h' (fun b hb=>hD b (UD _ hb)) fun b hb=>hF b (UD _ hb))
end
theorem Reps.length_eq {cs:List AV} {vs:List Value} {F:List Nat} (h:Reps w Pr γ base cs vs F):vs.length=cs.length:=by
 induction cs generalizing vs F with
 |nil=>cases h;rfl
 |cons a as ih=>cases h with |cons _ _ h=>simp [ih h]
theorem RepL.length_eq {cs:List AV} {vs:List Value} {F:List Nat} (h:RepL w Pr γ base cs vs F):vs.length=cs.length:=by
 induction cs generalizing vs F with
 |nil=>cases h;rfl
 |cons a as ih=>cases h with |cons _ h=>simp [ih h]
theorem ZgV (cs:List AV):clrs cs=cs.map AV.clr:=by
 induction cs with
 |nil=>rfl
 |cons a as ih=>simp [clrs,ih]
theorem ZgW (a:AV):a.clr.one=a.one:=by
 cases a <;> try rfl
 rename_i o k xs;cases o <;> rfl
theorem ZlW (a b:List AV):clrs (a ++ b)=clrs a ++ clrs b:=by simp [ZgV]
theorem Xy (a:List AV):(clrs a).length=a.length:=by simp [ZgV]
theorem ZgX {cs:List AV} {vs:Array Value} {F:List Nat} (h:Reps w Pr γ base cs vs.toList F):Rep w Pr γ base (.agg cs) (.agg vs) F:=by simpa using Rep.agg h
mutual
theorem Rep.drop {a:AV} {v:Value} {F:List Nat}:Rep w Pr γ base a v F->Rep w Pr γ base' a.clr v []
 | .lit e=> .lit e
 | .agg e=> .agg (Reps.drop e)
 | .tup e=> .tup (RepL.drop e)
 | .fn e=> .fn (Reps.drop e)
 | .rp h1 h2 h3 h4 e=> .rp h1 h2 h3 h4 (Reps.drop e)
 | .gp e=> .gp e
 | .nilq h=> .nilq h
 | .opq=> .opq
 | .unil=> .opq
 | .unq _ _ _ _ _ _ _ _ _ _=> .opq
 | .shr h2 h3 h4 h5 e h6=>by
  refine .shr h2 h3 h4 h5 (Reps.drop' e) h6
 | .nil=>by
  refine .shr (xs:= []) (vs:= []) rfl (Uq _) (Mm _) (by simp) ?_ (.inl rfl);exact .nil
 | .own (b:=b) (n:=n) (k:=k) (xs:=xs) (cur:=cur) h1 h2 h3 h4 h5 h6 h7 e h8 _=>by
  refine .shr h5 h3 h4 h6 (Reps.drop e) (.inr ⟨⟨b,0,none⟩,rfl,rfl,fun j v hj=> ?_,fun j hj=> ?_,YL h1⟩)
  ·rw [←h7,UA] at hj;split at hj
   ·rw [U0,X8 h1];simpa using hj
   ·cases hj
  ·rw [U0];refine (h8 j).2 ?_;rw [←h7,Uc] at hj;omega
theorem Reps.drop {cs:List AV} {vs:List Value} {F:List Nat}:Reps w Pr γ base cs vs F->Reps w Pr γ base' (clrs cs) vs []
 | .nil=> .nil
 | .cons h1 e e'=> .cons (F:= []) (G:= []) (by rw [ZgW];exact h1) (Rep.drop e) (Reps.drop e')
theorem RepL.drop {cs:List AV} {vs:List Value} {F:List Nat}:RepL w Pr γ base cs vs F->RepL w Pr γ base' (clrs cs) vs []
 | .nil=> .nil
 | .cons e e'=> .cons (F:= []) (G:= []) (Rep.drop e) (RepL.drop e')
theorem Rep.drop' {a:AV} {v:Value} {F:List Nat}:Rep w Pr γ base a v F->Rep w Pr γ base' a v F
 | .lit e=> .lit e
 | .agg e=> .agg (Reps.drop' e)
 | .tup e=> .tup (RepL.drop' e)
 | .fn e=> .fn (Reps.drop' e)
 | .rp h1 h2 h3 h4 e=> .rp h1 h2 h3 h4 (Reps.drop' e)
 | .gp e=> .gp e
 | .nilq h=> .nilq h
 | .opq=> .opq
 | .unil=> .unil
 | .unq h1 h2 h0 h3 h4 h5 h6 h7 e h8=> .unq h1 h2 h0 h3 h4 h5 h6 h7 (Reps.drop' e) h8
 | .shr h2 h3 h4 h5 e h6=> .shr h2 h3 h4 h5 (Reps.drop' e) h6
 | .nil=> .nil
 | .own h1 h2 h3 h4 h5 h6 h7 e h8 hpos=> .own h1 h2 h3 h4 h5 h6 h7 (Reps.drop' e) h8 hpos
theorem Reps.drop' {cs:List AV} {vs:List Value} {F:List Nat}:Reps w Pr γ base cs vs F->Reps w Pr γ base' cs vs F
 | .nil=> .nil
 | .cons h1 e e'=> .cons h1 (Rep.drop' e) (Reps.drop' e')
theorem RepL.drop' {cs:List AV} {vs:List Value} {F:List Nat}:RepL w Pr γ base cs vs F->RepL w Pr γ base' cs vs F
 | .nil=> .nil
 | .cons e e'=> .cons (Rep.drop' e) (RepL.drop' e')
end
theorem Rep.clr {a:AV} {v:Value} {F:List Nat} (h:Rep w Pr γ base a v F):Rep w Pr γ base a.clr v []:=h.drop
theorem Reps.clr {a:List AV} {v:List Value} {F:List Nat} (h:Reps w Pr γ base a v F):Reps w Pr γ base (clrs a) v []:=h.drop
theorem Reps.append {as bs:List AV} {us vs:List Value} {F G:List Nat} (h:Reps w Pr γ base as us F) (h':Reps w Pr γ base bs vs G):Reps w Pr γ base (as ++ bs) (us ++ vs) (F ++ G):=by
 induction as generalizing us F with
 |nil=>cases h;exact h'
 |cons a as ih=>cases h with
  |cons h1 h2 h3=>rw [U5,U5,Uw];exact .cons h1 h2 (ih h3)
theorem Reps.split {as bs:List AV} {vs:List Value} {F:List Nat} (h:Reps w Pr γ base (as ++ bs) vs F):
  ∃F1 F2,F=F1 ++ F2/\Reps w Pr γ base as (vs.take as.length) F1/\Reps w Pr γ base bs (vs.drop as.length) F2:=by
 induction as generalizing vs F with
 |nil=>exact ⟨[],F,rfl, .nil,h⟩
 |cons a as ih=>cases h with
  |cons h1 h2 h3=>
   obtain ⟨F1,F2,rfl,h4,h5⟩:=ih h3;exact ⟨_ ++ F1,F2,by rw [Uw], .cons h1 h2 h4,h5⟩
theorem RepL.append {as bs:List AV} {us vs:List Value} {F G:List Nat} (h:RepL w Pr γ base as us F) (h':RepL w Pr γ base bs vs G):RepL w Pr γ base (as ++ bs) (us ++ vs) (F ++ G):=by
 induction as generalizing us F with
 |nil=>cases h;exact h'
 |cons a as ih=>cases h with
  |cons h2 h3=>rw [U5,U5,Uw];exact .cons h2 (ih h3)
theorem Rep.oneCell {a:AV} {v:Value} {F:List Nat} (h:Rep w Pr γ base a v F) (ha:a.one=true):v.oneCell'=true/\v.cells= #[v]:=by
 cases h with
 |lit e=>cases v <;> simp_all [Yi,Value.oneCell',Value.cells]
 |agg e=>simp [AV.one] at ha
 |tup e=>simp [AV.one] at ha
 |gp e=>simp [AV.one] at ha
 | _=>exact ⟨rfl,rfl⟩
theorem Reps.oneCell {as:List AV} {vs:List Value} {F:List Nat} (h:Reps w Pr γ base as vs F):∀v∈vs,v.oneCell'=true:=by
 induction as generalizing vs F with
 |nil=>cases h;simp
 |cons a as ih=>cases h with
  |cons h1 h2 h3=>
   intro v hv;rcases List.mem_cons.1 hv with rfl |hv
   ·exact (h2.oneCell h1).1
   ·exact ih h3 v hv
theorem Rep.cellsN {a:AV} {v:Value} {F:List Nat} {n:Nat} {cs:List AV} (h:Rep w Pr γ base a v F) (hc:cellsN n a=some cs):
  v.cells.size=n/\Reps w Pr γ base cs v.cells.toList F/\cs.length=n:=by
 by_cases ho:a.one=true
 ·have h1:=(h.oneCell ho).2;have h2:Reps w Pr γ base [a] [v] (F ++ []):= .cons ho h .nil;have h3:(bif Nat.beq n 1 then some [a] else none)=some cs:=by
   cases a <;> first |exact hc | (simp [AV.one] at ho;done)
  cases hb:Nat.beq n 1 with
  |false=>rw [hb] at h3;cases h3
  |true=>
   rw [hb] at h3;cases h3;have:=Ud hb;exact ⟨by rw [h1];simp [this],by rw [h1];simpa using h2,by simp [this]⟩
 ·cases h with
  |agg e=>
   rename_i cs' vs';have h3:(bif Nat.beq cs'.length n then some cs' else none)=some cs:=hc;cases hb:Nat.beq cs'.length n with
   |false=>rw [hb] at h3;cases h3
   |true=>
    rw [hb] at h3;cases h3;have:=Ud hb;exact ⟨by simp [Value.cells,e.length_eq,this],by simpa [Value.cells] using e,this⟩
  |tup e=>cases hc
  |gp e=>cases hc
  | _=>exact absurd rfl ho
end
end Go.Fx
