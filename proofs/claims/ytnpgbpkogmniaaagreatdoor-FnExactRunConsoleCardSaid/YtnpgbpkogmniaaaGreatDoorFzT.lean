/- Values that are nobody else's: lent for a call; made so. -/
import Derived.Test.YtnpgbpkogmniaaaGreatDoorFzS
set_option linter.all false
namespace Go.Fx
def PA (w:World):Nat->Nat->Prop:=fun b _=>b < w.heap.size
theorem ZgY (cs:List AV):Q5 cs=cs.map AV.bor:=by
 induction cs with
 |nil=>rfl
 |cons a as ih=>simp [Q5,ih]
theorem Zqu (cs:List (List AV)):Yn cs=cs.map Q5:=by
 induction cs with
 |nil=>rfl
 |cons a as ih=>simp [Yn,ih]
theorem ZgZ (cs:List AV):Q6 cs=cs.map AV.toU:=by
 induction cs with
 |nil=>rfl
 |cons a as ih=>simp [Q6,ih]
theorem Zqv (cs:List (List AV)):Yk cs=cs.map Q6:=by
 induction cs with
 |nil=>rfl
 |cons a as ih=>simp [Yk,ih]
theorem ZzI (a:AV):a.bor.one=a.one:=by
 cases a <;> try rfl
 rename_i o k xs;cases o <;> rfl
theorem ZzJ (a:AV):a.toU.one=a.one:=by
 cases a <;> try rfl
 rename_i o k xs;cases o <;> rfl
theorem Zqw (xs:List (List AV)):(Yn xs).flatten=Q5 xs.flatten:=by
 induction xs with
 |nil=>rfl
 |cons x xs ih=>rw [Yn,UM,UM,ih,ZgY,ZgY,ZgY,UW]
theorem ZzK (xs:List (List AV)):(Yk xs).flatten=Q6 xs.flatten:=by
 induction xs with
 |nil=>rfl
 |cons x xs ih=>rw [Yk,UM,UM,ih,ZgZ,ZgZ,ZgZ,UW]
theorem ZzL (a b:List AV):Y6 (a ++ b)=(Y6 a && Y6 b):=by
 induction a with
 |nil=>simp [Y6]
 |cons x xs ih=>simp [Y6,ih,Bool.and_assoc]
theorem ZzM (xs:List (List AV)):Y6 xs.flatten=QL xs:=by
 induction xs with
 |nil=>rfl
 |cons x xs ih=>rw [UM,ZzL,ih,QL]
theorem Zqx {k:Nat} {xs:List (List AV)} (h:∀x∈xs,x.length=k):∀x∈Yn xs,x.length=k:=by
 intro x hx;rw [Zqu] at hx;obtain ⟨y,hy,rfl⟩:=List.mem_map.1 hx;rw [ZgY,Ut];exact h y hy
theorem ZzN {k:Nat} {xs:List (List AV)} (h:∀x∈xs,x.length=k):∀x∈Yk xs,x.length=k:=by
 intro x hx;rw [Zqv] at hx;obtain ⟨y,hy,rfl⟩:=List.mem_map.1 hx;rw [ZgZ,Ut];exact h y hy
theorem Zqy (xs:List (List AV)):(Yn xs).length=xs.length:=by rw [Zqu,Ut]
theorem ZzO (xs:List (List AV)):(Yk xs).length=xs.length:=by rw [Zqv,Ut]
section
variable {w:World} {Pr Pr2:Nat->Nat->Prop} {γ γ2:List Nat} {base base':Nat}
theorem Rep.toPA {a:AV} {v:Value} (hp:∀b i,b < w.heap.size->Pr b i->b < w.heap.size) (h:Rep w Pr γ base a v []):Rep w (PA w) γ base' a v []:=
 (h.drop' (base':=base')).mono (Ext.refl (fun _=>False) Pr w) (fun b i hb _=>hb) (fun _ _ h=>h) (Ur _) (by simp) (by simp)
mutual
theorem Rep.lent {a:AV} {v:Value} {F:List Nat}:Rep w Pr γ base a v F->Rep w (PA w) γ base' a.bor v []
 | .lit h=> .lit h
 | .agg h=> .agg (Reps.lent h)
 | .tup h=> .tup (RepL.lent h)
 | .fn h=>(Rep.fn h).clr.toPA (fun _ _ h _=>h)
 | .rp h1 h2 h3 h4 h=>(Rep.rp h1 h2 h3 h4 h).clr.toPA (fun _ _ h _=>h)
 | .gp h=> .gp h
 | .opq=> .opq
 | .nilq h=> .nilq h
 | .shr h2 h3 h4 h5 h h6=>(Rep.shr h2 h3 h4 h5 h h6).toPA (fun _ _ h _=>h)
 | .nil=>(Rep.nil (w:=w) (Pr:=Pr) (γ:=γ) (base:=base)).clr.toPA (fun _ _ h _=>h)
 | .own h1 h2 h3 h4 h5 h6 h7 h h8 h9=>(Rep.own h1 h2 h3 h4 h5 h6 h7 h h8 h9).clr.toPA (fun _ _ h _=>h)
 | .unil=> .shr (vs:= []) rfl (Ur _) (Mb _) (by simp [Yn]) .nil (.inl rfl)
 | .unq (b:=b) (n:=n) (k:=k) (cur:=cur) (xs:=xs) h1 h2 h0 h3 h4 h5 h6 h7 h h8=>by
  have hb:=(Reps.lent h).clr;rw [←Zqw] at hb;refine .shr ((Zqy _).trans h5) h3 h4 (Zqx h6) hb (.inr ⟨⟨b,0,none⟩,rfl,rfl,fun j v hj=> ?_,fun j hj=>YL h1,YL h1⟩);rw [←h7,UA] at hj;split at hj
  ·rw [UZ,X4 h1];simpa using hj
  ·cases hj
theorem Reps.lent {cs:List AV} {vs:List Value} {F:List Nat}:Reps w Pr γ base cs vs F->Reps w (PA w) γ base' (Q5 cs) vs []
 | .nil=> .nil
 | .cons h1 h h'=> .cons (F:= []) (G:= []) (by rw [ZzI];exact h1) (Rep.lent h) (Reps.lent h')
theorem RepL.lent {cs:List AV} {vs:List Value} {F:List Nat}:RepL w Pr γ base cs vs F->RepL w (PA w) γ base' (Q5 cs) vs []
 | .nil=> .nil
 | .cons h h'=> .cons (F:= []) (G:= []) (Rep.lent h) (RepL.lent h')
end
mutual
theorem Rep.mine {a:AV} {v:Value} {F:List Nat}:Rep w Pr γ base a v F->a.okU=true->(∀b∈F,∀i,¬Pr2 b i)->Rep w Pr2 γ2 base' a.toU v F
 | .lit h,_,_=> .lit h
 | .agg h,ok,hF=> .agg (Reps.mine h ok hF)
 | .tup h,ok,hF=> .tup (RepL.mine h ok hF)
 | .fn h,ok,_=>by cases ok
 | .rp h1 h2 h3 h4 h,ok,_=>by cases ok
 | .gp h,ok,_=>by cases ok
 | .opq,ok,_=>by cases ok
 | .nilq h,ok,_=>by cases ok
 | .shr h2 h3 h4 h5 h h6,ok,_=>by cases ok
 | .nil,_,_=> .unil
 | .unil,ok,_=>by cases ok
 | .unq h1 h2 h0 h3 h4 h5 h6 h7 h h8,ok,_=>by cases ok
 | .own (xs:=xs) h1 h2 h3 h4 h5 h6 h7 h h8 h9,ok,hF=>by
  have ok':Y6 xs.flatten=true:=by rw [ZzM];exact ok
  have hb:=Reps.mine h ok' (fun b hb=>hF b (Ui _ hb));rw [←ZzK] at hb;exact .unq h1 h2 h9 h3 h4 ((ZzO _).trans h5) (ZzN h6) h7 hb (hF _ (Un ..))
theorem Reps.mine {cs:List AV} {vs:List Value} {F:List Nat}:Reps w Pr γ base cs vs F->Y6 cs=true->(∀b∈F,∀i,¬Pr2 b i)->Reps w Pr2 γ2 base' (Q6 cs) vs F
 | .nil,_,_=> .nil
 | .cons h1 h h',ok,hF=>by
  simp only [Y6,Ub] at ok;exact .cons (by rw [ZzJ];exact h1) (Rep.mine h ok.1 (fun b hb=>hF b (Uz _ hb))) (Reps.mine h' ok.2 (fun b hb=>hF b (UD _ hb)))
theorem RepL.mine {cs:List AV} {vs:List Value} {F:List Nat}:RepL w Pr γ base cs vs F->Y6 cs=true->(∀b∈F,∀i,¬Pr2 b i)->RepL w Pr2 γ2 base' (Q6 cs) vs F
 | .nil,_,_=> .nil
 | .cons h h',ok,hF=>by
  simp only [Y6,Ub] at ok;exact .cons (Rep.mine h ok.1 (fun b hb=>hF b (Uz _ hb))) (RepL.mine h' ok.2 (fun b hb=>hF b (UD _ hb)))
end
end
end Go.Fx
