/- Values that are nobody else's: lent for a call; made so. -/
import Derived.Test.YthkckbidcpmckaaGreatDoorFzS
set_option linter.all false
namespace Go.Fx
def PA (w:World):Nat->Nat->Prop:=fun b _=>b < w.heap.size
theorem Zhn (cs:List AV):Ql cs=cs.map AV.bor:=by
 induction cs with
 |nil=>rfl
 |cons a as ih=>simp [Ql,ih]
theorem ZrM (cs:List (List AV)):Yh cs=cs.map Ql:=by
 induction cs with
 |nil=>rfl
 |cons a as ih=>simp [Yh,ih]
theorem Zho (cs:List AV):Q4 cs=cs.map AV.toU:=by
 induction cs with
 |nil=>rfl
 |cons a as ih=>simp [Q4,ih]
theorem ZrN (cs:List (List AV)):YK cs=cs.map Q4:=by
 induction cs with
 |nil=>rfl
 |cons a as ih=>simp [YK,ih]
theorem ZBI (a:AV):a.bor.one=a.one:=by
 cases a <;> try rfl
 rename_i o k xs;cases o <;> rfl
theorem ZBJ (a:AV):a.toU.one=a.one:=by
 cases a <;> try rfl
 rename_i o k xs;cases o <;> rfl
theorem ZrO (xs:List (List AV)):(Yh xs).flatten=Ql xs.flatten:=by
 induction xs with
 |nil=>rfl
 |cons x xs ih=>rw [Yh,UM,UM,ih,Zhn,Zhn,Zhn,UY]
theorem ZBK (xs:List (List AV)):(YK xs).flatten=Q4 xs.flatten:=by
 induction xs with
 |nil=>rfl
 |cons x xs ih=>rw [YK,UM,UM,ih,Zho,Zho,Zho,UY]
theorem ZBL (a b:List AV):Y7 (a ++ b)=(Y7 a && Y7 b):=by
 induction a with
 |nil=>simp [Y7]
 |cons x xs ih=>simp [Y7,ih,Bool.and_assoc]
theorem ZBM (xs:List (List AV)):Y7 xs.flatten=Q5 xs:=by
 induction xs with
 |nil=>rfl
 |cons x xs ih=>rw [UM,ZBL,ih,Q5]
theorem ZrP {k:Nat} {xs:List (List AV)} (h:∀x∈xs,x.length=k):∀x∈Yh xs,x.length=k:=by
 intro x hx;rw [ZrM] at hx;obtain ⟨y,hy,rfl⟩:=List.mem_map.1 hx;rw [Zhn,Uy];exact h y hy
theorem ZBN {k:Nat} {xs:List (List AV)} (h:∀x∈xs,x.length=k):∀x∈YK xs,x.length=k:=by
 intro x hx;rw [ZrN] at hx;obtain ⟨y,hy,rfl⟩:=List.mem_map.1 hx;rw [Zho,Uy];exact h y hy
theorem ZrQ (xs:List (List AV)):(Yh xs).length=xs.length:=by rw [ZrM,Uy]
theorem ZBO (xs:List (List AV)):(YK xs).length=xs.length:=by rw [ZrN,Uy]
section
variable {w:World} {Pr Pr2:Nat->Nat->Prop} {γ γ2:List Nat} {base base':Nat}
theorem Rep.toPA {a:AV} {v:Value} (hp:∀b i,b < w.heap.size->Pr b i->b < w.heap.size) (h:Rep w Pr γ base a v []):Rep w (PA w) γ base' a v []:=
 (h.drop' (base':=base')).mono (Ext.refl (fun _=>False) Pr w) (fun b i hb _=>hb) (fun _ _ h=>h) (Uq _) (by simp) (by simp)
mutual
theorem Rep.lent {a:AV} {v:Value} {F:List Nat}:Rep w Pr γ base a v F->Rep w (PA w) γ base' a.bor v []
 | .lit h=> .lit h
 | .agg h=> .agg (Reps.lent h)
 | .tup h=> .tup (RepL.lent h)
 | .fn h=>(Rep.fn h).clr.toPA (fun _ _ h _=>h)
 | .rp h1 h2 h3 h4 h=>(Rep.rp h1 h2 h3 h4 h).clr.toPA (fun _ _ h _=>h)
 | .gp h=> .gp h
 | .opq=> .opq
 | .nilq h=> .nilq h
 | .shr h2 h3 h4 h5 h h6=>(Rep.shr h2 h3 h4 h5 h h6).toPA (fun _ _ h _=>h)
 | .nil=>(Rep.nil (w:=w) (Pr:=Pr) (γ:=γ) (base:=base)).clr.toPA (fun _ _ h _=>h)
 | .own h1 h2 h3 h4 h5 h6 h7 h h8 h9=>(Rep.own h1 h2 h3 h4 h5 h6 h7 h h8 h9).clr.toPA (fun _ _ h _=>h)
 | .unil=> .shr (vs:= []) rfl (Uq _) (Mm _) (by simp [Yh]) .nil (.inl rfl)
 | .unq (b:=b) (n:=n) (k:=k) (cur:=cur) (xs:=xs) h1 h2 h0 h3 h4 h5 h6 h7 h h8=>by
  have hb:=(Reps.lent h).clr;rw [←ZrO] at hb;refine .shr ((ZrQ _).trans h5) h3 h4 (ZrP h6) hb (.inr ⟨⟨b,0,none⟩,rfl,rfl,fun j v hj=> ?_,fun j hj=>YL h1,YL h1⟩);rw [←h7,UA] at hj;split at hj
  ·rw [U0,X8 h1];simpa using hj
  ·cases hj
theorem Reps.lent {cs:List AV} {vs:List Value} {F:List Nat}:Reps w Pr γ base cs vs F->Reps w (PA w) γ base' (Ql cs) vs []
 | .nil=> .nil
 | .cons h1 h h'=> .cons (F:= []) (G:= []) (by rw [ZBI];exact h1) (Rep.lent h) (Reps.lent h')
theorem RepL.lent {cs:List AV} {vs:List Value} {F:List Nat}:RepL w Pr γ base cs vs F->RepL w (PA w) γ base' (Ql cs) vs []
 | .nil=> .nil
 | .cons h h'=> .cons (F:= []) (G:= []) (Rep.lent h) (RepL.lent h')
end
mutual
theorem Rep.mine {a:AV} {v:Value} {F:List Nat}:Rep w Pr γ base a v F->a.okU=true->(∀b∈F,∀i,¬Pr2 b i)->Rep w Pr2 γ2 base' a.toU v F
 | .lit h,_,_=> .lit h
 | .agg h,ok,hF=> .agg (Reps.mine h ok hF)
 | .tup h,ok,hF=> .tup (RepL.mine h ok hF)
 | .fn h,ok,_=>by cases ok
 | .rp h1 h2 h3 h4 h,ok,_=>by cases ok
 | .gp h,ok,_=>by cases ok
 | .opq,ok,_=>by cases ok
 | .nilq h,ok,_=>by cases ok
 | .shr h2 h3 h4 h5 h h6,ok,_=>by cases ok
 | .nil,_,_=> .unil
 | .unil,ok,_=>by cases ok
 | .unq h1 h2 h0 h3 h4 h5 h6 h7 h h8,ok,_=>by cases ok
 | .own (xs:=xs) h1 h2 h3 h4 h5 h6 h7 h h8 h9,ok,hF=>by
  have ok':Y7 xs.flatten=true:=by rw [ZBM];exact ok
  have hb:=Reps.mine h ok' (fun b hb=>hF b (Ug _ hb));rw [←ZBK] at hb;exact .unq h1 h2 h9 h3 h4 ((ZBO _).trans h5) (ZBN h6) h7 hb (hF _ (Uj ..))
theorem Reps.mine {cs:List AV} {vs:List Value} {F:List Nat}:Reps w Pr γ base cs vs F->Y7 cs=true->(∀b∈F,∀i,¬Pr2 b i)->Reps w Pr2 γ2 base' (Q4 cs) vs F
 | .nil,_,_=> .nil
 | .cons h1 h h',ok,hF=>by
  simp only [Y7,Ub] at ok;exact .cons (by rw [ZBJ];exact h1) (Rep.mine h ok.1 (fun b hb=>hF b (Uz _ hb))) (Reps.mine h' ok.2 (fun b hb=>hF b (UD _ hb)))
theorem RepL.mine {cs:List AV} {vs:List Value} {F:List Nat}:RepL w Pr γ base cs vs F->Y7 cs=true->(∀b∈F,∀i,¬Pr2 b i)->RepL w Pr2 γ2 base' (Q4 cs) vs F
 | .nil,_,_=> .nil
 | .cons h h',ok,hF=>by
  simp only [Y7,Ub] at ok;exact .cons (Rep.mine h ok.1 (fun b hb=>hF b (Uz _ hb))) (RepL.mine h' ok.2 (fun b hb=>hF b (UD _ hb)))
end
end
end Go.Fx
