/- Values that are nobody else's: lent for a call; made so. -/
import Derived.Test.YtdnmbglemaogcaaGreatDoorFzS
set_option linter.all false
namespace Go.Fx
def PA (w:World):Nat->Nat->Prop:=fun b _=>b < w.heap.size
theorem Zgp (cs:List AV):Xb cs=cs.map AV.bor:=by
 induction cs with
 |nil=>rfl
 |cons a as ih=>simp [Xb,ih]
theorem ZpF (cs:List (List AV)):Yo cs=cs.map Xb:=by
 induction cs with
 |nil=>rfl
 |cons a as ih=>simp [Yo,ih]
theorem Zgq (cs:List AV):Xc cs=cs.map AV.toU:=by
 induction cs with
 |nil=>rfl
 |cons a as ih=>simp [Xc,ih]
theorem ZpG (cs:List (List AV)):Ym cs=cs.map Xc:=by
 induction cs with
 |nil=>rfl
 |cons a as ih=>simp [Ym,ih]
theorem Zyf (a:AV):a.bor.one=a.one:=by
 cases a <;> try rfl
 rename_i o k xs;cases o <;> rfl
theorem Zyg (a:AV):a.toU.one=a.one:=by
 cases a <;> try rfl
 rename_i o k xs;cases o <;> rfl
theorem ZpH (xs:List (List AV)):(Yo xs).flatten=Xb xs.flatten:=by
 induction xs with
 |nil=>rfl
 |cons x xs ih=>rw [Yo,UL,UL,ih,Zgp,Zgp,Zgp,UX]
theorem Zyh (xs:List (List AV)):(Ym xs).flatten=Xc xs.flatten:=by
 induction xs with
 |nil=>rfl
 |cons x xs ih=>rw [Ym,UL,UL,ih,Zgq,Zgq,Zgq,UX]
theorem Zyi (a b:List AV):YG (a ++ b)=(YG a && YG b):=by
 induction a with
 |nil=>simp [YG]
 |cons x xs ih=>simp [YG,ih,Bool.and_assoc]
theorem Zyj (xs:List (List AV)):YG xs.flatten=Y6 xs:=by
 induction xs with
 |nil=>rfl
 |cons x xs ih=>rw [UL,Zyi,ih,Y6]
theorem ZpI {k:Nat} {xs:List (List AV)} (h:∀x∈xs,x.length=k):∀x∈Yo xs,x.length=k:=by
 intro x hx;rw [ZpF] at hx;obtain ⟨y,hy,rfl⟩:=List.mem_map.1 hx;rw [Zgp,Uv];exact h y hy
theorem Zyk {k:Nat} {xs:List (List AV)} (h:∀x∈xs,x.length=k):∀x∈Ym xs,x.length=k:=by
 intro x hx;rw [ZpG] at hx;obtain ⟨y,hy,rfl⟩:=List.mem_map.1 hx;rw [Zgq,Uv];exact h y hy
theorem ZpJ (xs:List (List AV)):(Yo xs).length=xs.length:=by rw [ZpF,Uv]
theorem Zyl (xs:List (List AV)):(Ym xs).length=xs.length:=by rw [ZpG,Uv]
section
variable {w:World} {Pr Pr2:Nat->Nat->Prop} {γ γ2:List Nat} {base base':Nat}
theorem Rep.toPA {a:AV} {v:Value} (hp:∀b i,b < w.heap.size->Pr b i->b < w.heap.size) (h:Rep w Pr γ base a v []):Rep w (PA w) γ base' a v []:=
 (h.drop' (base':=base')).mono (Ext.refl (fun _=>False) Pr w) (fun b i hb _=>hb) (fun _ _ h=>h) (Uq _) (by simp) (by simp)
mutual
theorem Rep.lent {a:AV} {v:Value} {F:List Nat}:Rep w Pr γ base a v F->Rep w (PA w) γ base' a.bor v []
 | .lit h=> .lit h
 | .agg h=> .agg (Reps.lent h)
 | .tup h=> .tup (RepL.lent h)
 | .fn h=>(Rep.fn h).clr.toPA (fun _ _ h _=>h)
 | .rp h1 h2 h3 h4 h=>(Rep.rp h1 h2 h3 h4 h).clr.toPA (fun _ _ h _=>h)
 | .gp h=> .gp h
 | .opq=> .opq
 | .nilq h=> .nilq h
 | .shr h2 h3 h4 h5 h h6=>(Rep.shr h2 h3 h4 h5 h h6).toPA (fun _ _ h _=>h)
 | .nil=>(Rep.nil (w:=w) (Pr:=Pr) (γ:=γ) (base:=base)).clr.toPA (fun _ _ h _=>h)
 | .own h1 h2 h3 h4 h5 h6 h7 h h8 h9=>(Rep.own h1 h2 h3 h4 h5 h6 h7 h h8 h9).clr.toPA (fun _ _ h _=>h)
 | .unil=> .shr (vs:= []) rfl (Uq _) (U7 _) (by simp [Yo]) .nil (.inl rfl)
 | .unq (b:=b) (n:=n) (k:=k) (cur:=cur) (xs:=xs) h1 h2 h0 h3 h4 h5 h6 h7 h h8=>by
  have hb:=(Reps.lent h).clr;rw [←ZpH] at hb;refine .shr ((ZpJ _).trans h5) h3 h4 (ZpI h6) hb (.inr ⟨⟨b,0,none⟩,rfl,rfl,fun j v hj=> ?_,fun j hj=>YK h1,YK h1⟩);rw [←h7,Uz] at hj;split at hj
  ·rw [UZ,XV h1];simpa using hj
  ·cases hj
theorem Reps.lent {cs:List AV} {vs:List Value} {F:List Nat}:Reps w Pr γ base cs vs F->Reps w (PA w) γ base' (Xb cs) vs []
 | .nil=> .nil
 | .cons h1 h h'=> .cons (F:= []) (G:= []) (by rw [Zyf];exact h1) (Rep.lent h) (Reps.lent h')
theorem RepL.lent {cs:List AV} {vs:List Value} {F:List Nat}:RepL w Pr γ base cs vs F->RepL w (PA w) γ base' (Xb cs) vs []
 | .nil=> .nil
 | .cons h h'=> .cons (F:= []) (G:= []) (Rep.lent h) (RepL.lent h')
end
mutual
theorem Rep.mine {a:AV} {v:Value} {F:List Nat}:Rep w Pr γ base a v F->a.okU=true->(∀b∈F,∀i,¬Pr2 b i)->Rep w Pr2 γ2 base' a.toU v F
 | .lit h,_,_=> .lit h
 | .agg h,ok,hF=> .agg (Reps.mine h ok hF)
 | .tup h,ok,hF=> .tup (RepL.mine h ok hF)
 | .fn h,ok,_=>by cases ok
 | .rp h1 h2 h3 h4 h,ok,_=>by cases ok
 | .gp h,ok,_=>by cases ok
 | .opq,ok,_=>by cases ok
 | .nilq h,ok,_=>by cases ok
 | .shr h2 h3 h4 h5 h h6,ok,_=>by cases ok
 | .nil,_,_=> .unil
 | .unil,ok,_=>by cases ok
 | .unq h1 h2 h0 h3 h4 h5 h6 h7 h h8,ok,_=>by cases ok
 | .own (xs:=xs) h1 h2 h3 h4 h5 h6 h7 h h8 h9,ok,hF=>by
  have ok':YG xs.flatten=true:=by rw [Zyj];exact ok
  have hb:=Reps.mine h ok' (fun b hb=>hF b (Uf _ hb));rw [←Zyh] at hb;exact .unq h1 h2 h9 h3 h4 ((Zyl _).trans h5) (Zyk h6) h7 hb (hF _ (Ug ..))
theorem Reps.mine {cs:List AV} {vs:List Value} {F:List Nat}:Reps w Pr γ base cs vs F->YG cs=true->(∀b∈F,∀i,¬Pr2 b i)->Reps w Pr2 γ2 base' (Xc cs) vs F
 | .nil,_,_=> .nil
 | .cons h1 h h',ok,hF=>by
  simp only [YG,Ua] at ok;exact .cons (by rw [Zyg];exact h1) (Rep.mine h ok.1 (fun b hb=>hF b (Uw _ hb))) (Reps.mine h' ok.2 (fun b hb=>hF b (UD _ hb)))
theorem RepL.mine {cs:List AV} {vs:List Value} {F:List Nat}:RepL w Pr γ base cs vs F->YG cs=true->(∀b∈F,∀i,¬Pr2 b i)->RepL w Pr2 γ2 base' (Xc cs) vs F
 | .nil,_,_=> .nil
 | .cons h h',ok,hF=>by
  simp only [YG,Ua] at ok;exact .cons (Rep.mine h ok.1 (fun b hb=>hF b (Uw _ hb))) (RepL.mine h' ok.2 (fun b hb=>hF b (UD _ hb)))
end
end
end Go.Fx
