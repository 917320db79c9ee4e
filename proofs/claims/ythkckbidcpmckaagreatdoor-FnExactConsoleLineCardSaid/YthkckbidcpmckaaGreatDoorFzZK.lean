/- Functions of the library, out of the kit's shelf: slices.SortFunc at lists of lists of numbers. -/
import Derived.Test.YthkckbidcpmckaaGreatDoorFzZK0
import Derived.Shelf.SlSortCmp.Whole1
set_option linter.all false
namespace Go.Fx
open Go.RowKit Go.Proofs Go.Sort Go.Shelf
section
variable {P:Program} {w w':World} {Pr:Nat->Nat->Prop} {γ:List Nat} {base:Nat}
theorem Zli {α:Type} [Inhabited α] {enc:α->Value} {w:World} {blk m b:Nat} {dk:Array α} {os:Array Obj} (hb:b < w.heap.size):
  (sortWorld enc w blk 0 m dk os).heap[b]? =if blk=b then (w.heap[b]?).map (onCells (putCells enc 0 dk)) else w.heap[b]? :=by
 show ((w.heap.modify blk (onCells (putCells enc 0 dk))) ++ os)[b]? =_;rw [Fk (by rw [Array.size_modify];exact hb),Array.getElem?_modify]
theorem Zlj {α:Type} [Inhabited α] {enc:α->Value} {w:World} {blk m:Nat} {dk:Array α} {os:Array Obj}:w.heap.size<=(sortWorld enc w blk 0 m dk os).heap.size:=by
 show w.heap.size<=((w.heap.modify blk (onCells (putCells enc 0 dk))) ++ os).size;rw [M0,Array.size_modify];omega
theorem Zwp {α:Type} [Inhabited α] {enc:α->Value} {w:World} {blk m b i:Nat} {dk:Array α} {os:Array Obj} (hb:b < w.heap.size) (hne:b≠blk):(sortWorld enc w blk 0 m dk os).cell? ⟨b,i,none⟩=w.cell? ⟨b,i,none⟩:=by
 unfold World.cell?;rw [Zli hb,Uf (Ne.symm hne)]
theorem ReadI.sorted {α:Type} [Inhabited α] {enc:α->Value} {v:Value} {xs:List Int} {blk m:Nat} {dk:Array α} {os:Array Obj} (h:ReadI w v xs Pr) (hn:∀i,¬Pr blk i):ReadI (sortWorld enc w blk 0 m dk os) v xs fun _ _=>True:=by
 obtain ⟨A,n,c,b,o,h1,h2,h3,h4,h5⟩:=h;refine ⟨A,n,c,b,o,h1,h2,h3,fun h0=>⟨(h4 h0).1,UB (h4 h0).2 Zlj⟩,fun j hj=>⟨trivial,?_⟩⟩;have hb:=h5 j hj;have hne:b≠blk:=fun e=>hn (o + j) (by rw [←e];exact hb.1)
 rw [Zwp (h4 (by omega)).2 hne];exact hb.2
theorem ZIO {α:Type} [Inhabited α] {enc:α->Value} {w:World} {blk m:Nat} {dk:Array α} {os:Array Obj} (hn:∀i,¬Pr blk i):Ext (fun b=>b=blk) Pr w (sortWorld enc w blk 0 m dk os) where
 os:=rfl
 tape:=rfl
 output:=rfl
 size:=Zlj
 blk b hb hd:=by rw [Zli hb,Uf (fun e=>hd e.symm)]
 cell b i hb hp:=Zwp hb (fun e=>hn i (e ▸ hp))
 shp b cur e hb:=by
  rw [Zli (YL hb)];by_cases c:blk=b
  ·rw [Ul c,hb];exact ⟨putCells enc 0 dk cur,rfl,by simp [putCells]⟩
  ·rw [Uf c];exact ⟨cur,hb,rfl⟩
theorem Ext.wider {D D':Nat->Prop} (h:Ext D Pr w w') (hd:∀b,D b->D' b):Ext D' Pr w w' where
 os:=h.os
 tape:=h.tape
 output:=h.output
 size:=h.size
 blk b hb hn:=h.blk b hb fun c=>hn (hd b c)
 cell:=h.cell
 shp:=h.shp
abbrev Zgq (o:Own) (xs:List Int):AV:= .slc o 1 (xs.map (Zg rI).enc)
def ZcE (o:Own) (xs:List Int):List AV:= [Zgq o xs]
theorem Zp9 (o:Own):∀l:List (List Int),(l.map (ZcE o)).flatten=l.map (Zgq o)
 | []=>rfl
 |x::l=>by
  rw [Mb,UM,Zp9 o l];rfl
theorem ZIP {α:Type} (f:α->List Int):SWO (ltOf fun i j=>XZ (f i) (f j)) where
 irrefl x:=by
  unfold ltOf;simp only [ZhL,U7];exact List.lt_irrefl _
 trans x y z:=by
  unfold ltOf;simp only [ZhL,UI];exact List.lt_trans
 ntrans x y z:=by
  unfold ltOf;simp only [ZhL,U7,List.not_lt];exact fun h1 h2=>List.le_trans h2 h1
theorem ZIQ {a:AV} {v:Value} {F:List Nat} {o:Own} {k:Nat} {xs:List (List AV)} (h:Rep w Pr γ base a v F) (e:a= .slc o k xs):∃A n c,v= .slice A n c:=by
 subst e;cases h <;> exact ⟨_,_,_,rfl⟩
end
section
variable {P:Program} {w w':World} {Pr:Nat->Nat->Prop}
theorem ZIR {ng:Nat} {G0:Nat->Option Obj} {ρ:Ren} {f g:Nat} {fn:Func} {c:Code} {o:Own} (ho:o= .own\/o= .shr) (L:SlLaysF.n6 P ρ) (hf:ρ.f 6=f) (hfn:P.funcs[f]? =some fn) (hname:(fn.name== "runtime.NumGoroutine")=false) (hb:fn.body=some c)
  (eg:∀args w,(callFunc g args).run P w= .ok (.enter g args) w)
  (hnone:∀(p:Option Addr) (cap:Nat) (fv:Value) (w:World),Calls P (ρ.f 6) #[.slice p 0 cap,fv] w fun e w'=>e= .returned (.tuple #[])/\w'=w)
  (hcmp:∀(xs ys:List Int) (v1 v2:Value) (w:World),ReadI w v1 xs (fun _ _=>True)->ReadI w v2 ys (fun _ _=>True)->Calls P g #[v1,v2] w fun e w'=>e= .returned (.int .i64 (XZ xs ys))/\w'=w):
  ∀x:List (List Int),x.length < 4611686018427387904->Zhp P ng G0 f [.slc .unq 1 (x.map (ZcE o)), .fn g []] (.tup [.tup [], .slc .unq 1 ((Qx x).map (ZcE o))]):=by
 intro x hxl w Pr vs F hrep hnd hprl hlt hng hgl hngo;subst hf;cases hrep with
 | @cons _ v1 F1 _ vs1 G1 h1 h2=>
 cases h2 with
 | @cons _ v2 F2 _ vs2 G2 h2 h3=>
 cases h3;cases h2 with
 |fn hr=>
 cases hr;refine ⟨run_callFunc hfn hname hb _ _,?_⟩;show Calls P (ρ.f 6) #[v1, .func (.func g) #[] #[]] w (ZeF fun v w'=>CallPost _ w Pr [] (.tup [.tup [], .slc .unq 1 ((Qx x).map (ZcE o))]) [] (.tuple #[v,v1]) w');generalize hrows:x.map (ZcE o)=rows at h1;cases h1 with
 | @unil _ A=>
  have hx:x= []:=by
   cases x with
   |nil=>rfl
   |cons _ _=>simp at hrows
  subst hx;refine (hnone A 0 _ w).mono fun e w' ⟨he,hw⟩=> ?_
  subst he;subst hw;have e:Qx []= []:=by
   have:=(ZhM []).length_eq;exact Us this
  rw [e];exact ⟨fun _=>none,Pr,[],_,Ext.refl _ _ _,fun _ _ _ _=>Ms,fun _ _ _ h=>h, .tup (.cons (.tup .nil) (.cons .unil .nil)),UE,(fun _ h=>by cases h),(fun _ _ h=>by cases h),rfl,(fun _ _ h=>h),hprl,(fun _ _ h=>by cases h),(fun _ _ h=>by cases h)⟩
 | @unq _ blk n cap e cur _ vs0 F0 q1 q2 q0 q3 q4 q5 q6 q7 q8 q9=>
  subst hrows;have hxn:x.length=n:=by rw [←q5,Uy]
  rw [Zp9] at q8;obtain ⟨Fs,z1,z2,z3,z4⟩:=q8.pts;rw [Uy,hxn] at z1 z2
  haveI:Inhabited (_root_.Fin n):=⟨⟨0,q0⟩⟩
  let lists:_root_.Fin n->List Int:=fun i=>x[i.val]'(by omega)
  let enc:_root_.Fin n->Value:=fun i=>vs0[i.val]'(by omega)
  let Gs:_root_.Fin n->List Nat:=fun i=>Fs[i.val]'(by omega)
  have hpt:∀i:_root_.Fin n,(Zgq o (lists i)).one=true/\Rep w Pr [] w.heap.size (Zgq o (lists i)) (enc i) (Gs i):=fun i=>
   z4 i.val _ _ _ (by rw [Mf,Ua (show i.val < x.length by omega)];rfl) (Ua _) (Ua _)
  have hone:OneCell enc:=fun i=>by
   obtain ⟨A,n,c,hv⟩:=ZIQ (hpt i).2 rfl;rw [hv];rfl
  have hrd:∀i:_root_.Fin n,ReadI w (enc i) (lists i) Pr:=fun i=>ZDg (hpt i).2 ho
  have hd:(List.finRange n).toArray.size=n:=by simp
  have hdj:∀j (hj:j < n),(List.finRange n).toArray[j]! =⟨j,hj⟩:=fun j hj=>by
   rw [M9 _ j (by rw [hd];exact hj)];simp
  have hH:Go.Sort.Holds enc w blk 0 (List.finRange n).toArray:=fun j hj=>by
   rw [hd] at hj;refine ⟨?_,by simp [World.frozen?,q1]⟩;rw [hdj j hj,X8 q1];show cur[0 + j]? =some (vs0[j]'(by omega));have:=Ua (show j < vs0.length by omega);rw [←this,←q7,UA,Ul (by omega),U0];simp
  have hblk:=YL q1;have key:=Any.slices_SortFunc L enc hone (fun i j=>XZ (lists i) (lists j)) (ZIP lists) g #[] blk 0 cap (List.finRange n).toArray w eg
   (fun m os dk hdk a b=>(hcmp (lists a) (lists b) (enc a) (enc b) _ ((hrd a).sorted q9) ((hrd b).sorted q9)).mono fun e w' ⟨he,hw⟩=>⟨he,0,#[],by rw [hw,grow_empty];rfl⟩) hH hblk (by rw [hd];omega)
  rw [hd] at key;refine key.mono fun e w' ⟨he,d',n',os,hp,hs,hw⟩=> ?_
  subst he;subst hw;obtain ⟨p1,p2,p3⟩:=hp;rw [hd] at p1;have p4:d'.toList.Perm (List.finRange n):=by
   have e1:∀A:Array (_root_.Fin n),A.size=n->A.extract 0 n=A:=fun A hA=>Array.ext (by simp [hA]) fun i h1 h2=>by simp
   rw [e1 _ p1,e1 _ hd] at p3;exact p3
  have hlx:(List.finRange n).map lists=x:=by
   apply List.ext_getElem
   ·simp [hxn]
   ·intro i h1 h2;simp [lists]
  have hlF:(List.finRange n).map Gs=Fs:=by
   apply List.ext_getElem
   ·simp [z1]
   ·intro i h1 h2;simp [Gs]
  have hsort:d'.toList.map lists=Qx x:=by
   refine ZsT ?_ ?_
   ·rw [←hlx];exact p4.map _
   ·rw [List.pairwise_map,MH];intro i j hi hj hij;have:=hs i j (Mm _) hij (by simpa [p1] using hj);unfold ltOf at this;simp only [ZhL,U7,List.not_lt] at this;rw [M9 d' i (by simpa using hi),M9 d' j (by simpa using hj)] at this;simpa using this
  have hPF:(d'.toList.map Gs).flatten.Perm F0:=by
   rw [z3,←hlF];exact (p4.map Gs).flatten
  have hndF:F0.Nodup/\blk∉F0:=by
   have:(blk::F0).Nodup:=by simpa using hnd
   exact ⟨(List.nodup_cons.1 this).2,(List.nodup_cons.1 this).1⟩
  have hext:Ext (fun b=>b=blk) Pr w (sortWorld enc w blk 0 n' d' os):=ZIO q9;have hrows:Reps (sortWorld enc w blk 0 n' d' os) Pr [] w.heap.size (d'.toList.map fun i=>Zgq o (lists i)) (d'.toList.map enc) (d'.toList.map Gs).flatten:=
   Reps.join fun i hi=>⟨(hpt i).1,Rep.mono hext (fun _ _ _ h=>h) (fun _ _ h=>h) (Uq _) (hpt i).2 (fun b hb e=>hndF.2 (by
    rw [←e,z3,←hlF];exact List.mem_flatten.2 ⟨Gs i,List.mem_map.2 ⟨i,List.mem_finRange i,rfl⟩,hb⟩)) (fun _ _ _=>Ms)⟩
  refine ⟨fun b=>if b∈blk::(d'.toList.map Gs).flatten then some .pd else none,Pr,[],[] ++ ((blk::(d'.toList.map Gs).flatten) ++ []),hext.wider fun b hb=>by rw [hb];simp,fun _ _ _ _=>Ms,fun _ _ _ h=>h,?_,?_,?_,(fun _ _ h=>by cases h),rfl,(fun _ _ h=>h),fun b i hp=>UB (hprl b i hp) Zlj,?_,?_⟩
  ·refine .tup (.cons (.tup .nil) (.cons ?_ .nil));refine .unq (cur:=putCells enc 0 d' cur) (e:=e) (vs:=d'.toList.map enc) ?_ ?_ q0 q3 q4 ?_ ?_ ?_ ?_ q9
   ·rw [Zli hblk,Ul rfl,q1];rfl
   ·simp [putCells,q2]
   ·rw [Uy,(ZhM x).length_eq,hxn]
   ·intro y hy;obtain ⟨z,_,rfl⟩:=List.mem_map.1 hy;rfl
   ·apply UV;intro i;rw [UA];by_cases hi:i < n
    ·rw [Ul (by omega)];have hci:i < cur.size:=by
      rw [q2];omega
     simp only [putCells,Mo,Array.getElem?_mapIdx,Mf];rw [MG hci,MG (show i < d'.size by omega)];simp only [Fu,Mm,FQ,U0,Nat.sub_zero];rw [Ul (by omega),M9 d' i (by omega)]
    ·rw [Uf (by omega),UP (by simp;omega)]
   ·rw [Zp9,←hsort,MP];exact hrows
  ·simp only [U9,UK];exact List.nodup_cons.2 ⟨fun hm=>hndF.2 (hPF.subset hm),hPF.nodup_iff.2 hndF.1⟩
  ·intro b hb;exact Ul (by simpa using hb)
  ·intro b l hb;dsimp only at hb;split at hb
   ·rename_i hm;have hbF:b∈blk::F0:=by
     rcases List.mem_cons.1 hm with h |h
     ·rw [h];exact Uj ..
     ·exact Ug _ (hPF.subset h)
    exact UB (hlt b (by simpa using hbF)) Zlj
   ·cases hb
  ·intro b l hb _;dsimp only at hb;split at hb
   ·rename_i hm;have hbF:b∈blk::F0:=by
     rcases List.mem_cons.1 hm with h |h
     ·rw [h];exact Uj ..
     ·exact Ug _ (hPF.subset h)
    simpa using hbF
   ·cases hb
end
end Go.Fx
