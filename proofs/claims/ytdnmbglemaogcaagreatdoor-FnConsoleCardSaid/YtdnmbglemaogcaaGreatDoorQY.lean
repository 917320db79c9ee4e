/- Plain facts: what the functions compute. -/
import Derived.Test.YtdnmbglemaogcaaGreatDoorQYa
set_option linter.all false
namespace Go.Sh
open Go.Fx
def XA (l:List Path) (c:List (List Int)) (p:Path):List (List Int):=if cov c p.id=true then c else c ++ [XO l [p.id]]
def XR (l:List Path):List (List Int):=if ZN l=true then l.foldl (XA l) [] else []
theorem ZsB (a:List Int) (n x:Int):has (YM a n) x=(has a x || n==x):=by
 unfold YM;split
 ·rename_i h;have hm:n∈a:=Uu h;by_cases c:n=x
  ·subst c;have:has a n=true:=by unfold has;exact List.any_eq_true.2 ⟨n,hm,by simp⟩
   rw [this];rfl
  ·rw [show (n==x)=false from MG.2 c,Bool.or_false]
 ·unfold ins has;have e:a.any (fun y=>y==x)=((a.take (low a n)).any (fun y=>y==x) || (a.drop (low a n)).any fun y=>y==x):=by
   rw [←FL,Ul]
  rw [e];simp only [FL,Fo,List.any_nil,Bool.or_false];cases (a.take (low a n)).any (fun y=>y==x) <;> cases (a.drop (low a n)).any (fun y=>y==x) <;> cases (n==x) <;> rfl
theorem ZsC (a:List Int) (n:Int):(YM a n).length<=a.length + 1:=by
 unfold YM;split
 ·omega
 ·rw [Zsi];exact Uq _
theorem ZCl (l:List Path) (p:Int):(XO l [p]).length<=20:=by
 unfold XO;split
 ·rename_i h;exact Zje (Zm1 h)
 ·simp
theorem ZCm (s:List Int):∀(a:List Int) (x:Int),has (s.foldl YM a) x=(has a x || has s x):=by
 induction s with
 |nil=>intro a x;simp [has]
 |cons y s ih=>
  intro a x;rw [Me,ih,ZsB];unfold has;rw [Fo];cases a.any (fun z=>z==x) <;> cases (y==x) <;> simp
theorem ZCn (s:List Int):∀(a:List Int),(s.foldl YM a).length<=a.length + s.length:=by
 induction s with
 |nil=>intro a;simp
 |cons y s ih=>
  intro a;rw [Me,UI];have:=ih (YM a y);have:=ZsC a y;omega
theorem Zfg {l:List Path} (h:ZN l=true):l.length<=12:=by
 unfold ZN at h;rw [Ua] at h;exact Fg h.1
theorem Zm9 {o p q:Own} (h0:okO o p=true) (h1:okO o q=true) (l:List (List Int)) (a:List Int) {β:Type} (K:List (List Int)->Option β):
  rws (Zb (rX o 1 iR)) (l.map (Zb (rX p 1 iR)).enc ++ [[.slc q 1 (a.map iR.enc)]]) K=K (l ++ [a]):=
 (Zad (Zb (rX o 1 iR)) _ _ K).trans ((Zcy h0 l _).trans (Zcy h1 [a] fun l'=>K (l ++ l')))
theorem ZsD (l:List Path) (h:Sm l):ZeH l=some (XR l):=by
 unfold ZeH XR;simp only [Zt,Zl,Zn,Zu,Zv,Zw,Zel,ZgQ,YP,Ki,XJ,JB l h,Ze];cases ha:ZN l with
 |false=>simp
 |true=>
 have hl:=Zfg ha;simp only [Uk,Zh,U3];refine (YC l (by omega) (fun k (c:List (List Int))=>(l,c,l,(l.length:Int),(k:Int))) [] (fun k c=>c.length<=k/\∀y∈c,Sm y) ⟨Uq _,fun y hy=>by cases hy⟩ (fun r _ c=>some (r.foldl (XA l) c)) rfl ?_ ?_).trans rfl
 ·intro rec c hJ;rw [show decide (((l.length:Nat):Int) < ((l.length:Nat):Int))=false from Um (by omega),Zh];rfl
 ·intro rec k p c hJ hx hk hr;simp only [UA] at hr;have hS:SmS c:=⟨by unfold Sm;omega,hJ.2⟩
  simp only [show decide (((k:Nat):Int) < ((l.length:Nat):Int))=true from Ut (by omega),Zp,Zj hx,ZrJ c _ hS,Ze,Zjg l _ h (Xi _),ZA (show k<=9223372036854775806 by omega),Me];cases hc:cov c p.id with
  |true=>
   have e:XA l c p=c:=by unfold XA;rw [Uj hc]
   rw [e];simpa using hr c ⟨by omega,hJ.2⟩
  |false=>
   have e:XA l c p=c ++ [XO l [p.id]]:=by unfold XA;rw [Ui (by rw [hc];simp)]
   have hr':=hr (c ++ [XO l [p.id]]) ⟨by simp;omega,fun y hy=>by
    rcases List.mem_append.1 hy with hy |hy
    ·exact hJ.2 y hy
    ·rw [Ma.1 hy];exact ZbT (Xi _)⟩
   rw [e,←hr'];simp only [UT,Zp];rw [Zs (by simp;omega)];simp only [Zm9 (o:= .own) (p:= .own) (q:= .own) rfl rfl]
theorem ZCo (l:List Path) (h:Sm l):Zg4 l=some (XR l):=by
 have hl':=h;unfold Sm at hl';unfold Zg4 XR;simp only [Zt,Zl,Zn,Zu,Zv,Zw,Zr,ZcA,YP,Yg,Ki,XJ,YX,ZbL l h,Ze];refine (YC l (by omega) (fun k (c:List (List Int)×List Int)=>(l,c.1,c.2,(k:Int))) ([],[]) (fun k c=>(ZN l=true->c.1.length<=k/\c.2.length<=20 * k/\∀x,has c.2 x=cov c.1 x)/\(ZN l=false->c.1= [])) ⟨fun _=>⟨Uq _,Uq _,fun x=>rfl⟩,fun _=>rfl⟩ (fun r _ c=>some (if ZN l=true then r.foldl (XA l) c.1 else [])) rfl ?_ ?_).trans rfl
 ·rintro rec ⟨c,d⟩ hJ;rw [show decide (((l.length:Nat):Int) < ((l.length:Nat):Int))=false from Um (by omega),Zh];cases ha:ZN l with
  |true=>rfl
  |false=>rw [hJ.2 ha];rfl
 ·rintro rec k p ⟨c,d⟩ hJ hx hk hr;simp only [UA] at hr;simp only [show decide (((k:Nat):Int) < ((l.length:Nat):Int))=true from Ut (by omega),Zp,ZbL l h,Ze,ZA (show k<=9223372036854775806 by omega)];cases ha:ZN l with
  |false=>simp [show c= [] from hJ.2 ha]
  |true=>
  have hl:=Zfg ha;obtain ⟨j1,j2,j3⟩:=hJ.1 ha;simp only at j1 j2 j3;have hd:Sm d:=by unfold Sm;omega
  simp only [Zp,Zj hx,ZaG d _ hd,Ze,j3,Zjf l _ h (Xi _),U3,Me];simp only [ha,U3] at hr;cases hc:cov c p.id with
  |true=>
   have e:XA l c p=c:=by unfold XA;rw [Uj hc]
   rw [e,Zp];exact hr (c,d) ⟨fun _=>⟨Nat.le_succ_of_le j1,by show d.length<=20 * (k + 1);omega,j3⟩,fun h=>by cases h⟩
  |false=>
   have e:XA l c p=c ++ [XO l [p.id]]:=by unfold XA;rw [Ui (by rw [hc];simp)]
   have hs:=ZCl l p.id;have hr':=hr (c ++ [XO l [p.id]],(XO l [p.id]).foldl YM d) ⟨fun _=>⟨by simp;omega,by
    have:=ZCn (XO l [p.id]) d;simp only;omega,fun x=>by
    simp only;rw [ZCm,j3];unfold cov;rw [FL];simp⟩,fun h=>by cases h⟩
   rw [e,Zh];rw [Zs (by simp;omega)];simp only [Zm9 (o:= .shr) (p:= .shr) (q:= .shr) rfl rfl];generalize hst:XO l [p.id]=st at hs hr' ⊢;refine (YC st (by omega) (fun m (a:List Int)=>(l,c ++ [st],a,(k:Int),st,(m:Int))) d (fun m a=>a.length<=240 + m) (by omega) (fun r _ a=>rec (l,c ++ [st],r.foldl YM a,(k:Int) + 1)) rfl ?_ ?_).trans hr'
   ·intro rec2 a ha2;rw [show decide (((st.length:Nat):Int) < ((st.length:Nat):Int))=false from Um (by omega),Zh];simp [ZA (show k<=9223372036854775806 by omega)]
   ·intro rec2 m y a ha2 hy hm hr2;simp only [UA] at hr2;have hsa:Sm a:=by unfold Sm;omega
    have:=ZsC a y;simp only [show decide (((m:Nat):Int) < ((st.length:Nat):Int))=true from Ut (by omega),Zp,Zj hy,Zsk a y hsa,Ze,ZA (show m<=9223372036854775806 by omega),Me];exact hr2 (YM a y) (by omega)
def Zjh (l:List Path) (s:List Int):Town:=⟨l,⟨s,0,[],0⟩,[],⟨0,0⟩,[],true,[],0,0⟩
def ZbV (l:List Path) (s:List Int):Town:=⟨l,⟨s,0,[],0⟩,[],⟨0,0⟩,[],true,(JI [] 0 (Xw l ⟨s,0,[],0⟩)).1,0,0⟩
def XS (l:List Path):Town×Bool:=match XR l with
 | []=>(XQ,false)
 |s::_=>if ZR (ZbV l s)=true then (ZbV l s,true) else (XQ,false)
theorem Zna {l:List Path} {s:List Int} {r:List (List Int)} (h:XR l=s::r):Sm s:=by
 have main:∀(t:List Path) (c:List (List Int)),(∀y∈c,Sm y)->∀y∈t.foldl (XA l) c,Sm y:=by
  intro t
  induction t with
  |nil=>exact fun c hc=>hc
  |cons p t ih=>
   intro c hc;rw [Me];refine ih _ ?_;unfold XA;split
   ·exact hc
   ·intro y hy;rcases List.mem_append.1 hy with hy |hy
    ·exact hc y hy
    ·rw [Ma.1 hy];exact ZbT (Xi _)
 unfold XR at h;split at h
 ·exact main l [] (fun y hy=>by cases hy) s (by rw [h];exact Ug ..)
 ·cases h
theorem ZsE {l:List Path} {s:List Int} (h:Sm l) (hs:Sm s):ZE (Zjh l s):=⟨h,⟨hs,JQ⟩,by unfold Sm;simp [Zjh],by unfold Sm;simp [Zjh],KD⟩
theorem Znb (l:List Path) (x:Control) (h:Sm l):Sm (Xw l x):=by
 unfold Sm at h;unfold Sm Xw;split
 ·rw [Uv];exact h
 ·simp
theorem Znc {l:List Path} {s:List Int} (h:Sm l) (hs:Sm s):ZE (ZbV l s):=by
 obtain ⟨a,b,c,d,_⟩:=ZsE h hs;exact ⟨a,b,c,d,ZmF KD (by simp) (Znb l _ h)⟩
theorem ZsF {l:List Path} (h:Sm l):ZE (XS l).1:=by
 have h0:ZE XQ:=⟨sm0,⟨JQ,JQ⟩,sm0,sm0,KD⟩
 unfold XS;split
 ·exact h0
 ·rename_i s r hc;split
  ·exact Znc h (Zna hc)
  ·exact h0
where sm0 {α:Type}:Sm ([]:List α):=by unfold Sm;simp
theorem ZCp (l:List Path) (h:Sm l):Zhc l=some (XS l):=by
 unfold Zhc XS;simp only [Zt,Zl,Zn,Zu,Zv,Zw,Zr,ZcA,ZlN,Ki,Qm,ZT,Z5,Z6,Yc,Z3,ZD,Z4,ZCo l h,Ze];cases hc:XR l with
 |nil=>simp
 |cons s r=>
  have hs:=Zna hc;have e:=ZaO _ (ZsE h hs);have e1:=Ze7 _ (Znc h hs);unfold ZbV at e1;unfold Zjh at e;simp only [List.isEmpty_cons,Zh,ZqN,e,Ze,Ze5 l ⟨s,0,[],0⟩ h ⟨hs,JQ⟩,ZmE [] 0 _ KD (by simp) (Znb l _ h),Z6,Yc,Z3];rw [e1];unfold ZbV;generalize ZR _=b;cases b <;> simp
theorem ZCq (l:List Path) (h:Sm l):ZhJ l=some (XS l):=by
 unfold ZhJ ZK XS Vm;simp only [Zt,Zl,Zn,Zu,Zv,Zw,Zr,ZcA,Zel,ZgQ,ZlN,ZzS,ZzT,Ki,Qm,Z6,Yc,Z3,Z3,ZT,Z5,ZD,Z4,ZsD l h,Ze,ZrV l h,Kh];cases hc:XR l with
 |nil=>simp
 |cons s r=>
  have hs:=Zna hc;have e1:=KA _ (Znc h hs);unfold ZbV at e1;simp only [List.isEmpty_cons,Zh,ZqN,Ze,Kh,ZiM l ⟨s,0,[],0⟩ h ⟨hs,JQ⟩,ZrW [] 0 _ KD (by simp) (Znb l _ h),Yc,Z3];rw [e1];unfold ZbV;generalize ZR _=b;cases b <;> simp
theorem ZCr {β:Type} {p:Prop} [Decidable p] (h:¬p) (x y:Option β):cnd (decide p) x y=y:=by
 unfold cnd;simp [h]
theorem ZsG:∀(n:Nat) (l:List Nat),l.Nodup->(∀x∈l,x < n)->l.length<=n
 | 0,l,_,h=>by
  cases l with
  |nil=>simp
  |cons a l=>exact absurd (h a (Ug ..)) (Nat.not_lt_zero _)
 |n + 1,l,hn,h=>by
  have h1:=ZsG n (l.erase n) (hn.erase n) (fun x hx=>by
   have h2:=h x (List.mem_of_mem_erase hx);have h3:x≠n:=fun e=>by subst e;exact (hn.not_mem_erase) hx
   omega)
  rw [List.length_erase] at h1;split at h1 <;> omega
theorem ZsH (l:List Path) (x:List Lamp):∀(r:List Lamp) (k:Nat),goL l x k r=true->∀(j:Nat) (p:Lamp),r[j]? =some p->Zdb l p=true/\(x.take (k + j)).all (JE p)=true
 | [],k,_,j,p,h=>by simp at h
 |q::r,k,hg,j,p,h=>by
  simp only [goL,Ua] at hg;cases j with
  |zero=>simp at h;subst h;exact hg.1
  |succ j=>
   have:=ZsH l x r (k + 1) hg.2 j p (by simpa using h)
   rwa [show k + 1 + j=k + (j + 1) by omega] at this
theorem Znd:∀{l:List Path} {o:Option Int},goP o l=true->∀p∈l,ZY p=true
 | [],_,_,p,hp=>by cases hp
 |q::l,o,h,p,hp=>by
  cases o with
  |none=>
   simp only [goP,Ua] at h;rcases FH.1 hp with rfl |hp
   ·exact h.1
   ·exact Znd h.2 p hp
  |some i=>
   simp only [goP,Ua] at h;rcases FH.1 hp with rfl |hp
   ·exact h.1.1
   ·exact Znd h.2 p hp
theorem ZsI {l:List Path} {id:Int} (h:¬ZI l id < 0):∃p∈l,p.id=id:=by
 unfold ZI at h;split at h
 ·rename_i i hi;obtain ⟨hlt,hp,_⟩:=List.findIdx?_eq_some_iff_getElem.1 hi;exact ⟨l[i],List.getElem_mem hlt,by simpa using hp⟩
 ·omega
theorem Zne {l:List Path} (hl:ZN l=true) {p:Lamp} (h:Zdb l p=true):1<=p.path/\p.path<=20/\0<=p.colour/\p.colour<=1:=by
 unfold Zdb at h;simp only [Ua,UG,U5] at h;unfold ZN at hl;rw [Ua] at hl;obtain ⟨q,hq,e⟩:=ZsI h.1;have:=Znd hl.2 q hq;unfold ZY inR at this;simp only [Ua,UH] at this;have h2:=h.2;unfold inR at h2;simp only [Ua,UH] at h2;omega
theorem ZCs {l:List Path} {x:List Lamp} (h:QG l x=true):x.length<=42:=by
 unfold QG at h;rw [Ua] at h;obtain ⟨hg,hl⟩:=h;have hat:=ZsH l x x 0 hg
 let f:Lamp->Nat:=fun q=>(q.path * 2 + q.colour).toNat
 have h1:(x.map f).length<=42:=by
  refine ZsG 42 _ ?_ ?_
  ·unfold List.Nodup;rw [List.pairwise_map,MI];intro i j hi hj hij e;have ha:=hat i x[i] (Ub hi);have hb:=hat j x[j] (Ub hj);have ra:=Zne hl ha.1;have rb:=Zne hl hb.1;have hm:x[i]∈x.take (0 + j):=by
    rw [UZ,List.mem_take_iff_getElem];exact ⟨i,by omega,rfl⟩
   have:=MW.1 hb.2 _ hm;unfold JE at this;simp only [UG,Bool.and_eq_false_iff,MG,ne_eq] at this;have e':(x[i].path * 2 + x[i].colour).toNat=(x[j].path * 2 + x[j].colour).toNat:=e;omega
  ·intro v hv;obtain ⟨q,hq,rfl⟩:=List.mem_map.1 hv;obtain ⟨i,hi⟩:=List.mem_iff_getElem?.1 hq;have:=Zne hl (hat i q hi).1;show (q.path * 2 + q.colour).toNat < 42;omega
 simpa using h1
theorem ZsJ {t:Town} (h:ZR t=true):t.lamps.length<=42:=ZCs (JM h).2.2.2.1
theorem ZbW {σ:Type} {e e':σ->List AV} (h:∀x,QR (e x)=e' x):∀l:List σ,Z9 (l.map e)=l.map e'
 | []=>rfl
 |x::l=>by simp only [UY,Z9,h,ZbW h l]
@[simp] theorem ZLM (l:List Int):Z9 (l.map iR.enc)=l.map iR.enc:=ZbW (fun _=>rfl) l
@[simp] theorem ZLN (l:List Path):Z9 (l.map Zg.enc)=l.map Zg.enc:=ZbW (fun _=>rfl) l
@[simp] theorem ZLO (l:List Want):Z9 (l.map Zd.enc)=l.map Zd.enc:=ZbW (fun _=>rfl) l
@[simp] theorem ZLP (l:List Lamp):Z9 (l.map Zq.enc)=l.map Zq.enc:=ZbW (fun _=>rfl) l
@[simp] theorem ZLQ (l:List Note):Z9 (l.map (Zc Own.unq).enc)=l.map (Zc Own.own).enc:=ZbW (fun x=>by show QR [I x.second, .slc Own.unq 1 (x.lights.map iR.enc),I x.sig]= [I x.second, .slc Own.own 1 (x.lights.map iR.enc),I x.sig];simp [QR,AV.frz]) l
@[simp] theorem ZCt (l:List Lamp) (a b:Int) (c:Bool) {β:Type} (K:List Lamp->Option β):rws Zq (l.map Zq.enc ++ [[I a,I b,Bl c]]) K=K (l ++ [(⟨a,b,c⟩:Lamp)]):=
 (Zad _ _ _ K).trans (Z5 l _)
theorem ZCu {σ τ:Type} (f:σ->τ) (l:List σ) (i:Nat) (x:σ):(l.map f).set i (f x)=(l.set i x).map f:=List.map_set.symm
@[simp] theorem ZLR (l:List Lamp) (i:Nat) (a b:Int) (c:Bool) {β:Type} (K:List Lamp->Option β):rws Zq ((l.map Zq.enc).set i [I a,I b,Bl c]) K=K (l.set i ⟨a,b,c⟩):=by
 have:(l.map Zq.enc).set i [I a,I b,Bl c]=(l.set i ⟨a,b,c⟩).map Zq.enc:=ZCu Zq.enc l i ⟨a,b,c⟩;exact (Ux (fun z=>rws Zq z K) this).trans (Z5 _ K)
def hit (p c:Int) (x:Lamp):Bool:=x.path==p && x.colour==c
def Vc (p c:Int) (b:Bool) (x:Lamp):Lamp:=if hit p c x=true then ⟨x.path,x.colour,b⟩ else x
def ZbX (l:List Lamp) (p c:Int) (b:Bool):List Lamp:=if l.any (hit p c)=true then l.map (Vc p c b) else l.map (Vc p c b) ++ [⟨p,c,b⟩]
theorem ZCv {β V:Type} (l:List Lamp) (p c:Int) (b:Bool) (hl:l.length<=1099511627776) (st:Nat->List Lamp->Bool->V) (K:List Lamp->Bool->Option β) {F:(V->Option β)->V->Option β} {v:V} (hv:v=st 0 l false)
  (h0:∀rec ls f,ls.length=l.length->F rec (st l.length ls f)=K ls f)
  (h1:∀rec k x (ls:List Lamp) f,ls[k]? =some x->k < l.length->ls.length=l.length->F rec (st k ls f)=if hit p c x=true then rec (st (k + 1) (ls.set k (Vc p c b x)) true) else rec (st (k + 1) ls f)):
  Zf F NN v=K (l.map (Vc p c b)) (l.any (hit p c)):=by
 refine (YC l (by omega) (fun k (a:List Lamp×Bool)=>st k a.1 a.2) (l,false) (fun k a=>a.1=(l.take k).map (Vc p c b) ++ l.drop k/\a.2=(l.take k).any (hit p c)) ⟨by simp,by simp⟩ (fun _ _ _=>K (l.map (Vc p c b)) (l.any (hit p c))) hv ?_ ?_)
 ·intro rec a ⟨e1,e2⟩;rw [h0 rec a.1 a.2 (by rw [e1];simp),e1,e2];simp
 ·intro rec k x a ⟨e1,e2⟩ hx hk hrec;have hlen:a.1.length=l.length:=by rw [e1];simp;omega
  have hat:a.1[k]? =some x:=by
   rw [e1,Mj (by simp;omega)];simp only [Uv,Uc,UR];rw [show k + (k - min k l.length)=k by omega];exact hx
  have hmin:min k l.length=k:=by omega
  have htk:l.take (k + 1)=l.take k ++ [x]:=by
   rw [MR,hx];rfl
  have hdr:l.drop k=x::l.drop (k + 1):=by
   rw [UN hk];congr 1;exact (List.getElem?_eq_some_iff.1 hx).2
  rw [h1 rec k x a.1 a.2 hat hk hlen];split
  ·rename_i hh;refine hrec (_,_) ⟨?_,?_⟩
   ·show a.1.set k _=_;rw [e1,htk,hdr,List.set_append_right _ _ (by simp;omega)];simp only [Uv,Uc,hmin,Nat.sub_self,List.set_cons_zero,UX,UY,List.map_nil,Us,U0,Md]
   ·show true=_;rw [htk];simp [hh]
  ·rename_i hh;have hh':hit p c x=false:=by simpa using hh
   refine hrec (_,_) ⟨?_,?_⟩
   ·show a.1=_;rw [e1,htk,hdr];simp [Vc,hh']
   ·show a.2=_;rw [htk,e2];simp [hh']
def Zfh (t:Town) (p c:Int) (b:Bool):Town:={t with lamps:=ZbX t.lamps p c b}
def JT (t:Town) (p c:Int) (b:Bool):Town×Bool:=if ZR t then Xy t (Xh (Zfh t p c b)) true else (t,false)
theorem ZCw (l:List Lamp) (p c:Int) (b:Bool):(ZbX l p c b).length<=l.length + 1:=by
 unfold ZbX;split <;> simp
theorem ZsK {t:Town} (ht:ZR t=true) (h:ZE t) (p c:Int) (b:Bool):ZE (Zfh t p c b):=by
 obtain ⟨h0,h1,h2,h3,h4⟩:=h;have:=ZCw t.lamps p c b;have:=ZsJ ht;exact ⟨h0,h1,h2,by show (ZbX _ _ _ _).length<=_;omega,h4⟩
theorem ZsL (t:Town) (p c:Int) (b:Bool) (h:ZE t):ZeN t p c b=some (JT t p c b):=by
 unfold ZeN JT;simp only [Zt,Zl,Zn,Zu,Zv,Zw,Zr,ZT,Z5,Z6,Yc,Z3,ZlQ,ZD,Z4,VX t h,KA t h,Ze];cases ht:ZR t with
 |false=>simp
 |true=>
  have hl:=ZsJ ht;have h':=ZsK ht h p c b;have e:=Zi8 (u:=Zfh t p c b) ht rfl rfl h';have hn:=JN (u:=Zfh t p c b) ht rfl h';have hd:=ZaP t _ true h hn;simp only [Zt,Zl,Zn,Zu,Zv,Uk,ZCr,AV.okU,YG,ZzV,ZzQ,ZzW,Zz1,Zz3,MV,ZAE,ZzU,ZqS,Zq1,ZzZ,Zz2,Zw,Zr,ZT,Z5,ZlQ,Zz0,ZcC,ZD,Z4];refine (ZCv t.lamps p c b (by omega) (fun k ls f=>((p,c,b,f,(t.lamps.length:Int),(k:Int)),(t,(⟨[],⟨[],0,[],0⟩,[],⟨0,0⟩,[],false,[],0,0⟩:Town),{t with lamps:=ls}))) (fun ls f=>(bnd (Q3 {t with lamps:=if f=true then ls else ls ++ [⟨p,c,b⟩]}) fun r=>bnd (QD t r true) fun r27=>some (r27.1,r27.2))) rfl ?_ ?_).trans ?_
  ·intro rec ls f hlen;cases f with
   |false=>
    simp [hlen,ZD];rw [Zs (by omega)]
   |true=>simp [hlen,ZD]
  ·intro rec k x ls f hx hk hlen;have hk':k < ls.length:=by omega
   unfold hit Vc hit;cases hp:x.path==p <;> cases hc:x.colour==c <;> simp [hk,hk',Zj hx,Zeh hx,hp,hc,ZD,Z4,ZA (show k<=9223372036854775806 by omega)]
  ·have:(if t.lamps.any (hit p c)=true then t.lamps.map (Vc p c b) else t.lamps.map (Vc p c b) ++ [⟨p,c,b⟩])=ZbX t.lamps p c b:=rfl;rw [this];show (bnd (Q3 (Zfh t p c b)) fun r=>bnd (QD t r true) fun r27=>some (r27.1,r27.2))=_;rw [e,Ze,hd,Ze];rfl
theorem ZsM {t:Town} (h:ZE t) (p c:Int) (b:Bool):ZE (JT t p c b).1:=by
 unfold JT;split
 ·rename_i hc;exact Zdk h (JN (t:=t) hc rfl (ZsK hc h p c b))
 ·exact h
def YF (g:L1Cur):Prop:=g.b.length<=1048576/\0<=g.i/\g.i<=g.b.length
def Qq {α:Type} (x:Option (α×L1Cur)) (P:α->Prop):Prop:=∃a g,x=some (a,g)/\P a/\YF g
theorem ZsN (a:BitVec (Go.IntKind.bits Go.IntKind.i64)):0<=W (BitVec.toNat (a &&& BitVec.ofInt (Go.IntKind.bits Go.IntKind.i64) 255))/\W (BitVec.toNat (a &&& BitVec.ofInt (Go.IntKind.bits Go.IntKind.i64) 255))<=255:=by
 have h1:BitVec.toNat (a &&& BitVec.ofInt (Go.IntKind.bits Go.IntKind.i64) 255)<=255:=by
  rw [BitVec.toNat_and];have:BitVec.toNat (BitVec.ofInt (Go.IntKind.bits Go.IntKind.i64) 255)=255:=by decide
  rw [this];exact Nat.and_le_right
 rw [ZB (by omega) (by omega)];omega
theorem ZCx {g:L1Cur} (h:YF g):Qq (Zbu g) fun x=>0<=x/\x<=255:=by
 obtain ⟨h1,h2,h3⟩:=h;unfold Zbu;simp only [YI,ZqU,ZlK];by_cases c:g.i < (g.b.length:Int)
 ·rw [show decide (g.i < (g.b.length:Int))=true by simpa using c,Zp];have hlt:g.i.toNat < g.b.length:=by omega
  have hx:g.b[g.i.toNat]? =some g.b[g.i.toNat]:=Ub hlt;have e:g.i=((g.i.toNat:Nat):Int):=by omega
  have hz:∀{β:Type} (K:Int->Option β),ZU g.b g.i K=K g.b[g.i.toNat]:=fun K=>by
   conv=>lhs;rw [e]
   exact Zj hx K
  rw [hz];refine ⟨_,_,rfl,ZsN _,h1,?_,?_⟩
  ·show 0<=W (g.i + 1);rw [ZB (by omega) (by omega)];omega
  ·show W (g.i + 1)<=_;rw [ZB (by omega) (by omega)];show g.i + 1<=(g.b.length:Int);omega
 ·rw [show decide (g.i < (g.b.length:Int))=false by simpa using c,Zh];exact ⟨_,_,rfl,ZsN _,h1,h2,h3⟩
theorem QM {g:L1Cur} (h:YF g) {n:Int} (h1:n<=256):Qq (Y3 n g) fun x=>0<=x/\(1<=n->x < n)/\(n<=0->x=0):=by
 unfold Y3;simp only [YI,Qk];by_cases c:n<=0
 ·rw [show decide (n<=0)=true by simpa using c,Zp];exact ⟨_,_,rfl,⟨M8 _,fun h=>by omega,fun _=>rfl⟩,h⟩
 ·rw [show decide (n<=0)=false by simpa using c,Zh,show decide (n<=256)=true by simpa using h1,Zp];obtain ⟨x,g',e,hx,hg⟩:=ZCx h;rw [e,Ze,Zs (by omega)];refine ⟨_,_,rfl,⟨?_,fun _=> ?_,fun h=>by omega⟩,hg⟩
  ·exact Int.tmod_nonneg _ hx.1
  ·have:=Int.tmod_lt_of_pos x (show 0 < n by omega);exact this
theorem Zfi {g:L1Cur} (h:YF g) {n:Int} (h1:n<=256):Qq (Zav n g) fun _=>True:=by
 unfold Zav;simp only [YI,Qk];obtain ⟨x,g',e,hx,hg⟩:=QM h h1;rw [e,Ze];exact ⟨_,_,rfl,trivial,hg⟩
theorem Znf {g:L1Cur} (h:YF g) {l:List Int} (h0:1<=l.length) (h1:l.length<=256) {P:Int->Prop} (hP:∀x∈l,P x):Qq (ZcJ l g) P:=by
 unfold ZcJ;simp only [YI,YX,Yg,Qk];obtain ⟨x,g',e,hx,hg⟩:=QM h (n:=(l.length:Int)) (by omega);rw [e,Ze];have hlt:=hx.2.1 (by omega);have hlt':x.toNat < l.length:=by omega
 have hz:∀{β:Type} (K:Int->Option β),ZU l x K=K l[x.toNat]:=fun K=>by
  have e:x=((x.toNat:Nat):Int):=by omega
  conv=>lhs;rw [e]
  exact Zj (Ub hlt') K
 show Qq (ZU l x _) P;rw [hz];exact ⟨_,_,rfl,hP _ (List.getElem_mem hlt'),hg⟩
theorem Zng {g:L1Cur} (h:YF g) (id:Int):Qq (ZcI id g) fun p=>p.id=id/\ZY {p with id:=1}=true:=by
 unfold ZcI;simp only [YI,Qk];obtain ⟨x,g1,e1,hx,hg1⟩:=QM h (n:=3) (by omega);rw [e1,Ze];obtain ⟨y,g2,e2,hy,hg2⟩:=QM hg1 (n:=4) (by omega);rw [e2,Ze];have hx1:=hx.2.1 (by omega);have hy1:=hy.2.1 (by omega);rw [ZB (n:=1 + x) (by omega) (by omega)];by_cases c:1 + x=2
 ·rw [show ((1 + x) != 2)=false by simpa using c,Zh];refine ⟨_,_,rfl,⟨rfl,?_⟩,hg2⟩;unfold ZY inR;simp [c];omega
 ·rw [show ((1 + x) != 2)=true by simpa using c,Zp];obtain ⟨z,g3,e3,hz,hg3⟩:=QM hg2 (n:=3) (by omega);rw [e3,Ze];have hz1:=hz.2.1 (by omega);refine ⟨_,_,rfl,⟨rfl,?_⟩,hg3⟩;rw [ZB (n:=y + 1) (by omega) (by omega),ZB (n:=y + 1 + z) (by omega) (by omega)];unfold ZY inR;have hm:=Int.tmod_nonneg 4 (show 0<=y + 1 + z by omega);have hm2:=Int.tmod_lt_of_pos (y + 1 + z) (show (0:Int) < 4 by omega);have hne:y≠(y + 1 + z).tmod 4:=by
   rw [Int.tmod_eq_emod_of_nonneg (by omega)];omega
  simp only [MG.2 hne,MG.2 c];simp;omega
theorem ZaX {V β:Type} {F:(V->Option β)->V->Option β} {Q:β->Prop} (μ:V->Nat) (inv:V->Prop)
  (step:∀rec v,inv v->(∀v',inv v'->μ v' < μ v->∃b,rec v'=some b/\Q b)->∃b,F rec v=some b/\Q b):∀n v,inv v->μ v < n->∃b,Zf F n v=some b/\Q b
 | 0,v,_,h=>by omega
 |n + 1,v,hi,h=>by
  rw [QY];exact step _ v hi fun v' hi' hlt=>ZaX μ inv step n v' hi' (by omega)
theorem Znh {α:Type} {x:Option (α×L1Cur)} {P:α->Prop}:Qq x P↔∃b,x=some b/\(P b.1/\YF b.2):=
 ⟨fun ⟨a,g,e,h1,h2⟩=>⟨(a,g),e,h1,h2⟩,fun ⟨b,e,h1,h2⟩=>⟨b.1,b.2,e,h1,h2⟩⟩
def Zni (l:List Path):Prop:=l.length<=7/\∀(i:Nat) (p:Path),l[i]? =some p->p.id=(i:Int) + 1/\ZY {p with id:=1}=true
theorem ZsO (l:List Path) (a b c d:Int) {β:Type} (K:List Path->Option β):rws Zg (l.map Zg.enc ++ [[I a,I b,I c,I d]]) K=K (l ++ [(⟨a,b,c,d⟩:Path)]):=
 (Zad _ _ _ K).trans (Zw l _)
theorem ZCy {g:L1Cur} (h:YF g):Qq (Zg3 g) fun l=>Zni l/\2<=l.length:=by
 unfold Zg3;simp only [YI,Zw,Qk];rw [Znh];refine ZaX (fun v=>(8 - v.1.2.2).toNat) (fun v=>Zni v.1.2.1/\v.1.2.2=(v.1.2.1.length:Int) + 1/\YF v.2) ?_ NN _ ⟨⟨by simp,fun i p hp=>by simp at hp⟩,by simp,h⟩ (Qj (by show (8 - (1:Int)).toNat<=_;decide));rintro rec ⟨⟨u,l,i⟩,g1⟩ ⟨hl,hi,hg⟩ hrec;simp only at hl hi hg hrec ⊢;obtain ⟨x,g2,e2,hx,hg2⟩:=QM hg (n:=6) (by omega);rw [e2,Ze];have hx1:=hx.2.1 (by omega);simp only;rw [ZB (n:=2 + x) (by omega) (by omega)];by_cases c:i<=2 + x
 ·rw [show decide (i<=2 + x)=true by simpa using c,Zp];obtain ⟨p,g3,e3,hp,hg3⟩:=Zng hg2 i;rw [e3,Ze];have hlen:=hl.1;simp only [UI,US,YP];rw [Zs (by omega)];obtain ⟨pid,pk,ps,pd⟩:=p;simp only [ZsO] at hp ⊢;refine hrec (((),(l ++ [⟨pid,pk,ps,pd⟩],W (i + 1))),g3) ⟨⟨by simp;omega,fun j q hq=> ?_⟩,?_,hg3⟩ ?_
  ·rcases U1 j l.length with hj |hj
   ·rw [U8 hj] at hq;exact hl.2 j q hq
   ·rw [Mj hj] at hq;have:j - l.length=0:=by
     rcases ML (j - l.length) with h |h
     ·exact h
     ·rw [UP (by simp;omega)] at hq;cases hq
    rw [this] at hq;simp at hq;subst hq;refine ⟨?_,hp.2⟩;show pid=_;rw [hp.1];omega
  ·show W (i + 1)=_;rw [ZB (by omega) (by omega)];simp;omega
  ·show (8 - W (i + 1)).toNat < (8 - i).toNat;rw [ZB (by omega) (by omega)];omega
 ·rw [show decide (i<=2 + x)=false by simpa using c,Zh];exact ⟨_,rfl,⟨hl,by show 2<=l.length;omega⟩,hg2⟩
theorem ZCz {g:L1Cur} (h:YF g) {l:List Path} (hl:l.length<=1000) {rare:Int} (hr:rare<=256):Qq (Zhd l rare g) fun x=>x.length<=2 * l.length:=by
 unfold Zhd;simp only [YI,Zw,Z5,YP,ZcC,XJ,Qk];rw [Znh];refine ZaX (fun v=>((l.length:Int) - v.1.2.2.2.2).toNat) (fun v=>v.1.2.1=l/\v.1.2.2.1=rare/\0<=v.1.2.2.2.2/\v.1.2.2.2.2<=(l.length:Int)/\(v.1.2.2.2.1.length:Int)<=2 * v.1.2.2.2.2/\YF v.2) ?_ NN _ ⟨rfl,rfl,M8 _,by show (0:Int)<=l.length;omega,by simp,h⟩ (Qj (by show ((l.length:Int) - 0).toNat<=_;omega));rintro rec ⟨⟨u,l',rare',x,i⟩,g1⟩ ⟨p1,p2,hi0,hi1,hx,hg⟩ hrec;simp only at p1 p2 hi0 hi1 hx hg hrec ⊢;subst p1 p2;by_cases c:i < (l'.length:Int)
 ·rw [show decide (i < (l'.length:Int))=true by simpa using c,Zp];refine ZaX (fun v=>(2 - v.1.2.2.2.2.2).toNat) (fun v=>v.1.2.1=l'/\v.1.2.2.1=rare'/\v.1.2.2.2.2.1=i/\0<=v.1.2.2.2.2.2/\v.1.2.2.2.2.2<=2/\(v.1.2.2.2.1.length:Int)<=2 * i + v.1.2.2.2.2.2/\YF v.2) ?_ NN _ ⟨rfl,rfl,rfl,M8 _,by show (0:Int)<=2;decide,by show (x.length:Int)<=2 * i + 0;omega,hg⟩ (Qj (by show (2 - (0:Int)).toNat<=_;decide));rintro rec2 ⟨⟨u2,l2,rare2,x2,i2,k⟩,g2⟩ ⟨q1,q2,q3,hk0,hk1,hx2,hg2⟩ hrec2;simp only at q1 q2 q3 hk0 hk1 hx2 hg2 hrec2 ⊢;subst q1 q2 q3;by_cases ck:k < 2
  ·rw [show decide (k < 2)=true by simpa using ck,Zp];obtain ⟨b,g3,e3,_,hg3⟩:=Zfi hg2 (n:=5) (by omega);rw [e3,Ze];cases b with
   |true=>
    simp only [Uk,Zh];refine hrec2 _ ⟨rfl,rfl,rfl,?_,?_,?_,hg3⟩ ?_
    ·show 0<=W (k + 1);rw [ZB (by omega) (by omega)];omega
    ·show W (k + 1)<=2;rw [ZB (by omega) (by omega)];omega
    ·show (x2.length:Int)<=2 * i2 + W (k + 1);rw [ZB (by omega) (by omega)];omega
    ·show (2 - W (k + 1)).toNat < (2 - k).toNat;rw [ZB (by omega) (by omega)];omega
   |false=>
    simp only [UT,Zp];have hlt:i2.toNat < l2.length:=by omega
    have hz:∀{β:Type} (K:Path->Option β),ZU l2 i2 K=K l2[i2.toNat]:=fun K=>by
     have e:i2=((i2.toNat:Nat):Int):=by omega
     conv=>lhs;rw [e]
     exact Zj (Ub hlt) K
    rw [hz];obtain ⟨b,g4,e4,_,hg4⟩:=Zfi hg3 hr;rw [e4,Ze];simp only [UI,US];rw [Zs (by omega),ZCt];refine hrec2 ((u2,(l2,rare2,x2 ++ [⟨l2[i2.toNat].id,k,b⟩],i2,W (k + 1))),g4) ⟨rfl,rfl,rfl,?_,?_,?_,hg4⟩ ?_
    ·show 0<=W (k + 1);rw [ZB (by omega) (by omega)];omega
    ·show W (k + 1)<=2;rw [ZB (by omega) (by omega)];omega
    ·show ((x2 ++ [_]).length:Int)<=2 * i2 + W (k + 1);rw [ZB (by omega) (by omega),Uh];simp;omega
    ·show (2 - W (k + 1)).toNat < (2 - k).toNat;rw [ZB (by omega) (by omega)];omega
  ·rw [show decide (k < 2)=false by simpa using ck,Zh];refine hrec _ ⟨rfl,rfl,?_,?_,?_,hg2⟩ ?_
   ·show 0<=W (i2 + 1);rw [ZB (by omega) (by omega)];omega
   ·show W (i2 + 1)<=_;rw [ZB (by omega) (by omega)];omega
   ·show (x2.length:Int)<=2 * W (i2 + 1);rw [ZB (by omega) (by omega)];omega
   ·show ((l2.length:Int) - W (i2 + 1)).toNat < ((l2.length:Int) - i2).toNat;rw [ZB (by omega) (by omega)];omega
 ·rw [show decide (i < (l'.length:Int))=false by simpa using c,Zh];exact ⟨_,rfl,by show x.length<=_;omega,hg⟩
theorem Znj (code:List Int) (h:code.length<=1048576):∃g,ZcH code=some ((),g)/\YF g:=by
 unfold ZcH;simp only [YI,ZlK,ZqU];refine (fun ⟨⟨u,g⟩,e,hg⟩=>⟨g,e,hg⟩:(∃b:Unit×L1Cur,_=some b/\YF b.2)->_) ?_;refine ZaX (Q:=fun b:Unit×L1Cur=>YF b.2) (fun v:List Int×Int×Int=>((code.length:Int) - v.2.2).toNat) (fun v=>v.1=code/\0<=v.2.2/\v.2.2<=(code.length:Int)) ?_ NN _ ⟨rfl,M8 _,by show (0:Int)<=code.length;omega⟩ (Qj (by show ((code.length:Int) - 0).toNat<=_;omega))
 ·rintro rec ⟨c,hh,i⟩ ⟨p1,hi0,hi1⟩ hrec;simp only at p1 hi0 hi1 hrec ⊢;subst p1;by_cases c1:i < (c.length:Int)
  ·rw [show decide (i < (c.length:Int))=true by simpa using c1,Zp];by_cases c2:i < 4000
   ·rw [show decide (i < 4000)=true by simpa using c2,Zp];have hlt:i.toNat < c.length:=by omega
    have hz:∀{β:Type} (K:Int->Option β),ZU c i K=K c[i.toNat]:=fun K=>by
     have e:i=((i.toNat:Nat):Int):=by omega
     conv=>lhs;rw [e]
     exact Zj (Ub hlt) K
    rw [hz];refine hrec (_,_,_) ⟨rfl,?_,?_⟩ ?_
    ·show 0<=W (i + 1);rw [ZB (by omega) (by omega)];omega
    ·show W (i + 1)<=_;rw [ZB (by omega) (by omega)];omega
    ·show ((c.length:Int) - W (i + 1)).toNat < ((c.length:Int) - i).toNat;rw [ZB (by omega) (by omega)];omega
   ·rw [show decide (i < 4000)=false by simpa using c2,Zh];exact ⟨_,rfl,h,M8 _,by simp⟩
  ·rw [show decide (i < (c.length:Int))=false by simpa using c1,Zh];exact ⟨_,rfl,h,M8 _,by simp⟩
theorem ZCA {l:List Path} (h:Zni l):Sm l:=by have:=h.1;unfold Sm;omega
theorem ZCB (l:List Path):(XS l).1.paths.length<=l.length:=by
 unfold XS;split
 ·simp
 ·split
  ·exact Uq _
  ·simp
theorem ZsP {z:List (Path×Int)}:∀(r:List (Path×Int)) (k:Nat),goS z k r=true->∀(j:Nat) (y:Path×Int),r[j]? =some y->inR y.2 0 2=true/\(z.take (k + j)).all (ZaI y)=true
 | [],k,_,j,y,h=>by simp at h
 |q::r,k,hg,j,y,h=>by
  simp only [goS,Ua] at hg;cases j with
  |zero=>simp at h;subst h;exact hg.1
  |succ j=>
   have:=ZsP r (k + 1) hg.2 j y (by simpa using h)
   rwa [show k + 1 + j=k + (j + 1) by omega] at this
theorem ZCC:∀a b c d:Fin 4,ZaD (2 * ((a:Nat):Int)) (2 * ((b:Nat):Int) + 1) (2 * ((c:Nat):Int)) (2 * ((d:Nat):Int) + 1)=ZaD (2 * ((c:Nat):Int)) (2 * ((d:Nat):Int) + 1) (2 * ((a:Nat):Int)) (2 * ((b:Nat):Int) + 1):=by
 decide
theorem Zji {n:Int} (h:0<=n/\n<=3):∃a:Fin 4,n=((a:Nat):Int):=⟨⟨n.toNat,by omega⟩,by simp;omega⟩
theorem ZsQ {p:Path} (h:ZY p=true):(0<=p.src/\p.src<=3)/\(0<=p.dst/\p.dst<=3):=by
 unfold ZY inR at h;simp only [Ua,UH] at h;exact ⟨h.1.1.2,h.1.2⟩
theorem ZsR (a:Path):Z2 a a=false:=by
 unfold Z2;split
 ·rfl
 ·split
  ·rfl
  ·rename_i h;have h2:¬a.kind=2:=fun e=>h ⟨e,e⟩
   simp [h2]
theorem Znk (a b:Path):Z2 a b=Z2 b a:=by
 cases ha:ZY a with
 |false=>unfold Z2;simp [ha]
 |true=>
 cases hb:ZY b with
 |false=>unfold Z2;simp [hb]
 |true=>
  obtain ⟨a1,a2⟩:=ZsQ ha;obtain ⟨b1,b2⟩:=ZsQ hb;obtain ⟨x,hx⟩:=Zji a1;obtain ⟨y,hy⟩:=Zji a2;obtain ⟨z,hz⟩:=Zji b1;obtain ⟨u,hu⟩:=Zji b2;have:=ZCC x y z u;unfold Z2;simp only [ha,hb,Bool.true_eq_false,or_self,My];by_cases c1:a.kind=2 <;> by_cases c2:b.kind=2 <;> simp only [c1,c2,and_self,and_true,and_false,true_and,false_and,U3,My]
  by_cases d1:a.src=b.src
  ·rw [Uj d1,Uj d1.symm]
  ·rw [Ui d1,Ui (show ¬b.src=a.src from fun e=>d1 e.symm)];by_cases d2:a.dst=b.dst
   ·rw [Uj d2,Uj d2.symm]
   ·rw [Ui d2,Ui (show ¬b.dst=a.dst from fun e=>d2 e.symm),hx,hy,hz,hu];exact this
theorem ZsS {p:List Path}:∀{l:List Note},(∀x∈l,0<=x.second)->goU p l= -1->∀x∈l,VC p x.lights=true
 | [],_,_,x,hx=>by cases hx
 |y::l,h0,h,x,hx=>by
  rw [goU] at h;split at h
  ·rename_i hy;rcases FH.1 hx with rfl |hx
   ·exact hy
   ·exact ZsS (fun z hz=>h0 z (Uf _ hz)) h x hx
  ·have:=h0 y (Ug ..);omega
theorem ZCD {t:Town} (h:ZR t=true) {e:Note} (he:e∈t.record):VC t.paths e.lights=true:=by
 have h':=h;simp only [ZR,Ua,UH] at h';obtain ⟨⟨⟨⟨⟨⟨⟨⟨⟨⟨h1,h2⟩,h3⟩,h4⟩,h5⟩,h6⟩,h7⟩,h8⟩,h9⟩,h10⟩,h11⟩:=h';unfold ZaJ at h7;rw [Uj h5] at h7;exact ZsS (fun x hx=>(ZiE h5 x hx).2.1) h7 e he
theorem ZsT {s:Int}:∀(l:List Note) (k:Nat) (a:Int) (i:Nat) (x:Note),JG s l k a=((k + i:Nat):Int)->l[i]? =some x->a < k->x.second<=s
 | [],k,a,i,x,h,hx,_=>by simp at hx
 |y::r,k,a,i,x,h,hx,ha=>by
  rw [JG] at h;cases i with
  |zero=>
   simp at hx;subst hx;by_cases c:y.second<=s
   ·exact c
   ·rw [Ui c] at h;rcases Zms (s:=s) r (k + 1) a with h2 | ⟨j,_,h2⟩
    ·rw [h2] at h;omega
    ·rw [h2] at h;omega
  |succ i=>
   refine ZsT r (k + 1) _ i x (by rw [h];congr 1;omega) (by simpa using hx) ?_;split <;> omega
theorem Znl {t:Town} {p s:Int} (h:(QH t p s).2=true):ZR t=true/\(∃(m:Nat) (q:Path),ZI t.paths p=(m:Int)/\t.paths[m]? =some q/\ZX t.paths p=q/\∃(i:Nat) (e:Note) (x:Int),e∈t.record/\t.record[i]? =some e/\ZbR t.record s=some e/\VE t.record s=(i:Int)/\e.second<=s/\e.lights[m]? =some x/\0<=x/\x<=2/\s<=t.now/\
  (QH t p s).1=⟨p,s,x,ZaM t.record m s,goO q (t.paths.zip e.lights) 0⟩):=by
 unfold QH at h ⊢;split at h
 ·cases h
 ·rename_i hc;have hn:¬ZR t=false/\¬ZI t.paths p < 0/\¬t.now < s:=⟨fun e=>hc (.inl e),fun e=>hc (.inr (.inl e)),fun e=>hc (.inr (.inr e))⟩
  have ht:ZR t=true:=by simpa using hn.1
  refine ⟨ht,?_⟩;rw [Ui hc];rcases Zde t.record s with ⟨e1,_⟩ | ⟨i,e,e1,e2,e3,e4⟩
  ·rw [e1] at h;cases h
  ·obtain ⟨m,q,q1,q2,_⟩:=Kv hn.2.1;have hq:ZX t.paths p=q:=by unfold ZX;rw [q2,UC,q1];rfl
   have he:=Yu e1;have hs:=ZCD ht he;have hlen:=(ZrH ht he).1;have hm:m < t.paths.length:=(List.getElem?_eq_some_iff.1 q1).1;have hx:e.lights[m]? =some e.lights[m]:=Ub (by omega);have hz:(t.paths.zip e.lights)[m]? =some (q,e.lights[m]):=by rw [List.getElem?_zip_eq_some];exact ⟨q1,hx⟩
   have hs2:=hs;unfold VC at hs2;simp only [Ua,UH] at hs2;have hr:=(ZsP _ 0 hs2.2 m _ hz).1;unfold inR at hr;simp only [Ua,UH] at hr;have hsec:e.second<=s:=by
    unfold VE at e2;rw [Uj e4] at e2;exact ZsT t.record 0 (-1) i e (by rw [e2,UZ]) e1 (by omega)
   refine ⟨m,q,q2,q1,hq,i,e,e.lights[m],he,e1,e3,e2,hsec,hx,hr.1,hr.2,by omega,?_⟩;rw [e3];simp only;rw [q2,hq];have:Q4 e (m:Int)=e.lights[m]:=by
    unfold Q4;rw [Uj (by omega),UC,hx]
   rw [this]
theorem Zdn {t o:Town} {ok:Bool} (h:(Xy t o ok).2=true):ok=true/\ZR t=true/\ZR o=true/\(Xy t o ok).1=o:=by
 unfold Xy at h ⊢;split at h
 ·rename_i c;simp only [Ua] at c;exact ⟨c.1,c.2.1,c.2.2,by rw [Uj (by simp [c])]⟩
 ·cases h
theorem Znm {t o:Town} {ok:Bool} (h:(Xy t o ok).2=false):(Xy t o ok).1=t:=by
 unfold Xy at h ⊢;split at h
 ·cases h
 ·rename_i c;rw [Ui c]
theorem Zjj (t:Town):(Xh t).wants=t.wants/\(Xh t).prio=t.prio/\(Xh t).lamps=t.lamps/\(Xh t).power=t.power/\(Xh t).now=t.now:=by
 unfold Xh;split <;> exact ⟨rfl,rfl,rfl,rfl,rfl⟩
theorem Znn {t:Town} {p:Int} (h:(VH t p).2=true):ZR (VH t p).1=true/\(VH t p).1.wants.length=t.wants.length + 1:=by
 obtain ⟨h1,_,h3,h4⟩:=Zdn h;have e:(VH t p).1=_:=h4;rw [e];refine ⟨h3,?_⟩;show (VG t.paths t.wants p).1.length=_;unfold VG at h1 ⊢;split at h1
 ·rename_i c;rw [Uj c];exact Zfd _ _ (Zi9 _ _)
 ·cases h1
theorem ZsU {t:Town} {p:Int} (h:(VH t p).2=false):(VH t p).1=t:=Znm h
theorem ZsV {t:Town} {p:Int} (h:(VF t p).2=true):ZR (VF t p).1=true/\(VF t p).1.prio.path=p:=by
 obtain ⟨h1,_,h3,h4⟩:=Zdn h;have e:(VF t p).1=_:=h4;rw [e];refine ⟨h3,?_⟩;show (JJ t.paths t.prio p).1.path=p;unfold JJ at h1 ⊢;split at h1
 ·rename_i c;rw [Uj c]
 ·cases h1
theorem ZCE {t:Town} {p:Int} (h:(VF t p).2=false):(VF t p).1=t:=Znm h
theorem ZCF (p c:Int) (b:Bool) (x:Lamp):brk (Vc p c b x) p c=(hit p c x && b):=by
 unfold brk Vc hit;cases x with
 |mk q d e=>
  cases h1:(q==p) <;> cases h2:(d==c) <;> cases b <;> simp [h1,h2]
theorem ZCG (l:List Lamp) (p c:Int) (b:Bool):broken (ZbX l p c b) p c=b:=by
 have e:∀l:List Lamp,((l.map (Vc p c b)).any fun a=>brk a p c)=(l.any (hit p c) && b):=by
  intro l
  induction l with
  |nil=>simp
  |cons x l ih=>rw [UY,Fo,ih,ZCF,Fo];cases hit p c x <;> cases l.any (hit p c) <;> cases b <;> rfl
 unfold ZbX broken;split
 ·rename_i h;rw [e,h,UW]
 ·rename_i h;rw [FL,e];have:l.any (hit p c)=false:=by simpa using h
  rw [this];simp [brk]
theorem ZsW {t:Town} {p c:Int} {b:Bool} (h:(JT t p c b).2=true):ZR (JT t p c b).1=true/\broken (JT t p c b).1.lamps p c=b:=by
 unfold JT at h ⊢;split at h
 ·rename_i ht;rw [Uj ht];obtain ⟨_,_,h3,h4⟩:=Zdn h;rw [h4];refine ⟨h3,?_⟩;rw [(Zjj _).2.2.1];exact ZCG _ _ _ _
 ·cases h
theorem ZCH {t:Town} {b:Bool} (h:(KF t b).2=true):ZR (KF t b).1=true/\(KF t b).1.power=b:=by
 unfold KF at h ⊢;split at h
 ·rename_i ht;rw [Uj ht];obtain ⟨_,_,h3,h4⟩:=Zdn h;rw [h4];exact ⟨h3,(Zjj _).2.2.2.1⟩
 ·cases h
theorem ZCI {t:Town} (h:(Xz t).2=true):ZR t=true/\ZR (Xz t).1=true/\(Xz t).1.now=t.now + 1:=by
 unfold Xz at h ⊢;split at h
 ·rename_i ht;rw [Uj ht];obtain ⟨_,_,h3,h4⟩:=Zdn h;rw [h4];refine ⟨ht,h3,?_⟩;rw [(Zjj _).2.2.2.2];unfold KH;split <;> rfl
 ·cases h
theorem ZsX {t:Town} {p:Int} (h:(QJ t p).2=true):ZR t=true/\ZR (QJ t p).1=true/\(QJ t p).1.now=t.now + 1:=by
 unfold QJ at h ⊢;split at h
 ·rename_i ht;rw [Uj ht];obtain ⟨_,h2,h3,h4⟩:=Zdn h;rw [h4];refine ⟨h2,h3,?_⟩;rw [(Zjj _).2.2.2.2];unfold KG;split <;> rfl
 ·cases h
theorem ZsY {t:Town}:∀{k:Nat} {u:Town},(X2 t k u).2=true->(X2 t k u).1.now=u.now + (k:Int)/\(ZR u=true->ZR (X2 t k u).1=true)/\(1<=k->ZR u=true)
 | 0,u,h=>⟨by unfold X2;simp,fun hu=>hu,by omega⟩
 |k + 1,u,h=>by
  unfold X2 at h ⊢;split at h
  ·rename_i c;rw [Uj c];obtain ⟨a1,a2,a3⟩:=ZCI c;obtain ⟨b1,b2,_⟩:=ZsY h;exact ⟨by rw [b1,a3];omega,fun _=>b2 a2,fun _=>a1⟩
  ·cases h
theorem ZsZ {t:Town} {n:Int} (h:(QL t n).2=true):ZR t=true/\ZR (QL t n).1=true/\(QL t n).1.now=t.now + n/\1<=n/\n<=100:=by
 unfold QL at h ⊢;split at h
 ·rename_i c;rw [Uj c];have hn:1<=n/\n<=100:=by unfold inR at c;simpa using c
  obtain ⟨a1,a2,a3⟩:=ZsY h;have ht:=a3 (by omega);exact ⟨ht,a2 ht,by rw [a1];omega,hn⟩
 ·cases h
theorem ZCJ (c:List Int):Zg0 c=some (decide ((c.length:Int) > 1048576)):=by
 unfold Zg0;simp only [ZlK]
theorem ZCK {g:L1Cur} (h:YF g):Qq (Zes g) fun _=>True:=by
 unfold Zes;simp only [YI,Qk];obtain ⟨k,g1,e1,_,hg1⟩:=Znf h (l:= [Neg.neg 1,0,4,7,20,21,9223372036854775807,Neg.neg 9223372036854775808]) (by simp) (by simp) (P:=fun _=>True) (fun _ _=>trivial);rw [e1,Ze];exact ⟨_,_,rfl,trivial,hg1⟩
theorem ZCL {g:L1Cur} (h:YF g):Qq (Zg1 g) fun _=>True:=by
 unfold Zg1;simp only [YI,Qk];obtain ⟨k,g1,e1,_,hg1⟩:=QM h (n:=20) (by omega);rw [e1,Ze];obtain ⟨p,g2,e2,_,hg2⟩:=Zng hg1 (W (1 + k));rw [e2,Ze];obtain ⟨m,g3,e3,_,hg3⟩:=QM hg2 (n:=10) (by omega);rw [e3,Ze];obtain ⟨a,g4,e4,_,hg4⟩:=Znf hg3 (l:= [0,20,21]) (by simp) (by simp) (P:=fun _=>True) (fun _ _=>trivial);obtain ⟨b,g5,e5,_,hg5⟩:=Znf hg3 (l:= [0,2,4]) (by simp) (by simp) (P:=fun _=>True) (fun _ _=>trivial);obtain ⟨c,g6,e6,_,hg6⟩:=ZCK hg3;simp only [e4,e5,e6,Ze,ZJ];split
 ·exact ⟨_,_,rfl,trivial,hg4⟩
 split
 ·exact ⟨_,_,rfl,trivial,hg5⟩
 split
 ·exact ⟨_,_,rfl,trivial,hg6⟩
 split
 ·exact ⟨_,_,rfl,trivial,hg6⟩
 ·exact ⟨_,_,rfl,trivial,hg3⟩
theorem Zs0 {l:List Path} {ids:List Int}:∀{r:List Int} {k:Nat},goT l ids k r=true->∀(i:Nat) (x:Int),r[i]? =some x->(ids.take (k + i)).all (Q6 l x)=true
 | [],_,_,i,x,hx=>by simp at hx
 |y::r,k,h,i,x,hx=>by
  simp only [goT,Ua] at h;cases i with
  |zero=>simp at hx;subst hx;exact h.1.2
  |succ i=>
   have:=Zs0 h.2 i x (by simpa using hx)
   rwa [show k + 1 + i=k + (i + 1) by omega] at this
theorem ZCM {l:List Path} {a:List Int} (h:ZM l a=true) {x y:Int} (hx:x∈a) (hy:y∈a):Z2 (ZX l x) (ZX l y)=false:=by
 unfold ZM at h;rw [Ua] at h;obtain ⟨i,hi⟩:=Mi hx;obtain ⟨j,hj⟩:=Mi hy;have key:∀{i j:Nat} {x y:Int},a[i]? =some x->a[j]? =some y->j < i->Z2 (ZX l x) (ZX l y)=false:=fun {i j x y} hi hj c=>by
  have h1:=Zs0 h.1 i x hi;have hm:y∈a.take (0 + i):=by
   rw [UZ,List.mem_iff_getElem?];exact ⟨j,by rw [Uz,Uj c];exact hj⟩
  have:=MW.1 h1 _ hm;unfold Q6 at this;simpa using this
 rcases FB i j with c |c |c
 ·rw [Znk];exact key hj hi c
 ·subst c;rw [hi] at hj;cases hj;exact ZsR _
 ·exact key hi hj c
theorem Zno {l:List Path} {x:Path} (hx:x∈l):¬ZI l x.id < 0:=by
 unfold ZI;split
 ·omega
 ·rename_i hn;have:=List.findIdx?_eq_none_iff.1 hn x hx;simp at this
theorem Zfj:∀(l:List Path) (pv:Option Int),goP pv l=true->(∀x∈l,∀a,pv=some a->a < x.id)/\l.Pairwise (fun x y=>x.id < y.id)
 | [],_,_=>⟨by simp, .nil⟩
 |x::l,pv,h=>by
  have h2:goP (some x.id) l=true:=by cases pv <;> · unfold goP at h;simp at h;simp [h]
  obtain ⟨g1,g2⟩:=Zfj l _ h2;have hx:∀a,pv=some a->a < x.id:=fun a e=>by
   subst e;unfold goP at h;simp at h;exact h.1.2
  refine ⟨fun y hy a e=> ?_,List.pairwise_cons.2 ⟨fun y hy=>g1 y hy x.id rfl,g2⟩⟩;rcases FH.1 hy with rfl |hy
  ·exact hx a e
  ·have:=g1 y hy x.id rfl;have:=hx a e;omega
theorem Zjk {l:List Path} (h:ZN l=true):goP none l=true:=by
 unfold ZN at h;rw [Ua] at h;exact h.2
theorem VZ {l:List Path} (h:ZN l=true) {x:Path} (hx:x∈l):ZX l x.id=x:=by
 obtain ⟨k,hx⟩:=Mi hx;obtain ⟨i,y,h1,h2,h3⟩:=Kv (Zno (Uu hx));have hy:ZX l x.id=y:=by unfold ZX;rw [h2,UC,h1];rfl
 rw [hy];have hp:=(Zfj l none (Zjk h)).2;rcases FB i k with c |c |c
 ·have:=(MI.1 hp) i k (List.getElem?_eq_some_iff.1 h1).1 (List.getElem?_eq_some_iff.1 hx).1 c;rw [(List.getElem?_eq_some_iff.1 h1).2,(List.getElem?_eq_some_iff.1 hx).2] at this;omega
 ·subst c;rw [h1] at hx;exact UB hx
 ·have:=(MI.1 hp) k i (List.getElem?_eq_some_iff.1 hx).1 (List.getElem?_eq_some_iff.1 h1).1 c;rw [(List.getElem?_eq_some_iff.1 h1).2,(List.getElem?_eq_some_iff.1 hx).2] at this;omega
theorem Zdo {a:List Int} {n:Int}:has a n=true↔n∈a:=by
 unfold has;rw [List.any_eq_true];constructor
 ·rintro ⟨x,hx,h⟩;have:x=n:=by simpa using h
  exact this ▸ hx
 ·intro h;exact ⟨n,h,by simp⟩
theorem Zjl (l:List UInt8):ByteArray.mk l.toArray=bs l:=rfl
theorem Y0 (l:List UInt8):(bs l).size=l.length:=rfl
def ZCN:ByteArray:=bs [45]
def jn (a b:ByteArray) (r:List ByteArray):ByteArray:=r.foldl (fun a x=>a ++ b ++ x) a
def VI (l:List ByteArray) (b:ByteArray):ByteArray:=match l with | []=>ZCN |x::r=>jn x b r
def tot (l:List ByteArray) (b:ByteArray):Nat:=(l.map (fun x=>x.size + b.size)).sum
theorem Zdp (x:ByteArray) (l:List ByteArray) (b:ByteArray):tot (x::l) b=x.size + b.size + tot l b:=by simp [tot]
theorem Zs1 (b:ByteArray):∀(r:List ByteArray) (a:ByteArray),(jn a b r).data.toList=a.data.toList ++ Lib.joinTail b.data.toList (r.map (·.data.toList))
 | [],a=>by simp [jn,Lib.joinTail]
 |x::r,a=>by
  show (jn (a ++ b ++ x) b r).data.toList=_;rw [Zs1 b r];simp [Lib.joinTail]
theorem Zs2 (x:ByteArray) (r:List ByteArray) (b:ByteArray):Zbs (x::r) b=jn x b r:=by
 have h:(Zbs (x::r) b).data.toList=(jn x b r).data.toList:=by
  rw [Zs1];show (Lib.join _ _).toArray.toList=_;rw [UY,Lib.join_cons]
 have h2:(Zbs (x::r) b).data=(jn x b r).data:=Array.toList_inj.1 h;exact Fp h2
theorem Zfk (b:ByteArray):∀(r:List ByteArray) (a:ByteArray),(jn a b r).size=a.size + tot r b
 | [],a=>by simp [jn,tot]
 |x::r,a=>by
  show (jn (a ++ b ++ x) b r).size=_;rw [Zfk b r,Zdp,UJ,UJ];omega
theorem ZCO (x:ByteArray) (r:List ByteArray) (b:ByteArray):(Lib.join ((x::r).map (·.data.toList)) b.data.toList).length=x.size + tot r b:=by
 have h:=Zfk b r x;rw [←Zs2] at h;exact h
theorem Zjm (l:List ByteArray) (b:ByteArray) (h:l.length<=1099511627776) (ht:tot l b<=1099511627776):VT l b=some (VI l b):=by
 unfold VT;cases l with
 |nil=>rfl
 |cons x r=>
  have hj:Zbt (x::r) b=some (jn x b r):=by
   unfold Zbt;rw [Zdp] at ht;rw [Zs ⟨by omega,by rw [ZCO];omega⟩,Zs2]
  simp [hj];rw [show (((r.length:Int) + 1)==0)=false by simp;omega];rfl
@[simp] theorem Zs3 {β:Type} (l:List ByteArray) (s:ByteArray) (K:List ByteArray->Option β):rws sR (l.map sR.enc ++ [[Sg s]]) K=K (l ++ [s]):=
 (Ux (fun z=>rws sR z K) (UX (f:=sR.enc) (l₁:=l) (l₂:= [s])).symm).trans (Qi sR (l ++ [s]) K)
@[simp] theorem ZLS {β:Type} (l:List Int) (s:Int) (K:List Int->Option β):rws iR (l.map iR.enc ++ [[I s]]) K=K (l ++ [s]):=
 (Ux (fun z=>rws iR z K) (UX (f:=iR.enc) (l₁:=l) (l₂:= [s])).symm).trans (Qi iR (l ++ [s]) K)
theorem Zjn {α V β:Type} (l:List α) (f:α->ByteArray) (hl:l.length<=1099511627776) (st:Nat->List ByteArray->V) (K:List ByteArray->Option β) {F:(V->Option β)->V->Option β} {v:V} (hv:v=st 0 [])
  (h0:∀rec acc,acc.length=l.length->F rec (st l.length acc)=K acc)
  (h1:∀rec k x acc,l[k]? =some x->k < l.length->acc.length=k->F rec (st k acc)=rec (st (k + 1) (acc ++ [f x]))):Zf F NN v=K (l.map f):=by
 refine (YC l (by omega) st [] (fun k acc=>acc.length=k) rfl (fun s _ acc=>K (acc ++ s.map f)) hv ?_ ?_).trans (by simp)
 ·intro rec acc h;rw [h0 rec acc h];simp
 ·intro rec k x acc h hx hk hr;rw [h1 rec k x acc hx hk h,hr _ (by simp [h])];simp
def X3 (v:Int):ByteArray:=if v=0 then bs [114] else if v=1 then bs [103] else if v=2 then bs [99] else bs [46]
theorem Zjo (v:Int):(X3 v).size=1:=by
 unfold X3;split <;> (try split) <;> (try split) <;> rfl
theorem ZbY {α:Type} (l:List α) (f:α->ByteArray) (b:ByteArray) (n:Nat) (h:∀x∈l,(f x).size<=n):tot (l.map f) b<=l.length * (n + b.size):=by
 induction l with
 |nil=>simp [tot]
 |cons x l ih=>
  rw [UY,Zdp,UI,Nat.succ_mul];have:=ih fun y hy=>h y (Uf _ hy)
  have:=h x (Ug ..);omega
def KI (l:List Int):ByteArray:=VI (l.map X3) (bs [])
theorem Zjp (l:List Int) (h:Sm l):ZbK l=some (KI l):=by
 unfold Sm at h;unfold ZbK KI;simp;refine (Zjn l X3 (by omega) (fun k acc=>(acc,l,(l.length:Int),(k:Int))) (fun a=>VT a (bs [])) rfl ?_ ?_).trans ?_
 ·intro rec acc ha;simp
 ·intro rec k x acc hx hk ha;simp [hk,Zj hx,ZA (show k<=9223372036854775806 by omega),ha,show (k + 1) * 16<=140737488355328 by omega,show k<=1152921504606846975 by omega];by_cases e0:x=0
  ·simp [e0,X3,bs]
  by_cases e1:x=1
  ·simp [e1,X3,bs]
  by_cases e2:x=2
  ·simp [e2,X3,bs]
  simp [e0,e1,e2,X3,ZJ,bs]
 ·refine Zjm _ _ (by simp;omega) ?_;have:=ZbY l X3 (bs []) 1 fun x _=>Nat.le_of_eq (Zjo x)
  simp [Y0] at this;omega
theorem Zs4 {n:Int} (h:Rg n): -9223372036854775808<=n/\n<=9223372036854775807:=h
theorem QN (n:Int) (h:Rg n):XL n=some (Z7 n):=by
 unfold XL ZcG;rw [Zs (Zs4 h)];rfl
def dig:Nat->ByteArray->ByteArray
 |u,s=>if h:u=0 then s else dig (u / 10) (bs [UInt8.ofNat (48 + u % 10)] ++ s)
termination_by u=>u
decreasing_by omega
theorem Zjq (s:ByteArray):dig 0 s=s:=by rw [dig];simp
theorem Zjr {u:Nat} (h:u≠0) (s:ByteArray):dig u s=dig (u / 10) (bs [UInt8.ofNat (48 + u % 10)] ++ s):=by rw [dig];simp [h]
theorem ZCP:∀(u:Nat) (s:ByteArray),u≠0->(dig u s).data.toList=Lib.decDigits u ++ s.data.toList:=by
 intro u
 induction u using Nat.strongRecOn with
 | _ u ih=>
  intro s h;rw [Zjr h];by_cases hs:u < 10
  ·rw [show u / 10=0 by omega,Zjq,Lib.decDigits,dif_pos hs,show u % 10=u by omega];simp [bs]
  ·rw [ih (u / 10) (by omega) _ (by omega),Lib.decDigits.eq_1 u,dif_neg hs];simp [bs]
theorem Zs5 (n:Int) {β:Type} (K:ByteArray->Option β):bst [[AV.lit (.int .u8 n)]] K=K (bs [UInt8.ofNat n.toNat]):=rfl
theorem Zs6 {n:Int} (h:0<=n) (h':n<=255):IntKind.u8.wrap n=n:=by
 have e:IntKind.u8.wrap n=n % 256:=by
  unfold IntKind.wrap;rw [show IntKind.u8.signed=false from rfl,show IntKind.u8.bits=8 from rfl];simp
 rw [e];omega
theorem ZCQ (x:Int):(Int.tmod x 10).natAbs=x.natAbs % 10/\(0<=x->0<=Int.tmod x 10)/\(x<=0->Int.tmod x 10<=0):=by
 refine ⟨by rw [Int.natAbs_tmod];rfl,fun h=>Int.tmod_nonneg 10 h,fun h=> ?_⟩;have:=Int.tmod_nonneg 10 (show 0<= -x by omega);rw [Int.neg_tmod] at this;omega
theorem ZCR (x:Int):(Int.tdiv x 10).natAbs=x.natAbs / 10/\(0<=x->0<=Int.tdiv x 10)/\(x<=0->Int.tdiv x 10<=0):=by
 refine ⟨by rw [Int.natAbs_tdiv];rfl,fun h=>Int.tdiv_nonneg h (by decide),fun h=> ?_⟩;have:=Int.tdiv_nonneg (show 0<= -x by omega) (show (0:Int)<=10 by decide);rw [Int.neg_tdiv] at this;omega
theorem ZCS (s:ByteArray):(bs [45] ++ s).data.toList=45::s.data.toList:=by simp [bs]
theorem Zs7 {n:Int} (h:n≠0):Z7 n=if n < 0 then bs [45] ++ dig n.natAbs (bs []) else dig n.natAbs (bs []):=by
 have hd:∀u,u≠0->(dig u (bs [])).data.toList=Lib.decDigits u:=fun u hu=>by rw [ZCP u _ hu];simp [bs]
 have key:(Z7 n).data.toList=(if n < 0 then bs [45] ++ dig n.natAbs (bs []) else dig n.natAbs (bs [])).data.toList:=by
  show (Lib.itoa n).toArray.toList=_;unfold Lib.itoa;split
  ·rw [ZCS,hd _ (by omega)]
  ·rw [hd _ (by omega),show n.toNat=n.natAbs by omega]
 exact Fp (Array.toList_inj.1 key)
theorem Znp (n:Int) (h:Rg n):ZcK n=some (Z7 n):=by
 obtain ⟨h0,h1⟩:=Zs4 h;unfold ZcK;by_cases hz:n=0
 ·subst hz;have:Z7 0=bs [48]:=by
   unfold Z7 Lib.itoa;rw [Ui (by decide),Lib.decDigits,dif_pos (by decide)];rfl
  rw [this];rfl
 rw [show (n==0)=false by simpa using hz,Zh,Zs7 hz];refine (ZgN (R:=fun v:Int×ByteArray×Int=>some (if v.1 < 0 then bs [45] ++ dig v.2.2.natAbs v.2.1 else dig v.2.2.natAbs v.2.1)) (fun v=>20 - v.2.1.size)
  (fun v=>v.2.1.size<=19/\10 ^ v.2.1.size * v.2.2.natAbs<=9223372036854775808) ?_ NN (n,bs [],n) ⟨by simp [Y0],by simp [Y0];omega⟩ (by rw [Zkx];simp [Y0])).trans rfl
 rintro rec ⟨m,s,x⟩ ⟨i1,i2⟩ hr;simp only at i1 i2 hr ⊢;by_cases hx:x=0
 ·subst hx;simp [Zjq];by_cases hm:m < 0
  ·simp [hm];rw [Zs (by show 1 + s.size<=_;omega)]
  ·simp [hm]
 ·rw [show (x != 0)=true by simpa using hx,Zp];have hs18:s.size<=18:=by
   refine Nat.le_of_not_lt fun hlt=> ?_
   have h19:10 ^ 19<=10 ^ s.size:=MB (by decide) hlt;have:10 ^ s.size * 1<=10 ^ s.size * x.natAbs:=Fl _ (by omega);omega
  obtain ⟨a1,a2,a3⟩:=ZCQ x;obtain ⟨b1,b2,b3⟩:=ZCR x;have hxb:x.natAbs<=9223372036854775808:=by
   have:1 * x.natAbs<=10 ^ s.size * x.natAbs:=UK _ (Nat.pow_pos (by decide));omega
  have hW:W (Int.tdiv x 10)=Int.tdiv x 10:=ZB (by omega) (by omega);have hrec:∀d:UInt8,d=UInt8.ofNat (48 + x.natAbs % 10)->ifA ((bs [d]).size + s.size<=1099511627776) (rec (m,bs [d] ++ s,W (Int.tdiv x 10)))=some (if m < 0 then bs [45] ++ dig x.natAbs s else dig x.natAbs s):=by
   rintro d rfl;rw [Zs (by show 1 + s.size<=_;omega),hW,hr (m,_,Int.tdiv x 10) ⟨by simp [UJ,Y0];omega,?_⟩ (by simp only [UJ,Y0,Ml];omega),Zjr (u:=x.natAbs) (by omega),b1];simp only [UJ,Y0,b1];have e:10 ^ ([UInt8.ofNat (48 + x.natAbs % 10)].length + s.size)=10 ^ s.size * 10:=by rw [Ml,Nat.add_comm,Nat.pow_succ]
   rw [e,Nat.mul_assoc];exact Mo (Fl _ (Nat.mul_div_le _ _)) i2
  by_cases hd:Int.tmod x 10 < 0
  ·rw [show decide (Int.tmod x 10 < 0)=true by simpa using hd,Zp,ZB (n:=0 - Int.tmod x 10) (by omega) (by omega),ZB (by omega) (by omega),Zs6 (by omega) (by omega),Zs5];exact hrec _ (by congr 1;omega)
  ·rw [show decide (Int.tmod x 10 < 0)=false by simpa using hd,Zh,ZB (by omega) (by omega),Zs6 (by omega) (by omega),Zs5];exact hrec _ (by congr 1;omega)
theorem Y1 {n:Int} (h:Rg n):(Z7 n).size<=21:=Lib.itoa_length_le n h.1 h.2
def XB (l:List Int):ByteArray:=VI (l.map Z7) (bs [32])
theorem Zdq (l:List Int) (h:Sm l) (hr:∀y∈l,Rg y):Kq l=some (XB l):=by
 unfold Sm at h;unfold Kq XB;simp;refine (Zjn l Z7 (by omega) (fun k acc=>(acc,l,(l.length:Int),(k:Int))) (fun a=>VT a (bs [32])) rfl ?_ ?_).trans ?_
 ·intro rec acc ha;simp
 ·intro rec k x acc hx hk ha;simp [hk,Zj hx,QN x (hr x (Yu hx)),ZA (show k<=9223372036854775806 by omega),ha,show (k + 1) * 16<=140737488355328 by omega,show k<=1152921504606846975 by omega]
 ·refine Zjm _ _ (by simp;omega) ?_;have:=ZbY l Z7 (bs [32]) 21 fun x hx=>Y1 (hr x hx)
  simp [Y0] at this;omega
theorem Zjs (l:List ByteArray) (b:ByteArray):(VI l b).size<=tot l b + 1:=by
 cases l with
 |nil=>exact Nat.le_of_eq rfl
 |cons x r=>
  show (jn x b r).size<=_;rw [Zfk,Zdp];omega
theorem Znq {l:List Int} (h:Sm l) (hr:∀y∈l,Rg y):(XB l).size<=23068673:=by
 have h1:=Zjs (l.map Z7) (bs [32]);have h2:=ZbY l Z7 (bs [32]) 21 fun x hx=>Y1 (hr x hx)
 unfold Sm at h;simp [Y0] at h2;unfold XB;omega
theorem ZCT {l:List Int} (h:Sm l):(KI l).size<=1048577:=by
 have h1:=Zjs (l.map X3) (bs []);have h2:=ZbY l X3 (bs []) 1 fun x _=>Nat.le_of_eq (Zjo x)
 unfold Sm at h;simp [Y0] at h2;unfold KI;omega
def ZbZ (k:Int):ByteArray:=if k=1 then bs [99] else if k=2 then bs [119] else bs [98]
def Ys (p:Path):ByteArray:=if ZY p then Z7 p.id ++ ZbZ p.kind ++ Z7 p.src ++ Z7 p.dst else bs []
theorem Znr (k:Int):(ZbZ k).size=1:=by
 unfold ZbZ;split <;> (try split) <;> rfl
theorem Zs8 {p:Path} (h:Kr p):(Ys p).size<=64:=by
 obtain ⟨k0,k1,k2,k3⟩:=h;have z0:=Y1 k0;have z1:=Y1 k2;have z2:=Y1 k3;have z3:=Znr p.kind;unfold Ys;split
 ·simp only [UJ];omega
 ·exact U7 _
theorem ZCU (p:Path) (h:Kr p):Zbv p=some (Ys p):=by
 obtain ⟨k0,k1,k2,k3⟩:=h;have z0:=Y1 k0;have z1:=Y1 k2;have z2:=Y1 k3;have z3:=Znr p.kind;unfold Zbv Ys;rw [ZeY,Ze];cases hp:ZY p with
 |false=>rfl
 |true=>
  have e:∀K:ByteArray->Option ByteArray,Zz sR [[Sg (bs [])],[Sg (bs [99])],[Sg (bs [119])],[Sg (bs [98])]] p.kind K=K (ZbZ p.kind):=by
   intro K;rcases ZaB hp with e |e |e <;> rw [e] <;> rfl
  simp only [Uk,Zh,e,Znp _ k0,Znp _ k2,Znp _ k3,Ze,UJ,U3];rw [Zs (by omega),Zs (by omega),Zs (by omega)]
theorem Zns (p:Path) (h:Kr p):Zaq p=some (Ys p):=by
 obtain ⟨k0,k1,k2,k3⟩:=h;have z0:=Y1 k0;have z1:=Y1 k2;have z2:=Y1 k3;have z3:=Znr p.kind;unfold Zaq Ys;rw [Zc4,Ze];cases hp:ZY p with
 |false=>rfl
 |true=>
  have e:ByteArray.extract (bs [99,119,98]) (Int.toNat (W (p.kind - 1))) (Int.toNat p.kind)=ZbZ p.kind:=by
   rcases ZaB hp with e |e |e <;> rw [e] <;> rfl
  have hk:W (p.kind - 1)=p.kind - 1:=by
   have:=ZaB hp;exact ZB (by omega) (by omega)
  simp only [Uk,Zh,e,QN _ k0,QN _ k2,QN _ k3,Ze,UJ,U3];have:=ZaB hp;rw [hk,Zs ⟨by omega,by omega,by show p.kind<=3;omega⟩,Zs (by omega),Zs (by omega),Zs (by omega)]
def Znt (l:List Path):ByteArray:=VI (l.map Ys) (bs [32])
theorem ZCV (l:List Path) (h:Sm l) (hr:∀y∈l,Kr y):Zh8 l=some (Znt l):=by
 unfold Sm at h;unfold Zh8 Znt;simp;refine (Zjn l Ys (by omega) (fun k acc=>(acc,l,(l.length:Int),(k:Int))) (fun a=>VT a (bs [32])) rfl ?_ ?_).trans ?_
 ·intro rec acc ha;simp
 ·intro rec k x acc hx hk ha;simp [hk,Zj hx,Zns x (hr x (Yu hx)),ZA (show k<=9223372036854775806 by omega),ha,show (k + 1) * 16<=140737488355328 by omega,show k<=1152921504606846975 by omega]
 ·refine Zjm _ _ (by simp;omega) ?_;have:=ZbY l Ys (bs [32]) 64 fun x hx=>Zs8 (hr x hx)
  simp [Y0] at this;omega
def Zb0 (a:List Part):Nat:=(a.map fun x=>x.stage.length).sum
theorem Zs9 (x:Part) (a:List Part):Zb0 (x::a)=x.stage.length + Zb0 a:=by simp [Zb0]
def ZaY (x:Part):ByteArray:=XB x.stage ++ bs [58] ++ Z7 x.green
def Zfl (l:List Part):ByteArray:=VI (l.map ZaY) (bs [32,124,32])
theorem ZCW {x:Part} (h:Ziz x) (hr:Zmc x):(ZaY x).size<=22 * x.stage.length + 23:=by
 have h1:=Zjs (x.stage.map Z7) (bs [32]);have h2:=ZbY x.stage Z7 (bs [32]) 21 fun y hy=>Y1 (hr.1.2 y hy)
 have h3:=Y1 hr.2;have h4:(bs [32]).size=1:=rfl;have h5:(bs [58]).size=1:=rfl;rw [h4,show 21 + 1=22 from rfl,Nat.mul_comm] at h2;unfold ZaY XB;rw [UJ,UJ];omega
theorem Zta (b:ByteArray):∀(l:List Part),(∀y∈l,Ziz y)->(∀y∈l,Zmc y)->tot (l.map ZaY) b<=22 * Zb0 l + l.length * (23 + b.size)
 | [],_,_=>by simp [tot]
 |x::l,h,hr=>by
  rw [UY,Zdp,Zs9,UI,show (l.length + 1) * (23 + b.size)=l.length * (23 + b.size) + (23 + b.size) from Nat.succ_mul _ _];have:=Zta b l (fun y hy=>h y (Uf _ hy)) (fun y hy=>hr y (Uf _ hy));have:=ZCW (h x (Ug ..)) (hr x (Ug ..));omega
def KJ (l:List Path) (ids:List Int):Bool:=(l.all fun p=>has ids p.id || !ZM l (YM ids p.id)) && ZM l ids
def VJ (l:List Path):List Path->List Int->List (List Int)->List (List Int)
 | [],ids,out=>if ids≠ []/\out.length < 40/\KJ l ids=true then out ++ [ids] else out
 |p::r,ids,out=>VJ l r ids (if ZM l (ids ++ [p.id])=true then VJ l r (ids ++ [p.id]) out else out)
theorem Zjt (l:List Path):∀(r:List Path) (ids:List Int) (out:List (List Int)),out.length<=40->(VJ l r ids out).length<=40
 | [],ids,out,h=>by
  unfold VJ;split
  ·rename_i c;simp;omega
  ·exact h
 |p::r,ids,out,h=>by
  unfold VJ;refine Zjt l r ids _ ?_;split
  ·exact Zjt l r _ out h
  ·exact h
theorem Znu (l:List Path):∀(r:List Path) (ids:List Int) (out:List (List Int)),∀s∈VJ l r ids out,s∈out\/(s.length<=ids.length + r.length/\KJ l s=true/\s≠ [])
 | [],ids,out,s,h=>by
  unfold VJ at h;split at h
  ·rename_i c;rcases List.mem_append.1 h with h |h
   ·exact .inl h
   ·rw [Ma.1 h];exact .inr ⟨by simp,c.2.2,c.1⟩
  ·exact .inl h
 |p::r,ids,out,s,h=>by
  unfold VJ at h;rcases Znu l r ids _ s h with h |h
  ·split at h
   ·rcases Znu l r _ out s h with h |h
    ·exact .inl h
    ·refine .inr ⟨?_,h.2⟩;have:=h.1;simp at this ⊢;omega
   ·exact .inl h
  ·refine .inr ⟨?_,h.2⟩;have:=h.1;simp;omega
def KK (l:List Path):List (List Int):=if ZN l=true then VJ l l [] [] else []
theorem Ztb (l:List Path):(KK l).length<=40/\∀s∈KK l,s.length<=12:=by
 unfold KK;split
 ·rename_i h;refine ⟨Zjt l l [] [] (by simp),fun s hs=> ?_⟩;rcases Znu l l [] [] s hs with h1 |h1
  ·cases h1
  ·have:=Zfg h;have:=h1.1;simp at this;omega
 ·exact ⟨by simp,fun s hs=>(by cases hs)⟩
theorem Ztc {A V:Type} {F:(V->Option Bool)->V->Option Bool} (st:Nat->A->V) (N:Nat) (J:Nat->A->Prop)
  (h0:∀rec acc,J N acc->F rec (st N acc)=some true)
  (h1:∀rec k acc,k < N->J k acc->(∀acc',J (k + 1) acc'->rec (st (k + 1) acc')=some true)->F rec (st k acc)=some true):∀(n k:Nat) (acc:A),N - k < n->k<=N->J k acc->Zf F n (st k acc)=some true
 | 0,k,acc,h,_,_=>by omega
 |n + 1,k,acc,h,hk,hJ=>by
  rw [QY];by_cases c:k=N
  ·subst c;exact h0 _ acc hJ
  ·exact h1 _ k acc (by omega) hJ fun acc' hJ'=>Ztc st N J h0 h1 n (k + 1) acc' (by omega) (by omega) hJ'
theorem ZCX {A V:Type} {F:(V->Option Bool)->V->Option Bool} {v:V} (st:Nat->A->V) (N:Nat) (J:Nat->A->Prop) (acc:A) (hv:v=st 0 acc) (hN:N<=1099511627776) (hJ:J 0 acc)
  (h0:∀rec acc,J N acc->F rec (st N acc)=some true)
  (h1:∀rec k acc,k < N->J k acc->(∀acc',J (k + 1) acc'->rec (st (k + 1) acc')=some true)->F rec (st k acc)=some true):Zf F NN v=some true:=by
 rw [hv];exact Ztc st N J h0 h1 NN 0 acc (Qj (by omega)) (U7 _) hJ
theorem ltF (n:Nat):decide ((n:Int) < (n:Int))=false:=by simp
theorem Ztd {l:List Path}:∀(r:List Path) (c:List (List Int)),(∀s∈c,Sm s)->(∀s∈r.foldl (XA l) c,Sm s)/\(r.foldl (XA l) c).length<=c.length + r.length
 | [],c,h=>⟨h,by simp⟩
 |p::r,c,h=>by
  rw [Me];have h2:(∀s∈XA l c p,Sm s)/\(XA l c p).length<=c.length + 1:=by
   unfold XA;split
   ·exact ⟨h,by omega⟩
   ·refine ⟨fun s hs=> ?_,by simp⟩;rcases List.mem_append.1 hs with hs |hs
    ·exact h s hs
    ·rw [Ma.1 hs];exact ZbT (Xi _)
  obtain ⟨a1,a2⟩:=Ztd r _ h2.1;exact ⟨a1,by simp;omega⟩
theorem Zte (l:List Path):(∀s∈XR l,Sm s)/\(XR l).length<=12:=by
 unfold XR;split
 ·rename_i h;obtain ⟨a1,a2⟩:=Ztd (l:=l) l [] (fun s hs=>(by cases hs));have:=Zfg h;exact ⟨a1,by simp at a2;omega⟩
 ·exact ⟨fun s hs=>(by cases hs),by simp⟩
def Zb1 (l:List Path):List Part:=(XR l).map fun s=>⟨s,Xg l s⟩
def V0 (l:List Path):List Part:=if YQ l (Zb1 l)=true then Zb1 l else []
theorem Ztf (l:List Path):SmL (Zb1 l):=by
 obtain ⟨h1,h2⟩:=Zte l;refine ⟨by unfold Zb1 Sm;rw [Uv];omega,fun y hy=> ?_⟩;obtain ⟨s,hs,rfl⟩:=List.mem_map.1 hy;exact h1 s hs
theorem ZCY (l:List Path):SmL (V0 l):=by
 unfold V0;split
 ·exact Ztf l
 ·exact ⟨by unfold Sm;simp,fun y hy=>by cases hy⟩
theorem ZCZ (l:List Part) (s:List Int) (g:Int) {β:Type} (K:List Part->Option β):rws (Zo Own.shr) (l.map (Zo Own.shr).enc ++ [[(AV.slc Own.shr 1 (s.map iR.enc)),I g]]) K=K (l ++ [(⟨s,g⟩:Part)]):=
 (Zad (Zo Own.shr) _ _ K).trans ((Jo l _).trans (Jo [(⟨s,g⟩:Part)] fun l'=>K (l ++ l')))
theorem ZC0 {α γ:Type} (f:α->γ) {l:List α} {k:Nat} {x:α} (h:l[k]? =some x):(l.take k).map f ++ [f x]=(l.take (k + 1)).map f:=by
 rw [MR,h];simp
def Ind (l:List Path) (a:List Int):Prop:=(∀x∈a,∃p∈l,p.id=x)/\a.Pairwise (· < ·)/\∀x∈a,∀y∈a,Z2 (ZX l x) (ZX l y)=false
theorem Ztg {l:List Path} {ids:List Int} (h:Ind l ids):∀(r:List Int) (k:Nat),ids.drop k=r->goT l ids k r=true
 | [],_,_=>rfl
 |x::r,k,hd=>by
  have hk:ids[k]? =some x:=by
   have:(ids.drop k)[0]? =some x:=by rw [hd];rfl
   rw [UR] at this;exact this
  have hx:x∈ids:=Uu hk;obtain ⟨p,hp,hpx⟩:=h.1 x hx;have h1:¬ZI l x < 0:=by rw [←hpx];exact Zno hp
  have h2:Q5 ids k x=true:=by
   unfold Q5;split
   ·rfl
   ·rename_i hk0;have hlt:k < ids.length:=(List.getElem?_eq_some_iff.1 hk).1;have hk1:k - 1 < ids.length:=by omega
    rw [Ub hk1];have:=(MI.1 h.2.1) (k - 1) k hk1 hlt (by omega);rw [(List.getElem?_eq_some_iff.1 hk).2] at this;simpa using this
  have h3:(ids.take k).all (Q6 l x)=true:=MW.2 fun y hy=>by
   unfold Q6;rw [h.2.2 x hx y (MN hy)];rfl
  have h4:=Ztg h r (k + 1) (by rw [←MF,hd];rfl);unfold goT;rw [h2,h3,h4];simpa using h1
theorem Zfm {l:List Path} (hl:ZN l=true) {a:List Int}:ZM l a=true↔Ind l a:=
 ⟨fun h=>⟨fun x hx=>by
   obtain ⟨p,hp,e⟩:=ZsI (ZaH h x hx);exact ⟨p,hp,e⟩,Zjd h,fun x hx y hy=>ZCM h hx hy⟩,
  fun h=>by
   unfold ZM;rw [Ztg h a 0 rfl,hl];rfl⟩
theorem ZC1 {a:List Int} (h:a.Pairwise (· < ·)) (n:Int):(YM a n).Pairwise (· < ·):=by
 unfold YM;split
 ·exact h
 ·rename_i hn;unfold ins;have hlo:∀x∈a.take (low a n),x < n:=fun x hx=>by
   obtain ⟨i,hi⟩:=Mi hx;rw [Uz] at hi;split at hi
   ·exact Zjc ‹_› hi
   ·cases hi
  have hhi:∀x∈a.drop (low a n),n < x:=fun x hx=>by
   obtain ⟨i,hi⟩:=Mi hx;rw [UR] at hi;have h1:=ZmX h (Nat.le_add_right _ _) hi;by_cases e:x=n
   ·subst e;cases i with
    |zero=>exact absurd hi hn
    |succ i=>
     have hlt:low a x + (i + 1) < a.length:=(List.getElem?_eq_some_iff.1 hi).1;have h0:low a x < a.length:=by omega
     have h2:=ZmX h (Uq _) (Ub h0);have h3:=(MI.1 h) (low a x) (low a x + (i + 1)) h0 hlt (by omega);rw [(List.getElem?_eq_some_iff.1 hi).2] at h3;omega
   ·omega
  have hs:(a.take (low a n) ++ a.drop (low a n)).Pairwise (· < ·):=by rw [Ul];exact h
  obtain ⟨s1,s2,s3⟩:=List.pairwise_append.1 hs;refine List.pairwise_append.2 ⟨List.pairwise_append.2 ⟨s1,List.pairwise_singleton ..,fun x hx y hy=> ?_⟩,s2,fun x hx y hy=> ?_⟩
  ·rw [Ma.1 hy];exact hlo x hx
  ·rcases List.mem_append.1 hx with hx |hx
   ·exact s3 x hx y hy
   ·rw [Ma.1 hx];exact hhi y hy
theorem Zdr {a:List Int} {n x:Int}:x∈YM a n↔x∈a\/n=x:=by
 rw [←Zdo,ZsB,U9,Zdo,FF]
theorem Zfn {l:List Path} (hl:ZN l=true) {e:List Int}:KJ l e=true↔Ind l e/\∀p∈l,p.id∉e->∃x∈e,Z2 p (ZX l x)=true:=by
 unfold KJ;rw [Ua,Zfm hl];constructor
 ·rintro ⟨h1,h2⟩;refine ⟨h2,fun p hp hn=> ?_⟩;have:=MW.1 h1 p hp;rw [show has e p.id=false by rw [←Bool.not_eq_true,Zdo];exact hn,FI,UG,←Bool.not_eq_true,Zfm hl] at this;by_cases c:∃x∈e,Z2 p (ZX l x)=true
  ·exact c
  ·refine absurd ⟨fun x hx=> ?_,ZC1 h2.2.1 _,fun x hx y hy=> ?_⟩ this
   ·rcases Zdr.1 hx with hx |rfl
    ·exact h2.1 x hx
    ·exact ⟨p,hp,rfl⟩
   ·have key:∀z∈e,Z2 p (ZX l z)=false:=fun z hz=>by
     cases hc:Z2 p (ZX l z) with
     |false=>rfl
     |true=>exact absurd ⟨z,hz,hc⟩ c
    rcases Zdr.1 hx with hx |rfl
    ·rcases Zdr.1 hy with hy |rfl
     ·exact h2.2.2 x hx y hy
     ·rw [VZ hl hp,Znk];exact key x hx
    ·rw [VZ hl hp];rcases Zdr.1 hy with hy |rfl
     ·exact key y hy
     ·rw [VZ hl hp];exact ZsR _
 ·rintro ⟨h1,h2⟩;refine ⟨MW.2 fun p hp=> ?_,h1⟩;cases hh:has e p.id with
  |true=>rfl
  |false=>
   rw [FI,UG,←Bool.not_eq_true,Zfm hl];intro hI;have hn:p.id∉e:=fun hm=>by rw [Zdo.2 hm] at hh;cases hh
   obtain ⟨x,hx,hc⟩:=h2 p hp hn;have:=hI.2.2 p.id (Zdr.2 (.inr rfl)) x (Zdr.2 (.inl hx));rw [VZ hl hp,hc] at this;cases this
def Vd (l:List Path):List Path->List Int->List (List Int)
 | [],ids=>if ids≠ []/\KJ l ids=true then [ids] else []
 |p::r,ids=>(if ZM l (ids ++ [p.id])=true then Vd l r (ids ++ [p.id]) else []) ++ Vd l r ids
theorem ZC2 {α:Type} {a b:List α} {n:Nat} (h:n<=40):a.take (40 - n) ++ b.take (40 - (n + (a.take (40 - n)).length))=(a ++ b).take (40 - n):=by
 rw [List.take_append,Uc];congr 2;omega
theorem Zju (l:List Path):∀(r:List Path) (ids:List Int) (out:List (List Int)),out.length<=40->VJ l r ids out=out ++ (Vd l r ids).take (40 - out.length)
 | [],ids,out,h=>by
  unfold VJ Vd;by_cases c:ids≠ []/\KJ l ids=true
  ·rw [Uj c];by_cases c2:out.length < 40
   ·rw [Uj ⟨c.1,c2,c.2⟩,U2 (by simp;omega)]
   ·rw [Ui (fun h=>c2 h.2.1),show 40 - out.length=0 by omega];simp
  ·rw [Ui c,Ui (fun h=>c ⟨h.1,h.2.2⟩)];simp
 |p::r,ids,out,h=>by
  unfold VJ Vd;split
  ·rename_i ht;have h1:=Zju l r (ids ++ [p.id]) out h;rw [Zju l r ids _ (Zjt l r _ out h),h1,Us,Uh,ZC2 h]
  ·rw [Zju l r ids out h];simp
theorem Zds {l:List Path} (hl:ZN l=true):∀(r:List Path) (ids e:List Int),e∈Vd l r ids↔e≠ []/\KJ l e=true/\∃t,e=ids ++ t/\t.Sublist (r.map (·.id))
 | [],ids,e=>by
  unfold Vd;constructor
  ·intro h;split at h
   ·rename_i c;rw [Ma.1 h];exact ⟨c.1,c.2,[],by simp,by simp⟩
   ·cases h
  ·rintro ⟨h1,h2,t,h3,h4⟩;have:t= []:=by simpa using h4
   subst this;rw [UO] at h3;subst h3;rw [Uj ⟨h1,h2⟩];exact Ma.2 rfl
 |p::r,ids,e=>by
  unfold Vd;rw [List.mem_append,Zds hl r ids e];constructor
  ·rintro (h | ⟨h1,h2,t,h3,h4⟩)
   ·split at h
    ·obtain ⟨h1,h2,t,h3,h4⟩:=(Zds hl r _ e).1 h;exact ⟨h1,h2,p.id::t,by rw [h3];simp,h4.cons₂ _⟩
    ·cases h
   ·exact ⟨h1,h2,t,h3,h4.cons _⟩
  ·rintro ⟨h1,h2,t,h3,h4⟩;rw [UY] at h4;cases h4 with
   |cons _ h4=>exact .inr ⟨h1,h2,t,h3,h4⟩
   |cons_cons _ h4=>
    rename_i t';left;have hI:=((Zfn hl).1 h2).1;have hT:ZM l (ids ++ [p.id])=true:=by
     rw [Zfm hl];have e1:e=(ids ++ [p.id]) ++ t':=by rw [h3];simp
     rw [e1] at hI;exact ⟨fun x hx=>hI.1 x (Uw _ hx),(List.pairwise_append.1 hI.2.1).1,fun x hx y hy=>hI.2.2 x (Uw _ hx) y (Uw _ hy)⟩
    rw [Uj hT,Zds hl r _ e];exact ⟨h1,h2,t',by rw [h3];simp,h4⟩
theorem Zth {a b:List Int}:∀c:List Int,a < b->c ++ a < c ++ b
 | [],h=>h
 |x::c,h=>List.cons_lt_cons_iff.2 (.inr ⟨rfl,Zth c h⟩)
theorem Znv {l:List Path} (hl:ZN l=true):∀(r:List Path) (ids:List Int),(∀p∈r,p∈l)->r.Pairwise (fun x y=>x.id < y.id)->(Vd l r ids).Pairwise (· < ·)
 | [],ids,_,_=>by
  unfold Vd;split
  ·exact List.pairwise_singleton ..
  ·exact .nil
 |p::r,ids,hm,hp=>by
  obtain ⟨hp1,hp2⟩:=List.pairwise_cons.1 hp;have hm2:∀q∈r,q∈l:=fun q hq=>hm q (Uf _ hq)
  unfold Vd;refine List.pairwise_append.2 ⟨?_,Znv hl r ids hm2 hp2,fun e1 h1 e2 h2=> ?_⟩
  ·split
   ·exact Znv hl r _ hm2 hp2
   ·exact .nil
  ·split at h1
   case isFalse=>cases h1
   rename_i hT;obtain ⟨_,_,t1,rfl,_⟩:=(Zds hl r _ e1).1 h1;obtain ⟨_,f2,t2,rfl,s2⟩:=(Zds hl r _ e2).1 h2;rw [Us];refine Zth ids ?_;rw [List.singleton_append];cases t2 with
   |nil=>
    rw [UO] at f2;have hI:=(Zfm hl).1 hT;have hn:p.id∉ids:=fun hx=>by
     have:=(List.pairwise_append.1 hI.2.1).2.2 p.id hx p.id (by simp);omega
    obtain ⟨x,hx,hc⟩:=((Zfn hl).1 f2).2 p (hm p (Ug ..)) hn;have:=hI.2.2 p.id (by simp) x (Uw _ hx);rw [VZ hl (hm p (Ug ..)),hc] at this;cases this
   |cons y t2=>
    have hy:y∈r.map (·.id):=s2.subset (Ug ..);obtain ⟨q,hq,rfl⟩:=List.mem_map.1 hy;exact List.cons_lt_cons_iff.2 (.inl (hp1 q hq))
def X4 (l:List Path) (set:Nat):List Int:=(l.zipIdx.filter fun x=>set.testBit x.2).map fun x=>x.1.id
def V1 (l:List Path) (set:Nat):Bool:=l.zipIdx.all fun x=>set.testBit x.2==l.zipIdx.all fun y=> !(set.testBit y.2 && Z2 x.1 y.1)
def V2 (l:List Path):List (List Int):=(List.range' 1 (2 ^ l.length - 1)).filterMap fun set=>if V1 l set=true then some (X4 l set) else none
theorem Zdt {l:List Path} {set:Nat} {x:Int}:x∈X4 l set↔∃i p,l[i]? =some p/\set.testBit i=true/\p.id=x:=by
 unfold X4;rw [List.mem_map];constructor
 ·rintro ⟨⟨p,i⟩,h,rfl⟩;obtain ⟨h1,h2⟩:=List.mem_filter.1 h;exact ⟨i,p,by rw [UM] at h1;exact h1,h2,rfl⟩
 ·rintro ⟨i,p,h1,h2,rfl⟩;exact ⟨(p,i),List.mem_filter.2 ⟨by rw [UM];exact h1,h2⟩,rfl⟩
theorem ZC3 {l:List Path} (hl:ZN l=true) {i j:Nat} {p q:Path} (hi:l[i]? =some p) (hj:l[j]? =some q) (h:p.id=q.id):i=j:=by
 have hp:=(Zfj l none (Zjk hl)).2;have h1:=List.getElem?_eq_some_iff.1 hi;have h2:=List.getElem?_eq_some_iff.1 hj;rcases FB i j with c |c |c
 ·have:=(MI.1 hp) i j h1.1 h2.1 c;rw [h1.2,h2.2] at this;omega
 ·exact c
 ·have:=(MI.1 hp) j i h2.1 h1.1 c;rw [h1.2,h2.2] at this;omega
theorem ZaZ {l:List Path} (hl:ZN l=true) {set i:Nat} {p:Path} (hi:l[i]? =some p):p.id∈X4 l set↔set.testBit i=true:=by
 rw [Zdt];constructor
 ·rintro ⟨j,q,h1,h2,h3⟩;rw [ZC3 hl hi h1 h3.symm];exact h2
 ·exact fun h=>⟨i,p,hi,h,rfl⟩
theorem Znw (l:List Path) (set:Nat):(X4 l set).Sublist (l.map (·.id)):=by
 have h:((l.zipIdx.filter fun x=>set.testBit x.2).map fun x=>x.1.id).Sublist (l.zipIdx.map fun x=>x.1.id):=(List.filter_sublist).map _;have e:l.zipIdx.map (fun x=>x.1.id)=l.map (·.id):=by
  rw [show (fun x:Path×Nat=>x.1.id)=(fun p:Path=>p.id) ∘ Prod.fst from rfl,←Mq,List.zipIdx_map_fst]
 rw [e] at h;exact h
theorem Zti {l:List Path} (hl:ZN l=true):(l.map (·.id)).Pairwise (· < ·):=List.pairwise_map.2 (Zfj l none (Zjk hl)).2
theorem ZC4 {l:List Path} {set:Nat}:V1 l set=true↔∀i p,l[i]? =some p->(set.testBit i=true↔∀j q,l[j]? =some q->set.testBit j=true->Z2 p q=false):=by
 unfold V1;rw [MW];have key:∀p:Path,(l.zipIdx.all fun y=> !(set.testBit y.2 && Z2 p y.1))=true↔∀j q,l[j]? =some q->set.testBit j=true->Z2 p q=false:=fun p=>by
  rw [MW];constructor
  ·intro h j q hj hb;have:=h (q,j) (by rw [UM];exact hj);simpa [hb] using this
  ·rintro h ⟨q,j⟩ hm;rw [UM] at hm;have:=h j q hm;cases hb:set.testBit j with
   |false=>simp [hb]
   |true=>simp [hb,this hb]
 constructor
 ·intro h i p hi;have:=h (p,i) (by rw [UM];exact hi);rw [FF] at this;simp only at this;rw [this,key]
 ·rintro h ⟨p,i⟩ hm;rw [UM] at hm;rw [FF,Bool.eq_iff_iff];simp only;rw [key];exact h i p hm
theorem Ztj {l:List Path} (hl:ZN l=true) {set:Nat}:KJ l (X4 l set)=true↔V1 l set=true:=by
 rw [Zfn hl,ZC4];constructor
 ·rintro ⟨hI,hM⟩ i p hi;have hp:=Uu hi;constructor
  ·intro hb j q hj hb2;have:=hI.2.2 p.id ((ZaZ hl hi).2 hb) q.id ((ZaZ hl hj).2 hb2)
   rwa [VZ hl hp,VZ hl (Uu hj)] at this
  ·intro h;cases hb:set.testBit i with
   |true=>rfl
   |false=>
    obtain ⟨x,hx,hc⟩:=hM p hp (fun hm=>by rw [(ZaZ hl hi).1 hm] at hb;cases hb);obtain ⟨j,q,h1,h2,rfl⟩:=Zdt.1 hx;rw [VZ hl (Uu h1),h j q h1 h2] at hc;cases hc
 ·intro h;refine ⟨⟨fun x hx=> ?_,(Zti hl).sublist (Znw l set),fun x hx y hy=> ?_⟩,fun p hp hn=> ?_⟩
  ·obtain ⟨j,q,h1,_,rfl⟩:=Zdt.1 hx;exact ⟨q,Uu h1,rfl⟩
  ·obtain ⟨i,p,h1,h2,rfl⟩:=Zdt.1 hx;obtain ⟨j,q,h3,h4,rfl⟩:=Zdt.1 hy;rw [VZ hl (Uu h1),VZ hl (Uu h3)];exact (h i p h1).1 h2 j q h3 h4
  ·obtain ⟨i,hi⟩:=Mi hp;by_cases c:∃x∈X4 l set,Z2 p (ZX l x)=true
   ·exact c
   ·refine absurd ((ZaZ hl hi).2 ((h i p hi).2 fun j q hj hb=> ?_)) hn;cases hc:Z2 p q with
    |false=>rfl
    |true=>exact absurd ⟨q.id,(ZaZ hl hj).2 hb,by rw [VZ hl (Uu hj)];exact hc⟩ c
def mk (f:Nat->Bool):Nat->Nat
 | 0=>0
 |n + 1=>mk f n ||| (if f n then 2 ^ n else 0)
theorem Zdu (f:Nat->Bool):∀n i,(mk f n).testBit i=(decide (i < n) && f i)
 | 0,i=>by simp [mk]
 |n + 1,i=>by
  unfold mk;rw [Nat.testBit_or,Zdu f n i];cases hf:f n with
  |true=>
   simp only [U3,Nat.testBit_two_pow];by_cases c:i=n
   ·subst c;simp [hf]
   ·have:decide (n=i)=false:=by simp;omega
    rw [this,Bool.or_false];congr 1;simp;omega
  |false=>
   simp only [MK,My,FG,Bool.or_false];by_cases c:i=n
   ·subst c;simp [hf]
   ·congr 1;simp;omega
theorem Znx (f:Nat->Bool) (n:Nat):mk f n < 2 ^ n:=Nat.lt_pow_two_of_testBit _ fun i hi=>by
 rw [Zdu];simp;omega
theorem Ztk {l:List Path} (hl:ZN l=true) {e:List Int} (h:Ind l e):∃set,set < 2 ^ l.length/\X4 l set=e:=by
 let f:Nat->Bool:=fun i=>match l[i]? with |some p=>has e p.id |none=>false
 refine ⟨mk f l.length,Znx _ _,?_⟩;have hs:=(Zti hl).sublist (Znw l (mk f l.length));have hmem:∀x,x∈X4 l (mk f l.length)↔x∈e:=fun x=>by
  rw [Zdt];constructor
  ·rintro ⟨i,p,h1,h2,rfl⟩;rw [Zdu,Ua] at h2;have:has e p.id=true:=by have:=h2.2;simpa only [f,h1] using this
   exact Zdo.1 this
  ·intro hx;obtain ⟨p,hp,rfl⟩:=h.1 x hx;obtain ⟨i,hi⟩:=Mi hp;refine ⟨i,p,hi,?_,rfl⟩;rw [Zdu,Ua];exact ⟨by simpa using (List.getElem?_eq_some_iff.1 hi).1,by simp only [f,hi];exact Zdo.2 hx⟩
 have hnd:∀{a:List Int},a.Pairwise (· < ·)->a.Nodup:=fun h=>h.imp fun h=>by omega
 exact List.Perm.eq_of_pairwise (le:=(· < ·)) (fun a b _ _ h1 h2=>by omega) hs h.2.1 ((List.perm_ext_iff_of_nodup (hnd hs) (hnd h.2.1)).2 hmem)
theorem ZC5 {l:List Path} (hl:ZN l=true) {a b:Nat} (ha:a < 2 ^ l.length) (hb:b < 2 ^ l.length) (h:X4 l a=X4 l b):a=b:=by
 refine FJ fun i=> ?_
 by_cases hi:i < l.length
 ·have hx:=Ub hi;have h1:=ZaZ hl (set:=a) hx;have h2:=ZaZ hl (set:=b) hx;rw [h,h2] at h1;exact (Bool.eq_iff_iff.2 h1).symm
 ·have hp:2 ^ l.length<=2 ^ i:=MB (by decide) (by omega);rw [FC (by omega),FC (by omega)]
theorem ZC6 {l:List Path} (hl:ZN l=true) {e:List Int}:e∈V2 l↔e≠ []/\KJ l e=true:=by
 unfold V2;rw [MZ];constructor
 ·rintro ⟨set,h1,h2⟩;split at h2
  case isFalse=>cases h2
  rename_i hg;cases h2;rw [List.mem_range'_1] at h1;refine ⟨fun h0=> ?_,(Ztj hl).2 hg⟩;have:set=0:=by
   refine FJ fun i=> ?_
   rw [FG];by_cases hi:i < l.length
   ·cases hb:set.testBit i with
    |false=>rfl
    |true=>
     have:=(ZaZ hl (set:=set) (Ub hi)).2 hb;rw [h0] at this;cases this
   ·have hp:2 ^ l.length<=2 ^ i:=MB (by decide) (by omega);exact FC (by omega)
  omega
 ·rintro ⟨h1,h2⟩;obtain ⟨set,hs,rfl⟩:=Ztk hl ((Zfn hl).1 h2).1;refine ⟨set,?_,by rw [Uj ((Ztj hl).1 h2)]⟩;rw [List.mem_range'_1];have:set≠0:=fun h0=>h1 (by
   subst h0;unfold X4;simp)
  omega
theorem ZC7 {l:List Path} (hl:ZN l=true):(V2 l).Nodup:=by
 unfold V2;refine List.Pairwise.filterMap (R:=fun a b=>a < b/\b < 2 ^ l.length) _ ?_ ?_
 ·rintro a b ⟨h1,h2⟩ x hx y hy;split at hx
  case isFalse=>cases hx
  split at hy
  case isFalse=>cases hy
  cases hx;cases hy;intro h;have:=ZC5 hl (by omega) h2 h;omega
 ·rw [MI];intro i j hi hj hij;rw [List.length_range'] at hi hj;simp only [List.getElem_range'];omega
theorem ZC8 {l:List Path} (hl:ZN l=true):Qg (V2 l)=Vd l l []:=by
 have hs:=Znv hl l [] (fun _ h=>h) (Zfj l none (Zjk hl)).2;refine (ZqL ?_ (hs.imp fun h=>List.le_of_lt h)).symm;have hnd:(Vd l l []).Nodup:=hs.imp fun h e=>by
  subst e;exact List.lt_irrefl _ h
 refine (List.perm_ext_iff_of_nodup hnd (ZC7 hl)).2 fun e=> ?_
 rw [ZC6 hl,Zds hl];constructor
 ·rintro ⟨h1,h2,_⟩;exact ⟨h1,h2⟩
 ·rintro ⟨h1,h2⟩;obtain ⟨set,_,rfl⟩:=Ztk hl ((Zfn hl).1 h2).1;exact ⟨h1,h2,_,rfl,Znw l set⟩
theorem ZC9 {l:List Path} (hl:ZN l=true):KK l=(Qg (V2 l)).take 40:=by
 unfold KK;rw [Uj hl,Zju l l [] [] (by simp),ZC8 hl];simp
theorem Zjv (m:Nat) (h:m < 4611686018427387904):(BitVec.ofInt (IntKind.bits .i64) (m:Int)).toNat=m:=by
 show (BitVec.ofInt 64 (m:Int)).toNat=m;rw [BitVec.toNat_ofInt];omega
theorem Zjw {m k:Nat} (h:m < 2 ^ k) (hk:k<=62):m < 4611686018427387904:=Uy h (by
 have:=MB (show 1<=2 by decide) hk;exact this)
theorem ZDa {m j k:Nat} (hm:m < 2 ^ k) (hj:j < 2 ^ k) (hk:k<=62):W ((BitVec.toNat (BitVec.ofInt (IntKind.bits .i64) (m:Int) |||BitVec.ofInt (IntKind.bits .i64) (j:Int)):Nat):Int)=((m |||j:Nat):Int):=by
 rw [BitVec.toNat_or,Zjv m (Zjw hm hk),Zjv j (Zjw hj hk)];have:=Zjw (Nat.or_lt_two_pow hm hj) hk;exact ZB (by omega) (by omega)
theorem Ztl {m j:Nat} (hm:m < 4611686018427387904) (hj:j < 4611686018427387904):W ((BitVec.toNat (BitVec.ofInt (IntKind.bits .i64) (m:Int) &&& BitVec.ofInt (IntKind.bits .i64) (j:Int)):Nat):Int)=((m &&& j:Nat):Int):=by
 rw [BitVec.toNat_and,Zjv m hm,Zjv j hj];have:=Nat.and_le_left (n:=m) (m:=j);exact ZB (by omega) (by omega)
theorem Zny {j:Nat} (hj:j<=12):W ((1:Int) * ((2:Int) ^ (Min.min (Int.toNat (j:Int)) (IntKind.bits .i64))))=((2 ^ j:Nat):Int):=by
 rw [UC,show Min.min j (IntKind.bits .i64)=j from U6 (by show j<=64;omega),Int.one_mul];have h:2 ^ j<=2 ^ 12:=MB (by decide) hj;have e:((2:Int) ^ j)=((2 ^ j:Nat):Int):=by simp
 rw [e];generalize (2:Nat) ^ j=m at h ⊢;exact ZB (by omega) (by omega)
theorem ZDb {s i:Nat} (hi:i<=12):Int.fdiv (s:Int) ((2:Int) ^ (Min.min (Int.toNat (i:Int)) (IntKind.bits .i64)))=((s >>> i:Nat):Int):=by
 rw [UC,show Min.min i (IntKind.bits .i64)=i from U6 (by show i<=64;omega),Nat.shiftRight_eq_div_pow];rw [Int.fdiv_eq_ediv_of_nonneg _ (by exact Int.pow_nonneg (by decide))];simp
theorem ZDc {s i:Nat} (hs:s < 4611686018427387904) (hi:i<=12):(W ((BitVec.toNat (BitVec.ofInt (IntKind.bits .i64) (Int.fdiv (s:Int) ((2:Int) ^ (Min.min (Int.toNat (i:Int)) (IntKind.bits .i64)))) &&& BitVec.ofInt (IntKind.bits .i64) (1:Int)):Nat):Int)==1)=s.testBit i:=by
 have h1:s >>> i<=s:=by rw [Nat.shiftRight_eq_div_pow];exact Nat.div_le_self _ _
 rw [ZDb hi,show (1:Int)=((1:Nat):Int) from rfl,Ztl (by omega) (by decide),Nat.testBit,Nat.and_comm];rw [Nat.and_comm,Nat.and_one_is_mod];rcases Nat.mod_two_eq_zero_or_one (s >>> i) with h |h <;> rw [h] <;> rfl
def fc (l:List Path) (p:Path) (j:Nat):Bool:=match l[j]? with |some q=>Z2 p q |none=>false
theorem ZDd {l:List Path} {p:Path} {s:Nat}:(((mk (fc l p) l.length &&& s:Nat):Int)==0)=l.zipIdx.all fun y=> !(s.testBit y.2 && Z2 p y.1):=by
 rw [Bool.eq_iff_iff,FF,MW];constructor
 ·intro h y hy;have h0:mk (fc l p) l.length &&& s=0:=by omega
  obtain ⟨q,j⟩:=y;rw [UM] at hy;have hb:(mk (fc l p) l.length &&& s).testBit j=false:=by rw [h0];exact FG j
  rw [Nat.testBit_and,Zdu,show fc l p j=Z2 p q by unfold fc;rw [hy],Ut (List.getElem?_eq_some_iff.1 hy).1,UW] at hb;simp only;rw [Bool.and_comm,hb];rfl
 ·intro h;have:mk (fc l p) l.length &&& s=0:=by
   refine FJ fun j=> ?_
   rw [FG,Nat.testBit_and,Zdu];by_cases hj:j < l.length
   ·have hx:=Ub hj;have:=h (l[j],j) (by rw [UM];exact hx);simp only at this;rw [Ut hj,UW,show fc l p j=Z2 p l[j] by unfold fc;rw [hx],Bool.and_comm];cases hb:s.testBit j with
    |false=>rfl
    |true=>rw [hb] at this;simpa using this
   ·rw [Um hj];rfl
  rw [this];rfl
theorem Zjx {V β:Type} {F:(V->Option β)->V->Option β} {v:V} (N:Nat) (hN:N<=1099511627776) (st:Nat->V) (J:Nat->Prop) (hJ:J 0) (R:Option β) (hv:v=st 0)
  (h0:∀rec,J N->F rec (st N)=R) (h1:∀rec k,k < N->J k->(J (k + 1)->rec (st (k + 1))=R)->F rec (st k)=R):Zf F NN v=R:=by
 refine YC (List.range N) (by rw [Fz];omega) (fun k (_:Unit)=>st k) () (fun k _=>J k) hJ (fun _ _ _=>R) hv ?_ ?_
 ·intro rec _ h;rw [Fz] at h ⊢;exact h0 rec h
 ·intro rec k x _ hJ hx hk hr;rw [Fz] at hk;exact h1 rec k hk hJ fun h=>hr () h
def agl (l:List Path) (i:Nat):List Int:=(List.range l.length).map fun k=>if k < i then ((mk (fc l (l.getD k default)) l.length:Nat):Int) else 0
theorem Za0 (l:List Path) (i:Nat):(agl l i).length=l.length:=by unfold agl;simp
theorem Zfo {l:List Path} {i k:Nat} (hk:k < l.length):(agl l i)[k]? =some (if k < i then ((mk (fc l (l.getD k default)) l.length:Nat):Int) else 0):=by
 unfold agl;rw [Mk,List.getElem?_range hk];rfl
theorem ZDe (l:List Path):agl l 0=List.replicate l.length 0:=by
 unfold agl;apply List.ext_getElem
 ·simp
 ·intro i h1 h2;simp
theorem ZDf {l:List Path} {i:Nat} (hi:i < l.length):(agl l i).set i 0=agl l i:=by
 apply UV;intro k;rw [U4];split
 ·rename_i e;subst e;rw [Uj (by rw [Za0];exact hi),Zfo hi,Ui (by omega)]
 ·rfl
theorem ZDg {l:List Path} {i:Nat} {p:Path} (hi:l[i]? =some p):(agl l i).set i ((mk (fc l p) l.length:Nat):Int)=agl l (i + 1):=by
 have hlt:=(List.getElem?_eq_some_iff.1 hi).1;apply UV;intro k;rw [U4];by_cases hk:k < l.length
 ·rw [Zfo hk];split
  ·rename_i e;subst e;rw [Zfo hlt,Uj (Nat.lt_succ_self i),M0,hi];simp [Za0,hlt]
  ·rename_i e;rw [Zfo hk];by_cases c:k < i
   ·rw [Uj c,Uj (by omega)]
   ·rw [Ui c,Ui (by omega)]
 ·rw [Ui (by omega),UP (by rw [Za0];omega),UP (by rw [Za0];omega)]
def Znz (l:List Path) (set:Nat) (x:Path×Nat):Bool:=set.testBit x.2==l.zipIdx.all fun y=> !(set.testBit y.2 && Z2 x.1 y.1)
def JU (l:List Path) (set k:Nat):List Int:=((l.zipIdx.take k).filter fun x=>set.testBit x.2).map fun x=>x.1.id
theorem Ztm {l:List Path} {k:Nat} {p:Path} (h:l[k]? =some p):l.zipIdx[k]? =some (p,k):=by
 rw [List.getElem?_zipIdx,h];simp
theorem ZDh {l:List Path} {set k:Nat} {p:Path} (h:l[k]? =some p):JU l set (k + 1)=if set.testBit k=true then JU l set k ++ [p.id] else JU l set k:=by
 unfold JU;rw [MR,Ztm h,List.filter_append,UX];cases hb:set.testBit k with
 |true=>simp [hb]
 |false=>simp [hb]
theorem ZDi (l:List Path) (set k:Nat):(JU l set k).length<=l.length:=by
 unfold JU;rw [Uv];refine Mo (Ff _ _) ?_;rw [Uc,List.length_zipIdx];omega
def KL (l:List Path) (k:Nat):List (List Int):=(List.range' 1 k).filterMap fun set=>if V1 l set=true then some (X4 l set) else none
theorem Ztn (l:List Path) (k:Nat):KL l (k + 1)=if V1 l (k + 1)=true then KL l k ++ [X4 l (k + 1)] else KL l k:=by
 unfold KL;rw [List.range'_concat,List.filterMap_append];simp only [MO,Nat.add_comm 1 k];cases hg:V1 l (k + 1) with
 |true=>simp [hg]
 |false=>simp [hg]
theorem Zto (l:List Path) (k:Nat):(KL l k).length<=k:=by
 unfold KL;refine Mo (List.length_filterMap_le _ _) ?_;rw [List.length_range'];exact Uq _
@[simp] theorem ZDj (l:List (List Int)):Z9 (l.map (Zb (rX Own.own 1 iR)).enc)=l.map (Zb (rX Own.own 1 iR)).enc:=ZbW (fun _=>rfl) l
theorem ZDk (l:List Int) (i:Nat) (v:Int) {β:Type} (K:List Int->Option β):rws iR ((l.map iR.enc).set i [I v]) K=K (l.set i v):=by
 have e:(l.map iR.enc).set i [I v]=(l.set i v).map iR.enc:=(Mm (f:=iR.enc) (l:=l) (i:=i) (a:=v)).symm;rw [e,Zr]
theorem ZDl (l:List Int) (v:Int) {β:Type} (K:List Int->Option β):rws iR (l.map iR.enc ++ [[I v]]) K=K (l ++ [v]):=ZiI l v K
theorem W1 {n:Nat} (h:n<=4000000000):W ((n:Int) + 1)=((n + 1:Nat):Int):=by rw [ZA (by omega)];omega
theorem ZDm (n:Nat) {β:Type} (K:List Int->Option β):rws iR (List.replicate ((n:Nat):Int).toNat [I 0]) K=K (List.replicate n 0):=by
 have e:List.replicate ((n:Nat):Int).toNat [I 0]=(List.replicate n (0:Int)).map iR.enc:=by
  rw [UC]
  induction n with
  |zero=>rfl
  |succ n ih=>rw [MS,MS,ih];rfl
 rw [e,Zr]
theorem ZnA {β:Type} (l:List Int) (n:Nat) (K:Int->Option β):n_i l n K=Yf l n K:=ZzP l n K
theorem ZDn (l:List Path) (h:Sm l):Zib l=some (KK l):=by
 unfold Zib;simp only [Zw,Zr,ZgQ,Zel,YP,Yg,Ki,JB l h,Ze,XJ,Zda,ZDj,ZDm];cases ha:ZN l with
 |false=>unfold KK;rw [ha];rfl
 |true=>
 have hn:=Zfg ha;rw [Uk,Zh,Zs (by simp;omega),ZC9 ha];have hpow:2 ^ l.length<=4096:=MB (n:=2) (by decide) hn;have hpow1:1<=2 ^ l.length:=Nat.one_le_two_pow;refine Zjx l.length (by omega) (fun i=>((l,[],l,((l.length:Nat):Int),(i:Int)),agl l i)) (fun _=>True) trivial _ (by rw [ZDe];rfl) ?_ ?_
 ·intro rec _;simp only;rw [show decide (((l.length:Nat):Int) < ((l.length:Nat):Int))=false from Um (by omega),Zh];refine Zjx (2 ^ l.length - 1) (by omega) (fun k=>((l,KL l k,((k + 1:Nat):Int)),agl l l.length)) (fun _=>True) trivial _ rfl ?_ ?_
  ·intro rec _;simp only;rw [Zny hn,show decide (((2 ^ l.length - 1 + 1:Nat):Int) < ((2 ^ l.length:Nat):Int))=false from Um (by
    generalize 2 ^ l.length=m at hpow1 ⊢;omega),Zh]
   have hb:KL l (2 ^ l.length - 1)=V2 l:=rfl;have hbl:(V2 l).length<=4096:=by
    rw [←hb];exact Mo (Zto _ _) (by omega)
   rw [hb];unfold ZlV;rw [Zs (by omega),Ze];have hsl:(Qg (V2 l)).length=(V2 l).length:=(ZgL _).length_eq;generalize Qg (V2 l)=S at hsl ⊢;by_cases c:40 < S.length
   ·rw [Uj (by omega),Zs (by omega),show (40:Int).toNat=40 from rfl,show Int.toNat 0=0 from rfl,M1,ZqX,Zel]
   ·rw [Ui (by omega),Zs (by omega),UC,show Int.toNat 0=0 from rfl,M1,ZqX,Zel,U2 (Uq _),U2 (by omega)]
  ·intro rec k hk _ hr;have hr:=hr trivial;simp only;have hks:k + 1 < 2 ^ l.length:=by omega
   rw [Zny hn,show decide (((k + 1:Nat):Int) < ((2 ^ l.length:Nat):Int))=true from Ut (by
    generalize 2 ^ l.length=m at hks ⊢;omega),Zp]
   refine Zjx l.length (by omega) (fun i=>((l,KL l k,((k + 1:Nat):Int),true,JU l (k + 1) i,l,((l.length:Nat):Int),(i:Int)),agl l l.length)) (fun i=>∀x∈l.zipIdx.take i,Znz l (k + 1) x=true) (by simp) _ (by unfold JU;simp) ?_ ?_
   ·intro rec2 hJ;simp only;rw [show decide (((l.length:Nat):Int) < ((l.length:Nat):Int))=false from Um (by omega),Zh,Zp];have hol:=Zto l k;have hg:V1 l (k + 1)=true:=by
     unfold V1;refine MW.2 fun x hx=>hJ x ?_
     rw [U2 (by simp)];exact hx
    have hid:JU l (k + 1) l.length=X4 l (k + 1):=by
     unfold JU X4;rw [U2 (by simp)]
    rw [Zs (by simp;omega),Zm9 (o:= .own) (p:= .own) (q:= .own) rfl rfl,W1 (by omega),hid];rw [Ztn,Uj hg] at hr;exact hr
   ·intro rec2 i hi hJ hr2;simp only;have hx:=Ub hi;generalize l[i]=p at hx;rw [show decide ((i:Int) < ((l.length:Nat):Int))=true from Ut (by omega),Zp,Zj hx,Zs (by omega),Zs (by rw [Za0];omega)];simp only [UC];have hag:(agl l l.length)[i]? =some ((mk (fc l p) l.length:Nat):Int):=by
     rw [Zfo hi,Uj hi,M0,hx];rfl
    have hbi:=ZDc (s:=k + 1) (i:=i) (by omega) (by omega);rw [UC] at hbi;rw [ZnA,Zeh hag,hbi,Ztl (Zjw (Znx _ _) (by omega)) (by omega),ZDd,W1 (by omega)];have hgd:Znz l (k + 1) (p,i)=((k + 1).testBit i==l.zipIdx.all fun y=> !((k + 1).testBit y.2 && Z2 p y.1)):=rfl;have hmem:(p,i)∈l.zipIdx:=by rw [UM];exact hx
    cases hb:((k + 1).testBit i != l.zipIdx.all fun y=> !((k + 1).testBit y.2 && Z2 p y.1)) with
    |true=>
     rw [Zp];have hng:V1 l (k + 1)=false:=by
      cases hg:V1 l (k + 1) with
      |false=>rfl
      |true=>
       have:=MW.1 hg (p,i) hmem;simp only at this;unfold bne at hb;rw [this] at hb;cases hb
     rw [Ztn,hng,Ui (by decide)] at hr;exact hr
    |false=>
     rw [Zh];have hJ':∀x∈l.zipIdx.take (i + 1),Znz l (k + 1) x=true:=fun x hx'=>by
      rw [MR,Ztm hx] at hx';rcases List.mem_append.1 hx' with h1 |h1
      ·exact hJ x h1
      ·have:x=(p,i):=by simpa using h1
       subst this;rw [hgd];unfold bne at hb;simpa using hb
     have hr3:=hr2 hJ';rw [ZDh hx] at hr3;have hil:=ZDi l (k + 1) i;cases hbit:(k + 1).testBit i with
     |true=>
      rw [Zp,Zs (by simp;omega),ZDl,W1 (by omega)];rw [hbit,Uj rfl] at hr3;exact hr3
     |false=>
      rw [Zh,W1 (by omega)];rw [hbit,Ui (by decide)] at hr3;exact hr3
 ·intro rec i hi _ hr;have hr:=hr trivial;simp only;have hx:=Ub hi;generalize l[i]=p at hx;rw [show decide ((i:Int) < ((l.length:Nat):Int))=true from Ut (by omega),Zp,Zj hx];refine Zjx l.length (by omega) (fun j=>((l,[],(i:Int),l,((l.length:Nat):Int),(i:Int),l,((l.length:Nat):Int),(j:Int)),p,(agl l i).set i ((mk (fc l p) j:Nat):Int))) (fun _=>True) trivial _ (by rw [show ((mk (fc l p) 0:Nat):Int)=0 from rfl,ZDf hi];rfl) ?_ ?_
  ·intro rec2 _;simp only;rw [show decide (((l.length:Nat):Int) < ((l.length:Nat):Int))=false from Um (by omega),Zh,ZDg hx,W1 (by omega)];exact hr
  ·intro rec2 j hj _ hr2;have hr2:=hr2 trivial;simp only;have hy:=Ub hj;generalize l[j]=q at hy;rw [show decide ((j:Int) < ((l.length:Nat):Int))=true from Ut (by omega),Zp,Zj hy,W1 (by omega)];have hf:fc l p j=Z2 p q:=by unfold fc;rw [hy]
   have hmk:mk (fc l p) (j + 1)=mk (fc l p) j ||| (if fc l p j=true then 2 ^ j else 0):=rfl;rw [hmk,hf] at hr2;cases hc:Z2 p q with
   |false=>
    rw [Zh];rw [hc,Ui (by decide),Nat.or_zero] at hr2;exact hr2
   |true=>
    rw [hc,Uj rfl] at hr2;rw [Zp,Zs (by rw [Mc,Za0];omega)];simp only [UC];have hag:((agl l i).set i ((mk (fc l p) j:Nat):Int))[i]? =some ((mk (fc l p) j:Nat):Int):=by
     rw [U4,Uj rfl,Uj (by rw [Za0];exact hi)]
    rw [ZnA,Zeh hag,Zs (by omega),Zs (by rw [Mc,Za0];omega),ZnA,Zeh hag,ZDk,FN];have hlt:mk (fc l p) j < 2 ^ 12:=Uy (Znx _ _) (MB (by decide) (by omega));have hpj:2 ^ j < 2 ^ 12:=Nat.pow_lt_pow_right (by decide) (by omega);have hpw:=Zny (j:=j) (by omega);rw [UC] at hpw;rw [hpw,ZDa hlt hpj (by omega)];exact hr2
theorem ZDo (l:List Int) (n:Nat) {β:Type} (K:List Int->Option β):rws iR (l.map iR.enc ++ [[I ((n:Nat):Int)]]) K=K (l ++ [(n:Int)]):=ZiI l _ K
def Zfp (l:List Path):List Int:=(KK l).map fun s=>((s.length:Nat):Int)
theorem ZDp (l:List Path) (h:Sm l):Zic l=some (Zfp l):=by
 unfold Zic Zfp;simp only [Zw,ZDn l h,Ze,ZcA,Zr,Ki,Yg,ZlN];have hs:=(Ztb l).1;generalize KK l=S at hs;refine Zmf S (fun s=>((s.length:Nat):Int)) (by omega) (fun k acc=>(acc,S,((S.length:Nat):Int),(k:Int))) some rfl ?_ ?_
 ·intro rec acc ha;simp only;rw [show decide (((S.length:Nat):Int) < ((S.length:Nat):Int))=false from Um (by omega),Zh]
 ·intro rec k x acc hx hk ha;simp only;rw [show decide ((k:Int) < ((S.length:Nat):Int))=true from Ut (by omega),Zp,Zj hx,Zs (by simp;omega),ZDo,W1 (by omega)]
theorem Zdv {β:Type} {s:ByteArray} {k:Nat} {c:UInt8} (h:s.data.toList[k]? =some c) (K:Int->Option β):Yy s (k:Int) K=K (c.toNat:Int):=by
 unfold Yy;rw [Uj (by omega),UC,h]
theorem ZnB (s:ByteArray):s.size=s.data.toList.length:=Array.length_toList.symm
def pd:List UInt8->Int->Option Int
 | [],n=>some n
 |c::r,n=>if (c.toNat:Int) < 48\/(57:Int) < (c.toNat:Int) then none else pd r (W (W (10 * n) + W (IntKind.u8.wrap ((c.toNat:Int) - 48))))
def Zdw (x:Option Int):Int×Bool:=match x with |none=>(0,false) |some n=>if (1000000000000:Int) < n then (0,false) else (n,true)
def Qr (u:List UInt8):Int×Bool:=
 if u.length=0\/13 < u.length\/(1 < u.length/\u[0]? =some 48) then (0,false) else Zdw (pd u 0)
theorem Ztp (s:ByteArray) (hs:s.size<=1099511627776) {F:((ByteArray×Int×Int×Int)->Option (Int×Bool))->(ByteArray×Int×Int×Int)->Option (Int×Bool)}
  (hF:∀rec x,F rec x=cnd (decide (x.2.2.2 < x.2.2.1)) (Yy x.1 x.2.2.2 fun c4=>cnd (decide (c4 < 48)) (some (0,false)) (Yy x.1 x.2.2.2 fun c5=>cnd (decide (c5 > 57)) (some (0,false)) (Yy x.1 x.2.2.2 fun c6=>rec (x.1,W (W (10 * x.2.1) + W (IntKind.u8.wrap (c6 - 48))),x.2.2.1,W (x.2.2.2 + 1))))) (cnd (decide (x.2.1 > 1000000000000)) (some (0,false)) (some (x.2.1,true)))):
  Zf F NN (s,0,((s.size:Nat):Int),0)=some (Zdw (pd s.data.toList 0)):=by
 have hl:=ZnB s;refine (Yq s.data.toList (by omega) (fun k n=>(s,n,((s.size:Nat):Int),(k:Int))) 0 (fun r _ n=>some (Zdw (pd r n))) rfl ?_ ?_).trans rfl
 ·intro rec n;rw [hF];simp only [hl];simp [pd,Zdw,ZJ];split <;> rfl
 ·intro rec k c n hc hk hr;simp only [UA] at hr;rw [hF];simp only [Zdv hc,show ((k:Nat):Int) < ((s.size:Nat):Int) by omega,Mt,Zp,ZA (show k<=9223372036854775806 by omega),hr,pd];by_cases c1:(c.toNat:Int) < 48
  ·simp [c1,Zdw]
  ·by_cases c2:(57:Int) < (c.toNat:Int)
   ·simp only [c1,Mh,Zh,gt_iff_lt,c2,Mt,Zp,or_true,U3];rfl
   ·simp only [c1,c2,Mh,Zh,gt_iff_lt,or_self,My]
theorem Ztq (s:ByteArray) (hs:s.size<=1099511627776):Zeu s=some (Qr s.data.toList):=by
 have hl:=ZnB s;unfold Zeu Qr;simp only [hl.symm];by_cases h0:s.size=0
 ·simp [h0]
 have e0:(((s.size:Nat):Int)==0)=false:=by rw [MG];omega
 by_cases h1:13 < s.size
 ·have e1:decide (((s.size:Nat):Int) > 13)=true:=by simp;omega
  simp only [e0,e1,Zh,Zp,h1,true_or,or_true,U3]
 have e1:decide (((s.size:Nat):Int) > 13)=false:=by simp;omega
 simp only [e0,e1,Zh,h0,h1,false_or];by_cases h2:1 < s.size
 ·have e2:decide (((s.size:Nat):Int) > 1)=true:=by simp;omega
  have hz:s.data.toList[0]? =some s.data.toList[0]:=Ub (by omega);have hg:∀K:Int->Option (Int×Bool),Yy s 0 K=K ((s.data.toList[0]).toNat:Int):=fun K=>Zdv hz K
  simp only [e2,Zp,hg,h2,true_and,hz];by_cases c:s.data.toList[0]=48
  ·rw [c];rfl
  ·have:(((s.data.toList[0]).toNat:Int)==48)=false:=by
    simp only [MG,ne_eq];intro h;apply c;have h':(s.data.toList[0]).toNat=48:=by omega
    exact UInt8.toNat_inj.1 h'
   simp only [this,Zh,MQ,c,My];exact Ztp s hs fun rec x=>rfl
 ·have e2:decide (((s.size:Nat):Int) > 1)=false:=by simp;omega
  simp only [e2,Zh,h2,false_and,My];exact Ztp s hs fun rec x=>rfl
theorem Ztr (n:Int):Rg (W n):=by
 have e:W n=if n % 18446744073709551616>=9223372036854775808 then n % 18446744073709551616 - 18446744073709551616 else n % 18446744073709551616:=by
  show IntKind.i64.wrap n=_;unfold IntKind.wrap;rw [show IntKind.i64.signed=true from rfl,show IntKind.i64.bits=64 from rfl];simp only [UW,UH];rfl
 rw [e];unfold Rg;split <;> omega
theorem Zts:∀(u:List UInt8) (n m:Int),Rg n->pd u n=some m->Rg m
 | [],n,m,h,e=>by cases e;exact h
 |c::u,n,m,h,e=>by
  rw [pd] at e;split at e
  ·cases e
  ·exact Zts u _ m (Ztr _) e
theorem Ztt (u:List UInt8):Rg (Qr u).1:=by
 have h0:Rg 0:=by unfold Rg;omega
 unfold Qr Zdw;split
 ·exact h0
 ·split
  ·exact h0
  ·rename_i n hn;split
   ·exact h0
   ·exact Zts u 0 n h0 hn
def dec:Nat->List UInt8
 |n=>if n < 10 then [UInt8.ofNat (48 + n)] else [UInt8.ofNat (48 + n / 10),UInt8.ofNat (48 + n % 10)]
theorem JV (a b:List UInt8):bs a ++ bs b=bs (a ++ b):=by
 apply Fp;apply Array.toList_inj.1;show (bs a ++ bs b).data.toList=a ++ b;rw [ByteArray.data_append,MT];rfl
theorem ZnC {n:Nat} (h:n < 100):Z7 (n:Int)=bs (dec n):=by
 by_cases h0:n=0
 ·subst h0;have e:Lib.decDigits 0= [48]:=by rw [Lib.decDigits];rfl
  show (⟨(Lib.itoa 0).toArray⟩:ByteArray)=_;rw [show Lib.itoa 0=Lib.decDigits 0 from rfl,e];rfl
 rw [Zs7 (by omega),Ui (by omega),Int.natAbs_natCast,Zjr h0];by_cases h1:n < 10
 ·rw [show n / 10=0 by omega,Zjq,JV,dec,Uj h1,show n % 10=n by omega];rfl
 ·rw [Zjr (by omega),show n / 10 / 10=0 by omega,Zjq,dec,Ui h1,JV,JV,show n / 10 % 10=n / 10 by omega];rfl
theorem ZDq:∀n:Fin 21,Qr (dec n.val)=((n.val:Int),true):=by decide
def kc (k:Int):UInt8:=if k=1 then 99 else if k=2 then 119 else 98
def Zfq (i:Nat) (k:Int) (a b:Nat):List UInt8:=dec i ++ [kc k,UInt8.ofNat (48 + a),UInt8.ofNat (48 + b)]
theorem ZDr (k:Int):ZbZ k=bs [kc k]:=by
 unfold ZbZ kc;split <;> (try split) <;> rfl
theorem ZnD {p:Path} (h:ZY p=true):∃i a b:Nat,p=⟨(i:Int),p.kind,(a:Int),(b:Int)⟩/\1<=i/\i<=20/\a<=3/\b<=3:=by
 simp [ZY,inR] at h;refine ⟨p.id.toNat,p.src.toNat,p.dst.toNat,?_,by omega,by omega,by omega,by omega⟩;cases p;simp at h ⊢;omega
theorem Ztu {a:Nat} (h:a < 10):dec a= [UInt8.ofNat (48 + a)]:=by rw [dec,Uj h]
theorem Ztv {i a b:Nat} {k:Int} (h:ZY ⟨(i:Int),k,(a:Int),(b:Int)⟩=true):Ys ⟨(i:Int),k,(a:Int),(b:Int)⟩=bs (Zfq i k a b):=by
 have h':=h;simp [ZY,inR] at h';unfold Ys;rw [Uj h,ZnC (by omega),ZnC (by omega),ZnC (by omega),Ztu (show a < 10 by omega),Ztu (show b < 10 by omega),ZDr,JV,JV,JV];unfold Zfq;simp
theorem Zjy (l:List UInt8):(bs l).data.toList=l:=rfl
theorem Ztw {a b:List UInt8} (h:bs a=bs b):a=b:=by
 rw [←Zjy a,h,Zjy]
theorem ZDs (s:ByteArray):s=bs s.data.toList:=by
 apply Fp;apply Array.toList_inj.1;rfl
theorem ZDt (i:Nat):1<=(dec i).length/\(dec i).length<=2:=by
 rw [dec];split <;> simp
theorem ZDu (i:Nat) (k:Int) (a b:Nat):(Zfq i k a b).length=(dec i).length + 3:=by simp [Zfq]
def ZnE (s:ByteArray) (i k x:Nat):Option (Path×Bool):=
 let p:Path:=⟨(i:Int),(k:Int),((x / 4:Nat):Int),((x % 4:Nat):Int)⟩
 if ZY p=true/\Ys p=s then some (p,true) else none
def Ve (s:ByteArray):Option (Path×Bool):=
 (List.range' 1 20).findSome? fun i=>(List.range' 1 3).findSome? fun k=>(List.range' 0 16).findSome? fun x=>ZnE s i k x
def Zb2:Path×Bool:=(⟨0,0,0,0⟩,false)
theorem Zdx (a b:ByteArray):(a.toList==b.toList)=decide (a=b):=by
 rw [ByteArray.toList_eq,ByteArray.toList_eq];by_cases h:a=b
 ·subst h;simp
 ·simp [h];exact fun e=>h (Fp e)
theorem Zjz {s:ByteArray} {r:Path×Bool} (h:Ve s=some r):∃p,r=(p,true)/\ZY p=true/\Ys p=s:=by
 unfold Ve at h;obtain ⟨i,_,h⟩:=M4 h;obtain ⟨k,_,h⟩:=M4 h;obtain ⟨x,_,h⟩:=M4 h;unfold ZnE at h;simp only at h;split at h
 ·rename_i hc;cases h;exact ⟨_,rfl,hc.1,hc.2⟩
 ·cases h
theorem ZDv {s:ByteArray} (h:Ve s=none) {p:Path} (hp:ZY p=true):Ys p≠s:=by
 intro hs;obtain ⟨i,a,b,e,i1,i2,a1,b1⟩:=ZnD hp;have kp:=ZaB hp;unfold Ve at h;have h1:=List.findSome?_eq_none_iff.1 h i (by simp [List.mem_range'];exact ⟨i - 1,by omega,by omega⟩);have h2:=List.findSome?_eq_none_iff.1 h1 p.kind.toNat (by simp [List.mem_range'];exact ⟨p.kind.toNat - 1,by omega,by omega⟩);have h3:=List.findSome?_eq_none_iff.1 h2 (4 * a + b) (by simp [List.mem_range'];omega);unfold ZnE at h3;have ek:((p.kind.toNat:Nat):Int)=p.kind:=by omega
 have ea:(4 * a + b) / 4=a:=by omega
 have eb:(4 * a + b) % 4=b:=by omega
 simp only [ek,ea,eb,←e,hp,hs,and_self,U3] at h3;cases h3
theorem ZDw {k:Int} (hk:k=1\/k=2\/k=3):Lib.indexByte [99,119,98] (kc k)=k - 1:=by
 rcases hk with rfl |rfl |rfl <;> decide
set_option maxRecDepth 20000 in
theorem Ztx (c:UInt8): -1<=Lib.indexByte [99,119,98] c/\Lib.indexByte [99,119,98] c<=2:=by
 have:∀n:Fin 256,-1<=Lib.indexByte [99,119,98] (UInt8.ofNat n.val)/\Lib.indexByte [99,119,98] (UInt8.ofNat n.val)<=2:=by decide
 have h:=this ⟨c.toNat,c.toNat_lt⟩;simpa using h
def Zb3 (u:List UInt8) (c1 c2 c3:UInt8):Path:=⟨(Qr u).1,Lib.indexByte [99,119,98] c1 + 1,(c2.toNat:Int) - 48,(c3.toNat:Int) - 48⟩
theorem ZDx (u:List UInt8) (c1 c2 c3:UInt8):Kr (Zb3 u c1 c2 c3):=by
 have h1:=Ztt u;have h2:=Ztx c1;have h3:=c2.toNat_lt;have h4:=c3.toNat_lt;unfold Kr Zb3;refine ⟨h1,?_,?_,?_⟩ <;> unfold Rg <;> simp only <;> omega
theorem ZDy {i a b:Nat} {k:Int} (hi:i<=20) (ha:a<=3) (hb:b<=3) (hk:k=1\/k=2\/k=3):
  Zb3 (dec i) (kc k) (UInt8.ofNat (48 + a)) (UInt8.ofNat (48 + b))=⟨(i:Int),k,(a:Int),(b:Int)⟩/\(Qr (dec i)).2=true:=by
 have p1:=ZDq ⟨i,by omega⟩;simp only at p1;unfold Zb3;rw [p1,ZDw hk];refine ⟨?_,rfl⟩;simp only [UInt8.toNat_ofNat',Path.mk.injEq,true_and];omega
theorem ZDz {u:List UInt8} (h:4<=u.length):∃d c1 c2 c3,u=d ++ [c1,c2,c3]/\d.length=u.length - 3:=by
 refine ⟨u.take (u.length - 3),u[u.length - 3],u[u.length - 2],u[u.length - 1],?_,by rw [Uc];omega⟩;have h1:u.drop (u.length - 3)= [u[u.length - 3],u[u.length - 2],u[u.length - 1]]:=by
  rw [UN (by omega),UN (by omega),UN (by omega),Mf (by omega)];congr 2
  ·congr 1;omega
  ·congr 2;omega
 rw [←h1,Ul]
theorem Zty (s:ByteArray) (hs:s.size<=1099511627776):Zev s=some ((Ve s).getD Zb2):=by
 have hl:=ZnB s;unfold Zev;by_cases h4:s.size < 4
 ·have e:decide (((s.size:Nat):Int) < 4)=true:=by simp;omega
  rw [e,Zp];cases hq:Ve s with
  |none=>rfl
  |some r=>
   obtain ⟨p,rfl,h1,h2⟩:=Zjz hq;obtain ⟨i,a,b,e,i1,i2,a1,b1⟩:=ZnD h1;rw [e] at h1 h2;rw [Ztv h1] at h2;have h5:=Y0 (Zfq i p.kind a b);rw [h2,ZDu] at h5;have:=ZDt i;omega
 have e:decide (((s.size:Nat):Int) < 4)=false:=by simp;omega
 obtain ⟨d,c1,c2,c3,hu,hd⟩:=ZDz (u:=s.data.toList) (by omega);have hw:W (((s.size:Nat):Int) - 3)=((d.length:Nat):Int):=by rw [ZB (by omega) (by omega)];omega
 have w1:W (((d.length:Nat):Int) + 1)=((d.length + 1:Nat):Int):=by rw [ZB (by omega) (by omega)];omega
 have w2:W (((d.length:Nat):Int) + 2)=((d.length + 2:Nat):Int):=by rw [ZB (by omega) (by omega)];omega
 have g0:s.data.toList[d.length]? =some c1:=by rw [hu];simp
 have g1:s.data.toList[d.length + 1]? =some c2:=by rw [hu];simp
 have g2:s.data.toList[d.length + 2]? =some c3:=by rw [hu];simp
 have hx:ByteArray.extract s (Int.toNat 0) (Int.toNat ((d.length:Nat):Int))=bs d:=by
  apply Fp;apply Array.toList_inj.1;rw [ByteArray.data_extract,Array.toList_extract,hu];simp;rfl
 have hxs:(bs d).size<=1099511627776:=by rw [Y0];omega
 have hok:=ZDx d c1 c2 c3;have i1:=Ztx c1;have q1:W (Lib.indexByte [99,119,98] c1 + 1)=Lib.indexByte [99,119,98] c1 + 1:=ZB (by omega) (by omega);have q2:=c2.toNat_lt;have q3:=c3.toNat_lt;have hix:Zeq (bs [99,119,98]) (c1.toNat:Int)=some (Lib.indexByte [99,119,98] c1):=by
  unfold Zeq;congr 2;rw [UC];exact UInt8.ofNat_toNat
 rw [e,Zh,hw,Zs ⟨by omega,by omega,by omega⟩,hx,Ztq _ hxs,Zjy,w1,w2];simp only [Ze,Zdv g0,Zdv g1,Zdv g2,hix,q1,ZB (show -9223372036854775808<=(c2.toNat:Int) by omega) (by omega),ZB (show -9223372036854775808<=(c3.toNat:Int) by omega) (by omega),ZB (show -9223372036854775808<=(c2.toNat:Int) - 48 by omega) (by omega),ZB (show -9223372036854775808<=(c3.toNat:Int) - 48 by omega) (by omega)];have hg:(⟨(Qr d).1,Lib.indexByte [99,119,98] c1 + 1,(c2.toNat:Int) - 48,(c3.toNat:Int) - 48⟩:Path)=Zb3 d c1 c2 c3:=rfl;rw [hg,Zns _ hok];simp only [Ze,Zdx];cases hq:Ve s with
 |some r=>
  obtain ⟨p,rfl,h1,h2⟩:=Zjz hq;obtain ⟨i,a,b,e,i1,i2,a1,b1⟩:=ZnD h1;have kp:=ZaB h1;have h1':=h1;have h2':=h2;rw [e] at h1' h2';rw [Ztv h1'] at h2';have h6:d ++ [c1,c2,c3]=dec i ++ [kc p.kind,UInt8.ofNat (48 + a),UInt8.ofNat (48 + b)]:=by
   rw [←hu,←h2'];rfl
  obtain ⟨h7,h8⟩:=List.append_inj' h6 rfl;simp only [List.cons.injEq,and_true] at h8;obtain ⟨k1,k2⟩:=ZDy (i:=i) (a:=a) (b:=b) (k:=p.kind) (by omega) a1 b1 kp;rw [h7,h8.1,h8.2.1,h8.2.2,k2,k1,←e,h2];simp
 |none=>
  cases (Qr d).2 with
  |false=>rfl
  |true=>
   have hne:Ys (Zb3 d c1 c2 c3)≠s:=by
    intro hh;cases hp:ZY (Zb3 d c1 c2 c3) with
    |true=>exact ZDv hq hp hh
    |false=>
     unfold Ys at hh;rw [hp] at hh;have:s.size=0:=by rw [←hh];rfl
     omega
   simp [hne];rfl
def cb (c:UInt8) (s:ByteArray):Nat:=s.data.toList.count c
theorem Zdy (c:UInt8) (a b:ByteArray):cb c (a ++ b)=cb c a + cb c b:=by
 unfold cb;rw [ByteArray.data_append,MT,List.count_append]
theorem ZDA:∀(u:Nat),∀x∈Lib.decDigits u,48<=x.toNat/\x.toNat<=57:=by
 intro u
 induction u using Nat.strongRecOn with
 | _ u ih=>
  intro x hx;have key:∀k:Nat,k < 10->48<=(UInt8.ofNat (48 + k)).toNat/\(UInt8.ofNat (48 + k)).toNat<=57:=by decide
  rw [Lib.decDigits] at hx;split at hx
  ·rename_i h;rw [Ma] at hx;subst hx;exact key u h
  ·rcases List.mem_append.1 hx with hx |hx
   ·exact ih (u / 10) (by omega) x hx
   ·rw [Ma] at hx;subst hx;exact key _ (by omega)
theorem Zfr {c:UInt8} (h1:c≠45) (h2:c.toNat < 48\/57 < c.toNat) (n:Int):cb c (Z7 n)=0:=by
 have hd:∀u,(Lib.decDigits u).count c=0:=fun u=>List.count_eq_zero.2 fun hm=>by
  have:=ZDA u c hm;omega
 show (Lib.itoa n).count c=0;unfold Lib.itoa;split
 ·rw [List.count_cons,hd];simp [Ne.symm h1]
 ·exact hd _
theorem ZjA (c:UInt8) (b:ByteArray):∀(r:List ByteArray) (a:ByteArray),cb c (jn a b r)=cb c a + (r.map fun x=>cb c b + cb c x).sum
 | [],a=>by simp [jn]
 |x::r,a=>by
  show cb c (jn (a ++ b ++ x) b r)=_;rw [ZjA c b r,Zdy,Zdy];simp;omega
theorem ZDB {c:UInt8} {b:ByteArray} {l:List ByteArray} (hd:c≠45) (hb:cb c b=0) (h:∀x∈l,cb c x=0):cb c (VI l b)=0:=by
 cases l with
 |nil=>
  show List.count c [45]=0;simp [Ne.symm hd]
 |cons x r=>
  show cb c (jn x b r)=0;rw [ZjA,h x (Ug ..)];have:∀(r:List ByteArray),(∀x∈r,cb c x=0)->(r.map fun x=>cb c b + cb c x).sum=0:=by
   intro r
   induction r with
   |nil=>intro _;rfl
   |cons y r ih=>
    intro hr;rw [UY,List.sum_cons,ih fun z hz=>hr z (Uf _ hz),hb,hr y (Ug ..)]
  rw [this r fun y hy=>h y (Uf _ hy)]
theorem ZDC {c:UInt8} {b:ByteArray} {l:List ByteArray} (hd:c≠45) (hb:cb c b=0) (h:∀x∈l,cb c x=1):cb c (VI l b)=l.length:=by
 cases l with
 |nil=>
  show List.count c [45]=0;simp [Ne.symm hd]
 |cons x r=>
  show cb c (jn x b r)=_;rw [ZjA,h x (Ug ..)];have:∀(r:List ByteArray),(∀x∈r,cb c x=1)->(r.map fun x=>cb c b + cb c x).sum=r.length:=by
   intro r
   induction r with
   |nil=>intro _;rfl
   |cons y r ih=>
    intro hr;rw [UY,List.sum_cons,ih fun z hz=>hr z (Uf _ hz),hb,hr y (Ug ..),UI];omega
  rw [this r fun y hy=>h y (Uf _ hy),UI];omega
theorem ZDD (l:List Int):cb 58 (XB l)=0:=ZDB (by decide) (by decide) fun x hx=>by
 obtain ⟨n,_,rfl⟩:=List.mem_map.1 hx;exact Zfr (by decide) (by decide) n
theorem ZDE (p:List Part):cb 58 (Zfl p)=p.length:=by
 unfold Zfl;rw [ZDC (by decide) (by decide) fun x hx=>by
  obtain ⟨n,_,rfl⟩:=List.mem_map.1 hx;show cb 58 (ZaY n)=1;unfold ZaY;rw [Zdy,Zdy,ZDD,Zfr (by decide) (by decide)];decide,Uv]
theorem ZDF (a b c d:Int):cb 32 (XB [a,b,c,d])=3:=by
 show cb 32 (jn (Z7 a) (bs [32]) [Z7 b,Z7 c,Z7 d])=3;rw [ZjA];simp only [UY,List.map_nil,List.sum_cons,List.sum_nil,Zfr (c:=32) (by decide) (by decide)];decide
theorem ZDG (v:Int):cb 32 (KI [v])=0:=by
 show cb 32 (X3 v)=0;unfold X3;split <;> (try split) <;> (try split) <;> decide
theorem ZDH {V β:Type} (s:ByteArray) (c:UInt8) (hs:s.size<=1099511627776) (st:Nat->Int->V) (K:Int->Option β) {F:(V->Option β)->V->Option β} {v:V} (hv:v=st 0 0)
  (h0:∀rec n,F rec (st s.size n)=K n)
  (h1:∀rec k x (n:Nat),s.data.toList[k]? =some x->k < s.size->n<=k->F rec (st k n)=if x=c then rec (st (k + 1) ((n + 1:Nat):Int)) else rec (st (k + 1) n)):Zf F NN v=K (cb c s):=by
 have hsz:s.data.toList.length=s.size:=Ue;have:=ZzN s.data.toList (fun x=>x==c) (by omega) st K hv (fun rec n=>by rw [hsz];exact h0 rec n) (fun rec k x n hx hk hn=>by
  rw [h1 rec k x n hx (by omega) hn];by_cases e:x=c
  ·simp [e]
  ·simp [e])
 rw [this];unfold cb cnt;rw [List.count_eq_length_filter]
theorem ZDI (l:List Part) (h:Sm l/\∀y∈l,Ziz y) (hr:∀y∈l,Zmc y) (hs:Zb0 l<=1048576):Zia l=some (Zfl l):=by
 obtain ⟨hl,he⟩:=h;unfold Sm at hl;have ht:=Zta (bs [32,124,32]) l he hr;have hb:(bs [32,124,32]).size=3:=rfl;rw [hb] at ht;have step:∀x∈l,((XB x.stage).size + 1<=1099511627776)/\((XB x.stage ++ bs [58]).size + (Z7 x.green).size<=1099511627776):=by
  intro x hx;have h1:=Znq (he x hx) (hr x hx).1.2;have h3:=Y1 (hr x hx).2;have h5:(bs [58]).size=1:=rfl;rw [UJ];omega
 unfold Zia Zfl;simp;refine (Zjn l ZaY (by omega) (fun k acc=>(acc,l,(l.length:Int),(k:Int))) (fun a=>VT a (bs [32,124,32])) rfl ?_ ?_).trans ?_
 ·intro rec acc ha;simp
 ·intro rec k x acc hx hk ha;obtain ⟨s1,s2⟩:=step x (Yu hx);simp [hk,Zj hx,Zdq _ (he x (Yu hx)) (hr x (Yu hx)).1.2,QN _ (hr x (Yu hx)).2,ZA (show k<=9223372036854775806 by omega),ha,show (k + 1) * 16<=140737488355328 by omega,show k<=1152921504606846975 by omega,Zjl,Y0,s1];simp [UJ,Y0] at s2;simp [s2,ZaY];rw [Zs (by omega)]
 ·exact Zjm _ _ (by simp;omega) (by omega)
def ZjB (x:Report):ByteArray:=Z7 x.path ++ bs [32] ++ Z7 x.second ++ bs [32] ++ KI [x.light] ++ bs [32] ++ Z7 x.since ++ bs [32] ++ Z7 x.other
theorem ZDJ (x:Report) (hr:Zrd x):Zii x=some (ZjB x):=by
 obtain ⟨k0,k1,k2,k3,k4⟩:=hr;have hs:Sm [x.light]:=by unfold Sm;simp
 have z0:=Y1 k0;have z1:=Y1 k1;have z2:=ZCT hs;have z3:=Y1 k3;have z4:=Y1 k4;have e:∀K:List Int->Option ByteArray,rws iR [[I x.light]] K=K [x.light]:=fun K=>rfl
 unfold Zii ZjB;simp only [e,Zjp _ hs,QN _ k0,QN _ k1,QN _ k3,QN _ k4,Ze,Zjl,UJ,Y0,UI,US];rw [Zs (by omega),Zs (by omega),Zs (by omega),Zs (by omega),Zs (by omega),Zs (by omega),Zs (by omega),Zs (by omega)]
theorem ZDK (x:Report):cb 32 (ZjB x)=4:=by
 unfold ZjB;simp only [Zdy,Zfr (c:=32) (by decide) (by decide),ZDG];decide
theorem ZDL (x:Control) (h:ZZ x) (hr:Ziy x):∃v,Zh7 x=some v/\v.size≠0:=by
 obtain ⟨h0,h1⟩:=h;obtain ⟨k0,k1,k2,k3⟩:=hr;have z0:=Znq h0 k0.2;have z1:=Y1 k1;have z2:=Znq h1 k2.2;have z3:=Y1 k3;unfold Zh7;simp only [Zr,Yg,Zdq _ h0 k0.2,Zdq _ h1 k2.2,QN _ k1,QN _ k3,Ze,Zjl,UJ,Y0,UI,US];simp only [Zs (show (XB x.stage).size + (0 + 1 + 1 + 1)<=1099511627776 by omega),Zs (show (XB x.stage).size + (0 + 1 + 1 + 1) + (Z7 x.since).size<=1099511627776 by omega)];by_cases c:((x.next.length:Nat):Int) > 0
 ·simp only [c,Mt,Zp];refine ⟨XB x.stage ++ bs [32,64,32] ++ Z7 x.since ++ (bs [32,62,32] ++ XB x.next ++ bs [32,105,110,32] ++ Z7 x.left),?_,?_⟩
  ·rw [Zs (by omega),Zs (by omega),Zs (by omega),Zs (by omega)]
  ·simp only [UJ,Y0,UI,US];omega
 ·simp only [c,Mh,Zh];refine ⟨_,rfl,?_⟩;simp only [UJ,Y0,UI,US];omega
def Zb4 (m:Int):ByteArray:=if m=0 then bs [102,117,108,108] else if m=1 then bs [98,108,105,110,107] else if m=2 then bs [100,97,114,107] else bs []
theorem ZDM (m:Int):Zik m=some (Zb4 m):=by
 unfold Zik Zb4;simp only [ZJ,FF];split
 ·rfl
 split
 ·rfl
 split
 ·rfl
 ·rfl
theorem ZDN (m:Int):(Zb4 m).size<=5:=by
 unfold Zb4;split
 ·decide
 split
 ·decide
 split <;> decide
theorem ZDO (m:Int):cb 32 (Zb4 m)=0:=by
 unfold Zb4;split
 ·decide
 split
 ·decide
 split <;> decide
def Za1 (t:Town):ByteArray:=Z7 t.now ++ bs [32] ++ Zb4 (Yv t.paths t.lamps t.power) ++ bs [32] ++ XB [(t.paths.length:Int),(t.wants.length:Int),(t.record.length:Int),t.books]
theorem ZDP (t:Town) (h:ZE t) (h1:Rg t.now) (h2:Rg t.books):Zil t=some (Za1 t)/\(Za1 t).size<=1000:=by
 have z1:=Y1 h1;have zm:=ZDN (Yv t.paths t.lamps t.power);have hp:=h.1;have hw:=h.2.2.1;have hr:=h.2.2.2.2.1;unfold Sm at hp hw hr;have hs:Sm [(t.paths.length:Int),(t.wants.length:Int),(t.record.length:Int),t.books]:=by unfold Sm;simp
 have hrg:∀y∈ [(t.paths.length:Int),(t.wants.length:Int),(t.record.length:Int),t.books],Rg y:=by
  intro y hy;simp only [FH,List.not_mem_nil,or_false] at hy;rcases hy with rfl |rfl |rfl |rfl
  ·exact ⟨by omega,by omega⟩
  ·exact ⟨by omega,by omega⟩
  ·exact ⟨by omega,by omega⟩
  ·exact h2
 have zn:(XB [(t.paths.length:Int),(t.wants.length:Int),(t.record.length:Int),t.books]).size<=100:=by
  unfold XB;have a:=Zjs ([(t.paths.length:Int),(t.wants.length:Int),(t.record.length:Int),t.books].map Z7) (bs [32]);have b:=ZbY [(t.paths.length:Int),(t.wants.length:Int),(t.record.length:Int),t.books] Z7 (bs [32]) 21 fun y hy=>Y1 (hrg y hy)
  have c:(bs [32]).size=1:=rfl;rw [c] at b;simp only [UI,US] at b;omega
 have e:∀(a b c d:Int) (K:List Int->Option ByteArray),rws iR [[I a],[I b],[I c],[I d]] K=K [a,b,c,d]:=fun _ _ _ _ K=>rfl
 have hsz:(Za1 t).size<=1000:=by
  unfold Za1;simp only [UJ,Y0,UI,US];omega
 refine ⟨?_,hsz⟩;unfold Zil Za1;simp only [Zt,Zl,Zn,Zu,Zv,QN _ h1,Ze,ZmO t h,ZDM,YP,XK,QB,e,Zdq _ hs hrg,Zjl,UJ,Y0,UI,US];rw [Zs (by omega),Zs (by omega),Zs (by omega),Zs (by omega)]
theorem ZDQ (t:Town):cb 32 (Za1 t)=5:=by
 unfold Za1;simp only [Zdy,Zfr (c:=32) (by decide) (by decide),ZDO,ZDF];decide
theorem ZDR (l:List Int):(KI l).size=if l.length=0 then 1 else l.length:=by
 unfold KI VI;cases l with
 |nil=>rfl
 |cons x l=>
  show (jn (X3 x) (bs []) (l.map X3)).size=_;rw [Zfk,Zjo];have ht:∀l:List Int,tot (l.map X3) (bs [])=l.length:=by
   intro l
   induction l with
   |nil=>rfl
   |cons y l ih=>
    rw [UY,Zdp,ih,Zjo];simp [Y0];omega
  rw [ht];simp;omega
def Pl (p:List Part):Prop:=p.length<=6/\∀x∈p,x.stage.length<=20/\(∀y∈x.stage,Rg y)/\Rg x.green
theorem ZDS (l:List Path):Pl (V0 l)/\∀x∈V0 l,1<=x.stage.length:=by
 unfold V0;split
 ·rename_i h;have h1:=Zdg h;have key:∀x∈Zb1 l,ZaN l x=true:=fun x hx=>by
   unfold YQ at h;simp only [Ua] at h;exact MW.1 h.2.1 x hx
  refine ⟨⟨h1.2.1,fun x hx=> ?_⟩,fun x hx=> ?_⟩
  ·have:=key x hx;unfold ZaN at this;simp only [Ua] at this;have ht:=this.2.1;refine ⟨Zje ht,fun y hy=> ?_,?_⟩
   ·have:=ZaS h1.2.2.2 (ZaH ht y hy);exact ⟨by omega,by omega⟩
   ·have:=h1.2.2.1 x hx;exact ⟨by omega,by omega⟩
  ·have:=key x hx;unfold ZaN at this;simp only [Ua] at this;have h0:=this.1;cases hs:x.stage with
   |nil=>rw [hs] at h0;cases h0
   |cons a b=>simp
 ·exact ⟨⟨by simp,fun x hx=>by cases hx⟩,fun x hx=>by cases hx⟩
def Z8 (c:UInt8):List UInt8->List (List UInt8)
 | []=> [[]]
 |x::r=>if x=c then []::Z8 c r else match Z8 c r with
  |y::ys=>(x::y)::ys
  | []=> [[x]]
theorem ZnF (c:UInt8):∀(a l:List UInt8),c∉a->Z8 c (a ++ l)=match Z8 c l with
  |y::ys=>(a ++ y)::ys
  | []=> [a]
 | [],l,_=>by
  cases h:Z8 c l with
  |nil=>cases l with
   |nil=>cases h
   |cons x r=>
    unfold Z8 at h;split at h
    ·cases h
    ·split at h <;> cases h
  |cons y ys=>simpa using h
 |x::a,l,h=>by
  have h1:¬x=c:=fun e=>h (by rw [e];exact Ug ..)
  have h2:=ZnF c a l fun hm=>h (Uf _ hm)
  rw [U0,Z8,Ui h1,h2];cases Z8 c l <;> rfl
theorem ZDT {c:UInt8} {a:List UInt8} (h:c∉a):Z8 c a= [a]:=by
 have:=ZnF c a [] h;rw [UO] at this;rw [this];simp [Z8]
theorem ZDU {c:UInt8} {a r:List UInt8} (h:c∉a):Z8 c (a ++ c::r)=a::Z8 c r:=by
 rw [ZnF c a _ h,Z8,Uj rfl];simp
theorem Ztz (c:UInt8):∀l:List UInt8,Z8 c l≠ []
 | []=>by simp [Z8]
 |x::r=>by
  unfold Z8;split
  ·simp
  ·split <;> simp
theorem ZDV (c:UInt8):∀(n:Nat) (s:List UInt8),s.length<=n->Lib.splitK [c] 0 (s.count c) s=Z8 c s:=by
 intro n
 induction n with
 |zero=>
  intro s hs;have:s= []:=List.length_eq_zero_iff.1 (by omega);subst this;rfl
 |succ n ih=>
  intro s hs;have hge:=Lib.indexByte_ge s c;by_cases hm:Lib.indexByte s c= -1
  ·have hno:c∉s:=fun h=>by
    obtain ⟨k,hk⟩:=Mi h;exact Lib.indexByte_none hm k hk
   rw [List.count_eq_zero.2 hno,ZDT hno];rfl
  ·obtain ⟨o,ho⟩:∃o:Nat,Lib.indexByte s c=o:=⟨(Lib.indexByte s c).toNat,by omega⟩
   obtain ⟨h1,h2⟩:=Lib.indexByte_some ho;have hlt:o < s.length:=(List.getElem?_eq_some_iff.1 h1).1;have hsp:s=s.take o ++ c::s.drop (o + 1):=by
    conv=>lhs;rw [←Ul o s]
    congr 1;rw [UN hlt];congr 1;exact (List.getElem?_eq_some_iff.1 h1).2
   have hno:c∉s.take o:=fun h=>by
    obtain ⟨k,hk⟩:=Mi h;rw [Uz] at hk;split at hk
    ·exact h2 k (by assumption) hk
    ·cases hk
   have hc:s.count c=(s.drop (o + 1)).count c + 1:=by
    conv=>lhs;rw [hsp]
    rw [List.count_append,List.count_eq_zero.2 hno,List.count_cons];simp
   rw [hc,Lib.splitK,Lib.index_one,ho];rw [Ui (by simp)];simp only [UC,M2,UI,US,UZ];rw [ih (s.drop (o + 1)) (by rw [Up];omega)]
   conv=>rhs;rw [hsp]
   rw [ZDU hno]
theorem ZDW (l:List ByteArray):l=(l.map (·.data.toList)).map bs:=by
 rw [Mq]
 conv=>lhs;rw [←MA l]
 exact List.map_congr_left fun x _=>ZDs x
theorem ZtA (s:ByteArray) (c:UInt8) (h:s.size<=1048576):Zao s (bs [c])=some ((Z8 c s.data.toList).map bs):=by
 unfold Zao;rw [Zs ⟨by omega,Uq 1⟩];congr 1;rw [ZDW (Lib.splitB _ _ _ _),Lib.splitB_data];congr 1;have e:Lib.countB s (bs [c])=s.data.toList.count c:=Lib.count_one c s.data.toList;rw [e];exact ZDV c _ _ (Uq _)
theorem ZjC (c:UInt8):∀l:List UInt8,(Z8 c l).length<=l.length + 1
 | []=>by simp [Z8]
 |x::r=>by
  have:=ZjC c r;unfold Z8;split
  ·simp;omega
  ·split
   ·rename_i h;rw [h] at this;simp at this ⊢;omega
   ·simp
theorem ZnG (c:UInt8):∀l:List UInt8,∀p∈Z8 c l,p.length<=l.length
 | [],p,h=>by
  simp [Z8] at h;subst h;simp
 |x::r,p,h=>by
  have ih:=ZnG c r;unfold Z8 at h;split at h
  ·rcases FH.1 h with rfl |h
   ·simp
   ·have:=ih p h;simp;omega
  ·split at h
   ·rename_i y ys e;rcases FH.1 h with rfl |h
    ·have:=ih y (by rw [e];exact Ug ..);simp;omega
    ·have:=ih p (by rw [e];exact Uf _ h);simp;omega
   ·rw [Ma.1 h];simp
def V3 (u:List UInt8):List (List UInt8):=(Z8 32 u).filter fun w=> !w.isEmpty
theorem ZDX (u:List UInt8):(V3 u).length<=u.length + 1:=Mo (Ff _ _) (ZjC 32 u)
theorem XT (a b:List UInt8):(ByteArray.toList (bs a)==ByteArray.toList (bs b))=decide (a=b):=by
 rw [Zdx];by_cases h:a=b
 ·subst h;simp
 ·rw [Um h];exact Um fun e=>h (Ztw e)
theorem Xj (l:List UInt8):ByteArray.mk (List.toArray l)=bs l:=rfl
def JW:List (List UInt8)->Option (List Int)
 | []=>some []
 |w::r=>if (Qr w).2=true then (JW r).map ((Qr w).1:: ·) else none
def Zdz (many:Int):List (List UInt8)->List Int->List Int×Bool
 | [],out=>(out,(out.length:Int)==many)
 |w::r,out=>if (Qr w).2=true then Zdz many r (out ++ [(Qr w).1]) else ([],false)
theorem ZtB (many:Int):∀(ws:List (List UInt8)) (out:List Int),Zdz many ws out=match JW ws with
  |none=>([],false)
  |some l=>(out ++ l,((out ++ l).length:Int)==many)
 | [],out=>by
  show (out,_)=(out ++ [],_)
  rw [UO]
 |w::r,out=>by
  unfold Zdz JW;split
  ·rename_i hw;rw [ZtB many r];cases JW r with
   |none=>rfl
   |some l=>simp [Us]
  ·rfl
theorem ZtC:∀{ws:List (List UInt8)} {l:List Int},JW ws=some l->l.length=ws.length/\∀y∈l,Rg y
 | [],l,h=>by
  have:=UB h;subst this;exact ⟨rfl,fun y hy=>by cases hy⟩
 |w::r,l,h=>by
  unfold JW at h;split at h
  ·cases hr:JW r with
   |none=>rw [hr] at h;cases h
   |some m=>
    rw [hr] at h;have:=UB h;subst this;obtain ⟨h1,h2⟩:=ZtC hr;refine ⟨by simp [h1],fun y hy=> ?_⟩;rcases FH.1 hy with rfl |hy
    ·exact Ztt w
    ·exact h2 y hy
  ·cases h
theorem ZdA {ws:List (List UInt8)} {k:Nat} {w:List UInt8} (h:ws[k]? =some w):(ws.map bs)[k]? =some (bs w):=by rw [Mk,h];rfl
theorem ZDY (ws:List (List UInt8)) (many:Int) (hl:ws.length<=1048580) (hw:∀w∈ws,w.length<=1048580):ZhL (ws.map bs) many=some (Zdz many ws []):=by
 unfold ZhL;simp only [Vt,VQ,Jn,Uv];refine (YC ws (by omega) (fun k (out:List Int)=>(many,(out,(ws.map bs,(((ws.length:Nat):Int),(k:Int)))))) [] (fun k out=>out.length<=k) (Uq _) (fun r _ out=>some (Zdz many r out)) rfl ?_ ?_).trans rfl
 ·intro rec out hJ;simp only [];rw [Um (by omega),Zh];simp only [Zr,Yg];rfl
 ·intro rec k w out hJ hx hk hr;simp only [UA] at hr;simp only [];rw [Ut (by omega),Zp,Zj (ZdA hx),Ztq (bs w) (by have:=hw w (Uu hx);show w.length<=_;omega),Ze];show cnd (!(Qr w).2) _ _=_;unfold Zdz;cases hp:(Qr w).2 with
  |false=>simp
  |true=>
   rw [Uk,Zh,Zs (by simp;omega),ZA (by omega)];simp only [ZiI,U3];exact hr _ (by simp;omega)
def Vf:List (List UInt8)->Option (List Path)
 | []=>some []
 |w::r=>match Ve (bs w) with
  |none=>none
  |some p=>(Vf r).map (p.1:: ·)
theorem ZtD (s:ByteArray):(Ve s).getD Zb2=match Ve s with |none=>Zb2 |some p=>(p.1,true):=by
 cases h:Ve s with
 |none=>rfl
 |some r=>
  obtain ⟨p,rfl,_⟩:=Zjz h;rfl
theorem ZnH:∀{ws:List (List UInt8)} {l:List Path},Vf ws=some l->l.length=ws.length
 | [],l,h=>by have:=UB h;subst this;rfl
 |w::r,l,h=>by
  unfold Vf at h;split at h
  ·cases h
  ·cases hr:Vf r with
   |none=>rw [hr] at h;cases h
   |some m=>
    rw [hr] at h;have:=UB h;subst this;simp [ZnH hr]
def Qs:ByteArray:=bs [119,104,97,116]
def ZnI:ByteArray:=bs [110,111]
def ZnJ:ByteArray:=bs [111,107]
def ZdB (t:Town) (x:Town×Bool):Town×ByteArray:=if x.2=true then (x.1,ZnJ) else (t,ZnI)
theorem ZtE (t x:Town) (ok:Bool) (h:ZE t):Zaz t x ok=some (ZdB t (x,ok)):=by
 unfold Zaz ZdB;simp only [Zt,Zl,Zn,Zu,Zv,VX t h,Ze];cases ok <;> rfl
def ZnK (t:Town) (l:Option (List Path)):Town×ByteArray:=match l with
 |none=>(t,Qs)
 |some l=>if l.length=0 then (t,Qs) else ZdB t (XS l)
theorem ZDZ (ws:List (List UInt8)) (hl:ws.length<=1048570) (hw:∀w∈ws,w.length<=1048580):Zhy (ws.map bs)=some (match Vf ws with |none=>([],false) |some l=>(l,decide (0 < l.length))):=by
 unfold Zhy;simp only [Vt,VQ,Jn,Uv];refine (YC ws (by omega) (fun k (out:List Path)=>(out,(ws.map bs,(((ws.length:Nat):Int),(k:Int))))) [] (fun k out=>out.length=k) rfl (fun r k out=>some (match Vf r with |none=>([],false) |some l=>(out ++ l,decide (0 < (out ++ l).length)))) rfl ?_ ?_).trans ?_
 ·intro rec out hJ;simp only [];rw [Um (by omega),Zh];simp only [Zw,YP,Vf,UO];congr 2;rw [decide_eq_decide];omega
 ·intro rec k w out hJ hx hk hr;simp only [UA] at hr;simp only [];rw [Ut (by omega),Zp,Zj (ZdA hx),Zty (bs w) (by have:=hw w (Uu hx);show w.length<=_;omega),Ze,ZtD];simp only [Vf];cases hp:Ve (bs w) with
  |none=>rfl
  |some p=>
   simp only [Uk,Zh];rw [Zs (by simp;omega),ZA (by omega)];simp only [Vt,ZsO];have:=hr (out ++ [p.1]) (by simp;omega);refine this.trans ?_;cases Vf (ws.drop (k + 1)) with
   |none=>rfl
   |some m=>simp [Us]
 ·cases Vf ws with
  |none=>rfl
  |some m=>simp
theorem ZtF {V β:Type} {F:(V->Option β)->V->Option β} {v:V} {r:Option β} (h:∀rec,F rec v=r):Zf F NN v=r:=by
 obtain ⟨n,hn⟩:=ZiG;rw [hn,show n + 64=(n + 63) + 1 from rfl,QY];exact h _
def Zfs (l:List Path) (id:Int):List Int:=if ZI l id < 0\/ZN l=false then [] else (l.filter fun p=>Z2 p (ZX l id)).map (·.id)
theorem ZD0 (l:List Path) (id:Int) (h:Sm l):Zid l id=some (Zfs l id):=by
 have hl:=h;unfold Sm at hl;unfold Zid Zfs;simp only [Zw,X0 l id h,Ze,XJ,YP,JB l h];by_cases hf:ZI l id < 0
 ·rw [Ut hf,Zp,Uj (.inl hf)]
 rw [Um hf,Zh];cases ha:ZN l with
 |false=>simp
 |true=>
 rw [Uk,Zh,Ui (by simp [hf])];refine (YC l (by omega) (fun k (out:List Int)=>(l,(out,(ZI l id,(l,(((l.length:Nat):Int),(k:Int))))))) [] (fun k out=>out.length<=k) (Uq _) (fun r _ out=>some (out ++ (r.filter fun p=>Z2 p (ZX l id)).map (·.id))) rfl ?_ ?_).trans (by simp)
 ·intro rec out hJ;simp only [];rw [Um (by omega),Zh];simp only [Zr];simp
 ·intro rec k p out hJ hx hk hr;simp only [UA] at hr;simp only [];rw [Ut (by omega),Zp];simp only [Zj hx,Xu hf,Zda,Ze,ZA (show k<=9223372036854775806 by omega)];have hr1:=hr out (by omega);rw [Znk];cases hc:Z2 p (ZX l id) with
  |false=>
   rw [Zh];simp only [Zr];rw [hr1,Fw (by simp [hc])]
  |true=>
   rw [Zp,Zs (by simp;omega)];simp only [ZiI];have hr2:=hr (out ++ [p.id]) (by simp;omega);rw [hr2,M6 (by simp [hc])];simp
theorem ZD1 (l:List Path) (id:Int) (h:Sm l) (hr:∀p∈l,Kr p):Sm (Zfs l id)/\∀y∈Zfs l id,Rg y:=by
 unfold Zfs;split
 ·exact ⟨by unfold Sm;simp,fun y hy=>by cases hy⟩
 ·refine ⟨?_,fun y hy=> ?_⟩
  ·have:=Ff (fun p=>Z2 p (ZX l id)) l;unfold Sm at h ⊢;rw [Uv];omega
  ·obtain ⟨p,hp,rfl⟩:=List.mem_map.1 hy;exact (hr p (List.mem_filter.1 hp).1).1
def Zft (l:List Path) (p:List Part) (id:Int):Int:=if YQ l p=true/\¬ZI l id < 0 then ZiY l p id else 0
theorem ZD2 (l:List Path) (p:List Part) (id:Int) (h:Sm l) (hp:SmL p):Zc0 l p id=some (Zft l p id):=by
 unfold Zft;by_cases c:YQ l p=true/\¬ZI l id < 0
 ·rw [Uj c];exact ZBm l p h hp c.1 id c.2
 rw [Ui c];have e:ZcZ l p id=some []:=by
  unfold ZcZ;simp only [Zw,Jo,X0 l id h,Ze];by_cases hf:ZI l id < 0
  ·rw [Ut hf,Zp]
  ·have hpl:YQ l p=false:=by
    cases hpl:YQ l p with
    |false=>rfl
    |true=>exact absurd ⟨hpl,hf⟩ c
   have hc:cyc l p=0:=by unfold cyc;rw [Ui (by simp [hpl])]
   rw [Um hf,Zh,ZmA l p h hp,Ze,hc];rw [Zs (by decide)];show rws bR (([]:List Bool).map bR.enc) _=_;simp only [ZlL];refine ZtF fun rec=> ?_
   rfl
 unfold Zc0;simp only [Zw,Jo,e,Ze,ZlL];refine ZtF fun rec=> ?_
 rfl
def QO (x:Control) (p:Int):Bool:=has x.stage p && (x.next.isEmpty || has x.next p)
theorem ZD3 (x:Control) (p:Int):(Xv x p != 1)= !QO x p:=by
 unfold Xv QO;cases has x.stage p <;> cases x.next.isEmpty <;> cases has x.next p <;> rfl
def msr (x:Control) (p:Int):Nat:=
 if QO x p=true then 0 else if x.next.isEmpty=true then (7 - x.since).toNat + 8 else if has x.next p=true then x.left.toNat else x.left.toNat + 16
theorem ZtG (p:Int):has [p] p=true:=by simp [has]
theorem ZtH {l:List Path} {x:Control} {p:Int} (hc:ZP l x=true) (hr:Qn l p=true) (hg:QO x p=false):msr (Y4 l x p) p < msr x p:=by
 obtain ⟨h1,h2⟩:=ZaQ hc;have hcl:=Zdl l x.stage [p];have m0:msr x p=if x.next.isEmpty=true then (7 - x.since).toNat + 8 else if has x.next p=true then x.left.toNat else x.left.toNat + 16:=by
  unfold msr;rw [Ui (by simp [hg])]
 rw [m0];have hgreen:msr ⟨[p],0,[],0⟩ p=0:=by
  unfold msr;rw [Uj (by simp [QO,ZtG])]
 have eT:Qo l x=false->Y4 l x p=Xa l x:=fun h=>by
  have hcond:¬(Qo l x && (Qn l p && !has x.stage p))=true:=by simp [h]
  unfold Y4 Qp;simp only [Ui hcond,MK,My]
 cases hn:x.next.isEmpty with
 |true=>
  simp only [U3];have hst:has x.stage p=false:=by
   unfold QO at hg;rw [hn] at hg;simpa using hg
  by_cases hcc:Qo l x=true
  ·have hcond:(Qo l x && (Qn l p && !has x.stage p))=true:=by simp [hcc,hr,hst]
   by_cases h0:Yx l x.stage [p]=0
   ·have e:Y4 l x p=⟨[p],0,[],0⟩:=by
     unfold Y4 Qp;simp only [Uj hcond,Uj h0,U3]
    rw [e,hgreen];omega
   ·have e:Y4 l x p=⟨x.stage,x.since,[p],Yx l x.stage [p]⟩:=by
     unfold Y4 Qp;simp only [Uj hcond,Ui h0,U3]
    rw [e];unfold msr;split
    ·omega
    ·rw [Ui (show ¬([p]:List Int).isEmpty=true by simp),Uj (ZtG p)];show (Yx l x.stage [p]).toNat < _;omega
  ·rw [eT (by simpa using hcc)];have hs:x.since < 7:=by
    have hcc:Qo l x=false:=by simpa using hcc
    unfold Qo at hcc;rw [hc,hn] at hcc;simp only [UW] at hcc;have:=of_decide_eq_false hcc;split at this <;> omega
   unfold Xa;rw [Uj hc,Uj hn,Uj (show x.since < 1000000 by omega)];have hg':QO {x with since:=x.since + 1} p=false:=hg;unfold msr;rw [Ui (by simp [hg']),Uj (show x.next.isEmpty=true from hn)];show (7 - (x.since + 1)).toNat + 8 < _;omega
 |false=>
  simp only [MK,My];have hl:=h2 hn;have hcc:Qo l x=false:=by unfold Qo;rw [hn];simp
  rw [eT hcc];unfold Xa;rw [Uj hc,Ui (show ¬x.next.isEmpty=true by simp [hn])];by_cases h3:x.left > 1
  ·rw [Uj h3];have hg':QO {x with left:=x.left - 1} p=false:=hg;unfold msr;rw [Ui (by simp [hg']),Ui (show ¬x.next.isEmpty=true by simp [hn])];show (if has x.next p=true then (x.left - 1).toNat else (x.left - 1).toNat + 16) < _;split <;> omega
  ·rw [Ui h3];by_cases hnp:has x.next p=true
   ·rw [Uj hnp];have:msr ⟨x.next,0,[],0⟩ p=0:=by
     unfold msr;rw [Uj (by simp [QO,hnp])]
    rw [this];omega
   ·rw [Ui hnp];unfold msr;split
    ·omega
    ·rw [Uj (show ([]:List Int).isEmpty=true from rfl)];show (7 - (0:Int)).toNat + 8 < _;omega
theorem ZD4 {l:List Path} {x:Control} {p:Int} (hc:ZP l x=true):msr x p<=21:=by
 obtain ⟨h1,h2⟩:=ZaQ hc;unfold msr;split
 ·omega
 ·split
  ·omega
  ·rename_i hn;have:=h2 (by simpa using hn);split <;> omega
theorem ZD5 {l:List Path} {x:Control} {p:Int} (m:Nat):∀(x:Control) (n:Int),ZP l x=true->Qn l p=true->msr x p<=m->0<=n->n + m<=1000000->ZZ x->Sm l->
  ∃r:Int,0<=r/\r<=n + m/\∀{V:Type} (F:(V->Option Int)->V->Option Int) (a:Control->Int->V),
   (∀rec x n,ZZ x->ZP l x=true->0<=n->n<=1000000->F rec (a x n)=if QO x p=true then some n else rec (a (Y4 l x p) (n + 1)))->
   ∀k,Zf F (k + m + 1) (a x n)=some r:=by
 induction m with
 |zero=>
  intro x n hc hr hm h0 h1 hx hl;have hg:QO x p=true:=by
   rcases hgc:QO x p with _ | _
   ·have:=ZtH hc hr hgc;omega
   ·rfl
  exact ⟨n,h0,by omega,fun F a hF k=>by rw [QY,hF _ _ _ hx hc h0 (by omega),Uj hg]⟩
 |succ m ih=>
  intro x n hc hr hm h0 h1 hx hl;by_cases hg:QO x p=true
  ·exact ⟨n,h0,by omega,fun F a hF k=>by rw [QY,hF _ _ _ hx hc h0 (by omega),Uj hg]⟩
  ·have hlt:=ZtH hc hr (by simpa using hg);obtain ⟨r,r0,r1,hrr⟩:=ih (Y4 l x p) (n + 1) (ZmN hc) hr (by omega) (by omega) (by omega) (Zi3 hx) hl;refine ⟨r,r0,by omega,fun F a hF k=> ?_⟩;have e1:=hrr F a hF k;rw [show k + (m + 1) + 1=(k + m + 1) + 1 by omega];rw [QY,hF _ _ _ hx hc h0 (by omega),Ui hg,e1]
theorem ZtI (a:Path):∀(r:List (Path×Int)) (o:Int),Rg o->(∀x∈r,Rg x.1.id)->Rg (goO a r o)
 | [],_,h,_=>h
 |x::r,o,h,hr=>by
  unfold goO;refine ZtI a r _ ?_ fun y hy=>hr y (Uf _ hy)
  split
  ·exact hr x (Ug ..)
  ·exact h
theorem ZD6 {t:Town} {p s:Int} (hp:Rg p):Zrd (QH t p s).1:=by
 cases h:(QH t p s).2 with
 |false=>
  have e:(QH t p s).1=ZiT:=by
   unfold QH at h ⊢;split
   ·rfl
   ·rename_i hc;rw [Ui hc] at h;split
    ·rfl
    ·rename_i e he;rw [he] at h;cases h
  rw [e];exact ⟨⟨by decide,by decide⟩,⟨by decide,by decide⟩,⟨by decide,by decide⟩,⟨by decide,by decide⟩,⟨by decide,by decide⟩⟩
 |true=>
  obtain ⟨ht,m,q,q2,q1,hq,i,e,x,he,e1,e3,e2,hsec,hx,h0,h2,hn,hr⟩:=Znl h;rw [hr];simp only [ZR,Ua,UH,inR] at ht;obtain ⟨⟨⟨⟨⟨⟨⟨⟨⟨⟨t1,t2⟩,t3⟩,t4⟩,t5⟩,t6⟩,t7⟩,t8⟩,t9⟩,t10⟩,t11⟩:=ht;have hl:=ZiE t5 e he;have hpaths:ZN t.paths=true:=by
   unfold ZP at t1;simp only [Ua] at t1;exact ZaR t1.1.1.1.2
  refine ⟨hp,(show Rg s from ⟨by omega,by omega⟩),(show Rg x from ⟨by omega,by omega⟩),?_,ZtI q _ _ (show Rg 0 from ⟨by decide,by decide⟩) fun y hy=> ?_⟩
  ·show Rg (ZaM t.record m s);unfold ZaM;split
   ·exact Ztr _
   ·exact (show Rg (-1) from ⟨by decide,by decide⟩)
  ·have hm:y.1∈t.paths:=(List.of_mem_zip hy).1;have:=ZaS hpaths (Zno hm);exact ⟨by omega,by omega⟩
theorem VK {n:Int} (h1: -1000000000<=n) (h2:n<=1000000000):Rg n:=⟨by omega,by omega⟩
def RgT (t:Town):Prop:=Ziy t.control/\(∀y∈t.paths,Kr y)/\Rg t.books/\Rg t.now
theorem ZtJ:∀{p:List Part},(∀x∈p,x.stage.length<=20)->Zb0 p<=20 * p.length
 | [],_=>by simp [Zb0]
 |x::p,h=>by
  rw [Zs9];have:=ZtJ (p:=p) fun y hy=>h y (Uf _ hy)
  have:=h x (Ug ..);simp only [UI];omega
theorem ZtK (l:List Path) (h:Sm l):ZeT l=some (V0 l):=by
 obtain ⟨hs,hn⟩:=Zte l;unfold ZeT;simp only [Zw,ZsD l h,Ze,ZgQ,Ki];refine (YC (XR l) (by omega) (fun k acc=>(l,acc,XR l,((XR l).length:Int),(k:Int))) [] (fun k acc=>acc=((XR l).take k).map fun s=>(⟨s,Xg l s⟩:Part)) rfl (fun _ _ _=>some (V0 l)) rfl ?_ ?_).trans rfl
 ·intro rec acc ha;rw [Fk] at ha;have ha:acc=Zb1 l:=ha;subst ha;simp only [ltF,Zh,Zw,Jo,ZrK l _ h (Ztf l),Ze];unfold V0;cases YQ l (Zb1 l) <;> rfl
 ·intro rec k s acc ha hx hk hr;have hlen:acc.length=k:=by rw [ha,Uv,Uc];omega
  have hr':=hr (acc ++ [⟨s,Xg l s⟩]) (by rw [ha];exact ZC0 (fun s=>(⟨s,Xg l s⟩:Part)) hx);simp only [UA] at hr';simp [hk,Zj hx,ZiW l s h (hs s (Uu hx)),ZCZ,ZA (show k<=9223372036854775806 by omega),hlen,show (k + 1) * 32<=140737488355328 by omega,show k<=1152921504606846975 by omega,hr']
theorem ZnL (row:List Int) (M:Int):∀(ks:List Nat) (b n:Int),0<=b->0<=n->b<=M->n + ks.length<=M->0<=gW row ks b n/\gW row ks b n<=M
 | [],b,n,h0,h1,h2,h3=>by
  unfold gW;split <;> omega
 |k::ks,b,n,h0,h1,h2,h3=>by
  rw [UI] at h3;unfold gW;split
  ·refine ZnL row M ks _ _ ?_ (by omega) ?_ (by omega) <;> split <;> omega
  ·refine ZnL row M ks _ _ ?_ (by omega) ?_ (by omega) <;> split <;> omega
theorem ZD7 (l:List Path) (p:List Part) (id:Int):Rg (Zft l p id):=by
 unfold Zft;split
 ·rename_i c;have h1:=ZiX c.1;have:=ZnL (VW l p id) 1000 (List.range (2 * cyc l p)) 0 0 (by omega) (by omega) (by omega) (by rw [Fz];omega);unfold ZiY;exact VK (by omega) (by omega)
 ·exact VK (by omega) (by omega)
def Xk (w:List UInt8):Int:=
 if w= [108,105,103,104,116,115] then 0 else if w= [115,101,101,110] then 0 else if w= [99,111,110,116,114,111,108] then 0 else if w= [112,97,116,104,115] then 0 else if w= [112,108,97,110] then 0 else if w= [115,116,97,103,101,115] then 0 else if w= [116,111,119,110] then 0 else if w= [97,117,100,105,116] then 0 else
 if w= [99,97,108,108] then 1 else if w= [98,117,115] then 1 else if w= [104,101,108,112] then 1 else if w= [112,111,119,101,114] then 1 else if w= [114,117,110] then 1 else if w= [99,111,110,102,108,105,99,116,115] then 1 else if w= [119,97,105,116] then 1 else if w= [115,105,114,101,110] then 1 else if w= [115,104,111,119,110] then 1 else
 if w= [98,114,101,97,107] then 2 else if w= [109,101,110,100] then 2 else if w= [114,101,112,111,114,116] then 2 else if w= [118,101,114,100,105,99,116] then 3 else -1
theorem ZD8 (w:List UInt8):ZhK (bs w)=some (Xk w):=by
 unfold ZhK Xk;simp only [Xj,XT,ZJ,UH,apply_ite (some:Int->Option Int)]
def Vg (w:List UInt8):Prop:=w= [99,97,108,108]\/w= [98,117,115]\/w= [104,101,108,112]\/w= [112,111,119,101,114]\/w= [114,117,110]\/w= [98,114,101,97,107]\/w= [109,101,110,100]
theorem ZD9 (t:Town) (w:List UInt8) (l:List Int) (h:¬Vg w):XX t (bs w) l=some (t,(false,false)):=by
 unfold Vg at h;simp only [not_or] at h;obtain ⟨h1,h2,h3,h4,h5,h6,h7⟩:=h;unfold XX;simp only [Xj,XT,Um h1,Um h2,Um h3,Um h4,Um h5,Um h6,Um h7,Zh,Zl]
noncomputable def Zb5 (t:Town) (w:List UInt8) (l:List Int):Option (Town×ByteArray):=
 bnd (XX t (bs w) l) fun r=>cnd (!r.2.2) (bnd (VU t (bs w) l) fun v=>some (t,v)) (Zaz t r.1 r.2.1)
theorem ZEa {t:Town} {w:List UInt8} {l:List Int} {v:ByteArray} (hw:¬Vg w) (hv:VU t (bs w) l=some v):Zb5 t w l=some (t,v):=by
 unfold Zb5;rw [ZD9 t w l hw,Ze,UT,Zp,hv,Ze]
theorem ZEb {t:Town} {w:List UInt8} {l:List Int} {x:Town×Bool} (h:ZE t) (hv:XX t (bs w) l=some (x.1,(x.2,true))):Zb5 t w l=some (ZdB t x):=by
 unfold Zb5;rw [hv,Ze,Uk,Zh,ZtE _ _ _ h]
theorem ZEc (w:List UInt8):Xk w= -1\/(Xk w=0/\(w= [108,105,103,104,116,115]\/w= [115,101,101,110]\/w= [99,111,110,116,114,111,108]\/w= [112,97,116,104,115]\/w= [112,108,97,110]\/w= [115,116,97,103,101,115]\/w= [116,111,119,110]\/w= [97,117,100,105,116]))\/
  (Xk w=1/\(w= [99,97,108,108]\/w= [98,117,115]\/w= [104,101,108,112]\/w= [112,111,119,101,114]\/w= [114,117,110]\/w= [99,111,110,102,108,105,99,116,115]\/w= [119,97,105,116]\/w= [115,105,114,101,110]\/w= [115,104,111,119,110]))\/
  (Xk w=2/\(w= [98,114,101,97,107]\/w= [109,101,110,100]\/w= [114,101,112,111,114,116]))\/(Xk w=3/\w= [118,101,114,100,105,99,116]):=by
 unfold Xk;by_cases h1:w= [108,105,103,104,116,115]
 ·simp [h1]
 by_cases h2:w= [115,101,101,110]
 ·simp [h2]
 by_cases h3:w= [99,111,110,116,114,111,108]
 ·simp [h3]
 by_cases h4:w= [112,97,116,104,115]
 ·simp [h4]
 by_cases h5:w= [112,108,97,110]
 ·simp [h5]
 by_cases h6:w= [115,116,97,103,101,115]
 ·simp [h6]
 by_cases h7:w= [116,111,119,110]
 ·simp [h7]
 by_cases h8:w= [97,117,100,105,116]
 ·simp [h8]
 by_cases h9:w= [99,97,108,108]
 ·simp [h9]
 by_cases h10:w= [98,117,115]
 ·simp [h10]
 by_cases h11:w= [104,101,108,112]
 ·simp [h11]
 by_cases h12:w= [112,111,119,101,114]
 ·simp [h12]
 by_cases h13:w= [114,117,110]
 ·simp [h13]
 by_cases h14:w= [99,111,110,102,108,105,99,116,115]
 ·simp [h14]
 by_cases h15:w= [119,97,105,116]
 ·simp [h15]
 by_cases h16:w= [115,105,114,101,110]
 ·simp [h16]
 by_cases h17:w= [115,104,111,119,110]
 ·simp [h17]
 by_cases h18:w= [98,114,101,97,107]
 ·simp [h18]
 by_cases h19:w= [109,101,110,100]
 ·simp [h19]
 by_cases h20:w= [114,101,112,111,114,116]
 ·simp [h20]
 by_cases h21:w= [118,101,114,100,105,99,116]
 ·simp [h21]
 ·left;simp [h1,h2,h3,h4,h5,h6,h7,h8,h9,h10,h11,h12,h13,h14,h15,h16,h17,h18,h19,h20,h21]
theorem ZtL {α β:Type} (x:Option (α×β)):(bnd x fun r=>some (r.1,r.2))=x:=by cases x <;> rfl
open Classical in
noncomputable def Zfu (t:Town) (u:List UInt8):List (List UInt8)->Option (Town×ByteArray)
 | []=>some (t,Qs)
 |w::r=>if 200 < u.length then some (t,Qs) else if w= [110,101,119] then some (ZnK t (Vf r)) else match JW r with
  |none=>some (t,Qs)
  |some l=>if (l.length:Int)≠Xk w\/(w= [112,111,119,101,114]/\∃a,l= [a]/\1 < a) then some (t,Qs) else Zb5 t w l
theorem ZEd (t:Town) (u:List UInt8) (h:ZE t) (hu:u.length<=1048576):Y9 t (bs u)=Zfu t u (V3 u):=by
 have hsz:(bs u).size=u.length:=rfl;have hcl:=ZjC 32 u;have hcs:=ZnG 32 u;unfold Y9;simp only [Xj,ZtA (bs u) 32 (by omega),Ze,Vt,Zl,Jn,Uv];show Zf _ NN ((bs u,([],((Z8 32 u).map bs,((((Z8 32 u).length:Nat):Int),0)))),(t,XQ))=_;refine (YC (Z8 32 u) (by omega) (fun k (out:List (List UInt8))=>((bs u,(out.map bs,((Z8 32 u).map bs,((((Z8 32 u).length:Nat):Int),(k:Int))))),(t,XQ))) [] (fun k out=>out.length<=k/\∀x∈out,x.length<=u.length) ⟨Uq _,fun x hx=>by cases hx⟩ (fun r _ out=>Zfu t u (out ++ r.filter fun w=> !w.isEmpty)) rfl ?_ ?_).trans ?_
 ·intro rec ws hJ;obtain ⟨hwl,hws⟩:=hJ;simp only [List.filter_nil,UO];rw [Um (by omega),Zh];simp only [hsz,Zt,Zl,Zn,Zu,Jn,Uv,VQ,ZqV,ZqW,Vt,Zr,Zw,XT,VX t h,Ze];cases ws with
  |nil=>
   by_cases hb:200 < u.length
   ·rw [Ut (by omega),Zp];rfl
   ·rw [Um (by omega),Zh];rfl
  |cons w r=>
   have hg:∀{β:Type} (K:ByteArray->Option β),ZU ((w::r).map bs) 0 K=K (bs w):=fun K=>rfl
   have hd:List.drop (Int.toNat 1) (List.take (((w::r).length:Nat):Int).toNat ((w::r).map bs))=r.map bs:=by
    rw [UC,show (w::r).length=((w::r).map bs).length from (Uv _).symm,Fk];rfl
   simp only [UI] at hwl;simp only [Zfu];by_cases hb:200 < u.length
   ·rw [Ut (by omega),Zp,Uj hb];rfl
   rw [Um (by omega),Zh,Ui hb];rw [show ((((w::r).length:Nat):Int)==0)=false by rw [MG,UI];omega,Zh];simp only [hg,hd,XT];have hc:(0:Int)<=1/\(1:Int)<=(((w::r).length:Nat):Int)/\(((w::r).length:Nat):Int)<=(((w::r).length:Nat):Int):=⟨by decide,by rw [UI];omega,M8 _⟩
   have hrl:∀x∈r,x.length<=1048580:=fun x hx=>by have:=hws x (Uf _ hx);omega
   by_cases hn:w= [110,101,119]
   ·rw [Ut hn,Zp,Uj hn,Zs hc,ZDZ r (by omega) hrl,Ze];cases hp:Vf r with
    |none=>rfl
    |some l=>
     have hl:=ZnH hp;simp only [ZnK];by_cases h0:l.length=0
     ·rw [Um (by omega),Uj h0];rfl
     ·rw [Ut (by omega),Ui h0,Uk,Zh];simp only [ZCq l (show Sm l by unfold Sm;omega),Ze,ZtE _ _ _ h]
   rw [Um hn,Zh,Ui hn,Zs hc,ZD8,Ze,ZDY r _ (by omega) hrl,Ze,ZtB];cases hm:JW r with
   |none=>rfl
   |some l=>
    simp only [Md];by_cases hal:(l.length:Int)=Xk w
    ·rw [show (((l.length:Nat):Int)==Xk w)=true by rw [hal];simp,Uk,Zh];have tailE:∀(T:Option (Town×ByteArray)),T=(bnd (XX t (bs w) l) fun r=>cnd (!r.2.2) (bnd (VU t (bs w) l) fun v=>some (t,v)) (bnd (Zaz t r.1 r.2.1) fun x=>some (x.1,x.2)))->T=Zb5 t w l:=by
      rintro T rfl;unfold Zb5;simp only [ZtL]
     by_cases hp:w= [112,111,119,101,114]
     ·rw [Ut hp,Zp];have hl1:l.length=1:=by
       rw [hp] at hal;have:Xk [112,111,119,101,114]=1:=by decide
       omega
      obtain ⟨a,rfl⟩:∃a,l= [a]:=List.length_eq_one_iff.1 hl1;have hz:∀{β:Type} (K:Int->Option β),ZU [a] 0 K=K a:=fun K=>rfl
      simp only [YX,hz];by_cases ha:1 < a
      ·rw [Ut ha,Zp,Uj (.inr ⟨hp,a,rfl,ha⟩)];rfl
      ·have hno:¬((([a]:List Int).length:Int)≠Xk w\/(w= [112,111,119,101,114]/\∃b,[a]= [b]/\1 < b)):=by
        rintro (h1 | ⟨_,b,h2,h3⟩)
        ·exact h1 hal
        ·injection h2 with h2;omega
       rw [Um ha,Zh,Ui hno];exact tailE _ rfl
     ·have hno:¬((l.length:Int)≠Xk w\/(w= [112,111,119,101,114]/\∃b,l= [b]/\1 < b)):=by
       rintro (h1 | ⟨h2,_⟩)
       ·exact h1 hal
       ·exact hp h2
      rw [Um hp,Zh,Ui hno];exact tailE _ rfl
    ·rw [show (((l.length:Nat):Int)==Xk w)=false by rw [MG];exact hal,UT,Zp,Uj (.inl hal)];rfl
 ·intro rec k p out hJ hx hk hr;simp only [UA] at hr;obtain ⟨h1,h2⟩:=hJ;simp only [VQ];rw [Ut (by omega),Zp,Zj (ZdA hx)];simp only [XT,ZA (show k<=9223372036854775806 by omega)];cases p with
  |nil=>
   rw [show decide (([]:List UInt8)= [])=true from rfl,Uk,Zh];simp only [Vt,Zl,Zu];exact hr out ⟨by omega,h2⟩
  |cons y ys=>
   rw [Um (by simp),UT,Zp,Zs (by simp;omega)];simp only [Vt,Zs3,Zl,Zu];have:=hr (out ++ [y::ys]) ⟨by simp;omega,fun x hx2=>by
    rcases List.mem_append.1 hx2 with hx2 |hx2
    ·exact h2 x hx2
    ·rw [Ma.1 hx2];exact hcs _ (Uu hx)⟩
   rw [UX] at this;refine this.trans ?_;rw [M6 (by simp),Us];rfl
 ·rfl
theorem ZEe {l:List Path} {x:Control} (hx:ZZ x) (h:ZP l x=true):Ziy x:=by
 obtain ⟨a1,a2,a3⟩:=Zdm h;obtain ⟨h1,h2⟩:=ZaQ h;have ha:=ZaR a2;have sm:∀{l:List Int},Sm l->l.length<=maxLen:=fun h=>by unfold Sm at h;unfold maxLen;omega
 refine ⟨⟨sm hx.1,fun y hy=> ?_⟩,VK (by omega) (by omega),⟨sm hx.2,fun y hy=> ?_⟩,?_⟩
 ·have:=ZaS ha (ZaH a2 y hy);exact VK (by omega) (by omega)
 ·have:=ZaS ha (ZaH a3 y hy);exact VK (by omega) (by omega)
 ·cases hn:x.next.isEmpty with
  |false=>have:=h2 hn;exact VK (by omega) (by omega)
  |true=>
   have hn':x.next= []:=by simpa using hn
   unfold ZP at h;simp only [Ua] at h;have:=h.2;rw [Uj hn'] at this;have:x.left=0:=by simpa using this
   rw [this];exact VK (by omega) (by omega)
theorem ZjD {p:Path} (h:ZY p=true):Kr p:=by
 unfold ZY inR at h;simp only [Ua,UH] at h;refine ⟨?_,?_,?_,?_⟩
 all_goals exact VK (by omega) (by omega)
theorem ZEf {t:Town} (hs:ZE t) (h:ZR t=true):RgT t:=by
 obtain ⟨h1,_⟩:=JM h;obtain ⟨a1,a2,a3⟩:=Zdm h1;have ha:=ZaR a2;have hb:0<=t.books/\t.books<=1000/\0<=t.now/\t.now<=1000000:=by
  simp only [ZR,Ua,UH,inR] at h;omega
 refine ⟨ZEe hs.2.1 h1,fun y hy=> ?_,VK (by omega) (by omega),VK (by omega) (by omega)⟩;unfold ZN at ha;rw [Ua] at ha;exact ZjD (Zfe ha.2 y hy)
def Inv (t:Town):Prop:=ZE t/\RgT t/\(ZR t=true\/t=XQ)
theorem ZtM:Inv XQ:=by
 have h0:Rg 0:=VK (by omega) (by omega);have hn:∀y∈([]:List Int),Rg y:=fun y hy=>by cases hy
 have hm:([]:List Int).length<=maxLen:=U7 _;have hc:Ziy (⟨[],0,[],0⟩:Control):=⟨⟨hm,hn⟩,h0,⟨hm,hn⟩,h0⟩
 have s1:Sm ([]:List Path):=U7 _;have s2:Sm ([]:List Want):=U7 _;have s3:Sm ([]:List Lamp):=U7 _;exact ⟨⟨s1,⟨JQ,JQ⟩,s2,s3,KD⟩,⟨hc,fun y hy=>(by cases hy),h0,h0⟩, .inr rfl⟩
theorem ZtN {l:List Path} (h:(XS l).2=true):ZR (XS l).1=true:=by
 unfold XS at h ⊢;split at h
 ·cases h
 ·rename_i s r e;split at h
  ·rename_i c;simp only [Uj c];exact c
  ·cases h
def ZdC (c:List (List UInt8)):List (List UInt8):=if c.getLast? =some [] then c.dropLast else c
def ZdD (u:List UInt8):List (List UInt8):=ZdC (Z8 10 u)
end Go.Sh
