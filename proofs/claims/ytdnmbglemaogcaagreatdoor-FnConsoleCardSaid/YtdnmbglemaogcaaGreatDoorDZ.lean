/- FnConsole. -/
import Derived.Test.YtdnmbglemaogcaaGreatDoorQY
set_option linter.all false
namespace Go.Sh
open Go.Fx
theorem X5 {v:ByteArray} (h:v.size≠0):v≠bs []:=fun e=>h (by rw [e];rfl)
theorem ZnM {c:UInt8} {v:ByteArray} (h:0 < cb c v):v≠bs []:=fun e=>by
 rw [e] at h;exact absurd h (MM 0)
theorem ZEg (n:Nat):0 < (Lib.decDigits n).length:=by
 rw [Lib.decDigits];split <;> simp
theorem Zfv (n:Int):0 < (Z7 n).size:=by
 show 0 < (Lib.itoa n).length;unfold Lib.itoa;split
 ·simp
 ·exact ZEg _
theorem ZtO {l:List ByteArray} {b:ByteArray} (h:∀x∈l,0 < x.size):0 < (VI l b).size:=by
 cases l with
 |nil=>exact Nat.succ_pos 0
 |cons x r=>
  show 0 < (jn x b r).size;rw [Zfk];have:=h x (Ug ..);omega
theorem ZtP (l:List Int):XB l≠bs []:=X5 (by
 have:=ZtO (l:=l.map Z7) (b:=bs [32]) fun x hx=>by
  obtain ⟨n,_,rfl⟩:=List.mem_map.1 hx;exact Zfv n
 show (VI (l.map Z7) (bs [32])).size≠0;omega)
theorem ZnN (l:List Int):KI l≠bs []:=X5 (by
 rw [ZDR];split
 ·decide
 ·assumption)
theorem ZEh {l:List Path} (h:∀p∈l,ZY p=true):Znt l≠bs []:=X5 (by
 have:=ZtO (l:=l.map Ys) (b:=bs [32]) fun x hx=>by
  obtain ⟨p,hp,rfl⟩:=List.mem_map.1 hx;unfold Ys;rw [Uj (h p hp)];simp only [UJ];have:=Zfv p.id;omega
 show (VI (l.map Ys) (bs [32])).size≠0;omega)
theorem ZEi (p:List Part):Zfl p≠bs []:=by
 cases p with
 |nil=>exact X5 (by decide)
 |cons x r=>exact ZnM (c:=58) (by rw [ZDE];simp)
theorem ZEj {r s:Report} (h1:r.second=s.second) (h2:0<=r.light/\r.light<=2) (h3:0<=s.light/\s.light<=2):∃v,Zij r s=some v/\v≠bs []:=by
 unfold Zij;simp only [Ks,Ze,ZJ,h1,h2.1,h2.2,h3.1,h3.2,Mt,MV,Uk,Mu,MK,My];by_cases h4:r.light=0
 ·by_cases h5:s.light=0
  ·refine ⟨_,by simp [h4,h5];rfl,X5 (by decide)⟩
  ·refine ⟨_,by simp [h4,h5];rfl,X5 (by decide)⟩
 ·by_cases h5:s.light=0
  ·refine ⟨_,by simp [h4,h5];rfl,X5 (by decide)⟩
  ·refine ⟨_,by simp [h4,h5];rfl,X5 (by decide)⟩
theorem ZEk (t:Town) (h:ZE t):∃v,Zir t=some v:=by
 have e2:Zim t=some (VC t.paths (YE t)):=by unfold Zim;simp [Ze6 t h,Zrz _ _ h.1]
 unfold Zir;simp only [Zt,Zl,Zn,Zu,Zv,Zw,Zr,ZT,Z5,Z6,ZD,Z4,KA t h,e2,ZA0 t h,ZAF t h,Ze];cases ZR t
 ·exact ⟨_,rfl⟩
 cases VC t.paths (YE t)
 ·exact ⟨_,rfl⟩
 cases Zmu t
 ·exact ⟨_,rfl⟩
 cases Zmg t
 ·exact ⟨_,rfl⟩
 ·exact ⟨_,rfl⟩
theorem ZEl (l:List Path) (x:Control) (p:Int) (h:Sm l) (hx:ZZ x):∃r,Zig l x p=some r/\Rg r:=by
 unfold Zig;simp only [Zt,Zw,Zr,ZD,X0 l p h,Ky l x h hx,ZmI l p h,Ze,XJ];cases hc:ZP l x with
 |false=>exact ⟨-1,rfl,by decide,by decide⟩
 |true=>
 simp only [Uk,Zh];cases hr:Qn l p with
 |false=>exact ⟨-1,rfl,by decide,by decide⟩
 |true=>
  have hf:¬ZI l p < 0:=by
   intro hf;unfold Qn at hr;simp [hf] at hr
  rw [Uk,Zh];obtain ⟨r,r0,r1,hrr⟩:=ZD5 (l:=l) (x:=x) (p:=p) 21 x 0 hc hr (ZD4 hc) (by omega) (by omega) hx h;obtain ⟨n,hn⟩:=ZiG;refine ⟨r,?_,by omega,by omega⟩;rw [hn];refine hrr _ (fun x n=>((l,(p,(ZI l p,n))),x)) ?_ (n + 42);intro rec y n hy hyc n0 n1;simp only [Zw,Zt,ZD,ZiM l y h hy,Zr3 l y p h hy,Ze,YX];rw [ZB (by omega) (by omega),Zfc hyc hf,ZD3];cases QO y p <;> simp
def Xl (t:Town):Prop:=ZE t/\RgT t/\∀p∈t.paths,ZY p=true
theorem ZEm {t:Town} {w:List UInt8} {l:List Int} (ht:Xl t) (hl:∀y∈l,Rg y) (hn:(l.length:Int)=Xk w) (hw:¬Vg w):∃v,VU t (bs w) l=some v/\v≠bs []:=by
 obtain ⟨h,⟨k1,k2,k3,k4⟩,hv⟩:=ht;have noE:ZnI≠bs []:=X5 (by decide);have okE:ZnJ≠bs []:=X5 (by decide);rcases ZEc w with hA | ⟨hA,hc⟩ | ⟨hA,hc⟩ | ⟨hA,hc⟩ | ⟨hA,hc⟩
 ·omega
 ·have hl0:l= []:=List.length_eq_zero_iff.1 (by omega);subst hl0;obtain ⟨v2,b2,n2⟩:=ZDL t.control h.2.1 k1;obtain ⟨b6,_⟩:=ZDP t h k4 k3;obtain ⟨v7,b7⟩:=ZEk t h;have hln:=Zi2 t h;have hsn:=ZA6 t h;have hp:=(ZDS t.paths).1;have hp6:=hp.1;have hlen:=ZtJ fun y hy=>(hp.2 y hy).1
  have b4:=ZDI (V0 t.paths) ⟨by unfold Sm;omega,fun y hy=>by have:=(hp.2 y hy).1;show Sm y.stage;unfold Sm;omega⟩ (fun y hy=>⟨⟨by have:=(hp.2 y hy).1;unfold maxLen;omega,(hp.2 y hy).2.1⟩,(hp.2 y hy).2.2⟩) (by omega);obtain ⟨s1,s2⟩:=Ztb t.paths;have hs:Sm (Zfp t.paths):=by unfold Sm Zfp;rw [Uv];omega
  have hsr:∀y∈Zfp t.paths,Rg y:=fun y hy=>by
   obtain ⟨s,hm,rfl⟩:=List.mem_map.1 hy;have:=s2 s hm;exact VK (by omega) (by omega)
  have ctn:Za1 t≠bs []:=ZnM (c:=32) (by rw [ZDQ];decide);rcases hc with rfl |rfl |rfl |rfl |rfl |rfl |rfl |rfl
  all_goals unfold VU
  all_goals simp only [Xj,XT,Zt,Zl,Zn,Zu,Zw,Zr,Jo,Ze6 t h,ZA5 t h,Ze,Zjp _ hln,Zjp _ hsn,b2,ZCV t.paths h.1 k2,ZtK t.paths h.1,b4,ZDp t.paths h.1,Zdq _ hs hsr,b6,b7,ZJ,UH]
  all_goals repeat rw [Ui (by decide)]
  all_goals try rw [Uj trivial]
  ·exact ⟨_,rfl,ZnN _⟩
  ·exact ⟨_,rfl,ZnN _⟩
  ·exact ⟨_,rfl,X5 n2⟩
  ·exact ⟨_,rfl,ZEh hv⟩
  ·exact ⟨_,rfl,ZEi _⟩
  ·exact ⟨_,rfl,ZtP _⟩
  ·exact ⟨_,rfl,ctn⟩
  ·simp only [Zdx,UG,U5];by_cases c:v7=bs []
   ·rw [Ui (by simp [c])];exact ⟨_,rfl,okE⟩
   ·rw [Uj c];exact ⟨_,rfl,c⟩
 ·obtain ⟨a,rfl⟩:∃a,l= [a]:=by
   match l,hn with
   | [a],_=>exact ⟨a,rfl⟩
   | [],hn=>rw [hA] at hn;simp at hn
   |a::b::m,hn=>rw [hA] at hn;simp at hn;omega
  have hz:∀{β:Type} (K:Int->Option β),ZU [a] 0 K=K a:=fun K=>rfl
  obtain ⟨c1,c2⟩:=ZD1 t.paths a h.1 k2;obtain ⟨r,e2,e3⟩:=ZEl t.paths t.control a h.1 h.2.1;have hwt:=ZD7 t.paths (V0 t.paths) a;have hp:=ZCY t.paths;have hs:=ZrD a h.2.2.2.2;rcases hc with rfl |rfl |rfl |rfl |rfl |rfl |rfl |rfl |rfl
  iterate 5 (exact absurd (by unfold Vg;decide) hw)
  all_goals unfold VU
  all_goals simp only [Xj,XT,Zt,Zl,Zn,Zu,Zw,Zr,Jo,Z6,ZD,YX,hz,ZD0 t.paths a h.1,ZtK t.paths h.1,ZD2 t.paths _ a h.1 hp,e2,ZrC t.record a h.2.2.2.2,Ze,Zdq _ c1 c2,QN _ hwt,QN _ e3,Zjp _ hs,ZJ,UH]
  all_goals repeat rw [Ui (by decide)]
  all_goals try rw [Uj trivial]
  ·exact ⟨_,rfl,ZtP _⟩
  ·exact ⟨_,rfl,X5 (by have:=Zfv (Zft t.paths (V0 t.paths) a);omega)⟩
  ·exact ⟨_,rfl,X5 (by have:=Zfv r;omega)⟩
  ·cases (ZaK t.record a).2
   ·exact ⟨_,rfl,noE⟩
   ·exact ⟨_,rfl,ZnN _⟩
 ·obtain ⟨a,b,rfl⟩:∃a b,l= [a,b]:=by
   match l,hn with
   | [a,b],_=>exact ⟨a,b,rfl⟩
   | [],hn=>rw [hA] at hn;simp at hn
   | [a],hn=>rw [hA] at hn;simp at hn
   |a::b::c::m,hn=>rw [hA] at hn;simp at hn;omega
  have hz:∀{β:Type} (K:Int->Option β),ZU [a,b] 0 K=K a:=fun K=>rfl
  have hz1:∀{β:Type} (K:Int->Option β),ZU [a,b] 1 K=K b:=fun K=>rfl
  have hr:=ZD6 (t:=t) (p:=a) (s:=b) (hl a (by simp));rcases hc with rfl |rfl |rfl
  iterate 2 (exact absurd (by unfold Vg;decide) hw)
  unfold VU;simp only [Xj,XT,Zl,YX,hz,hz1,Zmv t a b h,Ze,ZDJ _ hr,ZJ,UH]
  repeat rw [Ui (by decide)]
  rw [Uj trivial];cases (QH t a b).2
  ·exact ⟨_,rfl,noE⟩
  ·exact ⟨_,rfl,ZnM (c:=32) (by rw [ZDK];decide)⟩
 ·obtain ⟨a,b,c,rfl⟩:∃a b c,l= [a,b,c]:=by
   match l,hn with
   | [a,b,c],_=>exact ⟨a,b,c,rfl⟩
   | [],hn=>rw [hA] at hn;simp at hn
   | [a],hn=>rw [hA] at hn;simp at hn
   | [a,b],hn=>rw [hA] at hn;simp at hn
   |a::b::c::d::m,hn=>rw [hA] at hn;simp at hn;omega
  subst hc;have hz:∀{β:Type} (K:Int->Option β),ZU [a,b,c] 0 K=K a:=fun K=>rfl
  have hz1:∀{β:Type} (K:Int->Option β),ZU [a,b,c] 1 K=K b:=fun K=>rfl
  have hz2:∀{β:Type} (K:Int->Option β),ZU [a,b,c] 2 K=K c:=fun K=>rfl
  unfold VU;simp only [Xj,XT,Zl,YX,hz,hz1,hz2,Zmv t a c h,Zmv t b c h,Ze,ZJ,UH]
  repeat rw [Ui (by decide)]
  rw [Uj trivial];cases h1:(QH t a c).2 with
  |false=>exact ⟨_,rfl,noE⟩
  |true=>
   cases h2:(QH t b c).2 with
   |false=>exact ⟨_,rfl,noE⟩
   |true=>
    obtain ⟨_,m,q,q2,q1,hq,i,e,x,he,e1,e3,e2,hsec,hx,x0,x2,hn1,hr1⟩:=Znl h1;obtain ⟨_,m',q',q2',q1',hq',i',e',y,he',e1',e3',e2',hsec',hy,y0,y2,hn2,hr2⟩:=Znl h2;obtain ⟨v,ev,hne⟩:=ZEj (r:=(QH t a c).1) (s:=(QH t b c).1) (by rw [hr1,hr2]) (by rw [hr1];exact ⟨x0,x2⟩) (by rw [hr2];exact ⟨y0,y2⟩);simp only [U3];rw [ev,Ze];exact ⟨v,rfl,hne⟩
theorem ZEn {t:Town} {w:List UInt8} {l:List Int} (h:ZE t) (hn:(l.length:Int)=Xk w) (hw:Vg w):∃x:Town×Bool,XX t (bs w) l=some (x.1,(x.2,true))/\ZE x.1/\(x.2=true->ZR x.1=true):=by
 have one:(w= [99,97,108,108]\/w= [98,117,115]\/w= [104,101,108,112]\/w= [112,111,119,101,114]\/w= [114,117,110])->∃a,l= [a]:=fun hc=>by
  have hA:Xk w=1:=by rcases hc with rfl |rfl |rfl |rfl |rfl <;> decide
  exact List.length_eq_one_iff.1 (by omega)
 have two:(w= [98,114,101,97,107]\/w= [109,101,110,100])->∃a b,l= [a,b]:=fun hc=>by
  have hA:Xk w=2:=by rcases hc with rfl |rfl <;> decide
  match l,hn with
  | [a,b],_=>exact ⟨a,b,rfl⟩
  | [],hn=>rw [hA] at hn;simp at hn
  | [a],hn=>rw [hA] at hn;simp at hn
  |a::b::c::m,hn=>rw [hA] at hn;simp at hn;omega
 have hz:∀{β:Type} (a:Int) (K:Int->Option β),ZU [a] 0 K=K a:=fun _ K=>rfl
 have hz2:∀{β:Type} (a b:Int) (K:Int->Option β),ZU [a,b] 0 K=K a:=fun _ _ K=>rfl
 have hz3:∀{β:Type} (a b:Int) (K:Int->Option β),ZU [a,b] 1 K=K b:=fun _ _ K=>rfl
 unfold Vg at hw;rcases hw with rfl |rfl |rfl |rfl |rfl |rfl |rfl
 ·obtain ⟨a,rfl⟩:=one (by simp);refine ⟨VH t a,?_,ZmT h a,fun e=>(Znn e).1⟩;unfold XX;simp only [Xj,XT,YX,hz,Zl,Zn,ZBX t a h,Ze];rfl
 ·obtain ⟨a,rfl⟩:=one (by simp);refine ⟨VF t a,?_,Zr0 h a,fun e=>(ZsV e).1⟩;unfold XX;simp only [Xj,XT,YX,hz,Zl,Zn,ZBB t a h,Ze];rfl
 ·obtain ⟨a,rfl⟩:=one (by simp);refine ⟨QJ t a,?_,Zsd h a,fun e=>(ZsX e).2.1⟩;unfold XX;simp only [Xj,XT,YX,hz,Zl,Zn,ZBO t a h,Ze];rfl
 ·obtain ⟨a,rfl⟩:=one (by simp);refine ⟨KF t (a==1),?_,ZBM h _,fun e=>(ZCH e).1⟩;unfold XX;simp only [Xj,XT,YX,hz,Zl,Zn,ZBL t (a==1) h,Ze];rfl
 ·obtain ⟨a,rfl⟩:=one (by simp);refine ⟨QL t a,?_,Zsz h a,fun e=>(ZsZ e).2.1⟩;unfold XX;simp only [Xj,XT,YX,hz,Zl,Zn,ZCk t a h,Ze];rfl
 ·obtain ⟨a,b,rfl⟩:=two (by simp);refine ⟨JT t a b true,?_,ZsM h a b _,fun e=>(ZsW e).1⟩;unfold XX;simp only [Xj,XT,YX,hz2,hz3,Zl,Zn];rw [show decide True=true from rfl];simp only [ZsL t a b _ h,Ze];rfl
 ·obtain ⟨a,b,rfl⟩:=two (by simp);refine ⟨JT t a b false,?_,ZsM h a b _,fun e=>(ZsW e).1⟩;unfold XX;simp only [Xj,XT,YX,hz2,hz3,Zl,Zn,ZsL t a b _ h,Ze];rfl
theorem ZnO {t:Town} (hs:ZE t) (h:ZR t=true):Xl t:=by
 refine ⟨hs,ZEf hs h,fun p hp=> ?_⟩;have ha:=ZaR (Zdm (JM h).1).2.1;unfold ZN at ha;rw [Ua] at ha;exact Zfe ha.2 p hp
theorem ZnP:Xl XQ:=⟨ZtM.1,ZtM.2.1,fun p hp=>by cases hp⟩
def ZjE (t:Town) (r:Town×ByteArray):Prop:=Xl r.1/\r.2≠bs []/\(r.2=Qs->r.1=t)
theorem ZEo:Qs≠bs []:=X5 (by decide)
theorem ZdE {t:Town} (ht:Xl t):ZjE t (t,Qs):=⟨ht,ZEo,fun _=>rfl⟩
theorem ZtQ {t:Town} {x:Town×Bool} (ht:Xl t) (hs:ZE x.1) (hx:x.2=true->ZR x.1=true):ZjE t (ZdB t x):=by
 unfold ZdB;split
 ·rename_i h;exact ⟨ZnO hs (hx h),(X5 (by decide):ZnJ≠bs []),fun e=>absurd (Ztw e) (by decide)⟩
 ·exact ⟨ht,(X5 (by decide):ZnI≠bs []),fun _=>rfl⟩
theorem ZEp {t:Town} {u:List UInt8} {ws:List (List UInt8)} (ht:Xl t) (hws:ws.length<=1048570):∃r,Zfu t u ws=some r/\ZjE t r/\((∀w rs,ws=w::rs->w≠ [110,101,119]/\¬Vg w)->r.1=t):=by
 cases ws with
 |nil=>exact ⟨_,rfl,ZdE ht,fun _=>rfl⟩
 |cons w rs=>
  simp only [Zfu];split
  ·exact ⟨_,rfl,ZdE ht,fun _=>rfl⟩
  split
  ·rename_i hn;refine ⟨_,rfl,?_,fun h=>absurd hn (h w rs rfl).1⟩;unfold ZnK;cases hp:Vf rs with
   |none=>exact ZdE ht
   |some m=>
    have hl:=ZnH hp;simp only [UI] at hws;simp only;split
    ·exact ZdE ht
    ·exact ZtQ ht (ZsF (show Sm m by unfold Sm;omega)) ZtN
  cases hm:JW rs with
  |none=>exact ⟨_,rfl,ZdE ht,fun _=>rfl⟩
  |some l=>
   simp only;split
   ·exact ⟨_,rfl,ZdE ht,fun _=>rfl⟩
   ·rename_i hbad;simp only [not_or,Classical.not_not] at hbad;by_cases hw:Vg w
    ·obtain ⟨x,e,hs,hx⟩:=ZEn (l:=l) ht.1 hbad.1 hw;exact ⟨_,ZEb ht.1 e,ZtQ ht hs hx,fun h=>absurd hw (h w rs rfl).2⟩
    ·obtain ⟨v,e,hne⟩:=ZEm ht (ZtC hm).2 hbad.1 hw;exact ⟨_,ZEa hw e,⟨ht,hne,fun _=>rfl⟩,fun _=>rfl⟩
theorem ZnQ {t:Town} {u:List UInt8} (ht:Xl t) (hu:u.length<=1000000):∃r,Y9 t (bs u)=some r/\ZjE t r/\((∀w rs,V3 u=w::rs->w≠ [110,101,119]/\¬Vg w)->r.1=t):=by
 rw [ZEd t u ht.1 (by omega)];have:=ZDX u;exact ZEp ht (by omega)
theorem ZEq {l:List Path} (h:Sm l):Xl (XS l).1:=by
 cases hb:(XS l).2 with
 |true=>exact ZnO (ZsF h) (ZtN hb)
 |false=>
  have:(XS l).1=XQ:=by
   unfold XS at hb ⊢;split
   ·rfl
   ·rename_i s r e;rw [e] at hb;simp only at hb;split at hb
    ·cases hb
    ·rename_i c;rw [Ui c]
  rw [this];exact ZnP
theorem ZEr {g:L1Cur} (h:YF g):Qq (Zhe g) Xl:=by
 unfold Zhe;simp only [Zt,Zl,Zn,Zu,Zv,YI,Zw,ZT,Z5,Z3,Qk];obtain ⟨l,g1,e1,hl,hg1⟩:=ZCy h;rw [e1,Ze];have hs:=ZCA hl.1;simp only [ZCp l hs,Ze];have hp:=ZCB l;have hl7:=hl.1.1;obtain ⟨x,g2,e2,hx,hg2⟩:=ZCz hg1 (l:=(XS l).1.paths) (by omega) (rare:=40) (by omega);rw [e2,Ze];obtain ⟨⟨h0,h1,h2,h3,h4⟩,k,v⟩:=ZEq hs;exact ⟨_,_,rfl,⟨⟨h0,h1,h2,by show x.length<=_;omega,h4⟩,k,v⟩,hg2⟩
theorem Zfw {t:Town} {x:Town×Bool} (ht:Xl t) (hs:ZE x.1) (h1:x.2=true->ZR x.1=true) (h2:x.2=false->x.1=t):Xl x.1:=by
 cases h:x.2 with
 |true=>exact ZnO hs (h1 h)
 |false=>rw [h2 h];exact ht
theorem ZEs {t:Town} {p:Int} (h:(QJ t p).2=false):(QJ t p).1=t:=by
 unfold QJ at h ⊢;split
 ·rename_i c;rw [Uj c] at h;exact Znm h
 ·rfl
theorem ZtR {t:Town}:∀{k:Nat} {u:Town},(X2 t k u).2=false->(X2 t k u).1=t
 | 0,u,h=>by cases h
 |k + 1,u,h=>by
  unfold X2 at h ⊢;split
  ·rename_i c;rw [Uj c] at h;exact ZtR h
  ·rfl
theorem ZEt {t:Town} {n:Int} (h:(QL t n).2=false):(QL t n).1=t:=by
 unfold QL at h ⊢;split
 ·rename_i c;rw [Uj c] at h;exact ZtR h
 ·rfl
theorem ZEu {g:L1Cur} (h:YF g):Qq (Zhw g) Xl:=by
 unfold Zhw;simp only [Zt,Zl,Zn,Zu,Zv,YI,Qk];obtain ⟨t,g1,e1,ht,hg1⟩:=ZEr h;rw [e1,Ze];obtain ⟨n,g2,e2,hn,hg2⟩:=QM hg1 (n:=7) (by omega);rw [e2,Ze];have hn1:=hn.2.1 (by omega);rw [Znh];refine ZaX (fun v=>v.1.2.toNat) (fun v=>v.1.2<=7/\0<=v.1.2/\Xl v.2.1.2/\YF v.2.2) ?_ NN _ ⟨by show n<=7;omega,hn.1,ht,hg2⟩ (Qj (by show n.toNat<=_;omega));rintro rec ⟨⟨u,i⟩,⟨d,t⟩,g⟩ ⟨hi1,hi0,ht,hg⟩ hrec;simp only at hi1 hi0 ht hg hrec ⊢;by_cases c:i > 0
 ·rw [show decide (i > 0)=true by simpa using c,Zp];have fin:∀(t':Town) (g':L1Cur),Xl t'->YF g'->∃b:Town×L1Cur,rec ((u,W (i - 1)),(d,t'),g')=some b/\Xl b.1/\YF b.2:=fun t' g' h1 h2=>by
   refine hrec _ ⟨?_,?_,h1,h2⟩ ?_
   ·show W (i - 1)<=7;rw [ZB (by omega) (by omega)];omega
   ·show 0<=W (i - 1);rw [ZB (by omega) (by omega)];omega
   ·show (W (i - 1)).toNat < i.toNat;rw [ZB (by omega) (by omega)];omega
  obtain ⟨k,g3,e3,hk,hg3⟩:=QM hg (n:=6) (by omega);rw [e3,Ze];obtain ⟨p,g4,e4,hp,hg4⟩:=QM hg3 (n:=7) (by omega);obtain ⟨q,g5,e5,hq,hg5⟩:=QM hg3 (n:=9) (by omega);simp only [e4,e5,Ze,ZBW t _ ht.1,ZBA t _ ht.1,ZBN t _ ht.1,ZCj t _ ht.1,ZJ];split
  ·exact fin _ _ (Zfw ht (ZmT ht.1 _) (fun e=>(Znn e).1) ZsU) hg4
  split
  ·exact fin _ _ (Zfw ht (ZmT ht.1 _) (fun e=>(Znn e).1) ZsU) hg4
  split
  ·exact fin _ _ (Zfw ht (Zr0 ht.1 _) (fun e=>(ZsV e).1) ZCE) hg4
  split
  ·exact fin _ _ (Zfw ht (Zsd ht.1 _) (fun e=>(ZsX e).2.1) ZEs) hg4
  ·exact fin _ _ (Zfw ht (Zsz ht.1 _) (fun e=>(ZsZ e).2.1) ZEt) hg5
 ·rw [show decide (i > 0)=false by simpa using c,Zh];exact ⟨_,rfl,ht,hg⟩
theorem ZtS {g:L1Cur} (h:YF g) {l:List ByteArray} (hl:0 < l.length) (hb:l.length<=256) {Q:ByteArray->Prop} (hq:∀x∈l,Q x):Qq (Zet l g) Q:=by
 unfold Zet;simp only [YI,Qk,Jn,VQ];obtain ⟨n,g1,e1,hn,hg1⟩:=QM h (n:=(l.length:Int)) (by omega);rw [e1,Ze];have h1:=hn.2.1 (by omega);have h0:=hn.1;have hlt:n.toNat < l.length:=by omega
 have e:n=((n.toNat:Nat):Int):=by omega
 simp only;rw [e,Zj (Ub hlt)];exact ⟨_,_,rfl,hq _ (List.getElem_mem hlt),hg1⟩
theorem ZnR (c:UInt8):∀l:List UInt8,(Z8 c l).length=l.count c + 1
 | []=>rfl
 |x::r=>by
  have ih:=ZnR c r;unfold Z8;by_cases h:x=c
  ·rw [Uj h,UI,ih,h,List.count_cons_self]
  ·rw [Ui h,List.count_cons_of_ne h];cases hr:Z8 c r with
   |nil=>rw [hr] at ih;simp at ih
   |cons y ys=>rw [hr] at ih;simpa using ih
theorem ZtT (c:UInt8):∀l:List UInt8,(Z8 c (l ++ [c])).getLast? =some []
 | []=>by simp [Z8]
 |x::r=>by
  have ih:=ZtT c r;have hne:=Ztz c (r ++ [c]);rw [U0];unfold Z8;by_cases h:x=c
  ·rw [Uj h];cases hr:Z8 c (r ++ [c]) with
   |nil=>exact absurd hr hne
   |cons y ys=>rw [List.getLast?_cons_cons,←hr,ih]
  ·rw [Ui h];cases hr:Z8 c (r ++ [c]) with
   |nil=>exact absurd hr hne
   |cons y ys=>
    rw [hr] at ih;cases ys with
    |nil=>
     have hc:=ZnR c (r ++ [c]);rw [hr] at hc;simp at hc
    |cons z zs=>
     rw [List.getLast?_cons_cons] at ih ⊢;exact ih
def Jk (u:List UInt8):Prop:=u= []\/∃v,u=v ++ [10]
theorem ZEv {u:List UInt8} (h:Jk u):(ZdD u).length=u.count 10:=by
 unfold ZdD ZdC;have hc:=ZnR 10 u;have hl:(Z8 10 u).getLast? =some []:=by
  rcases h with rfl | ⟨v,rfl⟩
  ·rfl
  ·exact ZtT 10 v
 rw [Uj hl,List.length_dropLast,hc];omega
theorem ZtU (ls:List (List UInt8)) (hl:ls.length<=60) (hw:∀w∈ls,w.length<=1000000) {F:((List ByteArray×List ByteArray×Int×Int)×Town->Option (List ByteArray×Bool))->(List ByteArray×List ByteArray×Int×Int)×Town->Option (List ByteArray×Bool)} (n:Int) (hn:n=((ls.length:Nat):Int))
  (hF:∀rec x,F rec x=cnd (decide (x.1.2.2.2 < x.1.2.2.1)) (Zz sR (x.1.2.1.map sR.enc) x.1.2.2.2 fun (p6:ByteArray)=>bnd (Y9 x.2 p6) fun r7=>ifA ((((List.length (x.1.1.map sR.enc)) + (List.length [[(Sg r7.2)]])) * 16<=140737488355328)/\((List.length (x.1.1.map sR.enc)) + (List.length [[(Sg r7.2)]]))<=1152921504606846976) (rws sR ((x.1.1.map sR.enc) ++ [[(Sg r7.2)]]) fun (l8:List ByteArray)=>rec ((l8,(x.1.2.1,(x.1.2.2.1,W (x.1.2.2.2 + 1)))),r7.1))) (some (x.1.1,true))):
  ∃out:List ByteArray,Zf F NN (([],(ls.map bs,(n,0))),XQ)=some (out,true)/\out.length=ls.length:=by
 subst hn;have main:∀(m k:Nat) (out:List ByteArray) (t:Town),Xl t->out.length=k->k<=ls.length->ls.length - k < m->∃o:List ByteArray,Zf F m ((out,(ls.map bs,(((ls.length:Nat):Int),(k:Int)))),t)=some (o,true)/\o.length=ls.length:=by
  intro m
  induction m with
  |zero=>intro k out t _ _ _ h;omega
  |succ m ih=>
   intro k out t ht ho hk hm;rw [QY,hF];simp only [VQ];by_cases hlt:k < ls.length
   ·have hx:=Ub hlt;obtain ⟨r,e,hg,_⟩:=ZnQ (u:=ls[k]) ht (hw _ (List.getElem_mem hlt));rw [Ut (by omega),Zp,Zj (ZdA hx),e,Ze,Zs (by simp;omega)];simp only [Zs3,ZA (show k<=9223372036854775806 by omega)];obtain ⟨o,e2,hl2⟩:=ih (k + 1) (out ++ [r.2]) r.1 hg.1 (by simp;omega) hlt (by omega);refine ⟨o,?_,hl2⟩;rw [←e2];rfl
   ·rw [Um (by omega),Zh];exact ⟨out,rfl,by omega⟩
 exact main NN 0 [] XQ ZnP rfl (U7 _) (Qj (by omega))
theorem ZEw (u:List UInt8) (hu:u.length<=100000):∃out ok,VA (bs u)=some (out,ok)/\(if ok=true then out.length=(ZdD u).length else out= []/\60 < (ZdD u).length):=by
 have hcl:=ZjC 10 u;have hcs:=ZnG 10 u;have hne:=Ztz 10 u;unfold VA ZdD;simp only [Xj,ZtA (bs u) 10 (show u.length<=_ by omega),Ze,VQ,ZqV,ZqW,Jn,Vt,Zjy,Uv];generalize Z8 10 u=c at *
 have hpos:0 < c.length:=List.length_pos_iff.2 hne;have hW:W (((c.length:Nat):Int) - 1)=((c.length - 1:Nat):Int):=by rw [ZB (by omega) (by omega)];omega
 have hlast:c[c.length - 1]? =some (c.getLast hne):=by rw [←List.getLast?_eq_getElem?,M9 hne]
 rw [hW,Zj (ZdA hlast)];simp only [XT];have ht:List.drop (Int.toNat 0) (List.take (((c.length - 1:Nat):Int)).toNat (c.map bs))=c.dropLast.map bs:=by
  rw [UC,List.dropLast_eq_take,List.map_take];rfl
 have hgl:c.getLast? =some (c.getLast hne):=M9 hne;by_cases hl:c.getLast hne= []
 ·have htr:ZdC c=c.dropLast:=by
   unfold ZdC;rw [hgl,hl,Uj rfl]
  rw [Ut hl,Zp,Zs ⟨by decide,by omega,by omega⟩,htr];simp only [ht,Uv];by_cases h60:60 < c.dropLast.length
  ·rw [Ut (by omega),Zp];exact ⟨[],false,rfl,rfl,h60⟩
  ·rw [Um (by omega),Zh];obtain ⟨o,e,hlo⟩:=ZtU c.dropLast (by omega) (fun w hw=>by have:=hcs w (List.dropLast_subset _ hw);omega) _ rfl (by
    intro rec x;exact rfl)
   refine ⟨o,true,Eq.trans (Ux (fun f=>Zf f NN _) (funext fun rec=>funext fun x=> ?_)) e,hlo⟩;simp only [Zl,Vt,VQ,Jn]
 ·have htr:ZdC c=c:=by
   unfold ZdC;rw [hgl,Ui (fun e=>hl (UB e))]
  rw [Um hl,Zh,htr];by_cases h60:60 < c.length
  ·rw [Ut (by omega),Zp];exact ⟨[],false,rfl,rfl,h60⟩
  ·rw [Um (by omega),Zh];obtain ⟨o,e,hlo⟩:=ZtU c (by omega) (fun w hw=>by have:=hcs w hw;omega) _ rfl (by
    intro rec x;exact rfl)
   refine ⟨o,true,Eq.trans (Ux (fun f=>Zf f NN _) (funext fun rec=>funext fun x=> ?_)) e,hlo⟩;simp only [Zl,Vt,VQ,Jn]
theorem ZjF (p:Path):Zbv p=some (Ys p)/\(Ys p).size<=64:=by
 by_cases h:ZY p=true
 ·exact ⟨ZCU p (ZjD h),Zs8 (ZjD h)⟩
 ·have e:Ys p=bs []:=by unfold Ys;rw [Ui h]
  rw [e];refine ⟨?_,by decide⟩;unfold Zbv;rw [ZeY,Ze];have:ZY p=false:=by simpa using h
  rw [this];rfl
theorem ZEx (p:Path):Zaq p=some (Ys p):=by
 by_cases h:ZY p=true
 ·exact Zns p (ZjD h)
 ·have e:Ys p=bs []:=by unfold Ys;rw [Ui h]
  rw [e];unfold Zaq;rw [Zc4,Ze];have:ZY p=false:=by simpa using h
  rw [this];rfl
theorem ZEy (code:List Int) (h:code.length<=1048576):∃w,Zg2 code=some w/\w.size<=100:=by
 unfold Zg2;simp only [YI,Qk,Xj];obtain ⟨g,e,hg⟩:=Znj code h;rw [e,Ze];obtain ⟨p,g1,e1,_,hg1⟩:=ZCL hg;simp only;rw [e1,Ze];simp only;rw [(ZjF p).1,Ze];obtain ⟨q,g2,e2,_,hg2⟩:=Zng hg1 3;rw [e2,Ze];simp only;rw [(ZjF q).1,Ze];obtain ⟨w,g3,e3,hw,_⟩:=ZtS hg2 (l:= [Ys p,Ys q,bs [51,99,48,48],bs [51,119,48,49],bs [48,51,99,48,49],bs [50,49,99,48,49],bs [51,120,48,49],bs [],bs [51,99,48],bs [51,99,48,49,52]]) (by simp) (by simp) (Q:=fun w=>w.size<=100) (fun x hx=>by
  simp only [FH,List.not_mem_nil,or_false] at hx;have h1:=(ZjF p).2;have h2:=(ZjF q).2;rcases hx with rfl |rfl |rfl |rfl |rfl |rfl |rfl |rfl |rfl |rfl
  ·omega
  ·omega
  all_goals decide)
 rw [e3,Ze];exact ⟨w,rfl,hw⟩
theorem ZtV {g:L1Cur} (h:YF g):Qq (Zax g) fun w=>∃u:List UInt8,w=bs u/\u.length<=100:=by
 unfold Zax;simp only [YI,Qk,Xj];rw [ZtL];refine ZtS h (by simp) (by simp) ?_
 repeat (refine List.forall_mem_cons.2 ⟨⟨_,rfl,by decide⟩,?_⟩)
 intro x hx;cases hx
theorem ZEz (code:List Int) (h:code.length<=1048576):∃t u,ZbA code=some (t,bs u)/\Xl t/\u.length<=100:=by
 unfold ZbA;simp only [YI,Zt,Zl,Zn,Zu,Zv,Qk];obtain ⟨g,e,hg⟩:=Znj code h;rw [e,Ze];obtain ⟨t,g1,e1,ht,hg1⟩:=ZEu hg;simp only;rw [e1,Ze];obtain ⟨b,g2,e2,_,hg2⟩:=Zfi hg1 (n:=8) (by omega);simp only;rw [e2,Ze];obtain ⟨w,g3,e3,⟨u,rfl,hu⟩,_⟩:=ZtV hg2;simp only [e3,Ze];cases b
 ·exact ⟨t,u,rfl,ht,hu⟩
 ·exact ⟨XQ,u,rfl,ZnP,hu⟩
def VL (n:Nat) (s:ByteArray):Prop:=∃u:List UInt8,s=bs u/\Jk u/\u.length<=n
theorem ZtW {n k:Nat} {s:ByteArray} {w:List UInt8} (h:VL n s) (hw:w.length + 1<=k):VL (n + k) (s ++ bs w ++ bs [10]):=by
 obtain ⟨u,rfl,_,hl⟩:=h;refine ⟨u ++ w ++ [10],?_, .inr ⟨_,rfl⟩,?_⟩
 ·rw [JV,JV]
 ·simp;omega
theorem ZtX {n:Nat} {s:ByteArray} (h:VL n s):s.size<=n:=by
 obtain ⟨u,rfl,_,hl⟩:=h;exact hl
theorem ZtY {g:L1Cur} (hg:YF g) (s:ByteArray) (n:Int) (h0:0<=n) (h1:n<=10) (hs:VL 1000 s) {F:((Unit×ByteArray×Int)×L1Cur->Option ByteArray)->(Unit×ByteArray×Int)×L1Cur->Option ByteArray}
  (hF:∀rec x,F rec x=cnd (decide (x.1.2.2 > 0)) (bnd (Zax x.2) fun r8=>ifA (x.1.2.1.size + r8.1.size<=1099511627776) (ifA ((x.1.2.1 ++ r8.1).size + (bs [10]).size<=1099511627776) (rec ((Unit.unit,((x.1.2.1 ++ r8.1 ++ bs [10]),(W (x.1.2.2 - 1)))),r8.2)))) (some x.1.2.1)):
  ∃v,Zf F NN ((Unit.unit,(s,n)),g)=some v/\VL 5000 v:=by
 refine ZaX (Q:=VL 5000) (fun v=>v.1.2.2.toNat) (fun v=>0<=v.1.2.2/\v.1.2.2<=10/\VL (1000 + 200 * (10 - v.1.2.2.toNat)) v.1.2.1/\YF v.2) ?_ NN _ ⟨h0,h1,?_,hg⟩ (Qj (by show n.toNat<=_;omega))
 ·rintro rec ⟨⟨u,s,i⟩,g⟩ ⟨hi0,hi1,hs,hg⟩ hrec;simp only at hi0 hi1 hs hg hrec;rw [hF];simp only;by_cases c:i > 0
  ·obtain ⟨w,g1,e,⟨l,rfl,hl⟩,hg1⟩:=ZtV hg;have hz:=ZtX hs;rw [Ut c,Zp,e,Ze];have hb:(bs l).size=l.length:=rfl;have hb1:(bs [10]).size=1:=rfl;rw [Zs (by rw [hb];omega),Zs (by rw [UJ,hb,hb1];omega),ZB (by omega) (by omega)];refine hrec _ ⟨by show 0<=i - 1;omega,by show i - 1<=10;omega,?_,hg1⟩ (by show (i - 1).toNat < i.toNat;omega);show VL (1000 + 200 * (10 - (i - 1).toNat)) (s ++ bs l ++ bs [10]);have:=ZtW (k:=200) (w:=l) hs (by omega);rw [show 1000 + 200 * (10 - (i - 1).toNat)=1000 + 200 * (10 - i.toNat) + 200 by omega];exact this
  ·rw [Um c,Zh];obtain ⟨u,e,he,hl⟩:=hs;exact ⟨_,rfl,u,e,he,by omega⟩
 ·obtain ⟨u,e,he,hl⟩:=hs;refine ⟨u,e,he,?_⟩;show u.length<=1000 + 200 * (10 - n.toNat)
  omega
theorem ZEA (code:List Int) (h:code.length<=1048576):∃u:List UInt8,Vz code=some (bs u)/\Jk u/\u.length<=5000:=by
 have fin:∀{x:Option ByteArray},(∃v,x=some v/\VL 5000 v)->∃u:List UInt8,x=some (bs u)/\Jk u/\u.length<=5000:=by
  rintro x ⟨v,e,u,rfl,h1,h2⟩;exact ⟨u,e,h1,h2⟩
 unfold Vz;simp only [YI,Qk,Xj];obtain ⟨g,e,hg⟩:=Znj code h;rw [e,Ze];obtain ⟨b,g1,e1,_,hg1⟩:=Zfi hg (n:=20) (by omega);simp only;rw [e1,Ze];cases b with
 |true=>
  rw [Zp];apply fin;refine ZaX (Q:=VL 5000) (fun v=>(61 - v.1.2).toNat) (fun v=>0<=v.1.2/\v.1.2<=61/\VL (5 * v.1.2.toNat) v.1.1) ?_ NN _ ⟨M8 _,by show (0:Int)<=61;decide,[],rfl, .inl rfl,U7 _⟩ (Qj (by show (61 - (0:Int)).toNat<=_;decide));rintro rec ⟨⟨s,i⟩,g⟩ ⟨hi0,hi1,hs⟩ hrec;simp only at hi0 hi1 hs hrec ⊢;have hz:=ZtX hs;by_cases c:i < 61
  ·have hb:(bs [116,111,119,110,10]).size=5:=rfl;rw [Ut c,Zp,Zs (by rw [hb];omega),ZB (by omega) (by omega)];refine hrec _ ⟨by show 0<=i + 1;omega,by show i + 1<=61;omega,?_⟩ (by show (61 - (i + 1)).toNat < (61 - i).toNat;omega);show VL (5 * (i + 1).toNat) (s ++ bs [116,111,119,110,10]);have:=ZtW (k:=5) (w:= [116,111,119,110]) hs (by decide);rw [show 5 * (i + 1).toNat=5 * i.toNat + 5 by omega];obtain ⟨u,rfl,h1,h2⟩:=hs;rw [JV] at this ⊢;rw [JV] at this;simpa [Us] using this
  ·rw [Um c,Zh];obtain ⟨u,e,he,hl⟩:=hs;exact ⟨_,rfl,u,e,he,by omega⟩
 |false=>
  rw [Zh];obtain ⟨b,g2,e2,_,hg2⟩:=Zfi hg1 (n:=4) (by omega);simp only;rw [e2,Ze];obtain ⟨n,g3,e3,hn,hg3⟩:=QM hg2 (n:=10) (by omega);have hn1:=hn.2.1 (by omega);have hn0:=hn.1;simp only [e3,Ze];cases b with
  |false=>
   rw [UT,Zp];exact fin (ZtY hg3 _ n hn0 (by omega) ⟨_,rfl, .inr ⟨[110,101,119,32,49,99,48,50,32,50,99,49,51,32,51,119,48,48,32,52,98,51,49,10,99,97,108,108,32,50,10,114,117,110,32,54],rfl⟩,by decide⟩ fun _ _=>rfl)
  |true=>
   rw [Uk,Zh];exact fin (ZtY hg3 _ n hn0 (by omega) ⟨[],rfl, .inl rfl,by decide⟩ fun _ _=>rfl)
def ZdF:List (List UInt8):= [[108,105,103,104,116,115],[115,101,101,110],[99,111,110,116,114,111,108],[112,97,116,104,115],[112,108,97,110],[115,116,97,103,101,115],[99,111,110,102,108,105,99,116,115,32,49],[119,97,105,116,32,49],[115,105,114,101,110,32,49],[115,104,111,119,110,32,48],[114,101,112,111,114,116,32,49,32,48],[116,111,119,110],[97,117,100,105,116],[]]
theorem ZEB:∀u∈ZdF,u.length<=1000000/\∀w rs,V3 u=w::rs->w≠ [110,101,119]/\¬Vg w:=by
 have h:(ZdF.all fun u=>decide (u.length<=1000000) && match V3 u with
  | []=>true
  |w::_=> !decide (w= [110,101,119]) && !(decide (w= [99,97,108,108]) || decide (w= [98,117,115]) || decide (w= [104,101,108,112]) || decide (w= [112,111,119,101,114]) || decide (w= [114,117,110]) || decide (w= [98,114,101,97,107]) || decide (w= [109,101,110,100])))=true:=by decide
 intro u hu;have h2:=MW.1 h u hu;rw [Ua] at h2;refine ⟨Fg h2.1,fun w rs e=> ?_⟩;have h3:=h2.2;rw [e] at h3;simp only [Ua,UG,Bool.or_eq_false_iff,U5] at h3;obtain ⟨a,⟨⟨⟨⟨⟨b1,b2⟩,b3⟩,b4⟩,b5⟩,b6⟩,b7⟩:=h3;refine ⟨a,?_⟩;unfold Vg;rintro (h |h |h |h |h |h |h)
 ·exact b1 h
 ·exact b2 h
 ·exact b3 h
 ·exact b4 h
 ·exact b5 h
 ·exact b6 h
 ·exact b7 h
theorem ZEC (code:List Int) {x:Town} (hx:Xl x) (hc:code.length<=1048576) {F:((List Int×List ByteArray×Int×Int)×Town->Option Bool)->(List Int×List ByteArray×Int×Int)×Town->Option Bool}
  (hF:∀rec z,F rec z=cnd (decide (z.1.2.2.2 < z.1.2.2.1)) (ZU z.1.2.1 z.1.2.2.2 fun p18=>bnd (Y9 z.2 p18) fun r19=>bnd (XY z.2 r19.1) fun r20=>cnd (!r20) (some false) (rec ((z.1.1,(z.1.2.1,(z.1.2.2.1,W (z.1.2.2.2 + 1)))),z.2)))
   (bnd (Vz z.1.1) fun r18=>bnd (VA r18) fun r19=>Zf (fun (rec21:ByteArray×List ByteArray×Bool×Int×Int->Option Bool) (x22:ByteArray×List ByteArray×Bool×Int×Int)=>cnd (decide (x22.2.2.2.2 < ((x22.1.size:Nat):Int))) (Yy x22.1 x22.2.2.2.2 fun c23=>cnd (c23==10) (rec21 (x22.1,(x22.2.1,(x22.2.2.1,(W (x22.2.2.2.1 + 1),W (x22.2.2.2.2 + 1)))))) (rec21 (x22.1,(x22.2.1,(x22.2.2.1,(x22.2.2.2.1,W (x22.2.2.2.2 + 1)))))))
    (cnd x22.2.2.1 (cnd (((x22.2.1.length:Nat):Int)==x22.2.2.2.1) (some true) (cnd (!x22.2.2.1) (cnd (((x22.2.1.length:Nat):Int)==0) (some (decide (x22.2.2.2.1 > 60))) (some false)) (some false))) (cnd (!x22.2.2.1) (cnd (((x22.2.1.length:Nat):Int)==0) (some (decide (x22.2.2.2.1 > 60))) (some false)) (some false)))) NN (r18,(r19.1,(r19.2,(0,0)))))):
  Zf F NN ((code,(ZdF.map bs,(14,0))),x)=some true:=by
 refine ZCX (fun k (_:Unit)=>((code,(ZdF.map bs,(14,(k:Int)))),x)) 14 (fun _ _=>True) () rfl (by decide) trivial ?_ ?_
 ·intro rec _ _;rw [hF];simp only;rw [show decide (((14:Nat):Int) < 14)=false from rfl,Zh];obtain ⟨v,e4,hv,hvl⟩:=ZEA code hc;obtain ⟨out,ok,e5,ho⟩:=ZEw v (by omega);have hcnt:=ZEv hv;have hsz:(bs v).size=v.length:=rfl;have hcb:cb 10 (bs v)=v.count 10:=rfl;have key10:∀x:UInt8,((x.toNat:Int)==10)=decide (x=10):=fun x=>by
   by_cases h:x=10
   ·subst h;rfl
   ·have:x.toNat≠10:=fun e=>h (UInt8.toNat_inj.1 e)
    rw [Um h,MG];omega
  rw [e4,Ze,e5,Ze];simp only;refine (ZDH (bs v) 10 (by omega) (fun k n=>(bs v,(out,(ok,(n,(k:Int)))))) (fun n=>if ok=true then some (((out.length:Nat):Int)==n) else cnd (((out.length:Nat):Int)==0) (some (decide (n > 60))) (some false)) rfl ?_ ?_).trans ?_
  ·intro rec n;simp only;rw [Um (by omega),Zh];cases ok
   ·rfl
   ·simp only [Zp,Uk,Zh,U3];cases (((out.length:Nat):Int)==n) <;> rfl
  ·intro rec k z n hz hk hn;simp only;rw [Ut (by omega),Zp,Zdv hz,key10];simp only [ZA (show k<=9223372036854775806 by omega),ZA (show n<=9223372036854775806 by omega)];rw [ZJ];by_cases c:z=10 <;> simp [c]
  ·rw [hcb,←hcnt];cases ok
   ·rw [Ui (by simp)] at ho;rw [Ui (by simp),ho.1];have:=ho.2;rw [show decide ((((ZdD v).length:Nat):Int) > 60)=true from Ut (by omega)];rfl
   ·rw [Uj rfl] at ho;rw [Uj rfl,ho];simp
 ·intro rec k _ hk _ hrec;have hlen:ZdF.length=14:=rfl;obtain ⟨u,hxk⟩:∃u,ZdF[k]? =some u:=⟨_,Ub (by omega)⟩
  obtain ⟨h1,h2⟩:=ZEB u (Uu hxk);obtain ⟨r,e,hg,hs⟩:=ZnQ (u:=u) hx h1;have hr:=hs h2;rw [hF];simp only;rw [show decide (((k:Nat):Int) < 14)=true from Ut (by omega),Zp,Zj (ZdA hxk),e,Ze,Zmh x r.1 hx.1,Ze,hr,Ut rfl,Uk,Zh,ZA (by omega)];exact hrec () trivial
theorem ZED (code:List Int):Zmb code=some true:=by
 unfold Zmb;simp only [YI,ZCJ,Ze];by_cases hb:code.length<=1048576
 case neg=>rw [Ut (by omega),Zp]
 rw [Um (by omega),Zh];obtain ⟨w,e1,hw⟩:=ZEy code hb;obtain ⟨t,u,e2,ht,hu⟩:=ZEz code hb;obtain ⟨r,e3,⟨hg1,hg2,hg3⟩,_⟩:=ZnQ (u:=u) ht (by omega);have hloop:= @ZEC code r.1 hg1 hb;have hne:decide (r.2=bs [])=false:=Um hg2;have hno:ZY Zb2.1=false:=rfl;have hnt:Ys Zb2.1=bs []:=rfl;simp only [e1,Ze,Zty w (by omega),ZtD,Xj,Zdx,ZEx,Zc4];cases hp:Ve w with
 |none=>
  simp only [hnt];by_cases hwe:bs []=w
  case' pos=>
   rw [Ut hwe,Zp,Ut hwe.symm];simp only [Zb2,Uk,Mu,Zh]
  case' neg=>
   rw [Um hwe,Zh];simp only [Zb2,Mu,Zh]
  all_goals
   simp only [e2,Ze,Zn,Zl,e3,Zdx,hne,Zh,Zmh r.1 t hg1.1];by_cases hwh:r.2=Qs
   case' pos=>
    rw [show bs [119,104,97,116]=Qs from rfl,Ut hwh,Zp,Ut (hg3 hwh),Uk,Zh]
   case' neg=>
    rw [show bs [119,104,97,116]=Qs from rfl,Um hwh,Zh]
   all_goals
    refine hloop ?_;intro rec z;simp only [Zl,YI,Vt,VQ,Jn]
 |some p=>
  obtain ⟨q,rfl,hq,hqt⟩:=Zjz hp;have hwn:¬w=bs []:=fun e=>by
   rw [←hqt] at e;have h1:=Ux ByteArray.size e;unfold Ys at h1;rw [Uj hq] at h1;simp only [UJ] at h1;have:=Zfv q.id;have h2:(bs []).size=0:=rfl;omega
  simp only [hqt,Mt,Zp,hq];rw [Um hwn,UT,Mu,Zh,Uk,Zh];simp only [e2,Ze,Zn,Zl,e3,Zdx,hne,Zh,Zmh r.1 t hg1.1];by_cases hwh:r.2=Qs
  case' pos=>
   rw [show bs [119,104,97,116]=Qs from rfl,Ut hwh,Zp,Ut (hg3 hwh),Uk,Zh]
  case' neg=>
   rw [show bs [119,104,97,116]=Qs from rfl,Um hwh,Zh]
  all_goals
   refine hloop ?_;intro rec z;simp only [Zl,YI,Vt,VQ,Jn]
end Go.Sh
